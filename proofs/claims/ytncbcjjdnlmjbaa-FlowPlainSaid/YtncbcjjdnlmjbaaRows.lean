/-
  No cell of these rows narrows 'for every input' (looked for: loops, veiled, ifaces, maps, wideKeys, modest, calm, conditions, laid).
  DERIVED. THE GIVEN ROWS OF THIS SEAT. 19 by the template 'for every input the law returns true; each argument reads behind the call as it read before'; 0 by the template 'total and deterministic' (their statements: YtncbcjjdnlmjbaaTotals.lean).
  GIVEN WITH THE SEED: the statements are not yours to turn. If you find one false, say at which input.
  Laid BY PROGRAM, IN A SANDBOX (cutbox-rows.mjs): the forced cells as the released guide's own fill.sh prints them over the translation 160c4fb6e598218a… (all of the seat's roots in one cut). By AI agents, Wed Nov 11 2026. No macro, syntax, notation, axiom, sorry.
-/
import Derived.Test.YtncbcjjdnlmjbaaChecked
import GoSem.Claim
import GoSem.ClaimJoined
import GoSem.ClaimMapViews
import Derived.JoinedTies
import Derived.KernelRfl
namespace Go.Proofs.Ytncbcjjdnlmjbaa
/- THE CELL 'sum', in the pinned program and in every row, IS THE sha256 OF THE DUMP (.gsa) THAT YtncbcjjdnlmjbaaProg.lean LOADS. Nothing in Lean hashes anything: it is a label: what it is worth is what the hold of that sum in a sandbox is worth. -/
noncomputable def Try.pinned : Pinned := { name := "ytncbcjjdnlmjbaa", sum := "160c4fb6e598218aaca8472f78653d9c12816ebcaddcc0a40b47feea888e67b0", checked := Try.checked }
namespace Rows
def none {H : Type} : Left H := { results := [], args := [] }

/-- 'caissonlaw21.Configs': WHATEVER THE INPUT: true; the input reads as it did. -/
def configsSpec : ChangeSpec := { name := "configs", fn := fun _ => fun
  | [d1, d2, d3, d4] => { results := [.lit (.bool true)], args := [d1, d2, d3, d4] }
  | _ => none }
def configsRow : OpenClaim := { program := "ytncbcjjdnlmjbaa", sum := "160c4fb6e598218aaca8472f78653d9c12816ebcaddcc0a40b47feea888e67b0", func := "caisson/caissonlaw21.Configs", spec := "configs", unfollowed := true, recurses := true, plainKeys := false, apart := false }
def ConfigsSaid : Prop := configsRow.holds Try.pinned (OpenSpec.ofChange configsSpec)

/-- ITS FALSE NEIGHBOUR: 'it returns false'. Refute it at one input. -/
def configsWrong : ChangeSpec := { name := "configs", fn := fun _ => fun
  | [d1, d2, d3, d4] => { results := [.lit (.bool false)], args := [d1, d2, d3, d4] }
  | _ => none }
def ConfigsWrongFalsely : Prop := configsRow.holds Try.pinned (OpenSpec.ofChange configsWrong)

/-- 'caissonlaw21.ConfigApart': WHATEVER THE INPUT: true; the input reads as it did. -/
def configApartSpec : ChangeSpec := { name := "configApart", fn := fun _ => fun
  | [d1, d2, d3] => { results := [.lit (.bool true)], args := [d1, d2, d3] }
  | _ => none }
def configApartRow : OpenClaim := { program := "ytncbcjjdnlmjbaa", sum := "160c4fb6e598218aaca8472f78653d9c12816ebcaddcc0a40b47feea888e67b0", func := "caisson/caissonlaw21.ConfigApart", spec := "configApart", unfollowed := true, recurses := true, plainKeys := false, apart := false }
def ConfigApartSaid : Prop := configApartRow.holds Try.pinned (OpenSpec.ofChange configApartSpec)

/-- ITS FALSE NEIGHBOUR: 'it returns false'. Refute it at one input. -/
def configApartWrong : ChangeSpec := { name := "configApart", fn := fun _ => fun
  | [d1, d2, d3] => { results := [.lit (.bool false)], args := [d1, d2, d3] }
  | _ => none }
def ConfigApartWrongFalsely : Prop := configApartRow.holds Try.pinned (OpenSpec.ofChange configApartWrong)

/-- 'caissonlaw21.ConfigForms': WHATEVER THE INPUT: true; the input reads as it did. -/
def configFormsSpec : ChangeSpec := { name := "configForms", fn := fun _ => fun
  | [d1, d2] => { results := [.lit (.bool true)], args := [d1, d2] }
  | _ => none }
def configFormsRow : OpenClaim := { program := "ytncbcjjdnlmjbaa", sum := "160c4fb6e598218aaca8472f78653d9c12816ebcaddcc0a40b47feea888e67b0", func := "caisson/caissonlaw21.ConfigForms", spec := "configForms", unfollowed := true, recurses := true, plainKeys := false, apart := false }
def ConfigFormsSaid : Prop := configFormsRow.holds Try.pinned (OpenSpec.ofChange configFormsSpec)

/-- ITS FALSE NEIGHBOUR: 'it returns false'. Refute it at one input. -/
def configFormsWrong : ChangeSpec := { name := "configForms", fn := fun _ => fun
  | [d1, d2] => { results := [.lit (.bool false)], args := [d1, d2] }
  | _ => none }
def ConfigFormsWrongFalsely : Prop := configFormsRow.holds Try.pinned (OpenSpec.ofChange configFormsWrong)

/-- 'caissonlaw21.ConfigRuns': WHATEVER THE INPUT: true; the input reads as it did. -/
def configRunsSpec : ChangeSpec := { name := "configRuns", fn := fun _ => fun
  | [d1, d2, d3, d4] => { results := [.lit (.bool true)], args := [d1, d2, d3, d4] }
  | _ => none }
def configRunsRow : OpenClaim := { program := "ytncbcjjdnlmjbaa", sum := "160c4fb6e598218aaca8472f78653d9c12816ebcaddcc0a40b47feea888e67b0", func := "caisson/caissonlaw21.ConfigRuns", spec := "configRuns", unfollowed := true, recurses := true, plainKeys := false, apart := false }
def ConfigRunsSaid : Prop := configRunsRow.holds Try.pinned (OpenSpec.ofChange configRunsSpec)

/-- ITS FALSE NEIGHBOUR: 'it returns false'. Refute it at one input. -/
def configRunsWrong : ChangeSpec := { name := "configRuns", fn := fun _ => fun
  | [d1, d2, d3, d4] => { results := [.lit (.bool false)], args := [d1, d2, d3, d4] }
  | _ => none }
def ConfigRunsWrongFalsely : Prop := configRunsRow.holds Try.pinned (OpenSpec.ofChange configRunsWrong)

/-- 'caissonlaw21.ConfigGrants': WHATEVER THE INPUT: true; the input reads as it did. -/
def configGrantsSpec : ChangeSpec := { name := "configGrants", fn := fun _ => fun
  | [d1, d2, d3] => { results := [.lit (.bool true)], args := [d1, d2, d3] }
  | _ => none }
def configGrantsRow : OpenClaim := { program := "ytncbcjjdnlmjbaa", sum := "160c4fb6e598218aaca8472f78653d9c12816ebcaddcc0a40b47feea888e67b0", func := "caisson/caissonlaw21.ConfigGrants", spec := "configGrants", unfollowed := true, recurses := true, plainKeys := false, apart := false }
def ConfigGrantsSaid : Prop := configGrantsRow.holds Try.pinned (OpenSpec.ofChange configGrantsSpec)

/-- ITS FALSE NEIGHBOUR: 'it returns false'. Refute it at one input. -/
def configGrantsWrong : ChangeSpec := { name := "configGrants", fn := fun _ => fun
  | [d1, d2, d3] => { results := [.lit (.bool false)], args := [d1, d2, d3] }
  | _ => none }
def ConfigGrantsWrongFalsely : Prop := configGrantsRow.holds Try.pinned (OpenSpec.ofChange configGrantsWrong)

/-- 'caissonlaw23.Views': WHATEVER THE INPUT: true; the input reads as it did. -/
def viewsSpec : ChangeSpec := { name := "views", fn := fun _ => fun
  | [d1, d2, d3, d4] => { results := [.lit (.bool true)], args := [d1, d2, d3, d4] }
  | _ => none }
def viewsRow : OpenClaim := { program := "ytncbcjjdnlmjbaa", sum := "160c4fb6e598218aaca8472f78653d9c12816ebcaddcc0a40b47feea888e67b0", func := "caisson/caissonlaw23.Views", spec := "views", unfollowed := true, recurses := true, plainKeys := false, apart := false }
def ViewsSaid : Prop := viewsRow.holds Try.pinned (OpenSpec.ofChange viewsSpec)

/-- ITS FALSE NEIGHBOUR: 'it returns false'. Refute it at one input. -/
def viewsWrong : ChangeSpec := { name := "views", fn := fun _ => fun
  | [d1, d2, d3, d4] => { results := [.lit (.bool false)], args := [d1, d2, d3, d4] }
  | _ => none }
def ViewsWrongFalsely : Prop := viewsRow.holds Try.pinned (OpenSpec.ofChange viewsWrong)

/-- 'caissonlaw23.FlowOrder': WHATEVER THE INPUT: true; the input reads as it did. -/
def flowOrderSpec : ChangeSpec := { name := "flowOrder", fn := fun _ => fun
  | [d1, d2, d3, d4] => { results := [.lit (.bool true)], args := [d1, d2, d3, d4] }
  | _ => none }
def flowOrderRow : OpenClaim := { program := "ytncbcjjdnlmjbaa", sum := "160c4fb6e598218aaca8472f78653d9c12816ebcaddcc0a40b47feea888e67b0", func := "caisson/caissonlaw23.FlowOrder", spec := "flowOrder", unfollowed := true, recurses := true, plainKeys := false, apart := false }
def FlowOrderSaid : Prop := flowOrderRow.holds Try.pinned (OpenSpec.ofChange flowOrderSpec)

/-- ITS FALSE NEIGHBOUR: 'it returns false'. Refute it at one input. -/
def flowOrderWrong : ChangeSpec := { name := "flowOrder", fn := fun _ => fun
  | [d1, d2, d3, d4] => { results := [.lit (.bool false)], args := [d1, d2, d3, d4] }
  | _ => none }
def FlowOrderWrongFalsely : Prop := flowOrderRow.holds Try.pinned (OpenSpec.ofChange flowOrderWrong)

/-- 'caissonlaw23.PurgeAgain': WHATEVER THE INPUT: true; the input reads as it did. -/
def purgeAgainSpec : ChangeSpec := { name := "purgeAgain", fn := fun _ => fun
  | [d1, d2, d3] => { results := [.lit (.bool true)], args := [d1, d2, d3] }
  | _ => none }
def purgeAgainRow : OpenClaim := { program := "ytncbcjjdnlmjbaa", sum := "160c4fb6e598218aaca8472f78653d9c12816ebcaddcc0a40b47feea888e67b0", func := "caisson/caissonlaw23.PurgeAgain", spec := "purgeAgain", unfollowed := true, recurses := true, plainKeys := false, apart := false }
def PurgeAgainSaid : Prop := purgeAgainRow.holds Try.pinned (OpenSpec.ofChange purgeAgainSpec)

/-- ITS FALSE NEIGHBOUR: 'it returns false'. Refute it at one input. -/
def purgeAgainWrong : ChangeSpec := { name := "purgeAgain", fn := fun _ => fun
  | [d1, d2, d3] => { results := [.lit (.bool false)], args := [d1, d2, d3] }
  | _ => none }
def PurgeAgainWrongFalsely : Prop := purgeAgainRow.holds Try.pinned (OpenSpec.ofChange purgeAgainWrong)

/-- 'caissonlaw23.FlowPlain': WHATEVER THE INPUT: true; the input reads as it did. -/
def flowPlainSpec : ChangeSpec := { name := "flowPlain", fn := fun _ => fun
  | [d1, d2] => { results := [.lit (.bool true)], args := [d1, d2] }
  | _ => none }
def flowPlainRow : OpenClaim := { program := "ytncbcjjdnlmjbaa", sum := "160c4fb6e598218aaca8472f78653d9c12816ebcaddcc0a40b47feea888e67b0", func := "caisson/caissonlaw23.FlowPlain", spec := "flowPlain", unfollowed := true, recurses := true, plainKeys := false, apart := false }
def FlowPlainSaid : Prop := flowPlainRow.holds Try.pinned (OpenSpec.ofChange flowPlainSpec)

/-- ITS FALSE NEIGHBOUR: 'it returns false'. Refute it at one input. -/
def flowPlainWrong : ChangeSpec := { name := "flowPlain", fn := fun _ => fun
  | [d1, d2] => { results := [.lit (.bool false)], args := [d1, d2] }
  | _ => none }
def FlowPlainWrongFalsely : Prop := flowPlainRow.holds Try.pinned (OpenSpec.ofChange flowPlainWrong)

/-- 'caissonlaw23.PurgeCalls': WHATEVER THE INPUT: true; the input reads as it did. -/
def purgeCallsSpec : ChangeSpec := { name := "purgeCalls", fn := fun _ => fun
  | [d1, d2] => { results := [.lit (.bool true)], args := [d1, d2] }
  | _ => none }
def purgeCallsRow : OpenClaim := { program := "ytncbcjjdnlmjbaa", sum := "160c4fb6e598218aaca8472f78653d9c12816ebcaddcc0a40b47feea888e67b0", func := "caisson/caissonlaw23.PurgeCalls", spec := "purgeCalls", unfollowed := true, recurses := true, plainKeys := false, apart := false }
def PurgeCallsSaid : Prop := purgeCallsRow.holds Try.pinned (OpenSpec.ofChange purgeCallsSpec)

/-- ITS FALSE NEIGHBOUR: 'it returns false'. Refute it at one input. -/
def purgeCallsWrong : ChangeSpec := { name := "purgeCalls", fn := fun _ => fun
  | [d1, d2] => { results := [.lit (.bool false)], args := [d1, d2] }
  | _ => none }
def PurgeCallsWrongFalsely : Prop := purgeCallsRow.holds Try.pinned (OpenSpec.ofChange purgeCallsWrong)

/-- 'caissonlaw23.PurgeOwners': WHATEVER THE INPUT: true; the input reads as it did. -/
def purgeOwnersSpec : ChangeSpec := { name := "purgeOwners", fn := fun _ => fun
  | [d] => { results := [.lit (.bool true)], args := [d] }
  | _ => none }
def purgeOwnersRow : OpenClaim := { program := "ytncbcjjdnlmjbaa", sum := "160c4fb6e598218aaca8472f78653d9c12816ebcaddcc0a40b47feea888e67b0", func := "caisson/caissonlaw23.PurgeOwners", spec := "purgeOwners", unfollowed := true, recurses := true, plainKeys := false, apart := false }
def PurgeOwnersSaid : Prop := purgeOwnersRow.holds Try.pinned (OpenSpec.ofChange purgeOwnersSpec)

/-- ITS FALSE NEIGHBOUR: 'it returns false'. Refute it at one input. -/
def purgeOwnersWrong : ChangeSpec := { name := "purgeOwners", fn := fun _ => fun
  | [d] => { results := [.lit (.bool false)], args := [d] }
  | _ => none }
def PurgeOwnersWrongFalsely : Prop := purgeOwnersRow.holds Try.pinned (OpenSpec.ofChange purgeOwnersWrong)

/-- 'caissonlaw23.PurgeParts': WHATEVER THE INPUT: true; the input reads as it did. -/
def purgePartsSpec : ChangeSpec := { name := "purgeParts", fn := fun _ => fun
  | [d1, d2, d3, d4] => { results := [.lit (.bool true)], args := [d1, d2, d3, d4] }
  | _ => none }
def purgePartsRow : OpenClaim := { program := "ytncbcjjdnlmjbaa", sum := "160c4fb6e598218aaca8472f78653d9c12816ebcaddcc0a40b47feea888e67b0", func := "caisson/caissonlaw23.PurgeParts", spec := "purgeParts", unfollowed := true, recurses := true, plainKeys := false, apart := false }
def PurgePartsSaid : Prop := purgePartsRow.holds Try.pinned (OpenSpec.ofChange purgePartsSpec)

/-- ITS FALSE NEIGHBOUR: 'it returns false'. Refute it at one input. -/
def purgePartsWrong : ChangeSpec := { name := "purgeParts", fn := fun _ => fun
  | [d1, d2, d3, d4] => { results := [.lit (.bool false)], args := [d1, d2, d3, d4] }
  | _ => none }
def PurgePartsWrongFalsely : Prop := purgePartsRow.holds Try.pinned (OpenSpec.ofChange purgePartsWrong)

/-- 'caissonlaw23.PurgeAll': WHATEVER THE INPUT: true; the input reads as it did. -/
def purgeAllSpec : ChangeSpec := { name := "purgeAll", fn := fun _ => fun
  | [d] => { results := [.lit (.bool true)], args := [d] }
  | _ => none }
def purgeAllRow : OpenClaim := { program := "ytncbcjjdnlmjbaa", sum := "160c4fb6e598218aaca8472f78653d9c12816ebcaddcc0a40b47feea888e67b0", func := "caisson/caissonlaw23.PurgeAll", spec := "purgeAll", unfollowed := true, recurses := true, plainKeys := false, apart := false }
def PurgeAllSaid : Prop := purgeAllRow.holds Try.pinned (OpenSpec.ofChange purgeAllSpec)

/-- ITS FALSE NEIGHBOUR: 'it returns false'. Refute it at one input. -/
def purgeAllWrong : ChangeSpec := { name := "purgeAll", fn := fun _ => fun
  | [d] => { results := [.lit (.bool false)], args := [d] }
  | _ => none }
def PurgeAllWrongFalsely : Prop := purgeAllRow.holds Try.pinned (OpenSpec.ofChange purgeAllWrong)

/-- 'caissonlaw7.IommuMaps': WHATEVER THE INPUT: true; the input reads as it did. -/
def iommuMapsSpec : ChangeSpec := { name := "iommuMaps", fn := fun _ => fun
  | [d] => { results := [.lit (.bool true)], args := [d] }
  | _ => none }
def iommuMapsRow : OpenClaim := { program := "ytncbcjjdnlmjbaa", sum := "160c4fb6e598218aaca8472f78653d9c12816ebcaddcc0a40b47feea888e67b0", func := "caisson/caissonlaw7.IommuMaps", spec := "iommuMaps", unfollowed := true, recurses := true, plainKeys := false, apart := false }
def IommuMapsSaid : Prop := iommuMapsRow.holds Try.pinned (OpenSpec.ofChange iommuMapsSpec)

/-- ITS FALSE NEIGHBOUR: 'it returns false'. Refute it at one input. -/
def iommuMapsWrong : ChangeSpec := { name := "iommuMaps", fn := fun _ => fun
  | [d] => { results := [.lit (.bool false)], args := [d] }
  | _ => none }
def IommuMapsWrongFalsely : Prop := iommuMapsRow.holds Try.pinned (OpenSpec.ofChange iommuMapsWrong)

/-- 'caissonlaw7.IommuRuns': WHATEVER THE INPUT: true; the input reads as it did. -/
def iommuRunsSpec : ChangeSpec := { name := "iommuRuns", fn := fun _ => fun
  | [d1, d2, d3, d4] => { results := [.lit (.bool true)], args := [d1, d2, d3, d4] }
  | _ => none }
def iommuRunsRow : OpenClaim := { program := "ytncbcjjdnlmjbaa", sum := "160c4fb6e598218aaca8472f78653d9c12816ebcaddcc0a40b47feea888e67b0", func := "caisson/caissonlaw7.IommuRuns", spec := "iommuRuns", unfollowed := true, recurses := true, plainKeys := false, apart := false }
def IommuRunsSaid : Prop := iommuRunsRow.holds Try.pinned (OpenSpec.ofChange iommuRunsSpec)

/-- ITS FALSE NEIGHBOUR: 'it returns false'. Refute it at one input. -/
def iommuRunsWrong : ChangeSpec := { name := "iommuRuns", fn := fun _ => fun
  | [d1, d2, d3, d4] => { results := [.lit (.bool false)], args := [d1, d2, d3, d4] }
  | _ => none }
def IommuRunsWrongFalsely : Prop := iommuRunsRow.holds Try.pinned (OpenSpec.ofChange iommuRunsWrong)

/-- 'caissonlaw7.IommuForms': WHATEVER THE INPUT: true; the input reads as it did. -/
def iommuFormsSpec : ChangeSpec := { name := "iommuForms", fn := fun _ => fun
  | [d1, d2] => { results := [.lit (.bool true)], args := [d1, d2] }
  | _ => none }
def iommuFormsRow : OpenClaim := { program := "ytncbcjjdnlmjbaa", sum := "160c4fb6e598218aaca8472f78653d9c12816ebcaddcc0a40b47feea888e67b0", func := "caisson/caissonlaw7.IommuForms", spec := "iommuForms", unfollowed := true, recurses := true, plainKeys := false, apart := false }
def IommuFormsSaid : Prop := iommuFormsRow.holds Try.pinned (OpenSpec.ofChange iommuFormsSpec)

/-- ITS FALSE NEIGHBOUR: 'it returns false'. Refute it at one input. -/
def iommuFormsWrong : ChangeSpec := { name := "iommuForms", fn := fun _ => fun
  | [d1, d2] => { results := [.lit (.bool false)], args := [d1, d2] }
  | _ => none }
def IommuFormsWrongFalsely : Prop := iommuFormsRow.holds Try.pinned (OpenSpec.ofChange iommuFormsWrong)

/-- 'caissonlaw7.IommuApart': WHATEVER THE INPUT: true; the input reads as it did. -/
def iommuApartSpec : ChangeSpec := { name := "iommuApart", fn := fun _ => fun
  | [d] => { results := [.lit (.bool true)], args := [d] }
  | _ => none }
def iommuApartRow : OpenClaim := { program := "ytncbcjjdnlmjbaa", sum := "160c4fb6e598218aaca8472f78653d9c12816ebcaddcc0a40b47feea888e67b0", func := "caisson/caissonlaw7.IommuApart", spec := "iommuApart", unfollowed := true, recurses := true, plainKeys := false, apart := false }
def IommuApartSaid : Prop := iommuApartRow.holds Try.pinned (OpenSpec.ofChange iommuApartSpec)

/-- ITS FALSE NEIGHBOUR: 'it returns false'. Refute it at one input. -/
def iommuApartWrong : ChangeSpec := { name := "iommuApart", fn := fun _ => fun
  | [d] => { results := [.lit (.bool false)], args := [d] }
  | _ => none }
def IommuApartWrongFalsely : Prop := iommuApartRow.holds Try.pinned (OpenSpec.ofChange iommuApartWrong)

/-- 'caissonlaw7.IommuClears': WHATEVER THE INPUT: true; the input reads as it did. -/
def iommuClearsSpec : ChangeSpec := { name := "iommuClears", fn := fun _ => fun
  | [d] => { results := [.lit (.bool true)], args := [d] }
  | _ => none }
def iommuClearsRow : OpenClaim := { program := "ytncbcjjdnlmjbaa", sum := "160c4fb6e598218aaca8472f78653d9c12816ebcaddcc0a40b47feea888e67b0", func := "caisson/caissonlaw7.IommuClears", spec := "iommuClears", unfollowed := true, recurses := true, plainKeys := false, apart := false }
def IommuClearsSaid : Prop := iommuClearsRow.holds Try.pinned (OpenSpec.ofChange iommuClearsSpec)

/-- ITS FALSE NEIGHBOUR: 'it returns false'. Refute it at one input. -/
def iommuClearsWrong : ChangeSpec := { name := "iommuClears", fn := fun _ => fun
  | [d] => { results := [.lit (.bool false)], args := [d] }
  | _ => none }
def IommuClearsWrongFalsely : Prop := iommuClearsRow.holds Try.pinned (OpenSpec.ofChange iommuClearsWrong)

/-- 'caissonlaw7.Iommus': WHATEVER THE INPUT: true; the input reads as it did. -/
def iommusSpec : ChangeSpec := { name := "iommus", fn := fun _ => fun
  | [d1, d2, d3] => { results := [.lit (.bool true)], args := [d1, d2, d3] }
  | _ => none }
def iommusRow : OpenClaim := { program := "ytncbcjjdnlmjbaa", sum := "160c4fb6e598218aaca8472f78653d9c12816ebcaddcc0a40b47feea888e67b0", func := "caisson/caissonlaw7.Iommus", spec := "iommus", unfollowed := true, recurses := true, plainKeys := false, apart := false }
def IommusSaid : Prop := iommusRow.holds Try.pinned (OpenSpec.ofChange iommusSpec)

/-- ITS FALSE NEIGHBOUR: 'it returns false'. Refute it at one input. -/
def iommusWrong : ChangeSpec := { name := "iommus", fn := fun _ => fun
  | [d1, d2, d3] => { results := [.lit (.bool false)], args := [d1, d2, d3] }
  | _ => none }
def IommusWrongFalsely : Prop := iommusRow.holds Try.pinned (OpenSpec.ofChange iommusWrong)

/- THE SECOND FORM. 'bulk': how many values and letters a reading holds, each counted each time it is reached (what is shared counts as often as it is met; a slice's spare places count too). A statement '..UptoSaid' is the law's where the arguments, and the package variables that the reading takes, are together of bulk at most 1048576: NARROWER than '..Said'. Prove '..Said' where nothing that the law and all that it calls make is longer than what came in: it says more and counts as full. Else prove '..UptoSaid'. A law counts once. -/
mutual
def uptoBulk {H : Type} : DataW H → Nat
  | .lit (.string bytes) => bytes.length + 1
  | .lit _ => 1
  | .nil => 1
  | .ptr d => uptoBulk d + 1
  | .slice elems spare => uptoBulkAll elems + uptoBulkAll spare + 1
  | .agg parts => uptoBulkAll parts + 1
  | .iface _ d => uptoBulk d + 1
  | .map entries => uptoBulkEntries entries + 1
  | .held _ => 1
def uptoBulkAll {H : Type} : List (DataW H) → Nat
  | [] => 0
  | d :: r => uptoBulk d + uptoBulkAll r
def uptoBulkEntries {H : Type} : List (Lit × DataW H) → Nat
  | [] => 0
  | x :: r => uptoBulkEntry x + uptoBulkEntries r
def uptoBulkEntry {H : Type} : Lit × DataW H → Nat
  | (.string bytes, d) => bytes.length + uptoBulk d + 1
  | (_, d) => uptoBulk d + 1
 end
def uptoSmall : (H : Type) → List (DataW H) → Bool := fun _ ds => decide (uptoBulkAll ds ≤ 1048576)
def OpenSpec.upto (s : _root_.Go.ChangeSpec) : _root_.Go.OpenSpec := { _root_.Go.OpenSpec.ofChange s with cond := some uptoSmall }

/-- 'caissonlaw21.Configs', WHERE WHAT IT READS IS OF BULK AT MOST 1048576: true; the input reads as it did. -/
def configsUptoRow : OpenClaim := { program := "ytncbcjjdnlmjbaa", sum := "160c4fb6e598218aaca8472f78653d9c12816ebcaddcc0a40b47feea888e67b0", func := "caisson/caissonlaw21.Configs", spec := "configs", unfollowed := true, recurses := true, plainKeys := false, apart := false, narrowed := true }
def ConfigsUptoSaid : Prop := configsUptoRow.holds Try.pinned (OpenSpec.upto configsSpec)

/-- 'caissonlaw21.ConfigApart', WHERE WHAT IT READS IS OF BULK AT MOST 1048576: true; the input reads as it did. -/
def configApartUptoRow : OpenClaim := { program := "ytncbcjjdnlmjbaa", sum := "160c4fb6e598218aaca8472f78653d9c12816ebcaddcc0a40b47feea888e67b0", func := "caisson/caissonlaw21.ConfigApart", spec := "configApart", unfollowed := true, recurses := true, plainKeys := false, apart := false, narrowed := true }
def ConfigApartUptoSaid : Prop := configApartUptoRow.holds Try.pinned (OpenSpec.upto configApartSpec)

/-- 'caissonlaw21.ConfigForms', WHERE WHAT IT READS IS OF BULK AT MOST 1048576: true; the input reads as it did. -/
def configFormsUptoRow : OpenClaim := { program := "ytncbcjjdnlmjbaa", sum := "160c4fb6e598218aaca8472f78653d9c12816ebcaddcc0a40b47feea888e67b0", func := "caisson/caissonlaw21.ConfigForms", spec := "configForms", unfollowed := true, recurses := true, plainKeys := false, apart := false, narrowed := true }
def ConfigFormsUptoSaid : Prop := configFormsUptoRow.holds Try.pinned (OpenSpec.upto configFormsSpec)

/-- 'caissonlaw21.ConfigRuns', WHERE WHAT IT READS IS OF BULK AT MOST 1048576: true; the input reads as it did. -/
def configRunsUptoRow : OpenClaim := { program := "ytncbcjjdnlmjbaa", sum := "160c4fb6e598218aaca8472f78653d9c12816ebcaddcc0a40b47feea888e67b0", func := "caisson/caissonlaw21.ConfigRuns", spec := "configRuns", unfollowed := true, recurses := true, plainKeys := false, apart := false, narrowed := true }
def ConfigRunsUptoSaid : Prop := configRunsUptoRow.holds Try.pinned (OpenSpec.upto configRunsSpec)

/-- 'caissonlaw21.ConfigGrants', WHERE WHAT IT READS IS OF BULK AT MOST 1048576: true; the input reads as it did. -/
def configGrantsUptoRow : OpenClaim := { program := "ytncbcjjdnlmjbaa", sum := "160c4fb6e598218aaca8472f78653d9c12816ebcaddcc0a40b47feea888e67b0", func := "caisson/caissonlaw21.ConfigGrants", spec := "configGrants", unfollowed := true, recurses := true, plainKeys := false, apart := false, narrowed := true }
def ConfigGrantsUptoSaid : Prop := configGrantsUptoRow.holds Try.pinned (OpenSpec.upto configGrantsSpec)

/-- 'caissonlaw23.Views', WHERE WHAT IT READS IS OF BULK AT MOST 1048576: true; the input reads as it did. -/
def viewsUptoRow : OpenClaim := { program := "ytncbcjjdnlmjbaa", sum := "160c4fb6e598218aaca8472f78653d9c12816ebcaddcc0a40b47feea888e67b0", func := "caisson/caissonlaw23.Views", spec := "views", unfollowed := true, recurses := true, plainKeys := false, apart := false, narrowed := true }
def ViewsUptoSaid : Prop := viewsUptoRow.holds Try.pinned (OpenSpec.upto viewsSpec)

/-- 'caissonlaw23.FlowOrder', WHERE WHAT IT READS IS OF BULK AT MOST 1048576: true; the input reads as it did. -/
def flowOrderUptoRow : OpenClaim := { program := "ytncbcjjdnlmjbaa", sum := "160c4fb6e598218aaca8472f78653d9c12816ebcaddcc0a40b47feea888e67b0", func := "caisson/caissonlaw23.FlowOrder", spec := "flowOrder", unfollowed := true, recurses := true, plainKeys := false, apart := false, narrowed := true }
def FlowOrderUptoSaid : Prop := flowOrderUptoRow.holds Try.pinned (OpenSpec.upto flowOrderSpec)

/-- 'caissonlaw23.PurgeAgain', WHERE WHAT IT READS IS OF BULK AT MOST 1048576: true; the input reads as it did. -/
def purgeAgainUptoRow : OpenClaim := { program := "ytncbcjjdnlmjbaa", sum := "160c4fb6e598218aaca8472f78653d9c12816ebcaddcc0a40b47feea888e67b0", func := "caisson/caissonlaw23.PurgeAgain", spec := "purgeAgain", unfollowed := true, recurses := true, plainKeys := false, apart := false, narrowed := true }
def PurgeAgainUptoSaid : Prop := purgeAgainUptoRow.holds Try.pinned (OpenSpec.upto purgeAgainSpec)

/-- 'caissonlaw23.FlowPlain', WHERE WHAT IT READS IS OF BULK AT MOST 1048576: true; the input reads as it did. -/
def flowPlainUptoRow : OpenClaim := { program := "ytncbcjjdnlmjbaa", sum := "160c4fb6e598218aaca8472f78653d9c12816ebcaddcc0a40b47feea888e67b0", func := "caisson/caissonlaw23.FlowPlain", spec := "flowPlain", unfollowed := true, recurses := true, plainKeys := false, apart := false, narrowed := true }
def FlowPlainUptoSaid : Prop := flowPlainUptoRow.holds Try.pinned (OpenSpec.upto flowPlainSpec)

/-- 'caissonlaw23.PurgeCalls', WHERE WHAT IT READS IS OF BULK AT MOST 1048576: true; the input reads as it did. -/
def purgeCallsUptoRow : OpenClaim := { program := "ytncbcjjdnlmjbaa", sum := "160c4fb6e598218aaca8472f78653d9c12816ebcaddcc0a40b47feea888e67b0", func := "caisson/caissonlaw23.PurgeCalls", spec := "purgeCalls", unfollowed := true, recurses := true, plainKeys := false, apart := false, narrowed := true }
def PurgeCallsUptoSaid : Prop := purgeCallsUptoRow.holds Try.pinned (OpenSpec.upto purgeCallsSpec)

/-- 'caissonlaw23.PurgeOwners', WHERE WHAT IT READS IS OF BULK AT MOST 1048576: true; the input reads as it did. -/
def purgeOwnersUptoRow : OpenClaim := { program := "ytncbcjjdnlmjbaa", sum := "160c4fb6e598218aaca8472f78653d9c12816ebcaddcc0a40b47feea888e67b0", func := "caisson/caissonlaw23.PurgeOwners", spec := "purgeOwners", unfollowed := true, recurses := true, plainKeys := false, apart := false, narrowed := true }
def PurgeOwnersUptoSaid : Prop := purgeOwnersUptoRow.holds Try.pinned (OpenSpec.upto purgeOwnersSpec)

/-- 'caissonlaw23.PurgeParts', WHERE WHAT IT READS IS OF BULK AT MOST 1048576: true; the input reads as it did. -/
def purgePartsUptoRow : OpenClaim := { program := "ytncbcjjdnlmjbaa", sum := "160c4fb6e598218aaca8472f78653d9c12816ebcaddcc0a40b47feea888e67b0", func := "caisson/caissonlaw23.PurgeParts", spec := "purgeParts", unfollowed := true, recurses := true, plainKeys := false, apart := false, narrowed := true }
def PurgePartsUptoSaid : Prop := purgePartsUptoRow.holds Try.pinned (OpenSpec.upto purgePartsSpec)

/-- 'caissonlaw23.PurgeAll', WHERE WHAT IT READS IS OF BULK AT MOST 1048576: true; the input reads as it did. -/
def purgeAllUptoRow : OpenClaim := { program := "ytncbcjjdnlmjbaa", sum := "160c4fb6e598218aaca8472f78653d9c12816ebcaddcc0a40b47feea888e67b0", func := "caisson/caissonlaw23.PurgeAll", spec := "purgeAll", unfollowed := true, recurses := true, plainKeys := false, apart := false, narrowed := true }
def PurgeAllUptoSaid : Prop := purgeAllUptoRow.holds Try.pinned (OpenSpec.upto purgeAllSpec)

/-- 'caissonlaw7.IommuMaps', WHERE WHAT IT READS IS OF BULK AT MOST 1048576: true; the input reads as it did. -/
def iommuMapsUptoRow : OpenClaim := { program := "ytncbcjjdnlmjbaa", sum := "160c4fb6e598218aaca8472f78653d9c12816ebcaddcc0a40b47feea888e67b0", func := "caisson/caissonlaw7.IommuMaps", spec := "iommuMaps", unfollowed := true, recurses := true, plainKeys := false, apart := false, narrowed := true }
def IommuMapsUptoSaid : Prop := iommuMapsUptoRow.holds Try.pinned (OpenSpec.upto iommuMapsSpec)

/-- 'caissonlaw7.IommuRuns', WHERE WHAT IT READS IS OF BULK AT MOST 1048576: true; the input reads as it did. -/
def iommuRunsUptoRow : OpenClaim := { program := "ytncbcjjdnlmjbaa", sum := "160c4fb6e598218aaca8472f78653d9c12816ebcaddcc0a40b47feea888e67b0", func := "caisson/caissonlaw7.IommuRuns", spec := "iommuRuns", unfollowed := true, recurses := true, plainKeys := false, apart := false, narrowed := true }
def IommuRunsUptoSaid : Prop := iommuRunsUptoRow.holds Try.pinned (OpenSpec.upto iommuRunsSpec)

/-- 'caissonlaw7.IommuForms', WHERE WHAT IT READS IS OF BULK AT MOST 1048576: true; the input reads as it did. -/
def iommuFormsUptoRow : OpenClaim := { program := "ytncbcjjdnlmjbaa", sum := "160c4fb6e598218aaca8472f78653d9c12816ebcaddcc0a40b47feea888e67b0", func := "caisson/caissonlaw7.IommuForms", spec := "iommuForms", unfollowed := true, recurses := true, plainKeys := false, apart := false, narrowed := true }
def IommuFormsUptoSaid : Prop := iommuFormsUptoRow.holds Try.pinned (OpenSpec.upto iommuFormsSpec)

/-- 'caissonlaw7.IommuApart', WHERE WHAT IT READS IS OF BULK AT MOST 1048576: true; the input reads as it did. -/
def iommuApartUptoRow : OpenClaim := { program := "ytncbcjjdnlmjbaa", sum := "160c4fb6e598218aaca8472f78653d9c12816ebcaddcc0a40b47feea888e67b0", func := "caisson/caissonlaw7.IommuApart", spec := "iommuApart", unfollowed := true, recurses := true, plainKeys := false, apart := false, narrowed := true }
def IommuApartUptoSaid : Prop := iommuApartUptoRow.holds Try.pinned (OpenSpec.upto iommuApartSpec)

/-- 'caissonlaw7.IommuClears', WHERE WHAT IT READS IS OF BULK AT MOST 1048576: true; the input reads as it did. -/
def iommuClearsUptoRow : OpenClaim := { program := "ytncbcjjdnlmjbaa", sum := "160c4fb6e598218aaca8472f78653d9c12816ebcaddcc0a40b47feea888e67b0", func := "caisson/caissonlaw7.IommuClears", spec := "iommuClears", unfollowed := true, recurses := true, plainKeys := false, apart := false, narrowed := true }
def IommuClearsUptoSaid : Prop := iommuClearsUptoRow.holds Try.pinned (OpenSpec.upto iommuClearsSpec)

/-- 'caissonlaw7.Iommus', WHERE WHAT IT READS IS OF BULK AT MOST 1048576: true; the input reads as it did. -/
def iommusUptoRow : OpenClaim := { program := "ytncbcjjdnlmjbaa", sum := "160c4fb6e598218aaca8472f78653d9c12816ebcaddcc0a40b47feea888e67b0", func := "caisson/caissonlaw7.Iommus", spec := "iommus", unfollowed := true, recurses := true, plainKeys := false, apart := false, narrowed := true }
def IommusUptoSaid : Prop := iommusUptoRow.holds Try.pinned (OpenSpec.upto iommusSpec)

end Rows
end Go.Proofs.Ytncbcjjdnlmjbaa
