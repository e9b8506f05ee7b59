/-
  No cell of these rows narrows 'for every input' (looked for: loops, veiled, ifaces, maps, wideKeys, modest, calm, conditions, laid).
  DERIVED. THE GIVEN ROWS OF THIS SEAT. 6 by the template 'for every input the law returns true; each argument reads behind the call as it read before'; 0 by the template 'total and deterministic' (their statements: YtnallfehffhaeaaTotals.lean).
  GIVEN WITH THE SEED: the statements are not yours to turn. If you find one false, say at which input.
  Laid BY PROGRAM, IN A SANDBOX (cutbox-rows.mjs): the forced cells as the released guide's own fill.sh prints them over the translation 99490c04de9ccc9e… (all of the seat's roots in one cut). By AI agents, Wed Nov 11 2026. No macro, syntax, notation, axiom, sorry.
-/
import Derived.Test.YtnallfehffhaeaaChecked
import GoSem.Claim
import GoSem.ClaimJoined
import GoSem.ClaimMapViews
import Derived.JoinedTies
import Derived.KernelRfl
namespace Go.Proofs.Ytnallfehffhaeaa
/- THE CELL 'sum', in the pinned program and in every row, IS THE sha256 OF THE DUMP (.gsa) THAT YtnallfehffhaeaaProg.lean LOADS. Nothing in Lean hashes anything: it is a label: what it is worth is what the hold of that sum in a sandbox is worth. -/
noncomputable def Try.pinned : Pinned := { name := "ytnallfehffhaeaa", sum := "99490c04de9ccc9eb26c4740297c6ef6cbe565935761cf32d00b89446fc5423b", checked := Try.checked }
namespace Rows
def none {H : Type} : Left H := { results := [], args := [] }

/-- 'caissonlaw7.IommuMaps': WHATEVER THE INPUT: true; the input reads as it did. -/
def iommuMapsSpec : ChangeSpec := { name := "iommuMaps", fn := fun _ => fun
  | [d] => { results := [.lit (.bool true)], args := [d] }
  | _ => none }
def iommuMapsRow : OpenClaim := { program := "ytnallfehffhaeaa", sum := "99490c04de9ccc9eb26c4740297c6ef6cbe565935761cf32d00b89446fc5423b", func := "caisson/caissonlaw7.IommuMaps", spec := "iommuMaps", unfollowed := true, recurses := true, apart := false }
def IommuMapsSaid : Prop := iommuMapsRow.holds Try.pinned (OpenSpec.ofChange iommuMapsSpec)

/-- ITS FALSE NEIGHBOUR: 'it returns false'. Refute it at one input. -/
def iommuMapsWrong : ChangeSpec := { name := "iommuMaps", fn := fun _ => fun
  | [d] => { results := [.lit (.bool false)], args := [d] }
  | _ => none }
def IommuMapsWrongFalsely : Prop := iommuMapsRow.holds Try.pinned (OpenSpec.ofChange iommuMapsWrong)

/-- 'caissonlaw7.IommuRuns': WHATEVER THE INPUT: true; the input reads as it did. -/
def iommuRunsSpec : ChangeSpec := { name := "iommuRuns", fn := fun _ => fun
  | [d1, d2, d3, d4] => { results := [.lit (.bool true)], args := [d1, d2, d3, d4] }
  | _ => none }
def iommuRunsRow : OpenClaim := { program := "ytnallfehffhaeaa", sum := "99490c04de9ccc9eb26c4740297c6ef6cbe565935761cf32d00b89446fc5423b", func := "caisson/caissonlaw7.IommuRuns", spec := "iommuRuns", unfollowed := true, recurses := true, apart := false }
def IommuRunsSaid : Prop := iommuRunsRow.holds Try.pinned (OpenSpec.ofChange iommuRunsSpec)

/-- ITS FALSE NEIGHBOUR: 'it returns false'. Refute it at one input. -/
def iommuRunsWrong : ChangeSpec := { name := "iommuRuns", fn := fun _ => fun
  | [d1, d2, d3, d4] => { results := [.lit (.bool false)], args := [d1, d2, d3, d4] }
  | _ => none }
def IommuRunsWrongFalsely : Prop := iommuRunsRow.holds Try.pinned (OpenSpec.ofChange iommuRunsWrong)

/-- 'caissonlaw7.IommuForms': WHATEVER THE INPUT: true; the input reads as it did. -/
def iommuFormsSpec : ChangeSpec := { name := "iommuForms", fn := fun _ => fun
  | [d1, d2] => { results := [.lit (.bool true)], args := [d1, d2] }
  | _ => none }
def iommuFormsRow : OpenClaim := { program := "ytnallfehffhaeaa", sum := "99490c04de9ccc9eb26c4740297c6ef6cbe565935761cf32d00b89446fc5423b", func := "caisson/caissonlaw7.IommuForms", spec := "iommuForms", unfollowed := true, recurses := true, apart := false }
def IommuFormsSaid : Prop := iommuFormsRow.holds Try.pinned (OpenSpec.ofChange iommuFormsSpec)

/-- ITS FALSE NEIGHBOUR: 'it returns false'. Refute it at one input. -/
def iommuFormsWrong : ChangeSpec := { name := "iommuForms", fn := fun _ => fun
  | [d1, d2] => { results := [.lit (.bool false)], args := [d1, d2] }
  | _ => none }
def IommuFormsWrongFalsely : Prop := iommuFormsRow.holds Try.pinned (OpenSpec.ofChange iommuFormsWrong)

/-- 'caissonlaw7.IommuApart': WHATEVER THE INPUT: true; the input reads as it did. -/
def iommuApartSpec : ChangeSpec := { name := "iommuApart", fn := fun _ => fun
  | [d] => { results := [.lit (.bool true)], args := [d] }
  | _ => none }
def iommuApartRow : OpenClaim := { program := "ytnallfehffhaeaa", sum := "99490c04de9ccc9eb26c4740297c6ef6cbe565935761cf32d00b89446fc5423b", func := "caisson/caissonlaw7.IommuApart", spec := "iommuApart", unfollowed := true, recurses := true, apart := false }
def IommuApartSaid : Prop := iommuApartRow.holds Try.pinned (OpenSpec.ofChange iommuApartSpec)

/-- ITS FALSE NEIGHBOUR: 'it returns false'. Refute it at one input. -/
def iommuApartWrong : ChangeSpec := { name := "iommuApart", fn := fun _ => fun
  | [d] => { results := [.lit (.bool false)], args := [d] }
  | _ => none }
def IommuApartWrongFalsely : Prop := iommuApartRow.holds Try.pinned (OpenSpec.ofChange iommuApartWrong)

/-- 'caissonlaw7.IommuClears': WHATEVER THE INPUT: true; the input reads as it did. -/
def iommuClearsSpec : ChangeSpec := { name := "iommuClears", fn := fun _ => fun
  | [d] => { results := [.lit (.bool true)], args := [d] }
  | _ => none }
def iommuClearsRow : OpenClaim := { program := "ytnallfehffhaeaa", sum := "99490c04de9ccc9eb26c4740297c6ef6cbe565935761cf32d00b89446fc5423b", func := "caisson/caissonlaw7.IommuClears", spec := "iommuClears", unfollowed := true, recurses := true, apart := false }
def IommuClearsSaid : Prop := iommuClearsRow.holds Try.pinned (OpenSpec.ofChange iommuClearsSpec)

/-- ITS FALSE NEIGHBOUR: 'it returns false'. Refute it at one input. -/
def iommuClearsWrong : ChangeSpec := { name := "iommuClears", fn := fun _ => fun
  | [d] => { results := [.lit (.bool false)], args := [d] }
  | _ => none }
def IommuClearsWrongFalsely : Prop := iommuClearsRow.holds Try.pinned (OpenSpec.ofChange iommuClearsWrong)

/-- 'caissonlaw7.Iommus': WHATEVER THE INPUT: true; the input reads as it did. -/
def iommusSpec : ChangeSpec := { name := "iommus", fn := fun _ => fun
  | [d1, d2, d3] => { results := [.lit (.bool true)], args := [d1, d2, d3] }
  | _ => none }
def iommusRow : OpenClaim := { program := "ytnallfehffhaeaa", sum := "99490c04de9ccc9eb26c4740297c6ef6cbe565935761cf32d00b89446fc5423b", func := "caisson/caissonlaw7.Iommus", spec := "iommus", unfollowed := true, recurses := true, apart := false }
def IommusSaid : Prop := iommusRow.holds Try.pinned (OpenSpec.ofChange iommusSpec)

/-- ITS FALSE NEIGHBOUR: 'it returns false'. Refute it at one input. -/
def iommusWrong : ChangeSpec := { name := "iommus", fn := fun _ => fun
  | [d1, d2, d3] => { results := [.lit (.bool false)], args := [d1, d2, d3] }
  | _ => none }
def IommusWrongFalsely : Prop := iommusRow.holds Try.pinned (OpenSpec.ofChange iommusWrong)

/- THE SECOND FORM. 'bulk': how many values and letters a reading holds, each counted each time it is reached (what is shared counts as often as it is met; a slice's spare places count too). A statement '..UptoSaid' is the law's where the arguments, and the package variables that the reading takes, are together of bulk at most 1048576: NARROWER than '..Said'. Prove '..Said' where nothing that the law and all that it calls make is longer than what came in: it says more and counts as full. Else prove '..UptoSaid'. A law counts once. -/
mutual
def uptoBulk {H : Type} : DataW H → Nat
  | .lit (.string bytes) => bytes.length + 1
  | .lit _ => 1
  | .nil => 1
  | .ptr d => uptoBulk d + 1
  | .slice elems spare => uptoBulkAll elems + uptoBulkAll spare + 1
  | .agg parts => uptoBulkAll parts + 1
  | .iface _ d => uptoBulk d + 1
  | .map entries => uptoBulkEntries entries + 1
  | .held _ => 1
def uptoBulkAll {H : Type} : List (DataW H) → Nat
  | [] => 0
  | d :: r => uptoBulk d + uptoBulkAll r
def uptoBulkEntries {H : Type} : List (Lit × DataW H) → Nat
  | [] => 0
  | x :: r => uptoBulkEntry x + uptoBulkEntries r
def uptoBulkEntry {H : Type} : Lit × DataW H → Nat
  | (.string bytes, d) => bytes.length + uptoBulk d + 1
  | (_, d) => uptoBulk d + 1
 end
def uptoSmall : (H : Type) → List (DataW H) → Bool := fun _ ds => decide (uptoBulkAll ds ≤ 1048576)
def OpenSpec.upto (s : _root_.Go.ChangeSpec) : _root_.Go.OpenSpec := { _root_.Go.OpenSpec.ofChange s with cond := some uptoSmall }

/-- 'caissonlaw7.IommuMaps', WHERE WHAT IT READS IS OF BULK AT MOST 1048576: true; the input reads as it did. -/
def iommuMapsUptoRow : OpenClaim := { program := "ytnallfehffhaeaa", sum := "99490c04de9ccc9eb26c4740297c6ef6cbe565935761cf32d00b89446fc5423b", func := "caisson/caissonlaw7.IommuMaps", spec := "iommuMaps", unfollowed := true, recurses := true, apart := false, narrowed := true }
def IommuMapsUptoSaid : Prop := iommuMapsUptoRow.holds Try.pinned (OpenSpec.upto iommuMapsSpec)

/-- 'caissonlaw7.IommuRuns', WHERE WHAT IT READS IS OF BULK AT MOST 1048576: true; the input reads as it did. -/
def iommuRunsUptoRow : OpenClaim := { program := "ytnallfehffhaeaa", sum := "99490c04de9ccc9eb26c4740297c6ef6cbe565935761cf32d00b89446fc5423b", func := "caisson/caissonlaw7.IommuRuns", spec := "iommuRuns", unfollowed := true, recurses := true, apart := false, narrowed := true }
def IommuRunsUptoSaid : Prop := iommuRunsUptoRow.holds Try.pinned (OpenSpec.upto iommuRunsSpec)

/-- 'caissonlaw7.IommuForms', WHERE WHAT IT READS IS OF BULK AT MOST 1048576: true; the input reads as it did. -/
def iommuFormsUptoRow : OpenClaim := { program := "ytnallfehffhaeaa", sum := "99490c04de9ccc9eb26c4740297c6ef6cbe565935761cf32d00b89446fc5423b", func := "caisson/caissonlaw7.IommuForms", spec := "iommuForms", unfollowed := true, recurses := true, apart := false, narrowed := true }
def IommuFormsUptoSaid : Prop := iommuFormsUptoRow.holds Try.pinned (OpenSpec.upto iommuFormsSpec)

/-- 'caissonlaw7.IommuApart', WHERE WHAT IT READS IS OF BULK AT MOST 1048576: true; the input reads as it did. -/
def iommuApartUptoRow : OpenClaim := { program := "ytnallfehffhaeaa", sum := "99490c04de9ccc9eb26c4740297c6ef6cbe565935761cf32d00b89446fc5423b", func := "caisson/caissonlaw7.IommuApart", spec := "iommuApart", unfollowed := true, recurses := true, apart := false, narrowed := true }
def IommuApartUptoSaid : Prop := iommuApartUptoRow.holds Try.pinned (OpenSpec.upto iommuApartSpec)

/-- 'caissonlaw7.IommuClears', WHERE WHAT IT READS IS OF BULK AT MOST 1048576: true; the input reads as it did. -/
def iommuClearsUptoRow : OpenClaim := { program := "ytnallfehffhaeaa", sum := "99490c04de9ccc9eb26c4740297c6ef6cbe565935761cf32d00b89446fc5423b", func := "caisson/caissonlaw7.IommuClears", spec := "iommuClears", unfollowed := true, recurses := true, apart := false, narrowed := true }
def IommuClearsUptoSaid : Prop := iommuClearsUptoRow.holds Try.pinned (OpenSpec.upto iommuClearsSpec)

/-- 'caissonlaw7.Iommus', WHERE WHAT IT READS IS OF BULK AT MOST 1048576: true; the input reads as it did. -/
def iommusUptoRow : OpenClaim := { program := "ytnallfehffhaeaa", sum := "99490c04de9ccc9eb26c4740297c6ef6cbe565935761cf32d00b89446fc5423b", func := "caisson/caissonlaw7.Iommus", spec := "iommus", unfollowed := true, recurses := true, apart := false, narrowed := true }
def IommusUptoSaid : Prop := iommusUptoRow.holds Try.pinned (OpenSpec.upto iommusSpec)

end Rows
end Go.Proofs.Ytnallfehffhaeaa
