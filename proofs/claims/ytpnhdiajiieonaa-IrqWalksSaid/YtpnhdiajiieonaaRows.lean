/-
  No cell of these rows narrows 'for every input' (looked for: loops, veiled, ifaces, maps, wideKeys, modest, calm, conditions, laid).
  DERIVED. THE GIVEN ROWS OF THIS SEAT. 22 by the template 'for every input the law returns true; each argument reads behind the call as it read before'; 0 by the template 'total and deterministic' (their statements: YtpnhdiajiieonaaTotals.lean).
  GIVEN WITH THE SEED: the statements are not yours to turn. If you find one false, say at which input.
  Laid BY PROGRAM, IN A SANDBOX (cutbox-rows.mjs): the forced cells as the released guide's own fill.sh prints them over the translation 3a74530f6735a634… (all of the seat's roots in one cut). By AI agents, Wed Nov 11 2026. No macro, syntax, notation, axiom, sorry.
-/
import Derived.Test.YtpnhdiajiieonaaChecked
import GoSem.Claim
import GoSem.ClaimJoined
import GoSem.ClaimMapViews
import Derived.JoinedTies
import Derived.KernelRfl
namespace Go.Proofs.Ytpnhdiajiieonaa
/- THE CELL 'sum', in the pinned program and in every row, IS THE sha256 OF THE DUMP (.gsa) THAT YtpnhdiajiieonaaProg.lean LOADS. Nothing in Lean hashes anything: it is a label: what it is worth is what the hold of that sum in a sandbox is worth. -/
noncomputable def Try.pinned : Pinned := { name := "ytpnhdiajiieonaa", sum := "3a74530f6735a63435d0a934b3bdd9da6df90d33b21ac378a2be7a7758999646", checked := Try.checked }
namespace Rows
def none {H : Type} : Left H := { results := [], args := [] }

/-- 'caissonlaw3.Mems': WHATEVER THE INPUT: true; the input reads as it did. -/
def memsSpec : ChangeSpec := { name := "mems", fn := fun _ => fun
  | [d1, d2] => { results := [.lit (.bool true)], args := [d1, d2] }
  | _ => none }
def memsRow : OpenClaim := { program := "ytpnhdiajiieonaa", sum := "3a74530f6735a63435d0a934b3bdd9da6df90d33b21ac378a2be7a7758999646", func := "caisson/caissonlaw3.Mems", spec := "mems", plainKeys := false, apart := false }
def MemsSaid : Prop := memsRow.holds Try.pinned (OpenSpec.ofChange memsSpec)

/-- ITS FALSE NEIGHBOUR: 'it returns false'. Refute it at one input. -/
def memsWrong : ChangeSpec := { name := "mems", fn := fun _ => fun
  | [d1, d2] => { results := [.lit (.bool false)], args := [d1, d2] }
  | _ => none }
def MemsWrongFalsely : Prop := memsRow.holds Try.pinned (OpenSpec.ofChange memsWrong)

/-- 'caissonlaw3.MemZeroes': WHATEVER THE INPUT: true; the input reads as it did. -/
def memZeroesSpec : ChangeSpec := { name := "memZeroes", fn := fun _ => fun
  | [d1, d2] => { results := [.lit (.bool true)], args := [d1, d2] }
  | _ => none }
def memZeroesRow : OpenClaim := { program := "ytpnhdiajiieonaa", sum := "3a74530f6735a63435d0a934b3bdd9da6df90d33b21ac378a2be7a7758999646", func := "caisson/caissonlaw3.MemZeroes", spec := "memZeroes", plainKeys := false, apart := false }
def MemZeroesSaid : Prop := memZeroesRow.holds Try.pinned (OpenSpec.ofChange memZeroesSpec)

/-- ITS FALSE NEIGHBOUR: 'it returns false'. Refute it at one input. -/
def memZeroesWrong : ChangeSpec := { name := "memZeroes", fn := fun _ => fun
  | [d1, d2] => { results := [.lit (.bool false)], args := [d1, d2] }
  | _ => none }
def MemZeroesWrongFalsely : Prop := memZeroesRow.holds Try.pinned (OpenSpec.ofChange memZeroesWrong)

/-- 'caissonlaw5.WalkFinds': WHATEVER THE INPUT: true; the input reads as it did. -/
def walkFindsSpec : ChangeSpec := { name := "walkFinds", fn := fun _ => fun
  | [d1, d2] => { results := [.lit (.bool true)], args := [d1, d2] }
  | _ => none }
def walkFindsRow : OpenClaim := { program := "ytpnhdiajiieonaa", sum := "3a74530f6735a63435d0a934b3bdd9da6df90d33b21ac378a2be7a7758999646", func := "caisson/caissonlaw5.WalkFinds", spec := "walkFinds", unfollowed := true, recurses := true, plainKeys := false, apart := false }
def WalkFindsSaid : Prop := walkFindsRow.holds Try.pinned (OpenSpec.ofChange walkFindsSpec)

/-- ITS FALSE NEIGHBOUR: 'it returns false'. Refute it at one input. -/
def walkFindsWrong : ChangeSpec := { name := "walkFinds", fn := fun _ => fun
  | [d1, d2] => { results := [.lit (.bool false)], args := [d1, d2] }
  | _ => none }
def WalkFindsWrongFalsely : Prop := walkFindsRow.holds Try.pinned (OpenSpec.ofChange walkFindsWrong)

/-- 'caissonlaw5.WalkForms': WHATEVER THE INPUT: true; the input reads as it did. -/
def walkFormsSpec : ChangeSpec := { name := "walkForms", fn := fun _ => fun
  | [d1, d2] => { results := [.lit (.bool true)], args := [d1, d2] }
  | _ => none }
def walkFormsRow : OpenClaim := { program := "ytpnhdiajiieonaa", sum := "3a74530f6735a63435d0a934b3bdd9da6df90d33b21ac378a2be7a7758999646", func := "caisson/caissonlaw5.WalkForms", spec := "walkForms", unfollowed := true, recurses := true, plainKeys := false, apart := false }
def WalkFormsSaid : Prop := walkFormsRow.holds Try.pinned (OpenSpec.ofChange walkFormsSpec)

/-- ITS FALSE NEIGHBOUR: 'it returns false'. Refute it at one input. -/
def walkFormsWrong : ChangeSpec := { name := "walkForms", fn := fun _ => fun
  | [d1, d2] => { results := [.lit (.bool false)], args := [d1, d2] }
  | _ => none }
def WalkFormsWrongFalsely : Prop := walkFormsRow.holds Try.pinned (OpenSpec.ofChange walkFormsWrong)

/-- 'caissonlaw5.Walks': WHATEVER THE INPUT: true; the input reads as it did. -/
def walksSpec : ChangeSpec := { name := "walks", fn := fun _ => fun
  | [d1, d2, d3, d4, d5] => { results := [.lit (.bool true)], args := [d1, d2, d3, d4, d5] }
  | _ => none }
def walksRow : OpenClaim := { program := "ytpnhdiajiieonaa", sum := "3a74530f6735a63435d0a934b3bdd9da6df90d33b21ac378a2be7a7758999646", func := "caisson/caissonlaw5.Walks", spec := "walks", unfollowed := true, recurses := true, plainKeys := false, apart := false }
def WalksSaid : Prop := walksRow.holds Try.pinned (OpenSpec.ofChange walksSpec)

/-- ITS FALSE NEIGHBOUR: 'it returns false'. Refute it at one input. -/
def walksWrong : ChangeSpec := { name := "walks", fn := fun _ => fun
  | [d1, d2, d3, d4, d5] => { results := [.lit (.bool false)], args := [d1, d2, d3, d4, d5] }
  | _ => none }
def WalksWrongFalsely : Prop := walksRow.holds Try.pinned (OpenSpec.ofChange walksWrong)

/-- 'caissonlaw5.WalkStays': WHATEVER THE INPUT: true; the input reads as it did. -/
def walkStaysSpec : ChangeSpec := { name := "walkStays", fn := fun _ => fun
  | [d1, d2, d3] => { results := [.lit (.bool true)], args := [d1, d2, d3] }
  | _ => none }
def walkStaysRow : OpenClaim := { program := "ytpnhdiajiieonaa", sum := "3a74530f6735a63435d0a934b3bdd9da6df90d33b21ac378a2be7a7758999646", func := "caisson/caissonlaw5.WalkStays", spec := "walkStays", unfollowed := true, recurses := true, plainKeys := false, apart := false }
def WalkStaysSaid : Prop := walkStaysRow.holds Try.pinned (OpenSpec.ofChange walkStaysSpec)

/-- ITS FALSE NEIGHBOUR: 'it returns false'. Refute it at one input. -/
def walkStaysWrong : ChangeSpec := { name := "walkStays", fn := fun _ => fun
  | [d1, d2, d3] => { results := [.lit (.bool false)], args := [d1, d2, d3] }
  | _ => none }
def WalkStaysWrongFalsely : Prop := walkStaysRow.holds Try.pinned (OpenSpec.ofChange walkStaysWrong)

/-- 'caissonlaw12.Pendings': WHATEVER THE INPUT: true; the input reads as it did. -/
def pendingsSpec : ChangeSpec := { name := "pendings", fn := fun _ => fun
  | [d1, d2] => { results := [.lit (.bool true)], args := [d1, d2] }
  | _ => none }
def pendingsRow : OpenClaim := { program := "ytpnhdiajiieonaa", sum := "3a74530f6735a63435d0a934b3bdd9da6df90d33b21ac378a2be7a7758999646", func := "caisson/caissonlaw12.Pendings", spec := "pendings", unfollowed := true, recurses := true, plainKeys := false, apart := false }
def PendingsSaid : Prop := pendingsRow.holds Try.pinned (OpenSpec.ofChange pendingsSpec)

/-- ITS FALSE NEIGHBOUR: 'it returns false'. Refute it at one input. -/
def pendingsWrong : ChangeSpec := { name := "pendings", fn := fun _ => fun
  | [d1, d2] => { results := [.lit (.bool false)], args := [d1, d2] }
  | _ => none }
def PendingsWrongFalsely : Prop := pendingsRow.holds Try.pinned (OpenSpec.ofChange pendingsWrong)

/-- 'caissonlaw12.PendingOnce': WHATEVER THE INPUT: true; the input reads as it did. -/
def pendingOnceSpec : ChangeSpec := { name := "pendingOnce", fn := fun _ => fun
  | [d1, d2] => { results := [.lit (.bool true)], args := [d1, d2] }
  | _ => none }
def pendingOnceRow : OpenClaim := { program := "ytpnhdiajiieonaa", sum := "3a74530f6735a63435d0a934b3bdd9da6df90d33b21ac378a2be7a7758999646", func := "caisson/caissonlaw12.PendingOnce", spec := "pendingOnce", unfollowed := true, recurses := true, plainKeys := false, apart := false }
def PendingOnceSaid : Prop := pendingOnceRow.holds Try.pinned (OpenSpec.ofChange pendingOnceSpec)

/-- ITS FALSE NEIGHBOUR: 'it returns false'. Refute it at one input. -/
def pendingOnceWrong : ChangeSpec := { name := "pendingOnce", fn := fun _ => fun
  | [d1, d2] => { results := [.lit (.bool false)], args := [d1, d2] }
  | _ => none }
def PendingOnceWrongFalsely : Prop := pendingOnceRow.holds Try.pinned (OpenSpec.ofChange pendingOnceWrong)

/-- 'caissonlaw12.PendingMasked': WHATEVER THE INPUT: true; the input reads as it did. -/
def pendingMaskedSpec : ChangeSpec := { name := "pendingMasked", fn := fun _ => fun
  | [d1, d2] => { results := [.lit (.bool true)], args := [d1, d2] }
  | _ => none }
def pendingMaskedRow : OpenClaim := { program := "ytpnhdiajiieonaa", sum := "3a74530f6735a63435d0a934b3bdd9da6df90d33b21ac378a2be7a7758999646", func := "caisson/caissonlaw12.PendingMasked", spec := "pendingMasked", unfollowed := true, recurses := true, plainKeys := false, apart := false }
def PendingMaskedSaid : Prop := pendingMaskedRow.holds Try.pinned (OpenSpec.ofChange pendingMaskedSpec)

/-- ITS FALSE NEIGHBOUR: 'it returns false'. Refute it at one input. -/
def pendingMaskedWrong : ChangeSpec := { name := "pendingMasked", fn := fun _ => fun
  | [d1, d2] => { results := [.lit (.bool false)], args := [d1, d2] }
  | _ => none }
def PendingMaskedWrongFalsely : Prop := pendingMaskedRow.holds Try.pinned (OpenSpec.ofChange pendingMaskedWrong)

/-- 'caissonlaw12.PendingForms': WHATEVER THE INPUT: true; the input reads as it did. -/
def pendingFormsSpec : ChangeSpec := { name := "pendingForms", fn := fun _ => fun
  | [d1, d2] => { results := [.lit (.bool true)], args := [d1, d2] }
  | _ => none }
def pendingFormsRow : OpenClaim := { program := "ytpnhdiajiieonaa", sum := "3a74530f6735a63435d0a934b3bdd9da6df90d33b21ac378a2be7a7758999646", func := "caisson/caissonlaw12.PendingForms", spec := "pendingForms", unfollowed := true, recurses := true, plainKeys := false, apart := false }
def PendingFormsSaid : Prop := pendingFormsRow.holds Try.pinned (OpenSpec.ofChange pendingFormsSpec)

/-- ITS FALSE NEIGHBOUR: 'it returns false'. Refute it at one input. -/
def pendingFormsWrong : ChangeSpec := { name := "pendingForms", fn := fun _ => fun
  | [d1, d2] => { results := [.lit (.bool false)], args := [d1, d2] }
  | _ => none }
def PendingFormsWrongFalsely : Prop := pendingFormsRow.holds Try.pinned (OpenSpec.ofChange pendingFormsWrong)

/-- 'caissonlaw12.PendingApart': WHATEVER THE INPUT: true; the input reads as it did. -/
def pendingApartSpec : ChangeSpec := { name := "pendingApart", fn := fun _ => fun
  | [d] => { results := [.lit (.bool true)], args := [d] }
  | _ => none }
def pendingApartRow : OpenClaim := { program := "ytpnhdiajiieonaa", sum := "3a74530f6735a63435d0a934b3bdd9da6df90d33b21ac378a2be7a7758999646", func := "caisson/caissonlaw12.PendingApart", spec := "pendingApart", unfollowed := true, recurses := true, plainKeys := false, apart := false }
def PendingApartSaid : Prop := pendingApartRow.holds Try.pinned (OpenSpec.ofChange pendingApartSpec)

/-- ITS FALSE NEIGHBOUR: 'it returns false'. Refute it at one input. -/
def pendingApartWrong : ChangeSpec := { name := "pendingApart", fn := fun _ => fun
  | [d] => { results := [.lit (.bool false)], args := [d] }
  | _ => none }
def PendingApartWrongFalsely : Prop := pendingApartRow.holds Try.pinned (OpenSpec.ofChange pendingApartWrong)

/-- 'caissonlaw13.Units': WHATEVER THE INPUT: true; the input reads as it did. -/
def unitsSpec : ChangeSpec := { name := "units", fn := fun _ => fun
  | [d1, d2, d3] => { results := [.lit (.bool true)], args := [d1, d2, d3] }
  | _ => none }
def unitsRow : OpenClaim := { program := "ytpnhdiajiieonaa", sum := "3a74530f6735a63435d0a934b3bdd9da6df90d33b21ac378a2be7a7758999646", func := "caisson/caissonlaw13.Units", spec := "units", unfollowed := true, recurses := true, plainKeys := false, apart := false }
def UnitsSaid : Prop := unitsRow.holds Try.pinned (OpenSpec.ofChange unitsSpec)

/-- ITS FALSE NEIGHBOUR: 'it returns false'. Refute it at one input. -/
def unitsWrong : ChangeSpec := { name := "units", fn := fun _ => fun
  | [d1, d2, d3] => { results := [.lit (.bool false)], args := [d1, d2, d3] }
  | _ => none }
def UnitsWrongFalsely : Prop := unitsRow.holds Try.pinned (OpenSpec.ofChange unitsWrong)

/-- 'caissonlaw13.IrqWalks': WHATEVER THE INPUT: true; the input reads as it did. -/
def irqWalksSpec : ChangeSpec := { name := "irqWalks", fn := fun _ => fun
  | [d] => { results := [.lit (.bool true)], args := [d] }
  | _ => none }
def irqWalksRow : OpenClaim := { program := "ytpnhdiajiieonaa", sum := "3a74530f6735a63435d0a934b3bdd9da6df90d33b21ac378a2be7a7758999646", func := "caisson/caissonlaw13.IrqWalks", spec := "irqWalks", unfollowed := true, recurses := true, plainKeys := false, apart := false }
def IrqWalksSaid : Prop := irqWalksRow.holds Try.pinned (OpenSpec.ofChange irqWalksSpec)

/-- ITS FALSE NEIGHBOUR: 'it returns false'. Refute it at one input. -/
def irqWalksWrong : ChangeSpec := { name := "irqWalks", fn := fun _ => fun
  | [d] => { results := [.lit (.bool false)], args := [d] }
  | _ => none }
def IrqWalksWrongFalsely : Prop := irqWalksRow.holds Try.pinned (OpenSpec.ofChange irqWalksWrong)

/-- 'caissonlaw13.IrqForms': WHATEVER THE INPUT: true; the input reads as it did. -/
def irqFormsSpec : ChangeSpec := { name := "irqForms", fn := fun _ => fun
  | [d1, d2] => { results := [.lit (.bool true)], args := [d1, d2] }
  | _ => none }
def irqFormsRow : OpenClaim := { program := "ytpnhdiajiieonaa", sum := "3a74530f6735a63435d0a934b3bdd9da6df90d33b21ac378a2be7a7758999646", func := "caisson/caissonlaw13.IrqForms", spec := "irqForms", unfollowed := true, recurses := true, plainKeys := false, apart := false }
def IrqFormsSaid : Prop := irqFormsRow.holds Try.pinned (OpenSpec.ofChange irqFormsSpec)

/-- ITS FALSE NEIGHBOUR: 'it returns false'. Refute it at one input. -/
def irqFormsWrong : ChangeSpec := { name := "irqForms", fn := fun _ => fun
  | [d1, d2] => { results := [.lit (.bool false)], args := [d1, d2] }
  | _ => none }
def IrqFormsWrongFalsely : Prop := irqFormsRow.holds Try.pinned (OpenSpec.ofChange irqFormsWrong)

/-- 'caissonlaw13.IrqClears': WHATEVER THE INPUT: true; the input reads as it did. -/
def irqClearsSpec : ChangeSpec := { name := "irqClears", fn := fun _ => fun
  | [d] => { results := [.lit (.bool true)], args := [d] }
  | _ => none }
def irqClearsRow : OpenClaim := { program := "ytpnhdiajiieonaa", sum := "3a74530f6735a63435d0a934b3bdd9da6df90d33b21ac378a2be7a7758999646", func := "caisson/caissonlaw13.IrqClears", spec := "irqClears", unfollowed := true, recurses := true, plainKeys := false, apart := false }
def IrqClearsSaid : Prop := irqClearsRow.holds Try.pinned (OpenSpec.ofChange irqClearsSpec)

/-- ITS FALSE NEIGHBOUR: 'it returns false'. Refute it at one input. -/
def irqClearsWrong : ChangeSpec := { name := "irqClears", fn := fun _ => fun
  | [d] => { results := [.lit (.bool false)], args := [d] }
  | _ => none }
def IrqClearsWrongFalsely : Prop := irqClearsRow.holds Try.pinned (OpenSpec.ofChange irqClearsWrong)

/-- 'caissonlaw13.IrqApart': WHATEVER THE INPUT: true; the input reads as it did. -/
def irqApartSpec : ChangeSpec := { name := "irqApart", fn := fun _ => fun
  | [d] => { results := [.lit (.bool true)], args := [d] }
  | _ => none }
def irqApartRow : OpenClaim := { program := "ytpnhdiajiieonaa", sum := "3a74530f6735a63435d0a934b3bdd9da6df90d33b21ac378a2be7a7758999646", func := "caisson/caissonlaw13.IrqApart", spec := "irqApart", unfollowed := true, recurses := true, plainKeys := false, apart := false }
def IrqApartSaid : Prop := irqApartRow.holds Try.pinned (OpenSpec.ofChange irqApartSpec)

/-- ITS FALSE NEIGHBOUR: 'it returns false'. Refute it at one input. -/
def irqApartWrong : ChangeSpec := { name := "irqApart", fn := fun _ => fun
  | [d] => { results := [.lit (.bool false)], args := [d] }
  | _ => none }
def IrqApartWrongFalsely : Prop := irqApartRow.holds Try.pinned (OpenSpec.ofChange irqApartWrong)

/-- 'caissonlaw7.IommuMaps': WHATEVER THE INPUT: true; the input reads as it did. -/
def iommuMapsSpec : ChangeSpec := { name := "iommuMaps", fn := fun _ => fun
  | [d] => { results := [.lit (.bool true)], args := [d] }
  | _ => none }
def iommuMapsRow : OpenClaim := { program := "ytpnhdiajiieonaa", sum := "3a74530f6735a63435d0a934b3bdd9da6df90d33b21ac378a2be7a7758999646", func := "caisson/caissonlaw7.IommuMaps", spec := "iommuMaps", unfollowed := true, recurses := true, plainKeys := false, apart := false }
def IommuMapsSaid : Prop := iommuMapsRow.holds Try.pinned (OpenSpec.ofChange iommuMapsSpec)

/-- ITS FALSE NEIGHBOUR: 'it returns false'. Refute it at one input. -/
def iommuMapsWrong : ChangeSpec := { name := "iommuMaps", fn := fun _ => fun
  | [d] => { results := [.lit (.bool false)], args := [d] }
  | _ => none }
def IommuMapsWrongFalsely : Prop := iommuMapsRow.holds Try.pinned (OpenSpec.ofChange iommuMapsWrong)

/-- 'caissonlaw7.IommuRuns': WHATEVER THE INPUT: true; the input reads as it did. -/
def iommuRunsSpec : ChangeSpec := { name := "iommuRuns", fn := fun _ => fun
  | [d1, d2, d3, d4] => { results := [.lit (.bool true)], args := [d1, d2, d3, d4] }
  | _ => none }
def iommuRunsRow : OpenClaim := { program := "ytpnhdiajiieonaa", sum := "3a74530f6735a63435d0a934b3bdd9da6df90d33b21ac378a2be7a7758999646", func := "caisson/caissonlaw7.IommuRuns", spec := "iommuRuns", unfollowed := true, recurses := true, plainKeys := false, apart := false }
def IommuRunsSaid : Prop := iommuRunsRow.holds Try.pinned (OpenSpec.ofChange iommuRunsSpec)

/-- ITS FALSE NEIGHBOUR: 'it returns false'. Refute it at one input. -/
def iommuRunsWrong : ChangeSpec := { name := "iommuRuns", fn := fun _ => fun
  | [d1, d2, d3, d4] => { results := [.lit (.bool false)], args := [d1, d2, d3, d4] }
  | _ => none }
def IommuRunsWrongFalsely : Prop := iommuRunsRow.holds Try.pinned (OpenSpec.ofChange iommuRunsWrong)

/-- 'caissonlaw7.IommuForms': WHATEVER THE INPUT: true; the input reads as it did. -/
def iommuFormsSpec : ChangeSpec := { name := "iommuForms", fn := fun _ => fun
  | [d1, d2] => { results := [.lit (.bool true)], args := [d1, d2] }
  | _ => none }
def iommuFormsRow : OpenClaim := { program := "ytpnhdiajiieonaa", sum := "3a74530f6735a63435d0a934b3bdd9da6df90d33b21ac378a2be7a7758999646", func := "caisson/caissonlaw7.IommuForms", spec := "iommuForms", unfollowed := true, recurses := true, plainKeys := false, apart := false }
def IommuFormsSaid : Prop := iommuFormsRow.holds Try.pinned (OpenSpec.ofChange iommuFormsSpec)

/-- ITS FALSE NEIGHBOUR: 'it returns false'. Refute it at one input. -/
def iommuFormsWrong : ChangeSpec := { name := "iommuForms", fn := fun _ => fun
  | [d1, d2] => { results := [.lit (.bool false)], args := [d1, d2] }
  | _ => none }
def IommuFormsWrongFalsely : Prop := iommuFormsRow.holds Try.pinned (OpenSpec.ofChange iommuFormsWrong)

/-- 'caissonlaw7.IommuApart': WHATEVER THE INPUT: true; the input reads as it did. -/
def iommuApartSpec : ChangeSpec := { name := "iommuApart", fn := fun _ => fun
  | [d] => { results := [.lit (.bool true)], args := [d] }
  | _ => none }
def iommuApartRow : OpenClaim := { program := "ytpnhdiajiieonaa", sum := "3a74530f6735a63435d0a934b3bdd9da6df90d33b21ac378a2be7a7758999646", func := "caisson/caissonlaw7.IommuApart", spec := "iommuApart", unfollowed := true, recurses := true, plainKeys := false, apart := false }
def IommuApartSaid : Prop := iommuApartRow.holds Try.pinned (OpenSpec.ofChange iommuApartSpec)

/-- ITS FALSE NEIGHBOUR: 'it returns false'. Refute it at one input. -/
def iommuApartWrong : ChangeSpec := { name := "iommuApart", fn := fun _ => fun
  | [d] => { results := [.lit (.bool false)], args := [d] }
  | _ => none }
def IommuApartWrongFalsely : Prop := iommuApartRow.holds Try.pinned (OpenSpec.ofChange iommuApartWrong)

/-- 'caissonlaw7.IommuClears': WHATEVER THE INPUT: true; the input reads as it did. -/
def iommuClearsSpec : ChangeSpec := { name := "iommuClears", fn := fun _ => fun
  | [d] => { results := [.lit (.bool true)], args := [d] }
  | _ => none }
def iommuClearsRow : OpenClaim := { program := "ytpnhdiajiieonaa", sum := "3a74530f6735a63435d0a934b3bdd9da6df90d33b21ac378a2be7a7758999646", func := "caisson/caissonlaw7.IommuClears", spec := "iommuClears", unfollowed := true, recurses := true, plainKeys := false, apart := false }
def IommuClearsSaid : Prop := iommuClearsRow.holds Try.pinned (OpenSpec.ofChange iommuClearsSpec)

/-- ITS FALSE NEIGHBOUR: 'it returns false'. Refute it at one input. -/
def iommuClearsWrong : ChangeSpec := { name := "iommuClears", fn := fun _ => fun
  | [d] => { results := [.lit (.bool false)], args := [d] }
  | _ => none }
def IommuClearsWrongFalsely : Prop := iommuClearsRow.holds Try.pinned (OpenSpec.ofChange iommuClearsWrong)

/-- 'caissonlaw7.Iommus': WHATEVER THE INPUT: true; the input reads as it did. -/
def iommusSpec : ChangeSpec := { name := "iommus", fn := fun _ => fun
  | [d1, d2, d3] => { results := [.lit (.bool true)], args := [d1, d2, d3] }
  | _ => none }
def iommusRow : OpenClaim := { program := "ytpnhdiajiieonaa", sum := "3a74530f6735a63435d0a934b3bdd9da6df90d33b21ac378a2be7a7758999646", func := "caisson/caissonlaw7.Iommus", spec := "iommus", unfollowed := true, recurses := true, plainKeys := false, apart := false }
def IommusSaid : Prop := iommusRow.holds Try.pinned (OpenSpec.ofChange iommusSpec)

/-- ITS FALSE NEIGHBOUR: 'it returns false'. Refute it at one input. -/
def iommusWrong : ChangeSpec := { name := "iommus", fn := fun _ => fun
  | [d1, d2, d3] => { results := [.lit (.bool false)], args := [d1, d2, d3] }
  | _ => none }
def IommusWrongFalsely : Prop := iommusRow.holds Try.pinned (OpenSpec.ofChange iommusWrong)

/- THE SECOND FORM. 'bulk': how many values and letters a reading holds, each counted each time it is reached (what is shared counts as often as it is met; a slice's spare places count too). A statement '..UptoSaid' is the law's where the arguments, and the package variables that the reading takes, are together of bulk at most 1048576: NARROWER than '..Said'. Prove '..Said' where nothing that the law and all that it calls make is longer than what came in: it says more and counts as full. Else prove '..UptoSaid'. A law counts once. -/
mutual
def uptoBulk {H : Type} : DataW H → Nat
  | .lit (.string bytes) => bytes.length + 1
  | .lit _ => 1
  | .nil => 1
  | .ptr d => uptoBulk d + 1
  | .slice elems spare => uptoBulkAll elems + uptoBulkAll spare + 1
  | .agg parts => uptoBulkAll parts + 1
  | .iface _ d => uptoBulk d + 1
  | .map entries => uptoBulkEntries entries + 1
  | .held _ => 1
def uptoBulkAll {H : Type} : List (DataW H) → Nat
  | [] => 0
  | d :: r => uptoBulk d + uptoBulkAll r
def uptoBulkEntries {H : Type} : List (Lit × DataW H) → Nat
  | [] => 0
  | x :: r => uptoBulkEntry x + uptoBulkEntries r
def uptoBulkEntry {H : Type} : Lit × DataW H → Nat
  | (.string bytes, d) => bytes.length + uptoBulk d + 1
  | (_, d) => uptoBulk d + 1
 end
def uptoSmall : (H : Type) → List (DataW H) → Bool := fun _ ds => decide (uptoBulkAll ds ≤ 1048576)
def OpenSpec.upto (s : _root_.Go.ChangeSpec) : _root_.Go.OpenSpec := { _root_.Go.OpenSpec.ofChange s with cond := some uptoSmall }

/-- 'caissonlaw3.Mems', WHERE WHAT IT READS IS OF BULK AT MOST 1048576: true; the input reads as it did. -/
def memsUptoRow : OpenClaim := { program := "ytpnhdiajiieonaa", sum := "3a74530f6735a63435d0a934b3bdd9da6df90d33b21ac378a2be7a7758999646", func := "caisson/caissonlaw3.Mems", spec := "mems", plainKeys := false, apart := false, narrowed := true }
def MemsUptoSaid : Prop := memsUptoRow.holds Try.pinned (OpenSpec.upto memsSpec)

/-- 'caissonlaw3.MemZeroes', WHERE WHAT IT READS IS OF BULK AT MOST 1048576: true; the input reads as it did. -/
def memZeroesUptoRow : OpenClaim := { program := "ytpnhdiajiieonaa", sum := "3a74530f6735a63435d0a934b3bdd9da6df90d33b21ac378a2be7a7758999646", func := "caisson/caissonlaw3.MemZeroes", spec := "memZeroes", plainKeys := false, apart := false, narrowed := true }
def MemZeroesUptoSaid : Prop := memZeroesUptoRow.holds Try.pinned (OpenSpec.upto memZeroesSpec)

/-- 'caissonlaw5.WalkFinds', WHERE WHAT IT READS IS OF BULK AT MOST 1048576: true; the input reads as it did. -/
def walkFindsUptoRow : OpenClaim := { program := "ytpnhdiajiieonaa", sum := "3a74530f6735a63435d0a934b3bdd9da6df90d33b21ac378a2be7a7758999646", func := "caisson/caissonlaw5.WalkFinds", spec := "walkFinds", unfollowed := true, recurses := true, plainKeys := false, apart := false, narrowed := true }
def WalkFindsUptoSaid : Prop := walkFindsUptoRow.holds Try.pinned (OpenSpec.upto walkFindsSpec)

/-- 'caissonlaw5.WalkForms', WHERE WHAT IT READS IS OF BULK AT MOST 1048576: true; the input reads as it did. -/
def walkFormsUptoRow : OpenClaim := { program := "ytpnhdiajiieonaa", sum := "3a74530f6735a63435d0a934b3bdd9da6df90d33b21ac378a2be7a7758999646", func := "caisson/caissonlaw5.WalkForms", spec := "walkForms", unfollowed := true, recurses := true, plainKeys := false, apart := false, narrowed := true }
def WalkFormsUptoSaid : Prop := walkFormsUptoRow.holds Try.pinned (OpenSpec.upto walkFormsSpec)

/-- 'caissonlaw5.Walks', WHERE WHAT IT READS IS OF BULK AT MOST 1048576: true; the input reads as it did. -/
def walksUptoRow : OpenClaim := { program := "ytpnhdiajiieonaa", sum := "3a74530f6735a63435d0a934b3bdd9da6df90d33b21ac378a2be7a7758999646", func := "caisson/caissonlaw5.Walks", spec := "walks", unfollowed := true, recurses := true, plainKeys := false, apart := false, narrowed := true }
def WalksUptoSaid : Prop := walksUptoRow.holds Try.pinned (OpenSpec.upto walksSpec)

/-- 'caissonlaw5.WalkStays', WHERE WHAT IT READS IS OF BULK AT MOST 1048576: true; the input reads as it did. -/
def walkStaysUptoRow : OpenClaim := { program := "ytpnhdiajiieonaa", sum := "3a74530f6735a63435d0a934b3bdd9da6df90d33b21ac378a2be7a7758999646", func := "caisson/caissonlaw5.WalkStays", spec := "walkStays", unfollowed := true, recurses := true, plainKeys := false, apart := false, narrowed := true }
def WalkStaysUptoSaid : Prop := walkStaysUptoRow.holds Try.pinned (OpenSpec.upto walkStaysSpec)

/-- 'caissonlaw12.Pendings', WHERE WHAT IT READS IS OF BULK AT MOST 1048576: true; the input reads as it did. -/
def pendingsUptoRow : OpenClaim := { program := "ytpnhdiajiieonaa", sum := "3a74530f6735a63435d0a934b3bdd9da6df90d33b21ac378a2be7a7758999646", func := "caisson/caissonlaw12.Pendings", spec := "pendings", unfollowed := true, recurses := true, plainKeys := false, apart := false, narrowed := true }
def PendingsUptoSaid : Prop := pendingsUptoRow.holds Try.pinned (OpenSpec.upto pendingsSpec)

/-- 'caissonlaw12.PendingOnce', WHERE WHAT IT READS IS OF BULK AT MOST 1048576: true; the input reads as it did. -/
def pendingOnceUptoRow : OpenClaim := { program := "ytpnhdiajiieonaa", sum := "3a74530f6735a63435d0a934b3bdd9da6df90d33b21ac378a2be7a7758999646", func := "caisson/caissonlaw12.PendingOnce", spec := "pendingOnce", unfollowed := true, recurses := true, plainKeys := false, apart := false, narrowed := true }
def PendingOnceUptoSaid : Prop := pendingOnceUptoRow.holds Try.pinned (OpenSpec.upto pendingOnceSpec)

/-- 'caissonlaw12.PendingMasked', WHERE WHAT IT READS IS OF BULK AT MOST 1048576: true; the input reads as it did. -/
def pendingMaskedUptoRow : OpenClaim := { program := "ytpnhdiajiieonaa", sum := "3a74530f6735a63435d0a934b3bdd9da6df90d33b21ac378a2be7a7758999646", func := "caisson/caissonlaw12.PendingMasked", spec := "pendingMasked", unfollowed := true, recurses := true, plainKeys := false, apart := false, narrowed := true }
def PendingMaskedUptoSaid : Prop := pendingMaskedUptoRow.holds Try.pinned (OpenSpec.upto pendingMaskedSpec)

/-- 'caissonlaw12.PendingForms', WHERE WHAT IT READS IS OF BULK AT MOST 1048576: true; the input reads as it did. -/
def pendingFormsUptoRow : OpenClaim := { program := "ytpnhdiajiieonaa", sum := "3a74530f6735a63435d0a934b3bdd9da6df90d33b21ac378a2be7a7758999646", func := "caisson/caissonlaw12.PendingForms", spec := "pendingForms", unfollowed := true, recurses := true, plainKeys := false, apart := false, narrowed := true }
def PendingFormsUptoSaid : Prop := pendingFormsUptoRow.holds Try.pinned (OpenSpec.upto pendingFormsSpec)

/-- 'caissonlaw12.PendingApart', WHERE WHAT IT READS IS OF BULK AT MOST 1048576: true; the input reads as it did. -/
def pendingApartUptoRow : OpenClaim := { program := "ytpnhdiajiieonaa", sum := "3a74530f6735a63435d0a934b3bdd9da6df90d33b21ac378a2be7a7758999646", func := "caisson/caissonlaw12.PendingApart", spec := "pendingApart", unfollowed := true, recurses := true, plainKeys := false, apart := false, narrowed := true }
def PendingApartUptoSaid : Prop := pendingApartUptoRow.holds Try.pinned (OpenSpec.upto pendingApartSpec)

/-- 'caissonlaw13.Units', WHERE WHAT IT READS IS OF BULK AT MOST 1048576: true; the input reads as it did. -/
def unitsUptoRow : OpenClaim := { program := "ytpnhdiajiieonaa", sum := "3a74530f6735a63435d0a934b3bdd9da6df90d33b21ac378a2be7a7758999646", func := "caisson/caissonlaw13.Units", spec := "units", unfollowed := true, recurses := true, plainKeys := false, apart := false, narrowed := true }
def UnitsUptoSaid : Prop := unitsUptoRow.holds Try.pinned (OpenSpec.upto unitsSpec)

/-- 'caissonlaw13.IrqWalks', WHERE WHAT IT READS IS OF BULK AT MOST 1048576: true; the input reads as it did. -/
def irqWalksUptoRow : OpenClaim := { program := "ytpnhdiajiieonaa", sum := "3a74530f6735a63435d0a934b3bdd9da6df90d33b21ac378a2be7a7758999646", func := "caisson/caissonlaw13.IrqWalks", spec := "irqWalks", unfollowed := true, recurses := true, plainKeys := false, apart := false, narrowed := true }
def IrqWalksUptoSaid : Prop := irqWalksUptoRow.holds Try.pinned (OpenSpec.upto irqWalksSpec)

/-- 'caissonlaw13.IrqForms', WHERE WHAT IT READS IS OF BULK AT MOST 1048576: true; the input reads as it did. -/
def irqFormsUptoRow : OpenClaim := { program := "ytpnhdiajiieonaa", sum := "3a74530f6735a63435d0a934b3bdd9da6df90d33b21ac378a2be7a7758999646", func := "caisson/caissonlaw13.IrqForms", spec := "irqForms", unfollowed := true, recurses := true, plainKeys := false, apart := false, narrowed := true }
def IrqFormsUptoSaid : Prop := irqFormsUptoRow.holds Try.pinned (OpenSpec.upto irqFormsSpec)

/-- 'caissonlaw13.IrqClears', WHERE WHAT IT READS IS OF BULK AT MOST 1048576: true; the input reads as it did. -/
def irqClearsUptoRow : OpenClaim := { program := "ytpnhdiajiieonaa", sum := "3a74530f6735a63435d0a934b3bdd9da6df90d33b21ac378a2be7a7758999646", func := "caisson/caissonlaw13.IrqClears", spec := "irqClears", unfollowed := true, recurses := true, plainKeys := false, apart := false, narrowed := true }
def IrqClearsUptoSaid : Prop := irqClearsUptoRow.holds Try.pinned (OpenSpec.upto irqClearsSpec)

/-- 'caissonlaw13.IrqApart', WHERE WHAT IT READS IS OF BULK AT MOST 1048576: true; the input reads as it did. -/
def irqApartUptoRow : OpenClaim := { program := "ytpnhdiajiieonaa", sum := "3a74530f6735a63435d0a934b3bdd9da6df90d33b21ac378a2be7a7758999646", func := "caisson/caissonlaw13.IrqApart", spec := "irqApart", unfollowed := true, recurses := true, plainKeys := false, apart := false, narrowed := true }
def IrqApartUptoSaid : Prop := irqApartUptoRow.holds Try.pinned (OpenSpec.upto irqApartSpec)

/-- 'caissonlaw7.IommuMaps', WHERE WHAT IT READS IS OF BULK AT MOST 1048576: true; the input reads as it did. -/
def iommuMapsUptoRow : OpenClaim := { program := "ytpnhdiajiieonaa", sum := "3a74530f6735a63435d0a934b3bdd9da6df90d33b21ac378a2be7a7758999646", func := "caisson/caissonlaw7.IommuMaps", spec := "iommuMaps", unfollowed := true, recurses := true, plainKeys := false, apart := false, narrowed := true }
def IommuMapsUptoSaid : Prop := iommuMapsUptoRow.holds Try.pinned (OpenSpec.upto iommuMapsSpec)

/-- 'caissonlaw7.IommuRuns', WHERE WHAT IT READS IS OF BULK AT MOST 1048576: true; the input reads as it did. -/
def iommuRunsUptoRow : OpenClaim := { program := "ytpnhdiajiieonaa", sum := "3a74530f6735a63435d0a934b3bdd9da6df90d33b21ac378a2be7a7758999646", func := "caisson/caissonlaw7.IommuRuns", spec := "iommuRuns", unfollowed := true, recurses := true, plainKeys := false, apart := false, narrowed := true }
def IommuRunsUptoSaid : Prop := iommuRunsUptoRow.holds Try.pinned (OpenSpec.upto iommuRunsSpec)

/-- 'caissonlaw7.IommuForms', WHERE WHAT IT READS IS OF BULK AT MOST 1048576: true; the input reads as it did. -/
def iommuFormsUptoRow : OpenClaim := { program := "ytpnhdiajiieonaa", sum := "3a74530f6735a63435d0a934b3bdd9da6df90d33b21ac378a2be7a7758999646", func := "caisson/caissonlaw7.IommuForms", spec := "iommuForms", unfollowed := true, recurses := true, plainKeys := false, apart := false, narrowed := true }
def IommuFormsUptoSaid : Prop := iommuFormsUptoRow.holds Try.pinned (OpenSpec.upto iommuFormsSpec)

/-- 'caissonlaw7.IommuApart', WHERE WHAT IT READS IS OF BULK AT MOST 1048576: true; the input reads as it did. -/
def iommuApartUptoRow : OpenClaim := { program := "ytpnhdiajiieonaa", sum := "3a74530f6735a63435d0a934b3bdd9da6df90d33b21ac378a2be7a7758999646", func := "caisson/caissonlaw7.IommuApart", spec := "iommuApart", unfollowed := true, recurses := true, plainKeys := false, apart := false, narrowed := true }
def IommuApartUptoSaid : Prop := iommuApartUptoRow.holds Try.pinned (OpenSpec.upto iommuApartSpec)

/-- 'caissonlaw7.IommuClears', WHERE WHAT IT READS IS OF BULK AT MOST 1048576: true; the input reads as it did. -/
def iommuClearsUptoRow : OpenClaim := { program := "ytpnhdiajiieonaa", sum := "3a74530f6735a63435d0a934b3bdd9da6df90d33b21ac378a2be7a7758999646", func := "caisson/caissonlaw7.IommuClears", spec := "iommuClears", unfollowed := true, recurses := true, plainKeys := false, apart := false, narrowed := true }
def IommuClearsUptoSaid : Prop := iommuClearsUptoRow.holds Try.pinned (OpenSpec.upto iommuClearsSpec)

/-- 'caissonlaw7.Iommus', WHERE WHAT IT READS IS OF BULK AT MOST 1048576: true; the input reads as it did. -/
def iommusUptoRow : OpenClaim := { program := "ytpnhdiajiieonaa", sum := "3a74530f6735a63435d0a934b3bdd9da6df90d33b21ac378a2be7a7758999646", func := "caisson/caissonlaw7.Iommus", spec := "iommus", unfollowed := true, recurses := true, plainKeys := false, apart := false, narrowed := true }
def IommusUptoSaid : Prop := iommusUptoRow.holds Try.pinned (OpenSpec.upto iommusSpec)

end Rows
end Go.Proofs.Ytpnhdiajiieonaa
