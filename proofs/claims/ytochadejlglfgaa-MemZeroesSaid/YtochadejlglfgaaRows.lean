/-
  No cell of these rows narrows 'for every input' (looked for: loops, veiled, ifaces, maps, wideKeys, modest, calm, conditions, laid).
  DERIVED. THE GIVEN ROWS OF THIS SEAT. 11 by the template 'for every input the law returns true; each argument reads behind the call as it read before'; 0 by the template 'total and deterministic' (their statements: YtochadejlglfgaaTotals.lean).
  GIVEN WITH THE SEED: the statements are not yours to turn. If you find one false, say at which input.
  Laid BY PROGRAM, IN A SANDBOX (cutbox-rows.mjs): the forced cells as the released guide's own fill.sh prints them over the translation 01aea4fd9290ee62… (all of the seat's roots in one cut). By AI agents, Wed Nov 11 2026. No macro, syntax, notation, axiom, sorry.
-/
import Derived.Test.YtochadejlglfgaaChecked
import GoSem.Claim
import GoSem.ClaimJoined
import GoSem.ClaimMapViews
import Derived.JoinedTies
import Derived.KernelRfl
namespace Go.Proofs.Ytochadejlglfgaa
/- THE CELL 'sum', in the pinned program and in every row, IS THE sha256 OF THE DUMP (.gsa) THAT YtochadejlglfgaaProg.lean LOADS. Nothing in Lean hashes anything: it is a label: what it is worth is what the hold of that sum in a sandbox is worth. -/
noncomputable def Try.pinned : Pinned := { name := "ytochadejlglfgaa", sum := "01aea4fd9290ee62098a92109d832f19245837995c06b71435c8b0f5e5811282", checked := Try.checked }
namespace Rows
def none {H : Type} : Left H := { results := [], args := [] }

/-- 'caissonlaw8.Logs': WHATEVER THE INPUT: true; the input reads as it did. -/
def logsSpec : ChangeSpec := { name := "logs", fn := fun _ => fun
  | [d1, d2, d3] => { results := [.lit (.bool true)], args := [d1, d2, d3] }
  | _ => none }
def logsRow : OpenClaim := { program := "ytochadejlglfgaa", sum := "01aea4fd9290ee62098a92109d832f19245837995c06b71435c8b0f5e5811282", func := "caisson/caissonlaw8.Logs", spec := "logs", apart := false }
def LogsSaid : Prop := logsRow.holds Try.pinned (OpenSpec.ofChange logsSpec)

/-- ITS FALSE NEIGHBOUR: 'it returns false'. Refute it at one input. -/
def logsWrong : ChangeSpec := { name := "logs", fn := fun _ => fun
  | [d1, d2, d3] => { results := [.lit (.bool false)], args := [d1, d2, d3] }
  | _ => none }
def LogsWrongFalsely : Prop := logsRow.holds Try.pinned (OpenSpec.ofChange logsWrong)

/-- 'caissonlaw8.LogKeeps': WHATEVER THE INPUT: true; the input reads as it did. -/
def logKeepsSpec : ChangeSpec := { name := "logKeeps", fn := fun _ => fun
  | [d1, d2] => { results := [.lit (.bool true)], args := [d1, d2] }
  | _ => none }
def logKeepsRow : OpenClaim := { program := "ytochadejlglfgaa", sum := "01aea4fd9290ee62098a92109d832f19245837995c06b71435c8b0f5e5811282", func := "caisson/caissonlaw8.LogKeeps", spec := "logKeeps", apart := false }
def LogKeepsSaid : Prop := logKeepsRow.holds Try.pinned (OpenSpec.ofChange logKeepsSpec)

/-- ITS FALSE NEIGHBOUR: 'it returns false'. Refute it at one input. -/
def logKeepsWrong : ChangeSpec := { name := "logKeeps", fn := fun _ => fun
  | [d1, d2] => { results := [.lit (.bool false)], args := [d1, d2] }
  | _ => none }
def LogKeepsWrongFalsely : Prop := logKeepsRow.holds Try.pinned (OpenSpec.ofChange logKeepsWrong)

/-- 'caissonlaw11.Remaps': WHATEVER THE INPUT: true; the input reads as it did. -/
def remapsSpec : ChangeSpec := { name := "remaps", fn := fun _ => fun
  | [d1, d2] => { results := [.lit (.bool true)], args := [d1, d2] }
  | _ => none }
def remapsRow : OpenClaim := { program := "ytochadejlglfgaa", sum := "01aea4fd9290ee62098a92109d832f19245837995c06b71435c8b0f5e5811282", func := "caisson/caissonlaw11.Remaps", spec := "remaps", apart := false }
def RemapsSaid : Prop := remapsRow.holds Try.pinned (OpenSpec.ofChange remapsSpec)

/-- ITS FALSE NEIGHBOUR: 'it returns false'. Refute it at one input. -/
def remapsWrong : ChangeSpec := { name := "remaps", fn := fun _ => fun
  | [d1, d2] => { results := [.lit (.bool false)], args := [d1, d2] }
  | _ => none }
def RemapsWrongFalsely : Prop := remapsRow.holds Try.pinned (OpenSpec.ofChange remapsWrong)

/-- 'caissonlaw11.RemapLast': WHATEVER THE INPUT: true; the input reads as it did. -/
def remapLastSpec : ChangeSpec := { name := "remapLast", fn := fun _ => fun
  | [d] => { results := [.lit (.bool true)], args := [d] }
  | _ => none }
def remapLastRow : OpenClaim := { program := "ytochadejlglfgaa", sum := "01aea4fd9290ee62098a92109d832f19245837995c06b71435c8b0f5e5811282", func := "caisson/caissonlaw11.RemapLast", spec := "remapLast", apart := false }
def RemapLastSaid : Prop := remapLastRow.holds Try.pinned (OpenSpec.ofChange remapLastSpec)

/-- ITS FALSE NEIGHBOUR: 'it returns false'. Refute it at one input. -/
def remapLastWrong : ChangeSpec := { name := "remapLast", fn := fun _ => fun
  | [d] => { results := [.lit (.bool false)], args := [d] }
  | _ => none }
def RemapLastWrongFalsely : Prop := remapLastRow.holds Try.pinned (OpenSpec.ofChange remapLastWrong)

/-- 'caissonlaw11.RemapForms': WHATEVER THE INPUT: true; the input reads as it did. -/
def remapFormsSpec : ChangeSpec := { name := "remapForms", fn := fun _ => fun
  | [d1, d2] => { results := [.lit (.bool true)], args := [d1, d2] }
  | _ => none }
def remapFormsRow : OpenClaim := { program := "ytochadejlglfgaa", sum := "01aea4fd9290ee62098a92109d832f19245837995c06b71435c8b0f5e5811282", func := "caisson/caissonlaw11.RemapForms", spec := "remapForms", apart := false }
def RemapFormsSaid : Prop := remapFormsRow.holds Try.pinned (OpenSpec.ofChange remapFormsSpec)

/-- ITS FALSE NEIGHBOUR: 'it returns false'. Refute it at one input. -/
def remapFormsWrong : ChangeSpec := { name := "remapForms", fn := fun _ => fun
  | [d1, d2] => { results := [.lit (.bool false)], args := [d1, d2] }
  | _ => none }
def RemapFormsWrongFalsely : Prop := remapFormsRow.holds Try.pinned (OpenSpec.ofChange remapFormsWrong)

/-- 'caissonlaw11.RemapClears': WHATEVER THE INPUT: true; the input reads as it did. -/
def remapClearsSpec : ChangeSpec := { name := "remapClears", fn := fun _ => fun
  | [d1, d2] => { results := [.lit (.bool true)], args := [d1, d2] }
  | _ => none }
def remapClearsRow : OpenClaim := { program := "ytochadejlglfgaa", sum := "01aea4fd9290ee62098a92109d832f19245837995c06b71435c8b0f5e5811282", func := "caisson/caissonlaw11.RemapClears", spec := "remapClears", apart := false }
def RemapClearsSaid : Prop := remapClearsRow.holds Try.pinned (OpenSpec.ofChange remapClearsSpec)

/-- ITS FALSE NEIGHBOUR: 'it returns false'. Refute it at one input. -/
def remapClearsWrong : ChangeSpec := { name := "remapClears", fn := fun _ => fun
  | [d1, d2] => { results := [.lit (.bool false)], args := [d1, d2] }
  | _ => none }
def RemapClearsWrongFalsely : Prop := remapClearsRow.holds Try.pinned (OpenSpec.ofChange remapClearsWrong)

/-- 'caissonlaw3.Mems': WHATEVER THE INPUT: true; the input reads as it did. -/
def memsSpec : ChangeSpec := { name := "mems", fn := fun _ => fun
  | [d1, d2] => { results := [.lit (.bool true)], args := [d1, d2] }
  | _ => none }
def memsRow : OpenClaim := { program := "ytochadejlglfgaa", sum := "01aea4fd9290ee62098a92109d832f19245837995c06b71435c8b0f5e5811282", func := "caisson/caissonlaw3.Mems", spec := "mems", apart := false }
def MemsSaid : Prop := memsRow.holds Try.pinned (OpenSpec.ofChange memsSpec)

/-- ITS FALSE NEIGHBOUR: 'it returns false'. Refute it at one input. -/
def memsWrong : ChangeSpec := { name := "mems", fn := fun _ => fun
  | [d1, d2] => { results := [.lit (.bool false)], args := [d1, d2] }
  | _ => none }
def MemsWrongFalsely : Prop := memsRow.holds Try.pinned (OpenSpec.ofChange memsWrong)

/-- 'caissonlaw3.MemBack': WHATEVER THE INPUT: true; the input reads as it did. -/
def memBackSpec : ChangeSpec := { name := "memBack", fn := fun _ => fun
  | [d1, d2, d3] => { results := [.lit (.bool true)], args := [d1, d2, d3] }
  | _ => none }
def memBackRow : OpenClaim := { program := "ytochadejlglfgaa", sum := "01aea4fd9290ee62098a92109d832f19245837995c06b71435c8b0f5e5811282", func := "caisson/caissonlaw3.MemBack", spec := "memBack", apart := false }
def MemBackSaid : Prop := memBackRow.holds Try.pinned (OpenSpec.ofChange memBackSpec)

/-- ITS FALSE NEIGHBOUR: 'it returns false'. Refute it at one input. -/
def memBackWrong : ChangeSpec := { name := "memBack", fn := fun _ => fun
  | [d1, d2, d3] => { results := [.lit (.bool false)], args := [d1, d2, d3] }
  | _ => none }
def MemBackWrongFalsely : Prop := memBackRow.holds Try.pinned (OpenSpec.ofChange memBackWrong)

/-- 'caissonlaw3.MemWords': WHATEVER THE INPUT: true; the input reads as it did. -/
def memWordsSpec : ChangeSpec := { name := "memWords", fn := fun _ => fun
  | [d1, d2] => { results := [.lit (.bool true)], args := [d1, d2] }
  | _ => none }
def memWordsRow : OpenClaim := { program := "ytochadejlglfgaa", sum := "01aea4fd9290ee62098a92109d832f19245837995c06b71435c8b0f5e5811282", func := "caisson/caissonlaw3.MemWords", spec := "memWords", apart := false }
def MemWordsSaid : Prop := memWordsRow.holds Try.pinned (OpenSpec.ofChange memWordsSpec)

/-- ITS FALSE NEIGHBOUR: 'it returns false'. Refute it at one input. -/
def memWordsWrong : ChangeSpec := { name := "memWords", fn := fun _ => fun
  | [d1, d2] => { results := [.lit (.bool false)], args := [d1, d2] }
  | _ => none }
def MemWordsWrongFalsely : Prop := memWordsRow.holds Try.pinned (OpenSpec.ofChange memWordsWrong)

/-- 'caissonlaw3.MemForms': WHATEVER THE INPUT: true; the input reads as it did. -/
def memFormsSpec : ChangeSpec := { name := "memForms", fn := fun _ => fun
  | [d1, d2] => { results := [.lit (.bool true)], args := [d1, d2] }
  | _ => none }
def memFormsRow : OpenClaim := { program := "ytochadejlglfgaa", sum := "01aea4fd9290ee62098a92109d832f19245837995c06b71435c8b0f5e5811282", func := "caisson/caissonlaw3.MemForms", spec := "memForms", apart := false }
def MemFormsSaid : Prop := memFormsRow.holds Try.pinned (OpenSpec.ofChange memFormsSpec)

/-- ITS FALSE NEIGHBOUR: 'it returns false'. Refute it at one input. -/
def memFormsWrong : ChangeSpec := { name := "memForms", fn := fun _ => fun
  | [d1, d2] => { results := [.lit (.bool false)], args := [d1, d2] }
  | _ => none }
def MemFormsWrongFalsely : Prop := memFormsRow.holds Try.pinned (OpenSpec.ofChange memFormsWrong)

/-- 'caissonlaw3.MemZeroes': WHATEVER THE INPUT: true; the input reads as it did. -/
def memZeroesSpec : ChangeSpec := { name := "memZeroes", fn := fun _ => fun
  | [d1, d2] => { results := [.lit (.bool true)], args := [d1, d2] }
  | _ => none }
def memZeroesRow : OpenClaim := { program := "ytochadejlglfgaa", sum := "01aea4fd9290ee62098a92109d832f19245837995c06b71435c8b0f5e5811282", func := "caisson/caissonlaw3.MemZeroes", spec := "memZeroes", apart := false }
def MemZeroesSaid : Prop := memZeroesRow.holds Try.pinned (OpenSpec.ofChange memZeroesSpec)

/-- ITS FALSE NEIGHBOUR: 'it returns false'. Refute it at one input. -/
def memZeroesWrong : ChangeSpec := { name := "memZeroes", fn := fun _ => fun
  | [d1, d2] => { results := [.lit (.bool false)], args := [d1, d2] }
  | _ => none }
def MemZeroesWrongFalsely : Prop := memZeroesRow.holds Try.pinned (OpenSpec.ofChange memZeroesWrong)

/- THE SECOND FORM. 'bulk': how many values and letters a reading holds, each counted each time it is reached (what is shared counts as often as it is met; a slice's spare places count too). A statement '..UptoSaid' is the law's where the arguments, and the package variables that the reading takes, are together of bulk at most 1048576: NARROWER than '..Said'. Prove '..Said' where nothing that the law and all that it calls make is longer than what came in: it says more and counts as full. Else prove '..UptoSaid'. A law counts once. -/
mutual
def uptoBulk {H : Type} : DataW H → Nat
  | .lit (.string bytes) => bytes.length + 1
  | .lit _ => 1
  | .nil => 1
  | .ptr d => uptoBulk d + 1
  | .slice elems spare => uptoBulkAll elems + uptoBulkAll spare + 1
  | .agg parts => uptoBulkAll parts + 1
  | .iface _ d => uptoBulk d + 1
  | .map entries => uptoBulkEntries entries + 1
  | .held _ => 1
def uptoBulkAll {H : Type} : List (DataW H) → Nat
  | [] => 0
  | d :: r => uptoBulk d + uptoBulkAll r
def uptoBulkEntries {H : Type} : List (Lit × DataW H) → Nat
  | [] => 0
  | x :: r => uptoBulkEntry x + uptoBulkEntries r
def uptoBulkEntry {H : Type} : Lit × DataW H → Nat
  | (.string bytes, d) => bytes.length + uptoBulk d + 1
  | (_, d) => uptoBulk d + 1
 end
def uptoSmall : (H : Type) → List (DataW H) → Bool := fun _ ds => decide (uptoBulkAll ds ≤ 1048576)
def OpenSpec.upto (s : _root_.Go.ChangeSpec) : _root_.Go.OpenSpec := { _root_.Go.OpenSpec.ofChange s with cond := some uptoSmall }

/-- 'caissonlaw8.Logs', WHERE WHAT IT READS IS OF BULK AT MOST 1048576: true; the input reads as it did. -/
def logsUptoRow : OpenClaim := { program := "ytochadejlglfgaa", sum := "01aea4fd9290ee62098a92109d832f19245837995c06b71435c8b0f5e5811282", func := "caisson/caissonlaw8.Logs", spec := "logs", apart := false, narrowed := true }
def LogsUptoSaid : Prop := logsUptoRow.holds Try.pinned (OpenSpec.upto logsSpec)

/-- 'caissonlaw8.LogKeeps', WHERE WHAT IT READS IS OF BULK AT MOST 1048576: true; the input reads as it did. -/
def logKeepsUptoRow : OpenClaim := { program := "ytochadejlglfgaa", sum := "01aea4fd9290ee62098a92109d832f19245837995c06b71435c8b0f5e5811282", func := "caisson/caissonlaw8.LogKeeps", spec := "logKeeps", apart := false, narrowed := true }
def LogKeepsUptoSaid : Prop := logKeepsUptoRow.holds Try.pinned (OpenSpec.upto logKeepsSpec)

/-- 'caissonlaw11.Remaps', WHERE WHAT IT READS IS OF BULK AT MOST 1048576: true; the input reads as it did. -/
def remapsUptoRow : OpenClaim := { program := "ytochadejlglfgaa", sum := "01aea4fd9290ee62098a92109d832f19245837995c06b71435c8b0f5e5811282", func := "caisson/caissonlaw11.Remaps", spec := "remaps", apart := false, narrowed := true }
def RemapsUptoSaid : Prop := remapsUptoRow.holds Try.pinned (OpenSpec.upto remapsSpec)

/-- 'caissonlaw11.RemapLast', WHERE WHAT IT READS IS OF BULK AT MOST 1048576: true; the input reads as it did. -/
def remapLastUptoRow : OpenClaim := { program := "ytochadejlglfgaa", sum := "01aea4fd9290ee62098a92109d832f19245837995c06b71435c8b0f5e5811282", func := "caisson/caissonlaw11.RemapLast", spec := "remapLast", apart := false, narrowed := true }
def RemapLastUptoSaid : Prop := remapLastUptoRow.holds Try.pinned (OpenSpec.upto remapLastSpec)

/-- 'caissonlaw11.RemapForms', WHERE WHAT IT READS IS OF BULK AT MOST 1048576: true; the input reads as it did. -/
def remapFormsUptoRow : OpenClaim := { program := "ytochadejlglfgaa", sum := "01aea4fd9290ee62098a92109d832f19245837995c06b71435c8b0f5e5811282", func := "caisson/caissonlaw11.RemapForms", spec := "remapForms", apart := false, narrowed := true }
def RemapFormsUptoSaid : Prop := remapFormsUptoRow.holds Try.pinned (OpenSpec.upto remapFormsSpec)

/-- 'caissonlaw11.RemapClears', WHERE WHAT IT READS IS OF BULK AT MOST 1048576: true; the input reads as it did. -/
def remapClearsUptoRow : OpenClaim := { program := "ytochadejlglfgaa", sum := "01aea4fd9290ee62098a92109d832f19245837995c06b71435c8b0f5e5811282", func := "caisson/caissonlaw11.RemapClears", spec := "remapClears", apart := false, narrowed := true }
def RemapClearsUptoSaid : Prop := remapClearsUptoRow.holds Try.pinned (OpenSpec.upto remapClearsSpec)

/-- 'caissonlaw3.Mems', WHERE WHAT IT READS IS OF BULK AT MOST 1048576: true; the input reads as it did. -/
def memsUptoRow : OpenClaim := { program := "ytochadejlglfgaa", sum := "01aea4fd9290ee62098a92109d832f19245837995c06b71435c8b0f5e5811282", func := "caisson/caissonlaw3.Mems", spec := "mems", apart := false, narrowed := true }
def MemsUptoSaid : Prop := memsUptoRow.holds Try.pinned (OpenSpec.upto memsSpec)

/-- 'caissonlaw3.MemBack', WHERE WHAT IT READS IS OF BULK AT MOST 1048576: true; the input reads as it did. -/
def memBackUptoRow : OpenClaim := { program := "ytochadejlglfgaa", sum := "01aea4fd9290ee62098a92109d832f19245837995c06b71435c8b0f5e5811282", func := "caisson/caissonlaw3.MemBack", spec := "memBack", apart := false, narrowed := true }
def MemBackUptoSaid : Prop := memBackUptoRow.holds Try.pinned (OpenSpec.upto memBackSpec)

/-- 'caissonlaw3.MemWords', WHERE WHAT IT READS IS OF BULK AT MOST 1048576: true; the input reads as it did. -/
def memWordsUptoRow : OpenClaim := { program := "ytochadejlglfgaa", sum := "01aea4fd9290ee62098a92109d832f19245837995c06b71435c8b0f5e5811282", func := "caisson/caissonlaw3.MemWords", spec := "memWords", apart := false, narrowed := true }
def MemWordsUptoSaid : Prop := memWordsUptoRow.holds Try.pinned (OpenSpec.upto memWordsSpec)

/-- 'caissonlaw3.MemForms', WHERE WHAT IT READS IS OF BULK AT MOST 1048576: true; the input reads as it did. -/
def memFormsUptoRow : OpenClaim := { program := "ytochadejlglfgaa", sum := "01aea4fd9290ee62098a92109d832f19245837995c06b71435c8b0f5e5811282", func := "caisson/caissonlaw3.MemForms", spec := "memForms", apart := false, narrowed := true }
def MemFormsUptoSaid : Prop := memFormsUptoRow.holds Try.pinned (OpenSpec.upto memFormsSpec)

/-- 'caissonlaw3.MemZeroes', WHERE WHAT IT READS IS OF BULK AT MOST 1048576: true; the input reads as it did. -/
def memZeroesUptoRow : OpenClaim := { program := "ytochadejlglfgaa", sum := "01aea4fd9290ee62098a92109d832f19245837995c06b71435c8b0f5e5811282", func := "caisson/caissonlaw3.MemZeroes", spec := "memZeroes", apart := false, narrowed := true }
def MemZeroesUptoSaid : Prop := memZeroesUptoRow.holds Try.pinned (OpenSpec.upto memZeroesSpec)

end Rows
end Go.Proofs.Ytochadejlglfgaa
