/- A slice of steps is opened. Printed by mkopens.py. -/
import Derived.Test.YtncbcjjdnlmjbaaPurg2
import Derived.Test.YtncbcjjdnlmjbaaOpenW
set_option linter.unusedSimpArgs false
set_option linter.unusedVariables false
namespace Go.Proofs.Ytncbcjjdnlmjbaa
open Go.RowKit Go.ChangeShapes Go.WideShapes

set_option maxRecDepth 100000 in
theorem trod_step {H : Type} {enc : TypeId × Value → H} {w : World} {base : Nat} {spare : Nat → Bool} {held : Bool} {m : Nat} {cs : List Value} {y : DataW H × List MemPlace} (h : DataW.trod enc Try.prog w base spare held m 59 cs = some y) : ∃ x : St, cs = stcell x ∧ x.data.size ≤ maxLen := by
  obtain ⟨ys, n', _, _, hl, hyl, hf⟩ := DataW.trod_struct Try.underlying59 h
  rw [show Try.prog.cellsOf 59 = 7 from by kernel_rfl] at hl
  match cs, hl with
  | [c0, c1, c2, c3, c4, c5, c6], _ =>
    have g0 := hf 0 _ rfl
    have g1 := hf 1 _ rfl
    have g2 := hf 2 _ rfl
    have g3 := hf 3 _ rfl
    have g4 := hf 4 _ rfl
    have g5 := hf 5 _ rfl
    have g6 := hf 6 _ rfl
    rw [List.getElem?_eq_getElem (by rw [hyl]; decide)] at g0 g1 g2 g3 g4 g5 g6
    obtain ⟨n0, e0, _⟩ := DataW.trod_int Try.underlying3 g0
    obtain ⟨n1, e1, _⟩ := DataW.trod_int Try.underlying3 g1
    obtain ⟨n2, e2, _⟩ := DataW.trod_int Try.underlying3 g2
    obtain ⟨n3, e3, _⟩ := DataW.trod_int Try.underlying3 g3
    obtain ⟨n4, e4, _⟩ := DataW.trod_int Try.underlying3 g4
    obtain ⟨n5, e5, _⟩ := DataW.trod_int Try.underlying3 g5
    obtain ⟨n6, e6, _, z6⟩ := DataW.trod_string Try.underlying9 g6
    have kI : Try.prog.cellsOf 3 = 1 := by kernel_rfl
    have kS : Try.prog.cellsOf 9 = 1 := by kernel_rfl
    change List.take (Try.prog.cellsOf 3) [c0, c1, c2, c3, c4, c5, c6] = _ at e0
    change List.take (Try.prog.cellsOf 3) [c1, c2, c3, c4, c5, c6] = _ at e1
    change List.take (Try.prog.cellsOf 3) [c2, c3, c4, c5, c6] = _ at e2
    change List.take (Try.prog.cellsOf 3) [c3, c4, c5, c6] = _ at e3
    change List.take (Try.prog.cellsOf 3) [c4, c5, c6] = _ at e4
    change List.take (Try.prog.cellsOf 3) [c5, c6] = _ at e5
    change List.take (Try.prog.cellsOf 9) [c6] = _ at e6
    rw [kI] at e0
    rw [kI] at e1
    rw [kI] at e2
    rw [kI] at e3
    rw [kI] at e4
    rw [kI] at e5
    rw [kS] at e6
    simp at e0 e1 e2 e3 e4 e5 e6
    subst e0; subst e1; subst e2; subst e3; subst e4; subst e5; subst e6
    exact ⟨⟨n0, n1, n2, n3, n4, n5, n6⟩, rfl, z6⟩
end Go.Proofs.Ytncbcjjdnlmjbaa
