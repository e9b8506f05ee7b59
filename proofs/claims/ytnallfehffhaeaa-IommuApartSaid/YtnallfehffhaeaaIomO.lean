/- What is read is not the memory's row. -/
import Derived.Test.YtnallfehffhaeaaIomM
set_option linter.unusedSimpArgs false
set_option linter.unusedVariables false
namespace Go.Proofs.Ytnallfehffhaeaa
open Go.RowKit

theorem mem_cell {w : World} {T p r : Nat} {bs : List UInt8} (hM : MemAt w T p r bs) {j : Nat} {v : Value} (h : w.cell? ⟨r, j, none⟩ = some v) : ∃ n, v = .int .u8 n := by
  rw [blk_cell hM.2 j] at h
  simp only [List.getElem?_toArray, List.getElem?_map] at h
  cases hb : bs[j]? with
  | none => rw [hb] at h; cases h
  | some b => rw [hb] at h; simp only [Option.map_some, Option.some.injEq] at h; exact ⟨_, h.symm⟩
theorem RdN.keepM {w w' : World} {T p r : Nat} {bs : List UInt8} {F : Value} {P : List Int} (h : RdN w F P) (hM : MemAt w T p r bs) (hC : Chg (fun k => k = r) w w') : RdN w' F P := by
  obtain ⟨hm, A, c, rfl, h⟩ := h
  refine ⟨hm, A, c, rfl, fun j hj => ?_⟩
  obtain ⟨g, o, rfl, h0⟩ := h j hj
  exact ⟨g, o, rfl, hC.cell h0 (fun e => by
    have e' : g = r := e
    subst e'
    obtain ⟨n, hn⟩ := mem_cell hM h0
    cases hn)⟩
theorem RdLL.keepM {w w' : World} {T p r : Nat} {bs : List UInt8} {v : Value} {L : Pls} (h : RdLL w v L) (hM : MemAt w T p r bs) (hC : Chg (fun k => k = r) w w') : RdLL w' v L := by
  obtain ⟨hm, A, c, rfl, h⟩ := h
  refine ⟨hm, A, c, rfl, fun j hj => ?_⟩
  obtain ⟨g, o, F, rfl, h0, h1⟩ := h j hj
  refine ⟨g, o, F, rfl, hC.cell h0 (fun e => ?_), h1.keepM hM hC⟩
  have e' : g = r := e
  subst e'
  obtain ⟨n, hn⟩ := mem_cell hM h0
  obtain ⟨_, A', c', hF, _⟩ := h1
  rw [hF] at hn
  cases hn
end Go.Proofs.Ytnallfehffhaeaa
