/- The Iommu's New. Printed by mkiom9.py. -/
import Derived.Test.YtnallfehffhaeaaIomL
set_option linter.unusedSimpArgs false
set_option linter.unusedVariables false
namespace Go.Proofs.Ytnallfehffhaeaa
open Go.RowKit

theorem PoolsP.ok {bs : List UInt8} {L : Pls} (h : PoolsP bs L) (hl : bs.length ≤ 4096) {nf : Int} (hn : nf = (bs.length : Int) / 64) (k : Nat) : PlsOk nf (L.take k) := by
  obtain ⟨h1, _, h3, h4, h5⟩ := h
  refine ⟨by rw [List.length_take]; omega, fun P hP => ?_, by omega⟩
  have hm := List.mem_of_mem_take hP
  have hb := h5 P hm
  unfold badP at hb
  simp only [Bool.or_eq_false_iff, decide_eq_false_iff_not] at hb
  refine ⟨by omega, by omega, fun f hf => ?_⟩
  have := h1 f (List.mem_flatten.2 ⟨P, hm, hf⟩)
  unfold frameP at this
  exact ⟨this.1, by rw [hn]; exact this.2⟩
set_option maxRecDepth 100000 in
theorem iNew_nil (v : Value) (w : World) : Calls Try.prog 16 #[.pointer none, v] w fun e w' => e = .returned (.tuple #[.pointer none, .int .i64 1]) ∧ w = w' := by
  go_enter Try.func16, Try.ntmps16
  go_wp2
  go_ret2
  exact ⟨rfl, rfl⟩
set_option maxRecDepth 100000 in
theorem iNew_no (p r : Nat) (bs : List UInt8) (v : Value) (L : Pls) (w : World) (hM : MemAt w 93 p r bs) (hl : bs.length ≤ 4096) (h : RdLL w v L) (hn : ¬ PoolsP bs L) :
    Calls Try.prog 16 #[.pointer (some ⟨p, 0, none⟩), v] w fun e w' => e = .returned (.tuple #[.pointer none, .int .i64 700]) ∧ Chg (fun _ => False) w w' := by
  have HP := Lib.hid (pMay p r bs v L w hM hl h)
  have HN := Lib.hid hn
  clear hM hl h hn
  go_enter Try.func16, Try.ntmps16
  go_wp2_with fail
  refine HP.out.mono ?_
  rintro e w1 ⟨⟨b, rfl, hb⟩, hC⟩
  have HC := Lib.hid hC
  cases b with
  | true => exact absurd (hb.1 rfl) HN.out
  | false =>
    clear hb hC
    go_wp2_with fail
    go_ret2
    exact ⟨rfl, HC.out⟩
end Go.Proofs.Ytnallfehffhaeaa
