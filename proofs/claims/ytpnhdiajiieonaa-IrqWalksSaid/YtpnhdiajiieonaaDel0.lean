/- Elements that go: the closures; a tail that is cleared. -/
import Derived.Test.YtpnhdiajiieonaaRaise2
set_option linter.unusedSimpArgs false
set_option linter.unusedVariables false
namespace Go.Proofs.Ytpnhdiajiieonaa
open Go.RowKit

theorem kClear1 (k b : Nat) (d : Int) (w : World) (hc : w.cell? ⟨b, 0, none⟩ = some (.int .i64 d)) :
    Calls Try.prog 100 #[.agg #[.int .i64 ((k : Int) / 8), .int .i64 ((k : Int) % 8)], .pointer (some ⟨b, 0, none⟩)] w fun e w' => e = .returned (.bool (decide ((k : Int) / 8 = d))) ∧ Chg (fun _ => False) w w' := by
  have hb := World.block_lt_of_cell? w _ hc
  simp only at hb
  generalize (k : Int) / 8 = x at *
  generalize (k : Int) % 8 = y at *
  go_enter Try.func100, Try.ntmps100
  go_wp2
  go_ret
  exact ⟨ret_bool (by rw [Bool.eq_iff_iff]; simp), (Chg.refl _ _).alloc _⟩
theorem kDrop1 (k b b2 : Nat) (d v : Int) (w : World) (hc : w.cell? ⟨b, 0, none⟩ = some (.int .i64 d)) (hc2 : w.cell? ⟨b2, 0, none⟩ = some (.int .i64 v)) :
    Calls Try.prog 153 #[.agg #[.int .i64 ((k : Int) / 8), .int .i64 ((k : Int) % 8)], .pointer (some ⟨b, 0, none⟩), .pointer (some ⟨b2, 0, none⟩)] w fun e w' => e = .returned (.bool (decide ((k : Int) / 8 = d) && decide ((k : Int) % 8 = v))) ∧ Chg (fun _ => False) w w' := by
  have hb := World.block_lt_of_cell? w _ hc
  have hb2 := World.block_lt_of_cell? w _ hc2
  simp only at hb hb2
  generalize (k : Int) / 8 = x at *
  generalize (k : Int) % 8 = y at *
  by_cases e1 : x = d
  · by_cases e2 : y = v
    · go_enter Try.func153, Try.ntmps153
      go_wp2
      go_ret
      exact ⟨ret_bool (by simp [e1, e2]), (Chg.refl _ _).alloc _⟩
    · go_enter Try.func153, Try.ntmps153
      go_wp2
      go_ret
      exact ⟨ret_bool (by simp [e1, e2]), (Chg.refl _ _).alloc _⟩
  · go_enter Try.func153, Try.ntmps153
    go_wp2
    go_ret
    exact ⟨ret_bool (by simp [e1]), (Chg.refl _ _).alloc _⟩
theorem setCells_chg (g : Nat) (w : World) (vs : List Value) (o : Nat) : Chg (fun k => k = g) w (w.setCells g o vs) := Chg.setCells vs (Chg.refl _ _) o
/-- The first k elements stay when what stands behind them is laid over. -/
theorem OwnC.front {α : Type} {cells : α → List Value} {C e : Nat} {w : World} {base g n cap : Nat} {L : List α} (h : OwnC cells C e w base (.slice (some ⟨g, 0, none⟩) n cap) L) (hc : ∀ x, (cells x).length = C) {k : Nat} (hk : k ≤ L.length) (zs : List Value) :
    OwnC cells C e (w.setCells g (k * C) zs) base (.slice (some ⟨g, 0, none⟩) k cap) (L.take k) := by
  have ht := h.take hc hk
  have hl : (L.take k).length = k := by simp; omega
  rcases ht.2 with ⟨hv, _⟩ | ⟨g', cap', cur, hv, hb, hg, h1, h2, h3, h4⟩
  · cases hv
  · injection hv with e1 e2 e3; injection e1 with e1; injection e1 with e1
    subst e1 e3
    refine ⟨ht.1, .inr ⟨g, cap, wl cur (k * C) zs, by rw [hl], hb, blk_setCells _ hg _, h1, h2, by rw [wl_size, h3], ?_⟩⟩
    rw [← h4, hl]
    apply List.ext_getElem?
    intro i
    rw [List.getElem?_take, List.getElem?_take]
    by_cases hi : i < k * C
    · rw [if_pos hi, if_pos hi, Array.getElem?_toList, Array.getElem?_toList, wl_out _ _ _ _ (.inl hi)]
    · rw [if_neg hi, if_neg hi]
theorem zeroOne (W : World) : (zeroValue 159).run Try.prog W = .ok (.agg #[.int .i64 0, .int .i64 0]) W := by kernel_rfl
theorem clear_tail {w : World} {base g n cap : Nat} {L : List Nat} (h : KRow w base (.slice (some ⟨g, 0, none⟩) n cap) L) (i m c : Nat) (hi : i + m = L.length) (hm : 0 < m) (ty : TypeId) :
    ∃ W', (Builtin.clear_ #[157] ty #[.slice (some ⟨g, i * 2, none⟩) m c]).run Try.prog w = .ok (.tuple #[]) W' ∧ KRow W' base (.slice (some ⟨g, 0, none⟩) i cap) (L.take i) ∧ Chg (fun k => k = g) w W' := by
  obtain ⟨q, rfl⟩ : ∃ q, m = q + 1 := ⟨m - 1, by omega⟩
  have hcell : ∀ j, j < (q + 1) * 2 → (w.cell? ⟨g, i * 2 + j, none⟩).isSome = true := fun j hj => by
    have := h.cell kc_len (i := i + j / 2) (by omega) (show j % 2 < 2 by omega)
    rw [show (i + j / 2) * 2 + j % 2 = i * 2 + j from by omega] at this
    rw [this]
    rcases (show j % 2 = 0 ∨ j % 2 = 1 by omega) with e | e <;> rw [e] <;> rfl
  have hzc : ((Builtin.zeroCells (Value.agg #[.int .i64 0, .int .i64 0]).cells (q + 1)).toList).length = (q + 1) * 2 := by
    simp [Builtin.zeroCells, Value.cells]
  have h1 : ∀ v ∈ (Builtin.zeroCells (Value.agg #[.int .i64 0, .int .i64 0]).cells (q + 1)).toList, v.oneCell' = true := by
    intro v hv
    obtain ⟨j, hj, rfl⟩ := List.mem_iff_getElem.1 hv
    simp [Builtin.zeroCells, Value.cells]
    rcases (show j % 2 = 0 ∨ j % 2 = 1 by omega) with e | e <;> simp [e] <;> rfl
  have hst := run_storeCells_cells (P := Try.prog) g (i * 2) _ 0 w (by rw [hzc]; intro j hj; rw [Nat.add_zero]; exact hcell j hj) (fun j _ => by rw [Nat.add_zero]; exact h.free _) h1
  simp only [Nat.add_zero] at hst
  refine ⟨w.setCells g (i * 2) (Builtin.zeroCells (Value.agg #[.int .i64 0, .int .i64 0]).cells (q + 1)).toList, ?_, h.front kc_len (by omega) _, setCells_chg _ _ _ _⟩
  simp [Builtin.clear_, run_underlying Try.underlying157, zeroOne, hst, Result.andThen]
end Go.Proofs.Ytpnhdiajiieonaa
