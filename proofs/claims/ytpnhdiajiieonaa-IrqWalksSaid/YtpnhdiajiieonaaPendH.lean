/- Those that wait, as a heap: its methods. -/
import Derived.Test.YtpnhdiajiieonaaOwn
import Derived.Test.YtpnhdiajiieonaaHeap
import Derived.BigRegion
import Derived.Deep.AppendLies
import Derived.RegionTactic
set_option linter.unusedSimpArgs false
set_option linter.unusedVariables false
namespace Go.Proofs.Ytpnhdiajiieonaa
open Go.RowKit

/-- The cells of a device's vector that waits. -/
def kc (k : Nat) : List Value := [.int .i64 ((k : Int) / 8), .int .i64 ((k : Int) % 8)]
theorem kc_len (k : Nat) : (kc k).length = 2 := rfl
abbrev KRow (w : World) (base : Nat) (v : Value) (L : List Nat) : Prop := OwnC kc 2 159 w base v L
theorem ret_bool {a b : Bool} (h : a = b) : Ending.returned (.bool a) = .returned (.bool b) := by rw [h]
theorem ret_i64 {a b : Int} (h : a = b) : Ending.returned (.int .i64 a) = .returned (.int .i64 b) := by rw [h]

theorem kLen (a : Option Addr) (n cap : Nat) (w : World) (hn : n ≤ 1000000) : Calls Try.prog 96 #[.slice a n cap] w fun e w' => e = .returned (.int .i64 n) ∧ w = w' := by
  go_enter Try.func96, Try.ntmps96
  go_wp2
  go_ret
  exact ⟨rfl, rfl⟩
set_option maxHeartbeats 1000000 in
theorem kLess (g n cap base : Nat) (L : List Nat) (i j : Nat) (w : World) (h : KRow w base (.slice (some ⟨g, 0, none⟩) n cap) L) (hi : i < L.length) (hj : j < L.length) (hn : L.length ≤ 1000) (hk : ∀ k ∈ L, k < 32) :
    Calls Try.prog 192 #[.slice (some ⟨g, 0, none⟩) n cap, .int .i64 i, .int .i64 j] w fun e w' => e = .returned (.bool (decide (gk L i < gk L j))) ∧ ∃ q, w' = w.drewN q := by
  have A0 : w.cell? ⟨g, i * 2, none⟩ = some (.int .i64 ((L[i] : Int) / 8)) := h.cell kc_len hi (show 0 < 2 by omega)
  have A1 : w.cell? ⟨g, i * 2 + 1, none⟩ = some (.int .i64 ((L[i] : Int) % 8)) := h.cell kc_len hi (show 1 < 2 by omega)
  have B0 : w.cell? ⟨g, j * 2, none⟩ = some (.int .i64 ((L[j] : Int) / 8)) := h.cell kc_len hj (show 0 < 2 by omega)
  have B1 : w.cell? ⟨g, j * 2 + 1, none⟩ = some (.int .i64 ((L[j] : Int) % 8)) := h.cell kc_len hj (show 1 < 2 by omega)
  have hnl := h.len
  have k1 := hk _ (List.getElem_mem hi)
  have k2 := hk _ (List.getElem_mem hj)
  have key : decide (((L[i] : Int) / 8) * 8 + ((L[i] : Int) % 8) < ((L[j] : Int) / 8) * 8 + ((L[j] : Int) % 8)) = decide (gk L i < gk L j) := by
    rw [gk_get hi, gk_get hj]
    rw [Bool.eq_iff_iff]; simp only [decide_eq_true_eq]; omega
  have a0 : (0 : Int) ≤ ((L[i] : Int) / 8) := by omega
  have a1 : ((L[i] : Int) / 8) ≤ 3 := by omega
  have a2 : (0 : Int) ≤ ((L[i] : Int) % 8) := by omega
  have a3 : ((L[i] : Int) % 8) ≤ 7 := by omega
  have b0 : (0 : Int) ≤ ((L[j] : Int) / 8) := by omega
  have b1 : ((L[j] : Int) / 8) ≤ 3 := by omega
  have b2 : (0 : Int) ≤ ((L[j] : Int) % 8) := by omega
  have b3 : ((L[j] : Int) % 8) ≤ 7 := by omega
  have i0 : (0 : Int) ≤ i := by omega
  have i1 : (i : Int) < n := by omega
  have j0 : (0 : Int) ≤ j := by omega
  have j1 : (j : Int) < n := by omega
  generalize ((L[i] : Int) / 8) = x1 at *
  generalize ((L[i] : Int) % 8) = y1 at *
  generalize ((L[j] : Int) / 8) = x2 at *
  generalize ((L[j] : Int) % 8) = y2 at *
  have HK := Lib.hid key; clear key
  clear hk k1 k2 hnl h
  go_enter Try.func192, Try.ntmps192
  go_wp2_with fail
  go_quiet (fail)
  rename_i nq
  go_wp2
  go_ret
  exact ⟨ret_bool HK.out, _, rfl⟩
set_option maxHeartbeats 1000000 in
theorem kSwap (g n cap base : Nat) (L : List Nat) (i j : Nat) (w : World) (h : KRow w base (.slice (some ⟨g, 0, none⟩) n cap) L) (hi : i < L.length) (hj : j < L.length) (hn : L.length ≤ 1000) :
    Calls Try.prog 193 #[.slice (some ⟨g, 0, none⟩) n cap, .int .i64 i, .int .i64 j] w fun e w' => e = .returned (.tuple #[]) ∧ KRow w' base (.slice (some ⟨g, 0, none⟩) n cap) (swp L i j) ∧ Chg (fun k => k = g) w w' := by
  have A0 : w.cell? ⟨g, i * 2, none⟩ = some (.int .i64 ((L[i] : Int) / 8)) := h.cell kc_len hi (show 0 < 2 by omega)
  have A1 : w.cell? ⟨g, i * 2 + 1, none⟩ = some (.int .i64 ((L[i] : Int) % 8)) := h.cell kc_len hi (show 1 < 2 by omega)
  have B0 : w.cell? ⟨g, j * 2, none⟩ = some (.int .i64 ((L[j] : Int) / 8)) := h.cell kc_len hj (show 0 < 2 by omega)
  have B1 : w.cell? ⟨g, j * 2 + 1, none⟩ = some (.int .i64 ((L[j] : Int) % 8)) := h.cell kc_len hj (show 1 < 2 by omega)
  have F0 := h.free (i * 2)
  have F1 := h.free (i * 2 + 1)
  have G0 := h.free (j * 2)
  have G1 := h.free (j * 2 + 1)
  have hnl := h.len
  have i0 : (0 : Int) ≤ i := by omega
  have i1 : (i : Int) < n := by omega
  have j0 : (0 : Int) ≤ j := by omega
  have j1 : (j : Int) < n := by omega
  have hs : KRow ((w.setCells g (i * 2) (kc L[j])).setCells g (j * 2) (kc L[i])) base (.slice (some ⟨g, 0, none⟩) n cap) (swp L i j) := by
    unfold swp
    rw [gk_get hi, gk_get hj]
    exact (h.set kc_len hi L[j]).set kc_len (by rw [List.length_set]; exact hj) L[i]
  have HS := Lib.hid hs; clear hs
  clear hnl h
  by_cases hij : i = j
  · subst hij
    go_enter Try.func193, Try.ntmps193
    go_wp2_with fail
    go_region
    go_end0
    exact ⟨rfl, HS.out.keep (S := fun _ => False) ((Chg.refl _ _).drew) (fun _ _ => id), (((((Chg.refl (fun k => k = g) w).set1 _).set1 _).set1 _).set1 _).drew⟩
  · have n1 : ¬ i * 2 = j * 2 := by omega
    have n2 : ¬ i * 2 = j * 2 + 1 := by omega
    have n3 : ¬ i * 2 + 1 = j * 2 := by omega
    have n4 : ¬ j * 2 = i * 2 := by omega
    have n5 : ¬ j * 2 = i * 2 + 1 := by omega
    have n6 : ¬ j * 2 + 1 = i * 2 := by omega
    go_enter Try.func193, Try.ntmps193
    go_wp2_with fail
    go_region
    go_end0
    exact ⟨rfl, HS.out.keep (S := fun _ => False) ((Chg.refl _ _).drew) (fun _ _ => id), (((((Chg.refl (fun k => k = g) w).set1 _).set1 _).set1 _).set1 _).drew⟩

theorem Try.info159 : (Try.prog.info? 159).map (fun i => (i.zero, i.size, i.bytes)) = some (some (.agg #[.int .i64 0, .int .i64 0]), 2, 16) := by kernel_rfl
theorem assertOne (x y : Int) (W : World) : (Instr.typeAssert (.iface 159 (.agg #[.int .i64 x, .int .i64 y])) 20 159 false).run Try.prog W = .ok (.agg #[.int .i64 x, .int .i64 y]) W := by kernel_rfl
theorem own_type {w : World} {base : Nat} {v : Value} {L : List Nat} (h : KRow w base v L) {B : Nat} {cs : Array Value} {fr : Nat × Nat} (hB : w.heap[B]? = some (.cells cs 157 fr)) : v.ownBlock ≠ some B := own_ne h hB (by decide)
theorem krow_app {w : World} {base g n cap : Nat} {L : List Nat} {k : Nat} {x y : Int} (h : w.ownsRow base 159 2 (.slice (some ⟨g, 0, none⟩) n cap) (L.length + 1) (L.flatMap kc ++ #[Value.int .i64 x, Value.int .i64 y].toList)) (hx : (k : Int) / 8 = x) (hy : (k : Int) % 8 = y) : KRow w base (.slice (some ⟨g, 0, none⟩) n cap) (L ++ [k]) := by
  subst hx hy
  have e : (L ++ [k]).flatMap kc = L.flatMap kc ++ #[Value.int .i64 ((k : Int) / 8), Value.int .i64 ((k : Int) % 8)].toList := by rw [List.flatMap_append]; rfl
  unfold KRow OwnC
  rw [e, List.length_append]
  exact h
set_option maxRecDepth 100000 in
set_option maxHeartbeats 1000000 in
theorem kPush (base B i k : Nat) (cs : Array Value) (v : Value) (L : List Nat) (w : World) (hB : w.heap[B]? = some (.cells cs 157 (0, 0))) (hi : cs[i]? = some v) (h : KRow w base v L) (hbase : base ≤ w.heap.size) (hn : L.length ≤ 1000) :
    Calls Try.prog 195 #[.pointer (some ⟨B, i, none⟩), .iface 159 (.agg #[.int .i64 ((k : Int) / 8), .int .i64 ((k : Int) % 8)])] w fun e w' => e = .returned (.tuple #[]) ∧
      ∃ v', w'.heap[B]? = some (.cells (cs.setIfInBounds i v') 157 (0, 0)) ∧ KRow w' base v' (L ++ [k]) ∧ (v'.ownBlock = v.ownBlock ∨ ∃ g, v'.ownBlock = some g ∧ w.heap.size ≤ g) ∧ Chg (fun j => j = B ∨ some j = v.ownBlock) w w' := by
  have c1 : w.cell? ⟨B, i, none⟩ = some v := (blk_cell hB i).trans hi
  have f1 : w.frozen? ⟨B, i, none⟩ = false := blk_free hB i
  have lp := lt_of_heap hB
  have hne := own_type h hB
  obtain ⟨A, c, rfl⟩ := h.slice
  have HB := Lib.hid hB; clear hB
  have HH : Hid (KRow w base (.slice A L.length c) L) := h
  clear h
  generalize hx : (k : Int) / 8 = x
  generalize hy : (k : Int) % 8 = y
  have HX := Lib.hid hx; clear hx
  have HY := Lib.hid hy; clear hy
  have hta := assertOne x y
  go_enter Try.func195, Try.ntmps195
  go_wp2_with fail
  go_region_law ((refine step_app _ _ _ (by rfl) rfl 159 Try.info159 Try.underlying157 rfl (by decide) (by decide) base (.slice A L.length c) L.length (L.flatMap kc) (by rfl) ((HH.out.drew).alloc _) w.heap.size 1 #[.int .i64 x, .int .i64 y] (by rfl) (heap_alloc_new w _) rfl (by simp [Value.oneCell']) (by omega) (by simp; omega) ?_; intro gg cap w1 hown1 hk0 hat hlt; have hk : Chg (fun k => some k = (Value.slice A L.length c).ownBlock) w w1 := Chg.trans (by first | exact ((Chg.refl _ _).drew).alloc _ | exact ((Chg.refl _ _).alloc _).drew) hk0; have k1 := hk.cell c1 (fun h => hne h.symm); have k2 := (hk.frz (p := ⟨B, i, none⟩) lp (fun h => hne h.symm)).trans f1))
  all_goals
    have hgB : gg ≠ B := by
      rintro rfl
      rcases hat with h | h
      · exact hne h
      · simp at h; omega
    go_end0
    refine ⟨rfl, .slice (some ⟨gg, 0, none⟩) (L.length + 1) cap, blk_set (hk.at HB.out (fun h => hne h.symm)) i _, own_setCell_far (krow_app hown1 HX.out HY.out) (fun h => hgB (by injection h)), ?_, ?_⟩
    · rcases hat with h | h
      · exact .inl h.symm
      · exact .inr ⟨gg, rfl, by simp at h; omega⟩
    · exact (hk.mono (fun _ _ h => .inr h)).setCell (p := ⟨B, i, none⟩) (fun _ => .inl rfl) _
set_option maxRecDepth 100000 in
set_option maxHeartbeats 1000000 in
theorem kPop (base B i k : Nat) (cs : Array Value) (v : Value) (L : List Nat) (w : World) (hB : w.heap[B]? = some (.cells cs 157 (0, 0))) (hi : cs[i]? = some v) (h : KRow w base v (L ++ [k])) (hn : L.length ≤ 1000) :
    Calls Try.prog 194 #[.pointer (some ⟨B, i, none⟩)] w fun e w' => e = .returned (.iface 159 (.agg #[.int .i64 ((k : Int) / 8), .int .i64 ((k : Int) % 8)])) ∧
      ∃ v', w'.heap[B]? = some (.cells (cs.setIfInBounds i v') 157 (0, 0)) ∧ KRow w' base v' L ∧ v'.ownBlock = v.ownBlock ∧ Chg (fun j => j = B) w w' := by
  have c1 : w.cell? ⟨B, i, none⟩ = some v := (blk_cell hB i).trans hi
  have f1 : w.frozen? ⟨B, i, none⟩ = false := blk_free hB i
  have lp := lt_of_heap hB
  have hne := own_type h hB
  have hl : (L ++ [k]).length = L.length + 1 := by simp
  obtain ⟨g, c, rfl, hbg, hgl, hc1, hc2⟩ := h.form (by omega)
  have hgB : g ≠ B := fun e => hne (by rw [← e]; rfl)
  have hk : (L ++ [k])[L.length]'(by omega) = k := by simp
  have A0 : w.cell? ⟨g, L.length * 2, none⟩ = some (.int .i64 ((k : Int) / 8)) := by have := h.cell kc_len (i := L.length) (by omega) (show 0 < 2 by omega); rw [hk] at this; exact this
  have A1 : w.cell? ⟨g, L.length * 2 + 1, none⟩ = some (.int .i64 ((k : Int) % 8)) := by have := h.cell kc_len (i := L.length) (by omega) (show 1 < 2 by omega); rw [hk] at this; exact this
  have hT : KRow w base (.slice (some ⟨g, 0, none⟩) L.length c) L := by have := h.take kc_len (k := L.length) (by omega); rwa [List.take_append_of_le_length (Nat.le_refl _), List.take_of_length_le (Nat.le_refl _)] at this
  rw [hl] at c1 hc1 hi hne ⊢
  clear hk h
  have HB := Lib.hid hB; clear hB
  have HT : Hid (KRow w base (.slice (some ⟨g, 0, none⟩) L.length c) L) := hT
  clear hT hl
  unfold maxLen at hc2
  have b0 : (0 : Int) ≤ (L.length : Int) := by omega
  have b1 : (L.length : Int) ≤ 1000 := by omega
  have b2 : (L.length : Int) ≤ c := by omega
  have nB : ¬ g = B := hgB
  have nB2 : ¬ B = g := fun h => hgB h.symm
  generalize hx : (k : Int) / 8 = x at *
  generalize hy : (k : Int) % 8 = y at *
  clear hx hy
  go_enter Try.func194, Try.ntmps194
  go_wp2_with fail
  go_region
  go_wp2_with fail
  go_region
  go_wp2_with fail
  have hC : Chg (fun j => j = B) w ((w.setCell ⟨B, i, none⟩ (.slice (some ⟨g, 0, none⟩) L.length c)).alloc (.cells #[.int .i64 x, .int .i64 y] 159)).drew.drew := (((Chg.set1 (Chg.refl _ _) _).alloc _).drew).drew
  go_ret
  exact ⟨rfl, .slice (some ⟨g, 0, none⟩) L.length c, blk_alloc (blk_set HB.out i _) _, HT.out.keep hC (fun k hk h => hgB (by injection hk with hk; exact hk.trans h)), rfl, hC⟩
end Go.Proofs.Ytpnhdiajiieonaa
