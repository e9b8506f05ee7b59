/- The law PurgeAll: the walk. Printed by mkpall.py. -/
import Derived.Test.YtncbcjjdnlmjbaaPurgLaw
import Derived.Test.YtncbcjjdnlmjbaaFlowOrder
set_option linter.unusedSimpArgs false
set_option linter.unusedVariables false
namespace Go.Proofs.Ytncbcjjdnlmjbaa
open Go.RowKit

/-! ### The plain config with other labels -/
def cLab (a0 b0 a1 b1 a2 b2 : Int) (G : List Gr) : Cf := { cPlain with parts := [⟨a0, b0, [0, 1, 2], 0, 4⟩, ⟨a1, b1, [3, 4], 4, 4⟩, ⟨a2, b2, [5, 6], 8, 2⟩], grants := G }
def lab15 (B : Nat) (a0 b0 a1 b1 a2 b2 : Int) : Array Value := #[pn a0, pn b0, .slice (some ⟨B + 1, 0, none⟩) 3 3, pn 0, pn 4, pn a1, pn b1, .slice (some ⟨B + 2, 0, none⟩) 2 2, pn 4, pn 4, pn a2, pn b2, .slice (some ⟨B + 3, 0, none⟩) 2 2, pn 8, pn 2]
theorem lab_R {w : World} {B : Nat} {a0 b0 a1 b1 a2 b2 : Int} {G : List Gr} (h1 : w.heap[B + 1]? = some (.cells #[pn 0, pn 1, pn 2] 3 (0, 0))) (h2 : w.heap[B + 2]? = some (.cells #[pn 3, pn 4] 3 (0, 0))) (h3 : w.heap[B + 3]? = some (.cells #[pn 5, pn 6] 3 (0, 0)))
    (h4 : w.heap[B + 4]? = some (.cells (lab15 B a0 b0 a1 b1 a2 b2) 40 (0, 0))) : RdP w (sPlain B).ps (cLab a0 b0 a1 b1 a2 b2 G).parts := by
  have hm : ∀ n, n ≤ 3 → n ≤ maxLen := fun n hn => by unfold maxLen; omega
  refine ⟨hm 3 (by decide), _, 3, rfl, fun j hj => ?_⟩
  have hj3 : j = 0 ∨ j = 1 ∨ j = 2 := by simp only [cLab, List.length_cons, List.length_nil] at hj; omega
  rcases hj3 with rfl | rfl | rfl
  · exact ⟨_, _, _, rfl, blk_cell h4 0, blk_cell h4 1, blk_cell h4 2, blk_cell h4 3, blk_cell h4 4, rdn_blk (L := [0, 1, 2]) h1 rfl (hm _ (by decide))⟩
  · exact ⟨_, _, _, rfl, blk_cell h4 5, blk_cell h4 6, blk_cell h4 7, blk_cell h4 8, blk_cell h4 9, rdn_blk (L := [3, 4]) h2 rfl (hm _ (by decide))⟩
  · exact ⟨_, _, _, rfl, blk_cell h4 10, blk_cell h4 11, blk_cell h4 12, blk_cell h4 13, blk_cell h4 14, rdn_blk (L := [5, 6]) h3 rfl (hm _ (by decide))⟩
theorem PlainAt.lab {w w' : World} {B : Nat} (h : PlainAt w B) (hC : Chg (fun k => k = B + 4) w w') {a0 b0 a1 b1 a2 b2 : Int} (h4 : w'.heap[B + 4]? = some (.cells (lab15 B a0 b0 a1 b1 a2 b2) 40 (0, 0))) : (sPlain B).R w' (cLab a0 b0 a1 b1 a2 b2 [⟨2, 2, false⟩]) := by
  have hm : ∀ n, n ≤ 3 → n ≤ maxLen := fun n hn => by unfold maxLen; omega
  have h1 := hC.at h.h1 (by omega)
  have h2 := hC.at h.h2 (by omega)
  have h3 := hC.at h.h3 (by omega)
  have h5 := hC.at h.h5 (by omega)
  have h6 := hC.at h.h6 (by omega)
  have h7 := hC.at h.h7 (by omega)
  have h8 := hC.at h.h8 (by omega)
  have h9 := hC.at h.h9 (by omega)
  refine ⟨lab_R h1 h2 h3 h4, ⟨hm 2 (by decide), _, 2, rfl, fun j hj => ?_⟩, ⟨⟨hm 3 (by decide), fun A n c e => by injection e with _ e1 e2; omega⟩, _, 3, rfl, fun j hj => ?_⟩, grant_R h9⟩
  · have hj3 : j = 0 ∨ j = 1 := by simp only [cLab, cPlain, List.length_cons, List.length_nil] at hj; omega
    rcases hj3 with rfl | rfl
    · exact ⟨_, _, _, rfl, blk_cell h7 0, blk_cell h7 1, rdn_blk (L := [8, 9, 10]) h5 rfl (hm _ (by decide))⟩
    · exact ⟨_, _, _, rfl, blk_cell h7 2, blk_cell h7 3, rdn_blk (L := [11, 12]) h6 rfl (hm _ (by decide))⟩
  · have hj3 : j = 0 ∨ j = 1 ∨ j = 2 := by simp only [cLab, cPlain, List.length_cons, List.length_nil] at hj; omega
    rcases hj3 with rfl | rfl | rfl
    · exact ⟨_, _, rfl, blk_cell h8 0, blk_cell h8 1, blk_cell h8 2, blk_cell h8 3⟩
    · exact ⟨_, _, rfl, blk_cell h8 4, blk_cell h8 5, blk_cell h8 6, blk_cell h8 7⟩
    · exact ⟨_, _, rfl, blk_cell h8 8, blk_cell h8 9, blk_cell h8 10, blk_cell h8 11⟩
def cAll : Cf := cLab 0 0 1 0 2 0 [⟨2, 2, false⟩]
theorem may_all : MayP cAll := of_decide_eq_true (by decide +kernel)
theorem toL_all : toL cAll 2 = [true, true, true] := by
  have h : ∀ x : Fin 3, decide (DirP cAll x 2) = true := by decide +kernel
  have hp : ∀ x, x < 3 → pathB cAll x 2 = true := fun x hx => (pathB_iff _ _ _).2 (.step .refl hx (by decide) (of_decide_eq_true (h ⟨x, hx⟩)))
  unfold toL
  show [pathB cAll 0 2, pathB cAll 1 2, pathB cAll 2 2] = _
  rw [hp 0 (by omega), hp 1 (by omega), hp 2 (by omega)]
/-- Whether a device was moved. -/
def anyMv (L : List St) : Bool := L.any (fun x => decide (x.kind = 2))
def still2 (A : AL) : Prop := A = [(0, 0), (2, 0)]
def two2 (A : AL) : Prop := A.length = 2 ∧ ∀ x ∈ A, 0 ≤ x.1 ∧ x.1 < 3
theorem two2_step {A : AL} (h : two2 A) (t : Int) (x : St) : two2 (stepA 2 3 A t x) := by
  unfold stepA
  split
  · unfold mvA
    by_cases hc : mvC 3 A x.dev x.a = 0
    · rw [if_pos hc]
      unfold mvC at hc
      by_cases hn : ainA A x.dev ∧ 0 ≤ x.a ∧ x.a < 3
      · refine ⟨by rw [List.length_set]; exact h.1, fun y hy => ?_⟩
        rcases List.mem_or_eq_of_mem_set hy with hy | rfl
        · exact h.2 y hy
        · exact hn.2
      · rw [if_pos hn] at hc; cases hc
    · rw [if_neg hc]; exact h
  · split
    · unfold tickA
      refine ⟨by rw [List.length_map]; exact h.1, fun y hy => ?_⟩
      obtain ⟨z, hz, rfl⟩ := List.mem_map.1 hy
      unfold tickS
      split <;> exact h.2 z hz
    · exact h
theorem still2_step {A : AL} (h : still2 A) (t : Int) (x : St) (hx : ¬ x.kind = 2) : still2 (stepA 2 3 A t x) := by
  unfold stepA
  rw [if_neg hx]
  split
  · unfold still2 at h ⊢; rw [h]; rfl
  · exact h
theorem run_two2 : ∀ (L : List St) (z : AL × Int), two2 z.1 → two2 (runA 2 3 z L).1
  | [], z, h => h
  | x :: L, z, h => run_two2 L _ (two2_step h z.2 x)
theorem run_still2 : ∀ (L : List St) (z : AL × Int), anyMv L = false → still2 z.1 → still2 (runA 2 3 z L).1
  | [], z, _, h => h
  | x :: L, z, hm, h => by
    unfold anyMv at hm
    simp only [List.any_cons, Bool.or_eq_false_iff, decide_eq_false_iff_not] at hm
    exact run_still2 L _ hm.2 (still2_step h z.2 x hm.1)
theorem pfl_all (p : Int) : pfl [true, true, true] p = decide (0 ≤ p ∧ p < 3) := by
  unfold pfl
  by_cases h0 : 0 ≤ p
  · obtain ⟨n, rfl⟩ := Int.eq_ofNat_of_zero_le h0
    by_cases h1 : n < 3
    · rw [decide_eq_true h0, decide_eq_true (show (0 : Int) ≤ n ∧ (n : Int) < 3 from ⟨h0, by omega⟩)]
      have : n = 0 ∨ n = 1 ∨ n = 2 := by omega
      rcases this with rfl | rfl | rfl <;> rfl
    · rw [decide_eq_true h0, decide_eq_false (show ¬ ((0 : Int) ≤ n ∧ (n : Int) < 3) from fun h => by omega)]
      simp [List.getD, List.getElem?_eq_none (show [true, true, true].length ≤ n by simp; omega)]
  · rw [decide_eq_false h0, decide_eq_false (fun h => h0 h.1)]; rfl
/-- Each step of a purge to whom all flow. -/
theorem purge_all {L : List St} {j : Nat} (hj : j < L.length) (Y : St) (hY : (purgeC cAll 2 L)[j]'(by rw [purgeC_len]; exact hj) = Y) :
    (callP L[j].kind → Y = if 0 ≤ L[j].part ∧ L[j].part < 3 then L[j] else St.zero) ∧
    ((L[j].kind = 3 ∨ L[j].kind = 4) → (¬ (0 ≤ L[j].dev ∧ L[j].dev < 2) → Y = St.zero) ∧ (Y = L[j] ∨ Y = St.zero) ∧ ((0 ≤ L[j].dev ∧ L[j].dev < 2) → anyMv (L.take j) = false → Y = L[j])) ∧
    (¬ callP L[j].kind → ¬ (L[j].kind = 3 ∨ L[j].kind = 4) → Y = L[j]) := by
  rw [purgeC_at cAll 2 L j hj, toL_all] at hY
  have h2 : two2 (runA cAll.quiet cAll.parts.length (asgOf cAll, 0) (L.take j)).1 := run_two2 _ _ ⟨rfl, by decide⟩
  have hs : anyMv (L.take j) = false → still2 (runA cAll.quiet cAll.parts.length (asgOf cAll, 0) (L.take j)).1 := fun h => run_still2 _ _ h rfl
  generalize (runA cAll.quiet cAll.parts.length (asgOf cAll, 0) (L.take j)).1 = A at *
  generalize L[j] = X at *
  subst hY
  unfold keepP
  refine ⟨fun hc => ?_, fun hr => ?_, fun hc hr => ?_⟩
  · rw [if_pos hc, pfl_all]
    by_cases h : 0 ≤ X.part ∧ X.part < 3
    · rw [if_pos h, decide_eq_true h]; rfl
    · rw [if_neg h, decide_eq_false h]; rfl
  · have hc : ¬ callP X.kind := fun h => by have := h.1; omega
    rw [if_neg hc, if_pos hr, pfl_all]
    refine ⟨fun hd => ?_, ?_, fun hd hm => ?_⟩
    · have : ownA A X.dev = -1 := by unfold ownA; rw [if_neg]; intro h; have := h.1; unfold ainA at this; rw [h2.1] at this; exact hd (by omega)
      rw [this]; rfl
    · by_cases h : 0 ≤ ownA A X.dev ∧ ownA A X.dev < 3
      · rw [decide_eq_true h]; exact .inl rfl
      · rw [decide_eq_false h]; exact .inr rfl
    · have hA := hs hm
      unfold still2 at hA
      subst hA
      have hd2 : X.dev = 0 ∨ X.dev = 1 := by omega
      have : 0 ≤ ownA [(0, 0), (2, 0)] X.dev ∧ ownA [(0, 0), (2, 0)] X.dev < 3 := by rcases hd2 with h | h <;> rw [h] <;> decide
      rw [decide_eq_true this]; rfl
  · rw [if_neg hc, if_neg hr]; rfl
theorem anyMv_succ {L : List St} {j : Nat} (hj : j < L.length) : anyMv (L.take (j + 1)) = (anyMv (L.take j) || decide (L[j].kind = 2)) := by
  unfold anyMv
  rw [List.take_succ_eq_append_getElem hj, List.any_append]
  simp
set_option maxRecDepth 100000 in
set_option maxHeartbeats 8000000 in
theorem purgeAll_c (A : Option Addr) (c : Nat) (L : List St) (w : World) (hm : L.length ≤ maxLen) (hl : L.length * 64 ≤ 140737488351232) (hr : RowC w A (L.flatMap stcell)) :
    Calls Try.prog 15 #[.slice A L.length c] w fun e w' => e = .returned (.bool true) ∧ Chg (fun _ => False) w w' := by
  have HS : Hid (∀ W, Chg (fun _ => False) w W → RdS W (.slice A L.length c) L) := fun W hW => (RdS.ofRow hr hm).keepN hW
  have HM := Lib.hid hm
  have HL1 : Hid (L.length * 64 ≤ 140737488355328) := by unfold Hid; omega
  have l0 : (L.length : Int) ≤ 9223372036854775807 := by omega
  clear hr hm hl
  go_enter Try.func15, Try.ntmps15
  go_wp2_with fail
  refine (awake23 _).mono ?_
  rintro e w0 ⟨rfl, k0⟩
  have HR0 := Lib.hid k0; clear k0
  go_wp2_with fail
  refine (plain23 _).mono ?_
  rintro e w1 ⟨rfl, hp1, k1, s1⟩
  have HWB : Hid (w.heap.size ≤ w0.heap.size) := HR0.out.size
  have HR1 := Lib.hid (HR0.out.trans k1); clear k1 HR0
  generalize w0.heap.size = B at *
  simp only [cfc, cPlain, sPlain]
  obtain ⟨W1, hW1⟩ : ∃ W, W = w1.alloc (.cells (cfc cPlain (sPlain B)) 27) := ⟨_, rfl⟩
  have q0 := blk_new w1 (.cells (cfc cPlain (sPlain B)) 27)
  have kA : Chg (fun _ => False) w1 W1 := by rw [hW1]; exact (Chg.refl _ _).alloc _
  have HP1 := hp1.keepN kA
  rw [← hW1, s1] at q0
  have y1 : W1.cell? ⟨B + 10, 1, none⟩ = some (.slice (some ⟨B + 4, 0, none⟩) 3 3) := blk_cell q0 1
  have z0 := blk_cell HP1.h4 0
  have f0 := blk_free HP1.h4 0
  have z1 := blk_cell HP1.h4 1
  have f1 := blk_free HP1.h4 1
  have z5 := blk_cell HP1.h4 5
  have f5 := blk_free HP1.h4 5
  have z6 := blk_cell HP1.h4 6
  have f6 := blk_free HP1.h4 6
  have z10 := blk_cell HP1.h4 10
  have f10 := blk_free HP1.h4 10
  have z11 := blk_cell HP1.h4 11
  have f11 := blk_free HP1.h4 11
  simp only [List.getElem?_toArray, List.getElem?_cons_zero, List.getElem?_cons_succ] at z0 z1 z5 z6 z10 z11
  have zl : B + 4 < W1.heap.size := lt_of_heap HP1.h4
  have HP := Lib.hid HP1
  have HQ := Lib.hid q0
  have HR : Hid (Chg (fun _ => False) w W1) := HR1.out.trans kA
  clear HP1 HR1 q0 kA hp1
  simp only [cfc, cPlain, sPlain] at hW1
  go_upto_region 4 with fail
  rw [← hW1]
  try rw [s1]
  clear hW1 s1
  go_wp2_with fail
  refine wp_loop_rounds 4 ?_
  rw [rounds_succ]
  go_wp2_with fail
  rw [rounds_succ]
  go_wp2_with fail
  rw [rounds_succ]
  go_wp2_with fail
  rw [rounds_succ]
  go_upto_region 8 with fail
  have hST : Chg (fun k => k = B + 4) W1 ((((((W1.setCell ⟨B + 4, 0, none⟩ (pn 0)).setCell ⟨B + 4, 1, none⟩ (pn 0)).setCell ⟨B + 4, 5, none⟩ (pn 1)).setCell ⟨B + 4, 6, none⟩ (pn 0)).setCell ⟨B + 4, 10, none⟩ (pn 2)).setCell ⟨B + 4, 11, none⟩ (pn 0)) := ((((((Chg.refl _ _).set1 _).set1 _).set1 _).set1 _).set1 _).set1 _
  have hB4 := blk_set (blk_set (blk_set (blk_set (blk_set (blk_set HP.out.h4 0 (pn 0)) 1 (pn 0)) 5 (pn 1)) 6 (pn 0)) 10 (pn 2)) 11 (pn 0)
  obtain ⟨W2, hW2⟩ : ∃ W, W = ((((((W1.setCell ⟨B + 4, 0, none⟩ (pn 0)).setCell ⟨B + 4, 1, none⟩ (pn 0)).setCell ⟨B + 4, 5, none⟩ (pn 1)).setCell ⟨B + 4, 6, none⟩ (pn 0)).setCell ⟨B + 4, 10, none⟩ (pn 2)).setCell ⟨B + 4, 11, none⟩ (pn 0)) := ⟨_, rfl⟩
  change Code.wp _ _ _ _ ((((((W1.setCell ⟨B + 4, 0, none⟩ (pn 0)).setCell ⟨B + 4, 1, none⟩ (pn 0)).setCell ⟨B + 4, 5, none⟩ (pn 1)).setCell ⟨B + 4, 6, none⟩ (pn 0)).setCell ⟨B + 4, 10, none⟩ (pn 2)).setCell ⟨B + 4, 11, none⟩ (pn 0))
  rw [← hW2] at hST hB4 ⊢
  have hB4' : W2.heap[B + 4]? = some (.cells (lab15 B 0 0 1 0 2 0) 40 (0, 0)) := by rw [hB4]; rfl
  have q0 := hST.at HQ.out (by omega)
  have R1 : Hid ((sPlain B).R W2 cAll) := HP.out.lab hST hB4'
  have HR2 : Hid (Chg (fun _ => False) w W2) := HR.out.trans' hST (fun k hk e => by have := HWB.out; omega)
  clear hW2 hST hB4 hB4' HR HP HQ y1 z0 z1 z5 z6 z10 z11 f0 f1 f5 f6 f10 f11 zl
  have y0 : W2.cell? ⟨B + 10, 0, none⟩ = some (.int .i64 16) := blk_cell q0 0
  have y1 : W2.cell? ⟨B + 10, 1, none⟩ = some (.slice (some ⟨B + 4, 0, none⟩) 3 3) := blk_cell q0 1
  have y2 : W2.cell? ⟨B + 10, 2, none⟩ = some (.slice (some ⟨B + 7, 0, none⟩) 2 2) := blk_cell q0 2
  have y3 : W2.cell? ⟨B + 10, 3, none⟩ = some (.int .i64 6) := blk_cell q0 3
  have y4 : W2.cell? ⟨B + 10, 4, none⟩ = some (.slice (some ⟨B + 8, 0, none⟩) 3 3) := blk_cell q0 4
  have y5 : W2.cell? ⟨B + 10, 5, none⟩ = some (.slice (some ⟨B + 9, 0, none⟩) 1 1) := blk_cell q0 5
  have y6 : W2.cell? ⟨B + 10, 6, none⟩ = some (.int .i64 10) := blk_cell q0 6
  have y7 : W2.cell? ⟨B + 10, 7, none⟩ = some (.int .i64 6) := blk_cell q0 7
  have y8 : W2.cell? ⟨B + 10, 8, none⟩ = some (.int .i64 2) := blk_cell q0 8
  clear q0
  have HR := HR2
  clear HR2
  go_wp2_with fail
  refine (vPurge 2 cAll (sPlain B) _ L _ R1.out (HS.out _ HR.out) HL1.out).mono ?_
  rintro e w2 hpost
  clear y0 y1 y2 y3 y4 y5 y6 y7 y8
  obtain ⟨v, rfl, ho, k2⟩ := hpost.yes may_all (by decide)
  rw [show (2 : Int).toNat = 2 from rfl] at ho
  have HAT := Lib.hid (fun j (hj : j < L.length) Y hY => purge_all hj Y hY)
  replace HR := Lib.hid (HR.out.trans k2)
  have hpl := purgeC_len cAll 2 L
  have hra := rdStepsOf ho (by rw [hpl]; exact HM.out)
  obtain ⟨_, AA, ac, rfl⟩ := hra.len
  rw [hpl] at hra
  rw [hpl]
  have HRA : Hid (∀ W, Chg (fun _ => False) w2 W → RdS W (.slice AA L.length ac) (purgeC cAll 2 L)) := fun W hW => hra.keepN hW
  have HPL := Lib.hid hpl
  clear hra ho hpl k2 hpost R1
  go_wp2_with fail
  refine (num16 _ _).mono ?_
  rintro e x9 ⟨rfl, rfl⟩
  go_wp2_with fail
  go_loopw [7, 8] (fun s7 s8 wr => ∃ j : Nat, j ≤ L.length ∧ s8 = .int .i64 j ∧ s7 = .bool (anyMv (L.take j)) ∧ Chg (fun _ => False) w2 wr) (fun _ s8 _ => L.length - (intOf s8).toNat)
  case atStart => exact ⟨0, by omega, rfl, rfl, Chg.refl _ _⟩
  case round =>
    obtain ⟨j, hj, rfl, rfl, hC⟩ := hrel
    have j0 : (0 : Int) ≤ j := by omega
    by_cases hlt : j < L.length
    · have j1 : (j : Int) < L.length := by omega
      have hpj : j < (purgeC cAll 2 L).length := by rw [HPL.out]; exact hlt
      obtain ⟨g', o', rfl, b0, b1, b2, b3, b4, b5, b6⟩ := (HS.out _ (HR.out.trans hC)).at7 hlt
      have hat := HAT.out j hlt _ rfl
      have hnx := anyMv_succ hlt
      generalize hY : (purgeC cAll 2 L)[j] = Y at *
      generalize L[j] = X at *
      obtain ⟨sb, hsb⟩ : ∃ sb, sb = wr.heap.size := ⟨_, rfl⟩
      obtain ⟨W1, hW1⟩ : ∃ W, W = wr.alloc (.cells #[.int .i64 X.kind, .int .i64 X.part, .int .i64 X.dev, .int .i64 X.a, .int .i64 X.b, .int .i64 X.c, .string X.data] 59) := ⟨_, rfl⟩
      have hA : Chg (fun _ => False) wr W1 := by rw [hW1]; exact (Chg.refl _ _).alloc _
      have hB1 : W1.heap[sb]? = some (.cells (stcell X).toArray 59 (0, 0)) := by rw [hW1, hsb]; exact blk_new wr _
      have HC1 := Lib.hid (hC.trans hA)
      obtain ⟨g, o, rfl, a0, a1, a2, a3, a4, a5, a6⟩ := (HRA.out W1 HC1.out).at7 hpj
      simp only [hY] at a0 a1 a2 a3 a4 a5 a6
      have HZ : Hid (∀ W, Chg (fun _ => False) W1 W → W.cell? ⟨sb, 0, none⟩ = some (.int .i64 X.kind) ∧ W.cell? ⟨sb, 1, none⟩ = some (.int .i64 X.part) ∧ W.cell? ⟨sb, 2, none⟩ = some (.int .i64 X.dev) ∧ W.cell? ⟨sb, 3, none⟩ = some (.int .i64 X.a) ∧ W.cell? ⟨sb, 4, none⟩ = some (.int .i64 X.b) ∧ W.cell? ⟨sb, 5, none⟩ = some (.int .i64 X.c) ∧ W.cell? ⟨sb, 6, none⟩ = some (.string X.data)) := fun W hW => by
        have h := hW.at hB1 id
        exact ⟨blk_cell h 0, blk_cell h 1, blk_cell h 2, blk_cell h 3, blk_cell h 4, blk_cell h 5, blk_cell h 6⟩
      clear hC hA hB1 hpj hY
      obtain ⟨x0, x1, x2, x3, x4, x5, x6⟩ := X
      dsimp only at *
      obtain ⟨mv, hmv⟩ : ∃ mv, anyMv (L.take j) = mv := ⟨_, rfl⟩
      rw [hmv]
      cases mv
      · skip
        by_cases c1 : callP x0
        · have g5 : decide (5 ≤ x0) = true := decide_eq_true c1.1
          have g16 : decide (x0 ≤ 16) = true := decide_eq_true c1.2
          have e2 : (x0 == 2) = false := by have := c1.1; simp; omega
          have e3 : (x0 == 3) = false := by have := c1.1; simp; omega
          have e4 : (x0 == 4) = false := by have := c1.1; simp; omega
          have HN : Hid (anyMv (L.take (j + 1)) = false) := by unfold Hid; rw [hnx, hmv, decide_eq_false (by have := c1.1; omega)]; rfl
          replace hat := hat.1 c1
          clear c1 hnx hmv
          by_cases t3 : 0 ≤ x1
          · have d3 : decide (x1 < 0) = false := decide_eq_false (by omega)
            by_cases t4 : x1 < 3
            · have d4 : decide (2 < x1) = false := decide_eq_false (by omega)
              rw [if_pos ⟨t3, t4⟩] at hat
              clear t3 t4
              subst hat
              dsimp only at a0 a1 a2 a3 a4 a5 a6
              go_upto_region 16 with fail
              rw [← hW1]
              try rw [← hsb]
              clear hW1 hsb b0 b1 b2 b3 b4 b5 b6
              obtain ⟨z0, z1, z2, z3, z4, z5, z6⟩ := HZ.out _ (Chg.refl _ _)
              go_upto_region 26 with fail
              go_quiet (fail)
              rename_i nq
              go_wp2_with fail
              go_roundw
              case rel => exact ⟨j + 1, by omega, by go_num, by rw [HN.out], HC1.out.drewN nq⟩
              case measure => simp [intOf]; omega
            · have d4 : decide (2 < x1) = true := decide_eq_true (by omega)
              rw [if_neg (fun h => t4 h.2)] at hat
              clear t3 t4
              subst hat
              simp only [St.zero] at a0 a1 a2 a3 a4 a5 a6
              go_upto_region 16 with fail
              rw [← hW1]
              try rw [← hsb]
              clear hW1 hsb b0 b1 b2 b3 b4 b5 b6
              obtain ⟨z0, z1, z2, z3, z4, z5, z6⟩ := HZ.out _ (Chg.refl _ _)
              go_wp2_with fail
              go_roundw
              case rel => exact ⟨j + 1, by omega, by go_num, by rw [HN.out], HC1.out⟩
              case measure => simp [intOf]; omega
          · have d3 : decide (x1 < 0) = true := decide_eq_true (by omega)
            rw [if_neg (fun h => t3 h.1)] at hat
            clear t3
            subst hat
            simp only [St.zero] at a0 a1 a2 a3 a4 a5 a6
            go_upto_region 16 with fail
            rw [← hW1]
            try rw [← hsb]
            clear hW1 hsb b0 b1 b2 b3 b4 b5 b6
            obtain ⟨z0, z1, z2, z3, z4, z5, z6⟩ := HZ.out _ (Chg.refl _ _)
            go_wp2_with fail
            go_roundw
            case rel => exact ⟨j + 1, by omega, by go_num, by rw [HN.out], HC1.out⟩
            case measure => simp [intOf]; omega
        · have gc : x0 < 5 ∨ 16 < x0 := by unfold callP at c1; omega
          by_cases c2 : x0 = 3 ∨ x0 = 4
          · have g5 : decide (5 ≤ x0) = false := decide_eq_false (by omega)
            have e2 : (x0 == 2) = false := by simp; omega
            have q0 : ((0 : Int) == x0) = false := by simp; omega
            have q1 : decide ((0 : Int) = x0) = false := by simp; omega
            have HN : Hid (anyMv (L.take (j + 1)) = false) := by unfold Hid; rw [hnx, hmv, decide_eq_false (by omega)]; rfl
            replace hat := hat.2.1 c2
            clear c1 gc hnx
            by_cases c3 : x0 = 3
            · have e3 : (x0 == 3) = true := by simpa using c3
              clear c2 c3
              by_cases t3 : 0 ≤ x2
              · have d3 : decide (x2 < 0) = false := decide_eq_false (by omega)
                by_cases t4 : x2 < 2
                · have d4 : decide (1 < x2) = false := decide_eq_false (by omega)
                  replace hat := hat.2.2 ⟨t3, t4⟩ hmv
                  clear t3 t4 hmv
                  subst hat
                  dsimp only at a0 a1 a2 a3 a4 a5 a6
                  go_upto_region 16 with fail
                  rw [← hW1]
                  try rw [← hsb]
                  clear hW1 hsb b0 b1 b2 b3 b4 b5 b6
                  obtain ⟨z0, z1, z2, z3, z4, z5, z6⟩ := HZ.out _ (Chg.refl _ _)
                  go_upto_region 26 with fail
                  go_quiet (fail)
                  rename_i nq
                  go_wp2_with fail
                  go_roundw
                  case rel => exact ⟨j + 1, by omega, by go_num, by rw [HN.out], HC1.out.drewN nq⟩
                  case measure => simp [intOf]; omega
                · have d4 : decide (1 < x2) = true := decide_eq_true (by omega)
                  replace hat := hat.1 (fun h => t4 h.2)
                  clear t3 t4 hmv
                  subst hat
                  simp only [St.zero] at a0 a1 a2 a3 a4 a5 a6
                  go_upto_region 16 with fail
                  rw [← hW1]
                  try rw [← hsb]
                  clear hW1 hsb b0 b1 b2 b3 b4 b5 b6
                  obtain ⟨z0, z1, z2, z3, z4, z5, z6⟩ := HZ.out _ (Chg.refl _ _)
                  go_wp2_with fail
                  go_roundw
                  case rel => exact ⟨j + 1, by omega, by go_num, by rw [HN.out], HC1.out⟩
                  case measure => simp [intOf]; omega
              · have d3 : decide (x2 < 0) = true := decide_eq_true (by omega)
                replace hat := hat.1 (fun h => t3 h.1)
                clear t3 hmv
                subst hat
                simp only [St.zero] at a0 a1 a2 a3 a4 a5 a6
                go_upto_region 16 with fail
                rw [← hW1]
                try rw [← hsb]
                clear hW1 hsb b0 b1 b2 b3 b4 b5 b6
                obtain ⟨z0, z1, z2, z3, z4, z5, z6⟩ := HZ.out _ (Chg.refl _ _)
                go_wp2_with fail
                go_roundw
                case rel => exact ⟨j + 1, by omega, by go_num, by rw [HN.out], HC1.out⟩
                case measure => simp [intOf]; omega
            · have e3 : (x0 == 3) = false := by simpa using c3
              have e4 : (x0 == 4) = true := by simpa using c2.resolve_left c3
              clear c2 c3
              by_cases t3 : 0 ≤ x2
              · have d3 : decide (x2 < 0) = false := decide_eq_false (by omega)
                by_cases t4 : x2 < 2
                · have d4 : decide (1 < x2) = false := decide_eq_false (by omega)
                  replace hat := hat.2.2 ⟨t3, t4⟩ hmv
                  clear t3 t4 hmv
                  subst hat
                  dsimp only at a0 a1 a2 a3 a4 a5 a6
                  go_upto_region 16 with fail
                  rw [← hW1]
                  try rw [← hsb]
                  clear hW1 hsb b0 b1 b2 b3 b4 b5 b6
                  obtain ⟨z0, z1, z2, z3, z4, z5, z6⟩ := HZ.out _ (Chg.refl _ _)
                  go_upto_region 26 with fail
                  go_quiet (fail)
                  rename_i nq
                  go_wp2_with fail
                  go_roundw
                  case rel => exact ⟨j + 1, by omega, by go_num, by rw [HN.out], HC1.out.drewN nq⟩
                  case measure => simp [intOf]; omega
                · have d4 : decide (1 < x2) = true := decide_eq_true (by omega)
                  replace hat := hat.1 (fun h => t4 h.2)
                  clear t3 t4 hmv
                  subst hat
                  simp only [St.zero] at a0 a1 a2 a3 a4 a5 a6
                  go_upto_region 16 with fail
                  rw [← hW1]
                  try rw [← hsb]
                  clear hW1 hsb b0 b1 b2 b3 b4 b5 b6
                  obtain ⟨z0, z1, z2, z3, z4, z5, z6⟩ := HZ.out _ (Chg.refl _ _)
                  go_wp2_with fail
                  go_roundw
                  case rel => exact ⟨j + 1, by omega, by go_num, by rw [HN.out], HC1.out⟩
                  case measure => simp [intOf]; omega
              · have d3 : decide (x2 < 0) = true := decide_eq_true (by omega)
                replace hat := hat.1 (fun h => t3 h.1)
                clear t3 hmv
                subst hat
                simp only [St.zero] at a0 a1 a2 a3 a4 a5 a6
                go_upto_region 16 with fail
                rw [← hW1]
                try rw [← hsb]
                clear hW1 hsb b0 b1 b2 b3 b4 b5 b6
                obtain ⟨z0, z1, z2, z3, z4, z5, z6⟩ := HZ.out _ (Chg.refl _ _)
                go_wp2_with fail
                go_roundw
                case rel => exact ⟨j + 1, by omega, by go_num, by rw [HN.out], HC1.out⟩
                case measure => simp [intOf]; omega
          · have e3 : (x0 == 3) = false := by simp; omega
            have e4 : (x0 == 4) = false := by simp; omega
            replace hat := hat.2.2 c1 c2
            have g5 : (decide (5 ≤ x0) && decide (x0 ≤ 16)) = false := by simp; omega
            by_cases c4 : x0 = 2
            · have e2 : (x0 == 2) = true := by simpa using c4
              have HN : Hid (anyMv (L.take (j + 1)) = true) := by unfold Hid; rw [hnx, decide_eq_true c4]; simp
              have g5' : decide (5 ≤ x0) = false := decide_eq_false (by omega)
              clear c1 c2 c4 gc hnx hmv g5
              subst hat
              dsimp only at a0 a1 a2 a3 a4 a5 a6
              go_upto_region 16 with fail
              rw [← hW1]
              try rw [← hsb]
              clear hW1 hsb b0 b1 b2 b3 b4 b5 b6
              obtain ⟨z0, z1, z2, z3, z4, z5, z6⟩ := HZ.out _ (Chg.refl _ _)
              go_upto_region 26 with fail
              go_quiet (fail)
              rename_i nq
              go_wp2_with fail
              go_roundw
              case rel => exact ⟨j + 1, by omega, by go_num, by rw [HN.out], HC1.out.drewN nq⟩
              case measure => simp [intOf]; omega
            · have e2 : (x0 == 2) = false := by simpa using c4
              have HN : Hid (anyMv (L.take (j + 1)) = false) := by unfold Hid; rw [hnx, hmv, decide_eq_false c4]; rfl
              clear hnx hmv g5 c1 c2 c4
              by_cases c5 : 5 ≤ x0
              · have g6 : decide (5 ≤ x0) = true := decide_eq_true c5
                have g7 : decide (x0 ≤ 16) = false := decide_eq_false (by omega)
                clear c5 gc
                subst hat
                dsimp only at a0 a1 a2 a3 a4 a5 a6
                go_upto_region 16 with fail
                rw [← hW1]
                try rw [← hsb]
                clear hW1 hsb b0 b1 b2 b3 b4 b5 b6
                obtain ⟨z0, z1, z2, z3, z4, z5, z6⟩ := HZ.out _ (Chg.refl _ _)
                go_upto_region 26 with fail
                go_quiet (fail)
                rename_i nq
                go_wp2_with fail
                go_roundw
                case rel => exact ⟨j + 1, by omega, by go_num, by rw [HN.out], HC1.out.drewN nq⟩
                case measure => simp [intOf]; omega
              · have g6 : decide (5 ≤ x0) = false := decide_eq_false c5
                clear c5 gc
                subst hat
                dsimp only at a0 a1 a2 a3 a4 a5 a6
                go_upto_region 16 with fail
                rw [← hW1]
                try rw [← hsb]
                clear hW1 hsb b0 b1 b2 b3 b4 b5 b6
                obtain ⟨z0, z1, z2, z3, z4, z5, z6⟩ := HZ.out _ (Chg.refl _ _)
                go_upto_region 26 with fail
                go_quiet (fail)
                rename_i nq
                go_wp2_with fail
                go_roundw
                case rel => exact ⟨j + 1, by omega, by go_num, by rw [HN.out], HC1.out.drewN nq⟩
                case measure => simp [intOf]; omega
      · skip
        by_cases c1 : callP x0
        · have g5 : decide (5 ≤ x0) = true := decide_eq_true c1.1
          have g16 : decide (x0 ≤ 16) = true := decide_eq_true c1.2
          have e2 : (x0 == 2) = false := by have := c1.1; simp; omega
          have e3 : (x0 == 3) = false := by have := c1.1; simp; omega
          have e4 : (x0 == 4) = false := by have := c1.1; simp; omega
          have HN : Hid (anyMv (L.take (j + 1)) = true) := by unfold Hid; rw [hnx, hmv, decide_eq_false (by have := c1.1; omega)]; rfl
          replace hat := hat.1 c1
          clear c1 hnx hmv
          by_cases t3 : 0 ≤ x1
          · have d3 : decide (x1 < 0) = false := decide_eq_false (by omega)
            by_cases t4 : x1 < 3
            · have d4 : decide (2 < x1) = false := decide_eq_false (by omega)
              rw [if_pos ⟨t3, t4⟩] at hat
              clear t3 t4
              subst hat
              dsimp only at a0 a1 a2 a3 a4 a5 a6
              go_upto_region 16 with fail
              rw [← hW1]
              try rw [← hsb]
              clear hW1 hsb b0 b1 b2 b3 b4 b5 b6
              obtain ⟨z0, z1, z2, z3, z4, z5, z6⟩ := HZ.out _ (Chg.refl _ _)
              go_upto_region 26 with fail
              go_quiet (fail)
              rename_i nq
              go_wp2_with fail
              go_roundw
              case rel => exact ⟨j + 1, by omega, by go_num, by rw [HN.out], HC1.out.drewN nq⟩
              case measure => simp [intOf]; omega
            · have d4 : decide (2 < x1) = true := decide_eq_true (by omega)
              rw [if_neg (fun h => t4 h.2)] at hat
              clear t3 t4
              subst hat
              simp only [St.zero] at a0 a1 a2 a3 a4 a5 a6
              go_upto_region 16 with fail
              rw [← hW1]
              try rw [← hsb]
              clear hW1 hsb b0 b1 b2 b3 b4 b5 b6
              obtain ⟨z0, z1, z2, z3, z4, z5, z6⟩ := HZ.out _ (Chg.refl _ _)
              go_wp2_with fail
              go_roundw
              case rel => exact ⟨j + 1, by omega, by go_num, by rw [HN.out], HC1.out⟩
              case measure => simp [intOf]; omega
          · have d3 : decide (x1 < 0) = true := decide_eq_true (by omega)
            rw [if_neg (fun h => t3 h.1)] at hat
            clear t3
            subst hat
            simp only [St.zero] at a0 a1 a2 a3 a4 a5 a6
            go_upto_region 16 with fail
            rw [← hW1]
            try rw [← hsb]
            clear hW1 hsb b0 b1 b2 b3 b4 b5 b6
            obtain ⟨z0, z1, z2, z3, z4, z5, z6⟩ := HZ.out _ (Chg.refl _ _)
            go_wp2_with fail
            go_roundw
            case rel => exact ⟨j + 1, by omega, by go_num, by rw [HN.out], HC1.out⟩
            case measure => simp [intOf]; omega
        · have gc : x0 < 5 ∨ 16 < x0 := by unfold callP at c1; omega
          by_cases c2 : x0 = 3 ∨ x0 = 4
          · have g5 : decide (5 ≤ x0) = false := decide_eq_false (by omega)
            have e2 : (x0 == 2) = false := by simp; omega
            have q0 : ((0 : Int) == x0) = false := by simp; omega
            have q1 : decide ((0 : Int) = x0) = false := by simp; omega
            have HN : Hid (anyMv (L.take (j + 1)) = true) := by unfold Hid; rw [hnx, hmv, decide_eq_false (by omega)]; rfl
            replace hat := hat.2.1 c2
            clear c1 gc hnx
            by_cases c3 : x0 = 3
            · have e3 : (x0 == 3) = true := by simpa using c3
              clear c2 c3
              by_cases t3 : 0 ≤ x2
              · have d3 : decide (x2 < 0) = false := decide_eq_false (by omega)
                by_cases t4 : x2 < 2
                · have d4 : decide (1 < x2) = false := decide_eq_false (by omega)
                  replace hat := hat.2.1
                  clear t3 t4 hmv
                  rcases hat with hat | hat
                  · skip
                    subst hat
                    dsimp only at a0 a1 a2 a3 a4 a5 a6
                    go_upto_region 16 with fail
                    rw [← hW1]
                    try rw [← hsb]
                    clear hW1 hsb b0 b1 b2 b3 b4 b5 b6
                    obtain ⟨z0, z1, z2, z3, z4, z5, z6⟩ := HZ.out _ (Chg.refl _ _)
                    go_upto_region 24 with fail
                    go_quiet (fail)
                    rename_i nq
                    go_wp2_with fail
                    go_roundw
                    case rel => exact ⟨j + 1, by omega, by go_num, by rw [HN.out], HC1.out.drewN nq⟩
                    case measure => simp [intOf]; omega
                  · skip
                    subst hat
                    simp only [St.zero] at a0 a1 a2 a3 a4 a5 a6
                    go_upto_region 16 with fail
                    rw [← hW1]
                    try rw [← hsb]
                    clear hW1 hsb b0 b1 b2 b3 b4 b5 b6
                    obtain ⟨z0, z1, z2, z3, z4, z5, z6⟩ := HZ.out _ (Chg.refl _ _)
                    go_upto_region 24 with fail
                    go_quiet (fail)
                    rename_i nq
                    go_wp2_with fail
                    go_roundw
                    case rel => exact ⟨j + 1, by omega, by go_num, by rw [HN.out], HC1.out.drewN nq⟩
                    case measure => simp [intOf]; omega
                · have d4 : decide (1 < x2) = true := decide_eq_true (by omega)
                  replace hat := hat.1 (fun h => t4 h.2)
                  clear t3 t4 hmv
                  subst hat
                  simp only [St.zero] at a0 a1 a2 a3 a4 a5 a6
                  go_upto_region 16 with fail
                  rw [← hW1]
                  try rw [← hsb]
                  clear hW1 hsb b0 b1 b2 b3 b4 b5 b6
                  obtain ⟨z0, z1, z2, z3, z4, z5, z6⟩ := HZ.out _ (Chg.refl _ _)
                  go_wp2_with fail
                  go_roundw
                  case rel => exact ⟨j + 1, by omega, by go_num, by rw [HN.out], HC1.out⟩
                  case measure => simp [intOf]; omega
              · have d3 : decide (x2 < 0) = true := decide_eq_true (by omega)
                replace hat := hat.1 (fun h => t3 h.1)
                clear t3 hmv
                subst hat
                simp only [St.zero] at a0 a1 a2 a3 a4 a5 a6
                go_upto_region 16 with fail
                rw [← hW1]
                try rw [← hsb]
                clear hW1 hsb b0 b1 b2 b3 b4 b5 b6
                obtain ⟨z0, z1, z2, z3, z4, z5, z6⟩ := HZ.out _ (Chg.refl _ _)
                go_wp2_with fail
                go_roundw
                case rel => exact ⟨j + 1, by omega, by go_num, by rw [HN.out], HC1.out⟩
                case measure => simp [intOf]; omega
            · have e3 : (x0 == 3) = false := by simpa using c3
              have e4 : (x0 == 4) = true := by simpa using c2.resolve_left c3
              clear c2 c3
              by_cases t3 : 0 ≤ x2
              · have d3 : decide (x2 < 0) = false := decide_eq_false (by omega)
                by_cases t4 : x2 < 2
                · have d4 : decide (1 < x2) = false := decide_eq_false (by omega)
                  replace hat := hat.2.1
                  clear t3 t4 hmv
                  rcases hat with hat | hat
                  · skip
                    subst hat
                    dsimp only at a0 a1 a2 a3 a4 a5 a6
                    go_upto_region 16 with fail
                    rw [← hW1]
                    try rw [← hsb]
                    clear hW1 hsb b0 b1 b2 b3 b4 b5 b6
                    obtain ⟨z0, z1, z2, z3, z4, z5, z6⟩ := HZ.out _ (Chg.refl _ _)
                    go_upto_region 24 with fail
                    go_quiet (fail)
                    rename_i nq
                    go_wp2_with fail
                    go_roundw
                    case rel => exact ⟨j + 1, by omega, by go_num, by rw [HN.out], HC1.out.drewN nq⟩
                    case measure => simp [intOf]; omega
                  · skip
                    subst hat
                    simp only [St.zero] at a0 a1 a2 a3 a4 a5 a6
                    go_upto_region 16 with fail
                    rw [← hW1]
                    try rw [← hsb]
                    clear hW1 hsb b0 b1 b2 b3 b4 b5 b6
                    obtain ⟨z0, z1, z2, z3, z4, z5, z6⟩ := HZ.out _ (Chg.refl _ _)
                    go_upto_region 24 with fail
                    go_quiet (fail)
                    rename_i nq
                    go_wp2_with fail
                    go_roundw
                    case rel => exact ⟨j + 1, by omega, by go_num, by rw [HN.out], HC1.out.drewN nq⟩
                    case measure => simp [intOf]; omega
                · have d4 : decide (1 < x2) = true := decide_eq_true (by omega)
                  replace hat := hat.1 (fun h => t4 h.2)
                  clear t3 t4 hmv
                  subst hat
                  simp only [St.zero] at a0 a1 a2 a3 a4 a5 a6
                  go_upto_region 16 with fail
                  rw [← hW1]
                  try rw [← hsb]
                  clear hW1 hsb b0 b1 b2 b3 b4 b5 b6
                  obtain ⟨z0, z1, z2, z3, z4, z5, z6⟩ := HZ.out _ (Chg.refl _ _)
                  go_wp2_with fail
                  go_roundw
                  case rel => exact ⟨j + 1, by omega, by go_num, by rw [HN.out], HC1.out⟩
                  case measure => simp [intOf]; omega
              · have d3 : decide (x2 < 0) = true := decide_eq_true (by omega)
                replace hat := hat.1 (fun h => t3 h.1)
                clear t3 hmv
                subst hat
                simp only [St.zero] at a0 a1 a2 a3 a4 a5 a6
                go_upto_region 16 with fail
                rw [← hW1]
                try rw [← hsb]
                clear hW1 hsb b0 b1 b2 b3 b4 b5 b6
                obtain ⟨z0, z1, z2, z3, z4, z5, z6⟩ := HZ.out _ (Chg.refl _ _)
                go_wp2_with fail
                go_roundw
                case rel => exact ⟨j + 1, by omega, by go_num, by rw [HN.out], HC1.out⟩
                case measure => simp [intOf]; omega
          · have e3 : (x0 == 3) = false := by simp; omega
            have e4 : (x0 == 4) = false := by simp; omega
            replace hat := hat.2.2 c1 c2
            have g5 : (decide (5 ≤ x0) && decide (x0 ≤ 16)) = false := by simp; omega
            by_cases c4 : x0 = 2
            · have e2 : (x0 == 2) = true := by simpa using c4
              have HN : Hid (anyMv (L.take (j + 1)) = true) := by unfold Hid; rw [hnx, decide_eq_true c4]; simp
              have g5' : decide (5 ≤ x0) = false := decide_eq_false (by omega)
              clear c1 c2 c4 gc hnx hmv g5
              subst hat
              dsimp only at a0 a1 a2 a3 a4 a5 a6
              go_upto_region 16 with fail
              rw [← hW1]
              try rw [← hsb]
              clear hW1 hsb b0 b1 b2 b3 b4 b5 b6
              obtain ⟨z0, z1, z2, z3, z4, z5, z6⟩ := HZ.out _ (Chg.refl _ _)
              go_upto_region 26 with fail
              go_quiet (fail)
              rename_i nq
              go_wp2_with fail
              go_roundw
              case rel => exact ⟨j + 1, by omega, by go_num, by rw [HN.out], HC1.out.drewN nq⟩
              case measure => simp [intOf]; omega
            · have e2 : (x0 == 2) = false := by simpa using c4
              have HN : Hid (anyMv (L.take (j + 1)) = true) := by unfold Hid; rw [hnx, hmv, decide_eq_false c4]; rfl
              clear hnx hmv g5 c1 c2 c4
              by_cases c5 : 5 ≤ x0
              · have g6 : decide (5 ≤ x0) = true := decide_eq_true c5
                have g7 : decide (x0 ≤ 16) = false := decide_eq_false (by omega)
                clear c5 gc
                subst hat
                dsimp only at a0 a1 a2 a3 a4 a5 a6
                go_upto_region 16 with fail
                rw [← hW1]
                try rw [← hsb]
                clear hW1 hsb b0 b1 b2 b3 b4 b5 b6
                obtain ⟨z0, z1, z2, z3, z4, z5, z6⟩ := HZ.out _ (Chg.refl _ _)
                go_upto_region 26 with fail
                go_quiet (fail)
                rename_i nq
                go_wp2_with fail
                go_roundw
                case rel => exact ⟨j + 1, by omega, by go_num, by rw [HN.out], HC1.out.drewN nq⟩
                case measure => simp [intOf]; omega
              · have g6 : decide (5 ≤ x0) = false := decide_eq_false c5
                clear c5 gc
                subst hat
                dsimp only at a0 a1 a2 a3 a4 a5 a6
                go_upto_region 16 with fail
                rw [← hW1]
                try rw [← hsb]
                clear hW1 hsb b0 b1 b2 b3 b4 b5 b6
                obtain ⟨z0, z1, z2, z3, z4, z5, z6⟩ := HZ.out _ (Chg.refl _ _)
                go_upto_region 26 with fail
                go_quiet (fail)
                rename_i nq
                go_wp2_with fail
                go_roundw
                case rel => exact ⟨j + 1, by omega, by go_num, by rw [HN.out], HC1.out.drewN nq⟩
                case measure => simp [intOf]; omega
    · obtain rfl : j = L.length := by omega
      have HC := Lib.hid hC; clear hC
      go_wp2_with fail
      go_ret
      exact ⟨rfl, HR.out.trans HC.out⟩
theorem purgeAll_walk (w : World) (A : Option Addr) (c : Nat) (L : List St) (hm : L.length ≤ maxLen) (hl : L.length * Try.prog.bytesOf 59 ≤ reachBytes) (hr : RowC w A (L.flatMap stcell)) (_ : ∀ x ∈ L, x.data.size ≤ maxLen) :
    Calls Try.prog 15 #[.slice A L.length c] w fun e w' => e = .returned (.bool true) ∧ Below w.heap.size w w' :=
  (purgeAll_c A c L w hm (by rw [bytesStep] at hl; exact hl) hr).mono fun e w' ⟨h1, h2⟩ => ⟨h1, h2.below (Nat.le_refl _) (fun _ h => h.elim)⟩
end Go.Proofs.Ytncbcjjdnlmjbaa
