/- The law FlowPlain: the walk. Printed by mkfplain.py. -/
import Derived.Test.YtncbcjjdnlmjbaaFlowMat
set_option linter.unusedSimpArgs false
set_option linter.unusedVariables false
namespace Go.Proofs.Ytncbcjjdnlmjbaa
open Go.RowKit

attribute [local go_sem] i64_and3
/-- The blocks of the config with other labels. -/
structure LabAt (w : World) (B : Nat) (a0 b0 a1 b1 a2 b2 : Int) : Prop where
  h1 : w.heap[B + 1]? = some (.cells #[pn 0, pn 1, pn 2] 3 (0, 0))
  h2 : w.heap[B + 2]? = some (.cells #[pn 3, pn 4] 3 (0, 0))
  h3 : w.heap[B + 3]? = some (.cells #[pn 5, pn 6] 3 (0, 0))
  h4 : w.heap[B + 4]? = some (.cells (lab15 B a0 b0 a1 b1 a2 b2) 40 (0, 0))
  h5 : w.heap[B + 5]? = some (.cells #[pn 8, pn 9, pn 10] 3 (0, 0))
  h6 : w.heap[B + 6]? = some (.cells #[pn 11, pn 12] 3 (0, 0))
  h7 : w.heap[B + 7]? = some (.cells #[pn 0, .slice (some ⟨B + 5, 0, none⟩) 3 3, pn 2, .slice (some ⟨B + 6, 0, none⟩) 2 2] 42 (0, 0))
  h8 : w.heap[B + 8]? = some (.cells #[pn 0, pn 0, pn 2, pn 1, pn 1, pn 2, pn 2, pn 2, pn 2, pn 4, pn 2, pn 5] 119 (0, 0))
  hf : w.heap[B + 12]? = some (.cells #[pn 0, pn 3, pn 5] 3 (0, 0))
theorem LabAt.keep {w w' : World} {B : Nat} {a0 b0 a1 b1 a2 b2 : Int} (h : LabAt w B a0 b0 a1 b1 a2 b2) (hC : Chg (fun k => k = B + 10 ∨ k = B + 11) w w') : LabAt w' B a0 b0 a1 b1 a2 b2 :=
  ⟨hC.at h.h1 (by omega), hC.at h.h2 (by omega), hC.at h.h3 (by omega), hC.at h.h4 (by omega), hC.at h.h5 (by omega), hC.at h.h6 (by omega), hC.at h.h7 (by omega), hC.at h.h8 (by omega), hC.at h.hf (by omega)⟩
theorem LabAt.R {w : World} {B : Nat} {a0 b0 a1 b1 a2 b2 : Int} (h : LabAt w B a0 b0 a1 b1 a2 b2) {gv : Value} {G : List Gr} (hg : RdG w gv G) : Vs.R ⟨(sPlain B).ps, (sPlain B).ds, (sPlain B).ws, gv⟩ w (cLab a0 b0 a1 b1 a2 b2 G) := by
  have hm : ∀ n, n ≤ 3 → n ≤ maxLen := fun n hn => by unfold maxLen; omega
  refine ⟨lab_R (G := G) h.h1 h.h2 h.h3 h.h4, ⟨hm 2 (by decide), _, 2, rfl, fun j hj => ?_⟩, ⟨⟨hm 3 (by decide), fun A n c e => by injection e with _ e1 e2; omega⟩, _, 3, rfl, fun j hj => ?_⟩, hg⟩
  · have hj3 : j = 0 ∨ j = 1 := by simp only [cLab, cPlain, List.length_cons, List.length_nil] at hj; omega
    rcases hj3 with rfl | rfl
    · exact ⟨_, _, _, rfl, blk_cell h.h7 0, blk_cell h.h7 1, rdn_blk (L := [8, 9, 10]) h.h5 rfl (hm _ (by decide))⟩
    · exact ⟨_, _, _, rfl, blk_cell h.h7 2, blk_cell h.h7 3, rdn_blk (L := [11, 12]) h.h6 rfl (hm _ (by decide))⟩
  · have hj3 : j = 0 ∨ j = 1 ∨ j = 2 := by simp only [cLab, cPlain, List.length_cons, List.length_nil] at hj; omega
    rcases hj3 with rfl | rfl | rfl
    · exact ⟨_, _, rfl, blk_cell h.h8 0, blk_cell h.h8 1, blk_cell h.h8 2, blk_cell h.h8 3⟩
    · exact ⟨_, _, rfl, blk_cell h.h8 4, blk_cell h.h8 5, blk_cell h.h8 6, blk_cell h.h8 7⟩
    · exact ⟨_, _, rfl, blk_cell h.h8 8, blk_cell h.h8 9, blk_cell h.h8 10, blk_cell h.h8 11⟩
theorem LabAt.lab {w : World} {B : Nat} {a0 b0 a1 b1 a2 b2 : Int} (h : LabAt w B a0 b0 a1 b1 a2 b2) (G : List Gr) {i : Nat} (hi : i < 3) : w.cell? ⟨B + 4, i * 5, none⟩ = some (.int .i64 (lab (cLab a0 b0 a1 b1 a2 b2 G) i).lv) ∧ w.cell? ⟨B + 4, i * 5 + 1, none⟩ = some (.int .i64 (lab (cLab a0 b0 a1 b1 a2 b2 G) i).cats) ∧ w.cell? ⟨B + 12, i, none⟩ = some (.int .i64 (fst3 i)) := by
  have h3 : i = 0 ∨ i = 1 ∨ i = 2 := by omega
  rcases h3 with rfl | rfl | rfl
  · exact ⟨blk_cell h.h4 0, blk_cell h.h4 1, blk_cell h.hf 0⟩
  · exact ⟨blk_cell h.h4 5, blk_cell h.h4 6, blk_cell h.hf 1⟩
  · exact ⟨blk_cell h.h4 10, blk_cell h.h4 11, blk_cell h.hf 2⟩
def fpC (B : Nat) (gv : Value) : Array Value := #[.int .i64 16, .slice (some ⟨B + 4, 0, none⟩) 3 3, .slice (some ⟨B + 7, 0, none⟩) 2 2, .int .i64 6, .slice (some ⟨B + 8, 0, none⟩) 3 3, gv, .int .i64 10, .int .i64 6, .int .i64 2]
/-- What the first walk keeps. -/
structure FpAt (W2 w : World) (B : Nat) (a0 b0 a1 b1 a2 b2 : Int) (n : Nat) (D : Nat → Bool) (G : List Gr) (gv : Value) : Prop where
  cfg : w.heap[B + 10]? = some (.cells (fpC B gv) 27 (0, 0))
  arr : ArrC bcell 1 w (B + 11) 62 9 D
  dinv : DInv (cLab a0 b0 a1 b1 a2 b2 G) D n
  ginv : GrInv G n
  own : OwnC gtc 3 44 w W2.heap.size gv G
  chg : Chg (fun k => k = B + 10 ∨ k = B + 11) W2 w
theorem lab_labP {a0 b0 a1 b1 a2 b2 : Int} {G : List Gr} (h : LabOk a0 ∧ LabOk b0 ∧ LabOk a1 ∧ LabOk b1 ∧ LabOk a2 ∧ LabOk b2) {i : Nat} (hi : i < 3) : LabP (lab (cLab a0 b0 a1 b1 a2 b2 G) i).lv (lab (cLab a0 b0 a1 b1 a2 b2 G) i).cats := by
  obtain ⟨h0, h1, h2, h3, h4, h5⟩ := h
  unfold LabOk at *
  have hi3 : i = 0 ∨ i = 1 ∨ i = 2 := by omega
  rcases hi3 with rfl | rfl | rfl
  · exact ⟨h0.1, h0.2, h1.1, by show b0 ≤ 15; omega⟩
  · exact ⟨h2.1, h2.2, h3.1, by show b1 ≤ 15; omega⟩
  · exact ⟨h4.1, h4.2, h5.1, by show b2 ≤ 15; omega⟩
theorem ArrC.cellB {w : World} {q T n : Nat} {D : Nat → Bool} (h : ArrC bcell 1 w q T n D) {k off : Nat} (hk : k < n) (ho : off = k) : w.cell? ⟨q, off, none⟩ = some (.bool (D k)) := by
  subst ho; have := h.cell hk (show 0 < 1 by omega); simpa [bcell] using this
theorem ArrC.setB {w : World} {q T n : Nat} {D : Nat → Bool} (h : ArrC bcell 1 w q T n D) {k off : Nat} (hk : k < n) (ho : off = k) (v : Bool) : ArrC bcell 1 (w.setCell ⟨q, off, none⟩ (.bool v)) q T n (upd D k v) := by
  subst ho; have := h.set hk v rfl; rw [Nat.mul_one] at this; exact this
set_option maxRecDepth 100000 in
set_option maxHeartbeats 8000000 in
theorem flowPlain_c (levels grants : Int) (w : World) :
    Calls Try.prog 11 #[.int .i64 levels, .int .i64 grants] w fun e w' => e = .returned (.bool true) ∧ Chg (fun _ => False) w w' := by
  go_enter Try.func11, Try.ntmps11
  go_wp2_with fail
  refine (awake23 _).mono ?_
  rintro e w0 ⟨rfl, k0⟩
  have HR0 := Lib.hid k0; clear k0
  go_wp2_with fail
  refine (plain23 _).mono ?_
  rintro e w1 ⟨rfl, hp1, k1, s1⟩
  have HWB : Hid (w.heap.size ≤ w0.heap.size) := HR0.out.size
  have HR1 := Lib.hid (HR0.out.trans k1); clear k1 HR0
  generalize w0.heap.size = B at *
  simp only [cfc, cPlain, sPlain]
  obtain ⟨W1, hW1⟩ : ∃ W, W = w1.alloc (.cells (cfc cPlain (sPlain B)) 27) := ⟨_, rfl⟩
  have q0 := blk_new w1 (.cells (cfc cPlain (sPlain B)) 27)
  have kA : Chg (fun _ => False) w1 W1 := by rw [hW1]; exact (Chg.refl _ _).alloc _
  have HP1 := hp1.keepN kA
  have HSZ1 : Hid (W1.heap.size = B + 11) := by rw [hW1]; simp [Hid, s1]
  rw [← hW1, s1] at q0
  have y1 : W1.cell? ⟨B + 10, 1, none⟩ = some (.slice (some ⟨B + 4, 0, none⟩) 3 3) := blk_cell q0 1
  have y5 : W1.cell? ⟨B + 10, 5, none⟩ = some (.slice (some ⟨B + 9, 0, none⟩) 1 1) := blk_cell q0 5
  have g5 := blk_free q0 5
  have z0 := blk_cell HP1.h4 0
  have f0 := blk_free HP1.h4 0
  have z1 := blk_cell HP1.h4 1
  have f1 := blk_free HP1.h4 1
  have z5 := blk_cell HP1.h4 5
  have f5 := blk_free HP1.h4 5
  have z6 := blk_cell HP1.h4 6
  have f6 := blk_free HP1.h4 6
  have z10 := blk_cell HP1.h4 10
  have f10 := blk_free HP1.h4 10
  have z11 := blk_cell HP1.h4 11
  have f11 := blk_free HP1.h4 11
  simp only [List.getElem?_toArray, List.getElem?_cons_zero, List.getElem?_cons_succ] at z0 z1 z5 z6 z10 z11
  have zl : B + 4 < W1.heap.size := lt_of_heap HP1.h4
  have zl2 : B + 10 < W1.heap.size := lt_of_heap q0
  have HP := Lib.hid HP1
  have HQ := Lib.hid q0
  have HR : Hid (Chg (fun _ => False) w W1) := HR1.out.trans kA
  clear HP1 HR1 q0 kA hp1
  simp only [cfc, cPlain, sPlain] at hW1
  go_upto_region 4 with fail
  rw [← hW1]
  try rw [s1]
  clear hW1 s1
  have hsz := HSZ1.out
  go_wp2_with fail
  refine wp_loop_rounds 4 ?_
  rw [rounds_succ]
  go_wp2_with fail
  rw [rounds_succ]
  go_wp2_with fail
  rw [rounds_succ]
  go_wp2_with fail
  rw [rounds_succ]
  go_upto_region 11 with fail
  have hST : Chg (fun k => k = B + 4 ∨ k = B + 10) W1 (((((((W1.setCell ⟨B + 10, 5, none⟩ (.slice none 0 0)).setCell ⟨B + 4, 0, none⟩ (pn (levels % 4))).setCell ⟨B + 4, 1, none⟩ (pn (levels / 64 % 4))).setCell ⟨B + 4, 5, none⟩ (pn (levels / 4 % 4))).setCell ⟨B + 4, 6, none⟩ (pn (levels / 256 % 4))).setCell ⟨B + 4, 10, none⟩ (pn (levels / 16 % 4))).setCell ⟨B + 4, 11, none⟩ (pn (levels / 1024 % 4))) := ((((((Chg.setCell (Chg.refl _ _) (p := ⟨B + 10, 5, none⟩) (fun _ => .inr rfl) _).setCell (p := ⟨B + 4, 0, none⟩) (fun _ => .inl rfl) _).setCell (p := ⟨B + 4, 1, none⟩) (fun _ => .inl rfl) _).setCell (p := ⟨B + 4, 5, none⟩) (fun _ => .inl rfl) _).setCell (p := ⟨B + 4, 6, none⟩) (fun _ => .inl rfl) _).setCell (p := ⟨B + 4, 10, none⟩) (fun _ => .inl rfl) _).setCell (p := ⟨B + 4, 11, none⟩) (fun _ => .inl rfl) _
  have hB4 := blk_set (blk_set (blk_set (blk_set (blk_set (blk_set (blk_far HP.out.h4 (a := ⟨B + 10, 5, none⟩) (by show B + 4 ≠ B + 10; omega) (.slice none 0 0)) 0 (pn (levels % 4))) 1 (pn (levels / 64 % 4))) 5 (pn (levels / 4 % 4))) 6 (pn (levels / 256 % 4))) 10 (pn (levels / 16 % 4))) 11 (pn (levels / 1024 % 4))
  have hB10 := blk_far (blk_far (blk_far (blk_far (blk_far (blk_far (blk_set HQ.out 5 (.slice none 0 0)) (a := ⟨B + 4, 0, none⟩) (by show B + 10 ≠ B + 4; omega) (pn (levels % 4))) (a := ⟨B + 4, 1, none⟩) (by show B + 10 ≠ B + 4; omega) (pn (levels / 64 % 4))) (a := ⟨B + 4, 5, none⟩) (by show B + 10 ≠ B + 4; omega) (pn (levels / 4 % 4))) (a := ⟨B + 4, 6, none⟩) (by show B + 10 ≠ B + 4; omega) (pn (levels / 256 % 4))) (a := ⟨B + 4, 10, none⟩) (by show B + 10 ≠ B + 4; omega) (pn (levels / 16 % 4))) (a := ⟨B + 4, 11, none⟩) (by show B + 10 ≠ B + 4; omega) (pn (levels / 1024 % 4))
  have hs0 : ((((((((W1.setCell ⟨B + 10, 5, none⟩ (.slice none 0 0)).setCell ⟨B + 4, 0, none⟩ (pn (levels % 4))).setCell ⟨B + 4, 1, none⟩ (pn (levels / 64 % 4))).setCell ⟨B + 4, 5, none⟩ (pn (levels / 4 % 4))).setCell ⟨B + 4, 6, none⟩ (pn (levels / 256 % 4))).setCell ⟨B + 4, 10, none⟩ (pn (levels / 16 % 4))).setCell ⟨B + 4, 11, none⟩ (pn (levels / 1024 % 4)))).heap.size = B + 11 := by simp [World.setCell, HSZ1.out]
  change Code.wp _ _ _ _ ((((((((((W1.setCell ⟨B + 10, 5, none⟩ (.slice none 0 0)).setCell ⟨B + 4, 0, none⟩ (pn (levels % 4))).setCell ⟨B + 4, 1, none⟩ (pn (levels / 64 % 4))).setCell ⟨B + 4, 5, none⟩ (pn (levels / 4 % 4))).setCell ⟨B + 4, 6, none⟩ (pn (levels / 256 % 4))).setCell ⟨B + 4, 10, none⟩ (pn (levels / 16 % 4))).setCell ⟨B + 4, 11, none⟩ (pn (levels / 1024 % 4)))).alloc (.cells #[.bool false, .bool false, .bool false, .bool false, .bool false, .bool false, .bool false, .bool false, .bool false] 62)).alloc (.cells #[pn 0, pn 3, pn 5] 3))
  generalize (((((((W1.setCell ⟨B + 10, 5, none⟩ (.slice none 0 0)).setCell ⟨B + 4, 0, none⟩ (pn (levels % 4))).setCell ⟨B + 4, 1, none⟩ (pn (levels / 64 % 4))).setCell ⟨B + 4, 5, none⟩ (pn (levels / 4 % 4))).setCell ⟨B + 4, 6, none⟩ (pn (levels / 256 % 4))).setCell ⟨B + 4, 10, none⟩ (pn (levels / 16 % 4))).setCell ⟨B + 4, 11, none⟩ (pn (levels / 1024 % 4))) = W1s at *
  have e0 : LabOk (levels % 4) := ⟨by omega, by omega⟩
  have e1 : LabOk (levels / 64 % 4) := ⟨by omega, by omega⟩
  have e2 : LabOk (levels / 4 % 4) := ⟨by omega, by omega⟩
  have e3 : LabOk (levels / 256 % 4) := ⟨by omega, by omega⟩
  have e4 : LabOk (levels / 16 % 4) := ⟨by omega, by omega⟩
  have e5 : LabOk (levels / 1024 % 4) := ⟨by omega, by omega⟩
  generalize levels % 4 = a0 at *
  generalize levels / 64 % 4 = b0 at *
  generalize levels / 4 % 4 = a1 at *
  generalize levels / 256 % 4 = b1 at *
  generalize levels / 16 % 4 = a2 at *
  generalize levels / 1024 % 4 = b2 at *
  have HLK := Lib.hid (And.intro e0 (And.intro e1 (And.intro e2 (And.intro e3 (And.intro e4 e5)))))
  clear e0 e1 e2 e3 e4 e5
  refine wp_abs (fun W => LabAt W B a0 b0 a1 b1 a2 b2 ∧ W.heap[B + 10]? = some (.cells (fpC B (.slice none 0 0)) 27 (0, 0)) ∧ W.heap[B + 11]? = some (.cells (Array.replicate 9 (.bool false)) 62 (0, 0)) ∧ W.heap.size = B + 13 ∧ Chg (fun _ => False) w W) ?_ ?_
  · have k2 : Chg (fun k => k = B + 4 ∨ k = B + 10) W1 ((W1s.alloc (.cells #[.bool false, .bool false, .bool false, .bool false, .bool false, .bool false, .bool false, .bool false, .bool false] 62)).alloc (.cells #[pn 0, pn 3, pn 5] 3)) := (hST.alloc _).alloc _
    have hm := HP.out
    refine ⟨⟨k2.at hm.h1 (by omega), k2.at hm.h2 (by omega), k2.at hm.h3 (by omega), alloc_up (alloc_up (by first | exact hB4 | (rw [hB4]; rfl))), k2.at hm.h5 (by omega), k2.at hm.h6 (by omega), k2.at hm.h7 (by omega), k2.at hm.h8 (by omega), alloc_at (by simp; omega)⟩, alloc_up (alloc_up (by first | exact hB10 | (rw [hB10]; rfl))), alloc_up (alloc_at (by omega)), by simp; omega, HR.out.trans' k2 (fun k hk e => by have := HWB.out; omega)⟩
  clear hST hB4 hB10 hs0 HR HP HQ hsz HSZ1 y1 y5 g5 z0 z1 z5 z6 z10 z11 f0 f1 f5 f6 f10 f11 zl zl2
  rintro W2 ⟨hlab, hcfg, harr, hs2, hCW⟩
  have HWBW := HWB
  have HLAB : Hid (∀ W, Chg (fun k => k = B + 10 ∨ k = B + 11) W2 W → LabAt W B a0 b0 a1 b1 a2 b2) := fun W hW => hlab.keep hW
  have HS2 := Lib.hid hs2
  have HCW := Lib.hid hCW
  have HF0 : Hid (FpAt W2 W2 B a0 b0 a1 b1 a2 b2 0 (fun _ => false) [] (.slice none 0 0)) := ⟨hcfg, ArrC.zero (n := 9) (C := 1) (z := .bool false) (x0 := false) harr (fun j hj => by obtain rfl : j = 0 := (by omega); rfl), fun x y hx hy => by simp [cLab], GrInv.start, OwnC.nil _ _, Chg.refl _ _⟩
  clear hlab hcfg harr hs2 hCW
  go_wp2_with fail
  go_loopw [9] (fun s9 wr => ∃ (i : Nat) (D : Nat → Bool) (G : List Gr) (gv : Value), i ≤ 3 ∧ s9 = .int .i64 i ∧ FpAt W2 wr B a0 b0 a1 b1 a2 b2 (3 * i) D G gv) (fun s9 _ => 3 - (intOf s9).toNat)
  case atStart => exact ⟨0, _, _, _, by omega, rfl, HF0.out⟩
  case round =>
    clear HF0
    obtain ⟨i, D, G, gv, hi, rfl, hF⟩ := hrel
    have i0 : (0 : Int) ≤ i := by omega
    have HF := Lib.hid hF; clear hF
    by_cases hlt : i < 3
    · have i1 : (i : Int) < 3 := by omega
      go_wp2_with fail
      go_loopw [10] (fun s10 wr => ∃ (j : Nat) (D : Nat → Bool) (G : List Gr) (gv : Value), j ≤ 3 ∧ s10 = .int .i64 j ∧ FpAt W2 wr B a0 b0 a1 b1 a2 b2 (3 * i + j) D G gv) (fun s10 _ => 3 - (intOf s10).toNat)
      case atStart => exact ⟨0, _, _, _, by omega, rfl, HF.out⟩
      case round =>
        clear HF
        obtain ⟨j, D, G, gv, hj, rfl, hF⟩ := hrel
        have j0 : (0 : Int) ≤ j := by omega
        by_cases hjl : j < 3
        · have j1 : (j : Int) < 3 := by omega
          have y1 : wr.cell? ⟨B + 10, 1, none⟩ = some (.slice (some ⟨B + 4, 0, none⟩) 3 3) := blk_cell hF.cfg 1
          obtain ⟨p0, p1, _⟩ := (HLAB.out wr hF.chg).lab G hlt
          obtain ⟨q0, q1, _⟩ := (HLAB.out wr hF.chg).lab G hjl
          have l10 : B + 10 < wr.heap.size := lt_of_heap hF.cfg
          have l4 : B + 4 < wr.heap.size := by omega
          have HF := Lib.hid hF; clear hF
          go_upto_region 17 with fail
          have HLI : Hid (LabP (lab (cLab a0 b0 a1 b1 a2 b2 G) i).lv (lab (cLab a0 b0 a1 b1 a2 b2 G) i).cats) := lab_labP HLK.out hlt
          have HLJ : Hid (LabP (lab (cLab a0 b0 a1 b1 a2 b2 G) j).lv (lab (cLab a0 b0 a1 b1 a2 b2 G) j).cats) := lab_labP HLK.out hjl
          obtain ⟨li, hli⟩ : ∃ l, l = lab (cLab a0 b0 a1 b1 a2 b2 G) i := ⟨_, rfl⟩
          obtain ⟨lj, hlj⟩ : ∃ l, l = lab (cLab a0 b0 a1 b1 a2 b2 G) j := ⟨_, rfl⟩
          rw [← hli] at p0 p1 HLI
          rw [← hlj] at q0 q1 HLJ
          have HEI := Lib.hid hli
          have HEJ := Lib.hid hlj
          clear hli hlj
          go_cut [11, 12] (fun s11 s12 wx => ∃ pa pb, s11 = .pointer (some ⟨pa, 0, none⟩) ∧ s12 = .pointer (some ⟨pb, 0, none⟩) ∧ wx.heap[pa]? = some (.cells #[.int .i64 li.lv, .int .i64 li.cats] 37 (0, 0)) ∧ wx.heap[pb]? = some (.cells #[.int .i64 lj.lv, .int .i64 lj.cats] 37 (0, 0)) ∧ Chg (fun _ => False) wr wx)
          case first =>
            go_region
            · go_wp2_with fail
              go_meet
              exact ⟨_, _, rfl, rfl, blk_alloc (blk_new wr _) _, (show ((wr.alloc (.cells #[.int .i64 li.lv, .int .i64 li.cats] 37)).alloc (.cells #[.int .i64 lj.lv, .int .i64 lj.cats] 37)).heap[wr.heap.size + 1]? = _ by have := blk_new (wr.alloc (.cells #[.int .i64 li.lv, .int .i64 li.cats] 37)) (.cells #[.int .i64 lj.lv, .int .i64 lj.cats] 37); simpa using this), (((Chg.refl _ _).alloc _).alloc _).drew⟩
            · go_wp2_with fail
              go_meet
              exact ⟨_, _, rfl, rfl, (show ((wr.alloc (.cells #[.int .i64 lj.lv, .int .i64 lj.cats] 37)).alloc (.cells #[.int .i64 li.lv, .int .i64 li.cats] 37)).heap[wr.heap.size + 1]? = _ by have := blk_new (wr.alloc (.cells #[.int .i64 lj.lv, .int .i64 lj.cats] 37)) (.cells #[.int .i64 li.lv, .int .i64 li.cats] 37); simpa using this), blk_alloc (blk_new wr _) _, (((Chg.refl _ _).alloc _).alloc _).drew⟩
          case rest =>
            obtain ⟨pa, pb, rfl, rfl, hpa, hpb, hC1⟩ := hcut
            have HF1 := Lib.hid hC1; clear hC1
            have z0 := blk_cell hpa 0
            have z1 := blk_cell hpa 1
            have t0 := blk_cell hpb 0
            have t1 := blk_cell hpb 1
            simp only [List.getElem?_toArray, List.getElem?_cons_zero, List.getElem?_cons_succ] at z0 z1 t0 t1
            clear hpa hpb y1 p0 p1 q0 q1 l10 l4
            have HA1 := Lib.hid (HF.out.arr.keep HF1.out id)
            go_upto_region 18 with fail
            go_cut [95] (fun s95 wx => ArrC bcell 1 wx (B + 11) 62 9 (upd D (3 * i + j) (D (3 * i + j) || decide (i = j ∨ DomP lj.lv lj.cats li.lv li.cats))) ∧ Chg (fun k => k = B + 11) wc wx)
            case first =>
              have c0 := HA1.out.cellB (k := 3 * i + j) (off := i * 3 + j) (by omega) (by omega)
              have cf := HA1.out.free (i * 3 + j)
              have cl := HA1.out.lt
              by_cases b1 : D (3 * i + j) = true
              · have HVAL : Hid (true = (D (3 * i + j) || decide (i = j ∨ DomP lj.lv lj.cats li.lv li.cats))) := by unfold Hid; rw [b1]; rfl
                rw [b1] at c0
                clear b1
                have HV : Hid (true = (D (3 * i + j) || decide (i = j ∨ DomP lj.lv lj.cats li.lv li.cats))) := HVAL.out
                clear HVAL
                go_region
                go_wp2_with fail
                go_meet
                exact ⟨by rw [← HV.out]; exact (HA1.out.setB (by omega) (by omega) _).keep ((Chg.refl (fun _ => False) _).drew) id, ((Chg.refl (fun k => k = B + 11) wc).set1 _).drew⟩
              · have b1' : D (3 * i + j) = false := by simpa using b1
                rw [b1'] at c0
                by_cases b2 : i = j
                · have d2 : ((i : Int) == (j : Int)) = true := by simp; omega
                  have d2n : (i == j) = true := by simpa using b2
                  have HVAL : Hid (true = (D (3 * i + j) || decide (i = j ∨ DomP lj.lv lj.cats li.lv li.cats))) := by unfold Hid; rw [decide_eq_true (.inl b2)]; simp
                  clear b1 b1' b2
                  have HV : Hid (true = (D (3 * i + j) || decide (i = j ∨ DomP lj.lv lj.cats li.lv li.cats))) := HVAL.out
                  clear HVAL
                  go_region
                  go_wp2_with fail
                  go_meet
                  exact ⟨by rw [← HV.out]; exact (HA1.out.setB (by omega) (by omega) _).keep ((Chg.refl (fun _ => False) _).drew) id, ((Chg.refl (fun k => k = B + 11) wc).set1 _).drew⟩
                · have d2 : ((i : Int) == (j : Int)) = false := by simp; omega
                  have d2n : (i == j) = false := by simpa using b2
                  by_cases b3 : li.lv ≤ lj.lv
                  · have d3 : decide (li.lv ≤ lj.lv) = true := decide_eq_true b3
                    by_cases b4 : bits .and .i64 lj.cats li.cats = li.cats
                    · have d4 : (bits .and .i64 lj.cats li.cats == li.cats) = true := by simpa using b4
                      have HVAL : Hid (true = (D (3 * i + j) || decide (i = j ∨ DomP lj.lv lj.cats li.lv li.cats))) := by unfold Hid; rw [decide_eq_true (.inr ⟨HLJ.out, HLI.out, b3, (dom_iff HLJ.out HLI.out).1 b4⟩)]; simp
                      clear b1 b1' b2 b3 b4
                      have HV : Hid (true = (D (3 * i + j) || decide (i = j ∨ DomP lj.lv lj.cats li.lv li.cats))) := HVAL.out
                      clear HVAL
                      go_region
                      go_wp2_with fail
                      go_meet
                      exact ⟨by rw [← HV.out]; exact (HA1.out.setB (by omega) (by omega) _).keep ((Chg.refl (fun _ => False) _).drew) id, ((Chg.refl (fun k => k = B + 11) wc).set1 _).drew⟩
                    · have d4 : (bits .and .i64 lj.cats li.cats == li.cats) = false := by simpa using b4
                      have HVAL : Hid (false = (D (3 * i + j) || decide (i = j ∨ DomP lj.lv lj.cats li.lv li.cats))) := by unfold Hid; rw [b1', decide_eq_false (fun h => by rcases h with h | h; exact b2 h; exact b4 ((dom_iff HLJ.out HLI.out).2 h.2.2.2))]; rfl
                      clear b1 b1' b2 b3 b4
                      have HV : Hid (false = (D (3 * i + j) || decide (i = j ∨ DomP lj.lv lj.cats li.lv li.cats))) := HVAL.out
                      clear HVAL
                      go_region
                      go_wp2_with fail
                      go_meet
                      exact ⟨by rw [← HV.out]; exact (HA1.out.setB (by omega) (by omega) _).keep ((Chg.refl (fun _ => False) _).drew) id, ((Chg.refl (fun k => k = B + 11) wc).set1 _).drew⟩
                  · have d3 : decide (li.lv ≤ lj.lv) = false := decide_eq_false b3
                    have HVAL : Hid (false = (D (3 * i + j) || decide (i = j ∨ DomP lj.lv lj.cats li.lv li.cats))) := by unfold Hid; rw [b1', decide_eq_false (fun h => by rcases h with h | h; exact b2 h; exact b3 h.2.2.1)]; rfl
                    clear b1 b1' b2 b3
                    have HV : Hid (false = (D (3 * i + j) || decide (i = j ∨ DomP lj.lv lj.cats li.lv li.cats))) := HVAL.out
                    clear HVAL
                    go_region
                    go_wp2_with fail
                    go_meet
                    exact ⟨by rw [← HV.out]; exact (HA1.out.setB (by omega) (by omega) _).keep ((Chg.refl (fun _ => False) _).drew) id, ((Chg.refl (fun k => k = B + 11) wc).set1 _).drew⟩
            case rest =>
              obtain ⟨hA2, hC2⟩ := hcut
              clear z0 z1 t0 t1
              have hF1 := HF1.out
              have hnx : (3 * i + j) + 1 = 3 * i + (j + 1) := by omega
              have HF2 : Hid (FpAt W2 wc B a0 b0 a1 b1 a2 b2 (3 * i + (j + 1)) (upd D (3 * i + j) (D (3 * i + j) || decide (i = j ∨ DomP lj.lv lj.cats li.lv li.cats))) G gv) := by
                have hk : Chg (fun k => k = B + 11) wr wc := (hF1.mono (fun _ _ h => h.elim)).trans hC2
                refine ⟨hk.at HF.out.cfg (by omega), hA2, DInv.diag hlt hjl HF.out.dinv (by rw [HEI.out, HEJ.out]), HF.out.ginv.mono (by omega), HF.out.own.keep hk (fun k hb e => by have := (own_lt HF.out.own hb).1; have := HS2.out; omega), HF.out.chg.trans (hk.mono (fun k _ e => .inr e))⟩
              have HG0 : Hid (GrInv G (3 * i + j)) := HF.out.ginv
              clear hA2 hC2 hF1 HA1 HF1 HF HEI HEJ HLI HLJ hnx
              generalize upd D (3 * i + j) (D (3 * i + j) || decide (i = j ∨ DomP lj.lv lj.cats li.lv li.cats)) = D1 at *
              go_upto_region 20 with fail
              generalize grants / 2 ^ (2 * (3 * i + j)) % 4 = H at *
              by_cases c1 : i = j
              · subst c1
                go_wp2_with fail
                go_roundw
                case rel => exact ⟨i + 1, _, _, _, by omega, by go_num, HF2.out⟩
                case measure => simp [intOf]; omega
              · have d1 : ((i : Int) == (j : Int)) = false := by simp; omega
                have d1n : (i == j) = false := by simpa using c1
                have d1b : ((i : Int) != (j : Int)) = true := by simp; omega
                have d1nb : (i != j) = true := by simpa using c1
                have d1c : decide ((i : Int) = (j : Int)) = false := by simp; omega
                have d1d : decide (i = j) = false := by simpa using c1
                by_cases c2 : 1 < H
                · have d2 : decide (1 < H) = true := decide_eq_true c2
                  have HW : Hid (∀ b : Bool, b = (H == 3) → True) := fun _ _ => trivial
                  obtain ⟨GB, gk, rfl⟩ := HF2.out.own.slice
                  have y5 : wc.cell? ⟨B + 10, 5, none⟩ = some (.slice GB G.length gk) := blk_cell HF2.out.cfg 5
                  have yf : wc.frozen? ⟨B + 10, 5, none⟩ = false := blk_free HF2.out.cfg 5
                  have yl : B + 10 < wc.heap.size := lt_of_heap HF2.out.cfg
                  have x0 : wc.cell? ⟨B + 11 + 1, i, none⟩ = some (.int .i64 (fst3 i)) := ((HLAB.out wc HF2.out.chg).lab G hlt).2.2
                  have hgl : G.length ≤ 9 := by have := HF2.out.ginv.few; omega
                  have xl : B + 11 + 1 < wc.heap.size := lt_of_heap (HLAB.out wc HF2.out.chg).hf
                  have HBK : Hid (∀ W, Chg (fun _ => False) wc W → OwnC gtc 3 44 W W2.heap.size (.slice GB G.length gk) G) := fun W hW => HF2.out.own.keep hW (fun _ _ => id)
                  have HWS : Hid (W2.heap.size ≤ wc.heap.size) := HF2.out.chg.size
                  have HLT : Hid (∀ k, Value.ownBlock (.slice GB G.length gk) = some k → B + 13 ≤ k) := fun k hk => by have := (own_lt HF2.out.own hk).1; have := HS2.out; omega
                  have hfst : ∃ f, f = fst3 i := ⟨_, rfl⟩
                  obtain ⟨ff, hff⟩ := hfst
                  rw [← hff] at x0
                  have HFF := Lib.hid hff; clear hff
                  obtain ⟨w3, hw3⟩ : ∃ b, b = (H == 3) := ⟨_, rfl⟩
                  have hw3' : (H == 3) = w3 := hw3.symm
                  have HW3 := Lib.hid hw3
                  clear HW hw3
                  go_upto_region 21 with fail
                  go_cut [125] (fun s125 wx => ∃ gv', wx.heap[B + 10]? = some (.cells (fpC B gv') 27 (0, 0)) ∧ ArrC bcell 1 wx (B + 11) 62 9 D1 ∧ OwnC gtc 3 44 wx W2.heap.size gv' (G ++ [⟨fst3 i, j, w3⟩]) ∧ Chg (fun k => k = B + 10 ∨ k = B + 11) W2 wx)
                  case first =>
                    go_region_law ((refine step_app _ _ _ (by rfl) rfl 44 Try.infoGrt Try.underlying25 rfl (by decide) (by decide) W2.heap.size (.slice GB G.length gk) G.length (G.flatMap gtc) (by rfl) (HBK.out _ (by first | exact ((Chg.refl _ _).drew).alloc _ | exact ((Chg.refl _ _).alloc _).drew)) wc.heap.size 1 #[.int .i64 ff, .int .i64 j, .bool w3] (by rfl) (heap_alloc_new wc _) rfl (by simp [Value.oneCell']) (by omega) (by have := HWS.out; simp; omega) ?_; intro gg cap w5 hown5 hk0 hat hlg; have hk : Chg (fun k => some k = (Value.slice GB G.length gk).ownBlock) wc w5 := Chg.trans (by first | exact ((Chg.refl _ _).drew).alloc _ | exact ((Chg.refl _ _).alloc _).drew) hk0; have hcb5 := hk.at HF2.out.cfg (fun e => by have := HLT.out _ e.symm; omega); have k1 := blk_cell hcb5 5; have k2 := blk_free hcb5 5; have k3 := lt_of_heap hcb5; simp only [fpC, List.getElem?_toArray, List.getElem?_cons_zero, List.getElem?_cons_succ] at k1))
                    all_goals
                      have hO5 : OwnC gtc 3 44 w5 W2.heap.size (.slice (some ⟨gg, 0, none⟩) (G.length + 1) cap) (G ++ [⟨fst3 i, j, w3⟩]) := by rw [← HFF.out]; simpa [OwnC, gtc] using hown5
                      have hne10 : gg ≠ B + 10 := fun e => own_ne hO5 hcb5 (by decide) (by rw [e]; rfl)
                      have harr5 : ArrC bcell 1 w5 (B + 11) 62 9 D1 := HF2.out.arr.keep hk (fun e => by have := HLT.out _ e.symm; omega)
                      have hS : Chg (fun k => k = B + 10) w5 (w5.setCell ⟨B + 10, 5, none⟩ (.slice (some ⟨gg, 0, none⟩) (G.length + 1) cap)) := (Chg.refl _ _).set1 _
                      have HOUT : Hid (∃ gv', (w5.setCell ⟨B + 10, 5, none⟩ (.slice (some ⟨gg, 0, none⟩) (G.length + 1) cap)).heap[B + 10]? = some (.cells (fpC B gv') 27 (0, 0)) ∧ ArrC bcell 1 (w5.setCell ⟨B + 10, 5, none⟩ (.slice (some ⟨gg, 0, none⟩) (G.length + 1) cap)) (B + 11) 62 9 D1 ∧ OwnC gtc 3 44 (w5.setCell ⟨B + 10, 5, none⟩ (.slice (some ⟨gg, 0, none⟩) (G.length + 1) cap)) W2.heap.size gv' (G ++ [⟨fst3 i, j, w3⟩]) ∧ Chg (fun k => k = B + 10 ∨ k = B + 11) W2 (w5.setCell ⟨B + 10, 5, none⟩ (.slice (some ⟨gg, 0, none⟩) (G.length + 1) cap))) :=
                        ⟨_, blk_set hcb5 5 _, harr5.keep hS (by omega), hO5.keep hS (fun k hk e => hne10 (by simp only [Value.ownBlock, Option.some.injEq] at hk; omega)), (HF2.out.chg.trans' hk (fun k hk e => by have := HLT.out _ e.symm; have := HS2.out; omega)).trans (hS.mono (fun _ _ e => .inl e))⟩
                      clear hk hk0 hown5 hat hcb5 k1 k2 k3 hO5 harr5 hS hne10
                      go_wp2_with fail
                      go_meet
                      exact HOUT.out
                  case rest =>
                    obtain ⟨gv', hcf6, harr6, hO6, hC6⟩ := hcut
                    have hD6 := DInv.grant hlt hjl c1 HF2.out.dinv w3
                    clear y5 yf yl x0 xl HBK HWS HLT
                    obtain ⟨W6, hW6⟩ : ∃ W, W = wc := ⟨_, rfl⟩
                    rw [← hW6] at hcf6 harr6 hO6 hC6
                    rw [← hW6]
                    clear hW6
                    have c0 := harr6.cellB (k := 3 * i + j) (off := i * 3 + j) (by omega) (by omega)
                    have cf := harr6.free (i * 3 + j)
                    have cl := harr6.lt
                    have harr7 := harr6.setB (k := 3 * i + j) (off := i * 3 + j) (by omega) (by omega) true
                    have hS7 : Chg (fun k => k = B + 11) W6 (W6.setCell ⟨B + 11, i * 3 + j, none⟩ (.bool true)) := (Chg.refl _ _).set1 _
                    go_upto_region 23 with fail
                    generalize W6.setCell ⟨B + 11, i * 3 + j, none⟩ (.bool true) = W7 at *
                    have e0 : upd D1 (3 * i + j) true (3 * j + i) = D1 (3 * j + i) := upd_other _ _ (by omega)
                    clear c0 cf cl
                    have c0 := harr7.cellB (k := 3 * j + i) (off := j * 3 + i) (by omega) (by omega)
                    rw [e0] at c0
                    have cf := harr7.free (j * 3 + i)
                    have cl := harr7.lt
                    have harr8 := fun v => harr7.setB (k := 3 * j + i) (off := j * 3 + i) (by omega) (by omega) v
                    have HA8 := Lib.hid harr8; clear harr8 harr7 harr6
                    have HD6 := Lib.hid hD6; clear hD6
                    have HFX : Hid (∀ v, v = (D1 (3 * j + i) || w3) → FpAt W2 ((W7.setCell ⟨B + 11, j * 3 + i, none⟩ (.bool v)).drew) B a0 b0 a1 b1 a2 b2 (3 * i + (j + 1)) (upd (upd D1 (3 * i + j) true) (3 * j + i) v) (G ++ [⟨fst3 i, j, w3⟩]) gv') := fun v hv => by
                      have hk8 : Chg (fun k => k = B + 11) W6 ((W7.setCell ⟨B + 11, j * 3 + i, none⟩ (.bool v)).drew) := (hS7.set1 _).drew
                      exact ⟨hk8.at hcf6 (by omega), (HA8.out v).keep ((Chg.refl (fun _ => False) _).drew) id, by rw [hv]; exact HD6.out, (GrInv.add HG0.out hlt hjl c1 w3).mono (by omega), hO6.keep hk8 (fun k hb e => by have := (own_lt hO6 hb).1; have := HS2.out; omega), hC6.trans (hk8.mono (fun _ _ e => .inr e))⟩
                    clear hO6 hC6 hcf6 hS7 HA8 HD6 e0 c1 c2
                    by_cases b1 : D1 (3 * j + i) = true
                    · have HFY := Lib.hid (HFX.out true (by rw [b1]; rfl))
                      rw [b1] at c0
                      clear HFX b1
                      go_region
                      go_wp2_with fail
                      go_roundw
                      case rel => exact ⟨j + 1, _, _, _, by omega, by go_num, HFY.out⟩
                      case measure => simp [intOf]; omega
                    · have b1' : D1 (3 * j + i) = false := by simpa using b1
                      have HFY := Lib.hid (HFX.out w3 (by rw [b1']; rfl))
                      rw [b1'] at c0
                      clear HFX b1 b1'
                      go_region
                      go_wp2_with fail
                      go_roundw
                      case rel => exact ⟨j + 1, _, _, _, by omega, by go_num, HFY.out⟩
                      case measure => simp [intOf]; omega
                · have d2 : decide (1 < H) = false := decide_eq_false c2
                  clear c1 c2
                  go_wp2_with fail
                  go_roundw
                  case rel => exact ⟨j + 1, _, _, _, by omega, by go_num, HF2.out⟩
                  case measure => simp [intOf]; omega
        · obtain rfl : j = 3 := by omega
          have HF := Lib.hid hF; clear hF
          go_wp2_with fail
          go_roundw
          case rel => exact ⟨i + 1, _, _, _, by omega, by go_num, HF.out⟩
          case measure => simp [intOf]; omega
    · have hi3 : i = 3 := by omega
      have dI : decide ((i : Int) < 3) = false := decide_eq_false (by omega)
      have dIn : decide (i < 3) = false := decide_eq_false hlt
      rw [hi3] at HF
      clear hi3 hi hlt
      have HA0 : Hid (ArrC bcell 1 wr (B + 11) 62 9 (wsq D (9 * 0))) := HF.out.arr
      go_wp2_with fail
      go_loopw [14] (fun s14 wk => ∃ k : Nat, k ≤ 3 ∧ s14 = .int .i64 k ∧ ArrC bcell 1 wk (B + 11) 62 9 (wsq D (9 * k)) ∧ Chg (fun b => b = B + 11) wr wk) (fun s14 _ => 3 - (intOf s14).toNat)
      case atStart => exact ⟨0, by omega, rfl, HA0.out, Chg.refl _ _⟩
      case round =>
        clear HA0
        obtain ⟨k, hk, rfl, hA, hC⟩ := hrel
        have k0 : (0 : Int) ≤ k := by omega
        have HA := Lib.hid hA; clear hA
        have HC := Lib.hid hC; clear hC
        by_cases hkl : k < 3
        · have k1 : (k : Int) < 3 := by omega
          have HA0 : Hid (ArrC bcell 1 wr (B + 11) 62 9 (wsq D (9 * k + 3 * 0))) := HA.out
          obtain ⟨wq, hwq⟩ : ∃ W, W = wr := ⟨_, rfl⟩
          rw [← hwq] at HA0 HC
          rw [← hwq]
          clear hwq HA
          go_wp2_with fail
          go_loopw [15] (fun s15 wk => ∃ i : Nat, i ≤ 3 ∧ s15 = .int .i64 i ∧ ArrC bcell 1 wk (B + 11) 62 9 (wsq D (9 * k + 3 * i)) ∧ Chg (fun b => b = B + 11) wq wk) (fun s15 _ => 3 - (intOf s15).toNat)
          case atStart => exact ⟨0, by omega, rfl, HA0.out, Chg.refl _ _⟩
          case round =>
            clear HA0
            obtain ⟨i, hi, rfl, hA, hC2⟩ := hrel
            have i0 : (0 : Int) ≤ i := by omega
            have HA := Lib.hid hA; clear hA
            have HC2 := Lib.hid hC2; clear hC2
            by_cases hil : i < 3
            · have i1 : (i : Int) < 3 := by omega
              have HA0 : Hid (ArrC bcell 1 wr (B + 11) 62 9 (wsq D (9 * k + 3 * i + 0))) := HA.out
              obtain ⟨wp, hwp⟩ : ∃ W, W = wr := ⟨_, rfl⟩
              rw [← hwp] at HA0 HC2
              rw [← hwp]
              clear hwp HA
              go_wp2_with fail
              go_loopw [16] (fun s16 wk => ∃ j : Nat, j ≤ 3 ∧ s16 = .int .i64 j ∧ ArrC bcell 1 wk (B + 11) 62 9 (wsq D (9 * k + 3 * i + j)) ∧ Chg (fun b => b = B + 11) wp wk) (fun s16 _ => 3 - (intOf s16).toNat)
              case atStart => exact ⟨0, by omega, rfl, HA0.out, Chg.refl _ _⟩
              case round =>
                clear HA0
                obtain ⟨j, hj, rfl, hA, hC3⟩ := hrel
                have j0 : (0 : Int) ≤ j := by omega
                by_cases hjl : j < 3
                · have j1 : (j : Int) < 3 := by omega
                  have hst : wsq D (9 * k + 3 * i + j + 1) = wst (wsq D (9 * k + 3 * i + j)) k i j := by
                    show wst _ ((9 * k + 3 * i + j) / 9) ((9 * k + 3 * i + j) / 3 % 3) ((9 * k + 3 * i + j) % 3) = _
                    rw [show (9 * k + 3 * i + j) / 9 = k from by omega, show (9 * k + 3 * i + j) / 3 % 3 = i from by omega, show (9 * k + 3 * i + j) % 3 = j from by omega]
                  have HST := Lib.hid hst; clear hst
                  generalize wsq D (9 * k + 3 * i + j) = E at *
                  have c0 := hA.cellB (k := 3 * i + j) (off := i * 3 + j) (by omega) (by omega)
                  have c1 := hA.cellB (k := 3 * i + k) (off := i * 3 + k) (by omega) (by omega)
                  have c2 := hA.cellB (k := 3 * k + j) (off := k * 3 + j) (by omega) (by omega)
                  have cf := hA.free (i * 3 + j)
                  have cl := hA.lt
                  have HFX : Hid (∀ v, v = (E (3 * i + j) || (E (3 * i + k) && E (3 * k + j))) → ArrC bcell 1 ((wr.setCell ⟨B + 11, i * 3 + j, none⟩ (.bool v)).drew) (B + 11) 62 9 (wsq D (9 * k + 3 * i + (j + 1))) ∧ Chg (fun b => b = B + 11) wp ((wr.setCell ⟨B + 11, i * 3 + j, none⟩ (.bool v)).drew)) := fun v hv => by
                    have e : wsq D (9 * k + 3 * i + (j + 1)) = upd E (3 * i + j) v := by rw [hv]; exact HST.out
                    rw [e]
                    exact ⟨(hA.setB (by omega) (by omega) v).keep ((Chg.refl (fun _ => False) _).drew) id, (hC3.set1 _).drew⟩
                  clear hA hC3
                  by_cases e1 : E (3 * i + j) = true
                  · have HFY := Lib.hid (HFX.out true (by rw [e1]; rfl))
                    rw [e1] at c0
                    clear HFX e1 c1 c2
                    go_upto_region 33 with fail
                    go_region
                    go_wp2_with fail
                    go_roundw
                    case rel => exact ⟨j + 1, by omega, by go_num, HFY.out.1, HFY.out.2⟩
                    case measure => simp [intOf]; omega
                  · have e1' : E (3 * i + j) = false := by simpa using e1
                    rw [e1'] at c0
                    by_cases e2 : E (3 * i + k) = true
                    · have HFY := Lib.hid (HFX.out (E (3 * k + j)) (by rw [e1', e2]; rfl))
                      rw [e2] at c1
                      generalize E (3 * k + j) = vv at *
                      clear HFX e1 e1' e2
                      go_upto_region 33 with fail
                      go_region
                      go_wp2_with fail
                      go_roundw
                      case rel => exact ⟨j + 1, by omega, by go_num, HFY.out.1, HFY.out.2⟩
                      case measure => simp [intOf]; omega
                    · have e2' : E (3 * i + k) = false := by simpa using e2
                      have HFY := Lib.hid (HFX.out false (by rw [e1', e2']; rfl))
                      rw [e2'] at c1
                      clear HFX e1 e1' e2 e2' c2
                      go_upto_region 33 with fail
                      go_region
                      go_wp2_with fail
                      go_roundw
                      case rel => exact ⟨j + 1, by omega, by go_num, HFY.out.1, HFY.out.2⟩
                      case measure => simp [intOf]; omega
                · obtain rfl : j = 3 := by omega
                  have HX : Hid (ArrC bcell 1 wr (B + 11) 62 9 (wsq D (9 * k + 3 * (i + 1))) ∧ Chg (fun b => b = B + 11) wq wr) := ⟨hA, HC2.out.trans hC3⟩
                  clear hA hC3
                  go_wp2_with fail
                  go_roundw
                  case rel => exact ⟨i + 1, by omega, by go_num, HX.out.1, HX.out.2⟩
                  case measure => simp [intOf]; omega
            · obtain rfl : i = 3 := by omega
              have HX : Hid (ArrC bcell 1 wr (B + 11) 62 9 (wsq D (9 * (k + 1))) ∧ Chg (fun b => b = B + 11) _ wr) := ⟨HA.out, HC.out.trans HC2.out⟩
              go_wp2_with fail
              go_roundw
              case rel => exact ⟨k + 1, by omega, by go_num, HX.out.1, HX.out.2⟩
              case measure => simp [intOf]; omega
        · have hk3 : k = 3 := by omega
          have dK : decide ((k : Int) < 3) = false := decide_eq_false (by omega)
          have dKn : decide (k < 3) = false := decide_eq_false hkl
          rw [hk3] at HA
          clear hk3 hk hkl
          have HCF : Hid (wr.heap[B + 10]? = some (.cells (fpC B gv) 27 (0, 0))) := HC.out.at HF.out.cfg (by omega)
          have HCH : Hid (Chg (fun k => k = B + 10 ∨ k = B + 11) W2 wr) := HF.out.chg.trans (HC.out.mono (fun _ _ e => .inr e))
          have HOW : Hid (OwnC gtc 3 44 wr W2.heap.size gv G) := HF.out.own.keep HC.out (fun k hb e => by have := (own_lt HF.out.own hb).1; have := HS2.out; omega)
          have HRG : Hid (∀ W, Chg (fun _ => False) wr W → RdG W gv G) := fun W hW => (rdg_own HOW.out (by have := HF.out.ginv.few; unfold maxLen; omega)).keepN hW
          have HMAY : Hid (MayP (cLab a0 b0 a1 b1 a2 b2 G)) := may_lab HLK.out.1 HLK.out.2.1 HLK.out.2.2.1 HLK.out.2.2.2.1 HLK.out.2.2.2.2.1 HLK.out.2.2.2.2.2 HF.out.ginv
          have HALL : Hid (∀ x y, x < 3 → y < 3 → D (3 * x + y) = decide (DirP (cLab a0 b0 a1 b1 a2 b2 G) x y)) := DInv.all HF.out.dinv
          have HAR : Hid (ArrC bcell 1 wr (B + 11) 62 9 (wsq D 27)) := HA.out
          obtain ⟨wz, hwz⟩ : ∃ W, W = wr := ⟨_, rfl⟩
          rw [← hwz] at HCF HCH HRG HAR
          rw [← hwz]
          clear hwz HA HC HF HOW
          go_wp2_with fail
          go_loopw [17] (fun s17 wk => ∃ p : Nat, p ≤ 3 ∧ s17 = .int .i64 p ∧ Chg (fun _ => False) wz wk) (fun s17 _ => 3 - (intOf s17).toNat)
          case atStart => exact ⟨0, by omega, rfl, Chg.refl _ _⟩
          case round =>
            obtain ⟨p, hp, rfl, hC⟩ := hrel
            have p0 : (0 : Int) ≤ p := by omega
            have HC := Lib.hid hC; clear hC
            by_cases hpl : p < 3
            · have p1 : (p : Int) < 3 := by omega
              go_wp2_with fail
              go_loopw [18] (fun s18 wk => ∃ q : Nat, q ≤ 3 ∧ s18 = .int .i64 q ∧ Chg (fun _ => False) wz wk) (fun s18 _ => 3 - (intOf s18).toNat)
              case atStart => exact ⟨0, by omega, rfl, HC.out⟩
              case round =>
                clear HC
                obtain ⟨q, hq, rfl, hC⟩ := hrel
                have q0 : (0 : Int) ≤ q := by omega
                have HC := Lib.hid hC; clear hC
                by_cases hql : q < 3
                · have q1 : (q : Int) < 3 := by omega
                  have HFL := Lib.hid (flow_lab HMAY.out HALL.out hpl hql)
                  generalize wsq D 27 = E at *
                  have HY : Hid (∀ W, Chg (fun _ => False) wz W → W.cell? ⟨B + 10, 0, none⟩ = some (.int .i64 16) ∧ W.cell? ⟨B + 10, 1, none⟩ = some (.slice (some ⟨B + 4, 0, none⟩) 3 3) ∧ W.cell? ⟨B + 10, 2, none⟩ = some (.slice (some ⟨B + 7, 0, none⟩) 2 2) ∧ W.cell? ⟨B + 10, 3, none⟩ = some (.int .i64 6) ∧ W.cell? ⟨B + 10, 4, none⟩ = some (.slice (some ⟨B + 8, 0, none⟩) 3 3) ∧ W.cell? ⟨B + 10, 5, none⟩ = some gv ∧ W.cell? ⟨B + 10, 6, none⟩ = some (.int .i64 10) ∧ W.cell? ⟨B + 10, 7, none⟩ = some (.int .i64 6) ∧ W.cell? ⟨B + 10, 8, none⟩ = some (.int .i64 2) ∧ W.cell? ⟨B + 11, p * 3 + q, none⟩ = some (.bool (E (3 * p + q)))) := fun W hW => by
                    have h := hW.at HCF.out id
                    exact ⟨blk_cell h 0, blk_cell h 1, blk_cell h 2, blk_cell h 3, blk_cell h 4, blk_cell h 5, blk_cell h 6, blk_cell h 7, blk_cell h 8, (HAR.out.keep hW id).cellB (by omega) (by omega)⟩
                  go_upto_region 40 with fail
                  refine wp_region_held_drew (S := fun W => Chg (fun _ => False) wz W) (by kernel_rfl) (HC.out.drew) (fun hHeld => ?_)
                  have HRR : Hid (Chg (fun _ => False) wz _) := hHeld
                  refine wpAnyH_take (i := 0) (oi := ({ dst := some 187, op := Go.Op.load 27 (Go.Operand.tmp 5), type := 27, pos := "more.go:43", after := #[], guard := none } : Oper)) (v := ?_) rfl (by kernel_rfl) (by kernel_rfl) (by kernel_rfl) (fun _ _ _ h => h) (Or.inl ⟨by rfl, ?_⟩) (by assumption) ?_
                  rotate_left
                  · (intro w hSw; (try dsimp only at hSw); obtain ⟨y0, y1, y2, y3, y4, y5, y6, y7, y8, c0⟩ := HY.out _ hSw;  go_simp; try with_reducible rfl)
                  try simp only [Act.put, List.setIfInBounds_toArray, List.set_cons_zero, List.set_cons_succ]
                  refine wpAnyH_take (i := 1) (oi := ({ dst := some 188, op := Go.Op.move (Go.Operand.tmp 17), type := 3, pos := "more.go:43", after := #[], guard := none } : Oper)) (v := ?_) rfl (by kernel_rfl) (by kernel_rfl) (by kernel_rfl) (fun _ _ _ h => h) (Or.inl ⟨by rfl, ?_⟩) (by assumption) ?_
                  rotate_left
                  · (intro w hSw; (try dsimp only at hSw); obtain ⟨y0, y1, y2, y3, y4, y5, y6, y7, y8, c0⟩ := HY.out _ hSw;  go_simp; try with_reducible rfl)
                  try simp only [Act.put, List.setIfInBounds_toArray, List.set_cons_zero, List.set_cons_succ]
                  refine wpAnyH_take (i := 2) (oi := ({ dst := some 189, op := Go.Op.move (Go.Operand.tmp 18), type := 3, pos := "more.go:43", after := #[], guard := none } : Oper)) (v := ?_) rfl (by kernel_rfl) (by kernel_rfl) (by kernel_rfl) (fun _ _ _ h => h) (Or.inl ⟨by rfl, ?_⟩) (by assumption) ?_
                  rotate_left
                  · (intro w hSw; (try dsimp only at hSw); obtain ⟨y0, y1, y2, y3, y4, y5, y6, y7, y8, c0⟩ := HY.out _ hSw;  go_simp; try with_reducible rfl)
                  try simp only [Act.put, List.setIfInBounds_toArray, List.set_cons_zero, List.set_cons_succ]
                  refine wpAnyH_take (i := 4) (oi := ({ dst := some 191, op := Go.Op.move (Go.Operand.tmp 17), type := 3, pos := "more.go:43", after := #[], guard := none } : Oper)) (v := ?_) rfl (by kernel_rfl) (by kernel_rfl) (by kernel_rfl) (fun _ _ _ h => h) (Or.inl ⟨by rfl, ?_⟩) (by assumption) ?_
                  rotate_left
                  · (intro w hSw; (try dsimp only at hSw); obtain ⟨y0, y1, y2, y3, y4, y5, y6, y7, y8, c0⟩ := HY.out _ hSw;  go_simp; try with_reducible rfl)
                  try simp only [Act.put, List.setIfInBounds_toArray, List.set_cons_zero, List.set_cons_succ]
                  refine wpAnyH_take (i := 5) (oi := ({ dst := some 192, op := Go.Op.move (Go.Operand.tmp 18), type := 3, pos := "more.go:43", after := #[], guard := none } : Oper)) (v := ?_) rfl (by kernel_rfl) (by kernel_rfl) (by kernel_rfl) (fun _ _ _ h => h) (Or.inl ⟨by rfl, ?_⟩) (by assumption) ?_
                  rotate_left
                  · (intro w hSw; (try dsimp only at hSw); obtain ⟨y0, y1, y2, y3, y4, y5, y6, y7, y8, c0⟩ := HY.out _ hSw;  go_simp; try with_reducible rfl)
                  try simp only [Act.put, List.setIfInBounds_toArray, List.set_cons_zero, List.set_cons_succ]
                  refine wpAnyH_take (i := 6) (oi := ({ dst := some 193, op := Go.Op.indexAddr 62 (Go.Operand.tmp 6) (Go.Operand.tmp 191), type := 0, pos := "more.go:43", after := #[{ on := 4, ground := Go.Ground.data }], guard := none } : Oper)) (v := ?_) rfl (by kernel_rfl) (by kernel_rfl) (by kernel_rfl) (fun _ _ _ h => h) (Or.inl ⟨by rfl, ?_⟩) (by assumption) ?_
                  rotate_left
                  · (intro w hSw; (try dsimp only at hSw); obtain ⟨y0, y1, y2, y3, y4, y5, y6, y7, y8, c0⟩ := HY.out _ hSw;  go_simp; try with_reducible rfl)
                  try simp only [Act.put, List.setIfInBounds_toArray, List.set_cons_zero, List.set_cons_succ]
                  refine wpAnyH_take (i := 7) (oi := ({ dst := some 194, op := Go.Op.indexAddr 61 (Go.Operand.tmp 193) (Go.Operand.tmp 192), type := 0, pos := "more.go:43", after := #[{ on := 6, ground := Go.Ground.data }, { on := 5, ground := Go.Ground.data }], guard := none } : Oper)) (v := ?_) rfl (by kernel_rfl) (by kernel_rfl) (by kernel_rfl) (fun _ _ _ h => h) (Or.inl ⟨by rfl, ?_⟩) (by assumption) ?_
                  rotate_left
                  · (intro w hSw; (try dsimp only at hSw); obtain ⟨y0, y1, y2, y3, y4, y5, y6, y7, y8, c0⟩ := HY.out _ hSw;  go_simp; try with_reducible rfl)
                  try simp only [Act.put, List.setIfInBounds_toArray, List.set_cons_zero, List.set_cons_succ]
                  refine wpAnyH_take (i := 8) (oi := ({ dst := some 195, op := Go.Op.load 4 (Go.Operand.tmp 194), type := 4, pos := "more.go:43", after := #[{ on := 7, ground := Go.Ground.data }], guard := none } : Oper)) (v := ?_) rfl (by kernel_rfl) (by kernel_rfl) (by kernel_rfl) (fun _ _ _ h => h) (Or.inl ⟨by rfl, ?_⟩) (by assumption) ?_
                  rotate_left
                  · (intro w hSw; (try dsimp only at hSw); obtain ⟨y0, y1, y2, y3, y4, y5, y6, y7, y8, c0⟩ := HY.out _ hSw;  go_simp; try with_reducible rfl)
                  try simp only [Act.put, List.setIfInBounds_toArray, List.set_cons_zero, List.set_cons_succ]
                  refine wpAnyH_ready (rs := [3]) (by kernel_rfl) (List.cons_ne_nil _ _) ?_
                  refine AllReadyH.cons (o := ({ dst := some 190, op := Go.Op.call { callee := Go.Callee.value (Go.Operand.func 37), args := #[Go.Operand.tmp 187, Go.Operand.tmp 188, Go.Operand.tmp 189], argTypes := #[27, 3, 3] }, type := 4, pos := "more.go:43", after := #[{ on := 0, ground := Go.Ground.data }, { on := 1, ground := Go.Ground.data }, { on := 2, ground := Go.Ground.data }], guard := none } : Oper)) rfl (fun K hK => ?_) AllReadyH.nil
                  refine Eq.mpr (if_pos (by rfl)) ?_
                  go_simp
                  (go_at_call 37; refine (vFlows p q _ _ _ ((HLAB.out _ (HCH.out.trans (HRR.out.mono (fun _ _ h => h.elim)))).R (HRG.out _ HRR.out))).mono ?_; rintro e w8 ⟨rfl, k8⟩; rw [HFL.out]; replace HRR := Lib.hid (HRR.out.trans k8); clear k8)
                  refine hK.out _ _ (HRR.out) (fun hHeld => ?_)
                  clear hK K
                  try simp only [Act.put, List.setIfInBounds_toArray, List.set_cons_zero, List.set_cons_succ]
                  refine wpAnyH_take (i := 9) (oi := ({ dst := some 196, op := Go.Op.binOp Go.BinOp.neq 4 (Go.Operand.tmp 190) (Go.Operand.tmp 195) 4, type := 4, pos := "more.go:43", after := #[{ on := 3, ground := Go.Ground.data }, { on := 8, ground := Go.Ground.data }], guard := none } : Oper)) (v := ?_) rfl (by kernel_rfl) (by kernel_rfl) (by kernel_rfl) (fun _ _ _ h => h) (Or.inl ⟨by rfl, ?_⟩) (by assumption) ?_
                  rotate_left
                  · (intro w hSw; (try dsimp only at hSw); obtain ⟨y0, y1, y2, y3, y4, y5, y6, y7, y8, c0⟩ := HY.out _ hSw;  go_simp; try with_reducible rfl)
                  try simp only [Act.put, List.setIfInBounds_toArray, List.set_cons_zero, List.set_cons_succ]
                  refine wpAnyH_done (by kernel_rfl) ?_ _
                  go_wp2_with fail
                  go_roundw
                  case rel => exact ⟨q + 1, by omega, by go_num, HRR.out⟩
                  case measure => simp [intOf]; omega
                · obtain rfl : q = 3 := by omega
                  go_wp2_with fail
                  go_roundw
                  case rel => exact ⟨p + 1, by omega, by go_num, HC.out⟩
                  case measure => simp [intOf]; omega
            · obtain rfl : p = 3 := by omega
              go_wp2_with fail
              refine (num16 _ _).mono ?_
              rintro e x9 ⟨rfl, rfl⟩
              go_wp2_with fail
              go_ret
              exact ⟨rfl, (HCW.out.trans' HCH.out (fun k hk e => by have := HWBW.out; omega)).trans HC.out⟩
theorem flowPlain_walk (w : World) (levels grants : Int) :
    Calls Try.prog 11 #[.int .i64 levels, .int .i64 grants] w fun e w' => e = .returned (.bool true) ∧ Below w.heap.size w w' :=
  (flowPlain_c levels grants w).mono fun e w' ⟨h1, h2⟩ => ⟨h1, h2.below (Nat.le_refl _) (fun _ h => h.elim)⟩
end Go.Proofs.Ytncbcjjdnlmjbaa
