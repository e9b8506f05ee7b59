/- The law IrqApart. -/
import Derived.Test.YtpnhdiajiieonaaApart13
import Derived.LoopN
set_option linter.unusedSimpArgs false
set_option linter.unusedVariables false
namespace Go.Proofs.Ytpnhdiajiieonaa
open Go.RowKit
attribute [local go_sem] i64_and1 i64_and7
section
variable {w0 W : World} {u : Nat} {f : Nat → Ent} {S : Nat → Nat → Bool} {F : Nat → Prop}
theorem ust0 (h : US w0 W u 2 2 f S F) (d v : Int) (b : Bool) : Calls Try.prog 64 #[.pointer (some ⟨u, 0, none⟩), .int .i64 d, .int .i64 v, .int .i64 d] W (USPost w0 u 2 2 (ustF 0 d v b f) (ustS 0 d v f S) F (ustC 0 d v f) W) := usRoute h d v d
theorem ust1 (h : US w0 W u 2 2 f S F) (d v : Int) (b : Bool) : Calls Try.prog 64 #[.pointer (some ⟨u, 0, none⟩), .int .i64 d, .int .i64 v, .int .i64 d] W (USPost w0 u 2 2 (ustF 1 d v b f) (ustS 1 d v f S) F (ustC 1 d v f) W) := usRoute h d v d
theorem ust2 (h : US w0 W u 2 2 f S F) (d v : Int) (b : Bool) : Calls Try.prog 65 #[.pointer (some ⟨u, 0, none⟩), .int .i64 d, .int .i64 v] W (USPost w0 u 2 2 (ustF 2 d v b f) (ustS 2 d v f S) F (ustC 2 d v f) W) := usUnroute h (by omega) d v
theorem ust3 (h : US w0 W u 2 2 f S F) (d v : Int) (b : Bool) : Calls Try.prog 66 #[.pointer (some ⟨u, 0, none⟩), .int .i64 d, .int .i64 v, .bool b] W (USPost w0 u 2 2 (ustF 3 d v b f) (ustS 3 d v f S) F (ustC 3 d v f) W) := usMask h d v b
theorem ust5 (h : US w0 W u 2 2 f S F) (d v : Int) (b : Bool) : Calls Try.prog 68 #[.pointer (some ⟨u, 0, none⟩), .int .i64 d] W (USPost w0 u 2 2 (ustF 5 d v b f) (ustS 5 d v f S) F (ustC 5 d v f) W) := usClear h (by omega) d
theorem ust6 (h : US w0 W u 2 2 f S F) (d v : Int) (b : Bool) : Calls Try.prog 67 #[.pointer (some ⟨u, 0, none⟩), .int .i64 d, .int .i64 v, .int .i64 d] W (USPost w0 u 2 2 (ustF 6 d v b f) (ustS 6 d v f S) F (ustC 6 d v f) W) := usRaise h (by omega) d v d
theorem ust7 (h : US w0 W u 2 2 f S F) (d v : Int) (b : Bool) : Calls Try.prog 67 #[.pointer (some ⟨u, 0, none⟩), .int .i64 d, .int .i64 v, .int .i64 d] W (USPost w0 u 2 2 (ustF 7 d v b f) (ustS 7 d v f S) F (ustC 7 d v f) W) := usRaise h (by omega) d v d
end
set_option maxRecDepth 100000 in
set_option maxHeartbeats 100000000 in
theorem irqApart_main (A : Option Addr) (ca : Nat) (xs : List Int) (w0 : World) (hx : xs.length ≤ 9223372036854775807) (rx : RowC w0 A (xs.flatMap icell)) :
    Calls Try.prog 18 #[.slice A xs.length ca] w0 fun e w' => e = .returned (.bool true) ∧ Chg (fun _ => False) w0 w' := by
  go_enter Try.func18, Try.ntmps18
  go_wp2_with fail
  refine (awake13 _).mono ?_
  rintro e w ⟨rfl, hC0⟩
  have HC0 := Lib.hid hC0; clear hC0
  go_wp2_with fail
  refine (usNew 2 2 w0 w (by omega) (by omega) HC0.out).mono ?_
  rintro e w1 ⟨u, F, rfl, P, -, -⟩
  clear HC0
  have HP := Lib.hid P; clear P
  go_wp2_with fail
  refine (usNew 2 2 w0 w1 (by omega) (by omega) HP.out.chg).mono ?_
  rintro e w2 ⟨v, G, rfl, Q, hG, k2⟩
  have h2 : U2 w0 w2 u v ub0 ub0 us0 us0 F G := ⟨HP.out.keepN k2, Q, fun k hF hg => by have := HP.out.at_.lt k hF; have := hG k hg; omega⟩
  have hL : LikeU ub0 ub0 us0 us0 := ⟨fun _ _ => rfl, fun _ _ => rfl, fun _ _ _ => rfl, fun _ _ _ => rfl, fun _ _ => rfl⟩
  have H2 := Lib.hid (And.intro h2 hL); clear h2 hL Q hG k2 HP
  go_wp2_with fail
  refine (num16 0 w2).mono ?_
  rintro e w3 ⟨rfl, rfl⟩
  go_wp2_with fail
  refine (num16 0 w2).mono ?_
  rintro e w3 ⟨rfl, rfl⟩
  go_wp2_with fail
  go_loopw [7] (fun s wr => ∃ (j : Nat) (f g : Nat → Ent) (S T : Nat → Nat → Bool) (F G : Nat → Prop), j ≤ xs.length ∧ s = .int .i64 j ∧ U2 w0 wr u v f g S T F G ∧ LikeU f g S T) (fun s _ => xs.length - (intOf s).toNat)
  case atStart => exact ⟨0, ub0, ub0, us0, us0, F, G, by omega, rfl, H2.out⟩
  case round =>
    clear H2
    clear F G
    obtain ⟨j, f, g, S, T, F, G, hj, rfl, hP, hL⟩ := hrel
    have j0 : (0 : Int) ≤ j := by omega
    by_cases hlt : j < xs.length ∧ j < 60
    · obtain ⟨hlt, h60⟩ := hlt
      have j1 : (j : Int) < xs.length := by omega
      have j2 : (j : Int) < 60 := by omega
      obtain ⟨b, o, rfl, c0w⟩ := intAt rx j hlt
      have c0 := hP.a.chg.cell c0w id
      generalize xs[j] = x at *
      obtain ⟨dv, hdv, hdv8⟩ : ∃ k : Nat, x / 2 % 8 = k ∧ k < 8 := ⟨(x / 2 % 8).toNat, by omega, by omega⟩
      obtain ⟨m, hm, hm8⟩ : ∃ k : Nat, x / 16 % 8 = k ∧ k < 8 := ⟨(x / 16 % 8).toNat, by omega, by omega⟩
      have HP := Lib.hid hP; clear hP
      have HL := Lib.hid hL; clear hL
      have HDV := Lib.hid hdv; clear hdv
      have HM := Lib.hid hm; clear hm
      have C0W := Lib.hid c0w; clear c0w
      have v0 : (0 : Int) ≤ dv := by omega
      go_wp2_with fail
      go_quiet (fail)
      rename_i nq
      rw [HDV.out]
      have hPq := HP.out.keepN ((Chg.refl (fun _ => False) _).drewN nq)
      have HPQ := Lib.hid hPq; clear hPq
      have hwq : ∃ wq, wq = wr.drewN nq := ⟨_, rfl⟩
      obtain ⟨wq, hwq⟩ := hwq
      rw [← hwq] at HPQ ⊢
      clear hwq HP c0 HDV
      rcases (by omega : x % 2 = 0 ∨ x % 2 = 1) with hd | hd
      · rw [hd]
        clear hd
        obtain ⟨B, hBe⟩ : ∃ B, B = wq.heap.size := ⟨_, rfl⟩
        rcases (by omega : m = 0 ∨ m = 1 ∨ m = 2 ∨ m = 3 ∨ m = 4 ∨ m = 5 ∨ m = 6 ∨ m = 7) with rfl | rfl | rfl | rfl | rfl | rfl | rfl | rfl
        · have hm := HM.out; clear HM
          go_wp2_with fail
          refine wp_abs (fun W => U2 w0 W u v f g S T F G ∧ W.heap[B]? = some (.cells #[.pointer (some ⟨u, 0, none⟩), .pointer (some ⟨v, 0, none⟩)] 96 (0, 0)) ∧ W.heap[B + 1]? = some (.cells #[.int .i64 0, .int .i64 0] 111 (0, 0)) ∧ W.heap[B + 1 + 1]? = some (.cells #[.slice none 0 0, .slice none 0 0] 112 (0, 0))) ⟨HPQ.out.keepN ((((Chg.refl _ _).alloc (.cells #[.pointer (some ⟨u, 0, none⟩), .pointer (some ⟨v, 0, none⟩)] 96)).alloc (.cells #[.int .i64 0, .int .i64 0] 111)).alloc (.cells #[.slice none 0 0, .slice none 0 0] 112)), by rw [hBe]; exact blk_alloc (blk_alloc (blk_new _ _) _) _, by rw [hBe]; exact blk_alloc (blk_new2 _ _ _) _, by rw [hBe]; exact blk_new3 _ _ _ _⟩ ?_
          rw [← hBe]
          rintro W ⟨h0, e0, e1, e2⟩
          have hNF : ∀ i, i < 3 → ¬ F (B + i) ∧ ¬ G (B + i) := fun i hi => ⟨fun hin => by have := HPQ.out.a.at_.lt _ hin; omega, fun hin => by have := HPQ.out.b.at_.lt _ hin; omega⟩
          have hB0 : w0.heap.size ≤ B := by rw [hBe]; exact HPQ.out.a.chg.size
          have NF := Lib.hid hNF; clear hNF
          have H0 := Lib.hid h0; clear h0
          have E0 := Lib.hid (And.intro e0 (And.intro e1 e2))
          have p0 := blk_cell e0 0
          have c0 := H0.out.a.chg.cell C0W.out id
          clear e0 e1 e2 HPQ hBe
          refine wp_loop_rounds 3 ?_
          obtain ⟨hCC, hLL, hLk⟩ := HL.out.both (m := 0) hdv8 (x / 128 % 2 == 1) j
          have HLK := Lib.hid hLk; clear hLk HL
          have HCC := Lib.hid hCC; clear hCC
          have HLL := Lib.hid hLL; clear hLL
          rw [rounds_succ]
          go_wp2_with fail
          refine (ust0 H0.out.a 0 dv (x / 128 % 2 == 1)).mono ?_
          rintro e w5 ⟨rfl, F1, a5, f5, k5⟩
          rw [HCC.out]
          have P5 := H0.out.step a5 f5 k5
          have e0 := k5.at E0.out.1 (NF.out 0 (by omega)).1
          have e1 := k5.at E0.out.2.1 (NF.out 1 (by omega)).1
          have e2 := k5.at E0.out.2.2 (NF.out 2 (by omega)).1
          have hNF1 : ∀ i, i < 3 → ¬ F1 (B + i) ∧ ¬ G (B + i) := fun i hi => ⟨footKeep f5 (NF.out i hi).1 (by have := lt_of_heap E0.out.2.2; omega), (NF.out i hi).2⟩
          have NF1 := Lib.hid hNF1; clear hNF1
          have q0 := blk_cell e1 0
          have q1 := blk_free e1 0
          have hP1 := fun y : Value => P5.other (Chg.set1 (i := 0) (Chg.refl _ _) y) (fun k hk => ⟨by rw [hk]; exact (NF1.out 1 (by omega)).1, by rw [hk]; exact (NF1.out 1 (by omega)).2, by omega⟩ : ∀ k, k = B + 1 → _)
          have HPS := Lib.hid hP1; clear hP1 P5
          have hE1 := fun y : Value => And.intro (blk_far (a := ⟨B + 1, 0, none⟩) e0 (by simp only; omega) y) (And.intro (blk_set e1 0 y) (blk_far (a := ⟨B + 1, 0, none⟩) e2 (by simp only; omega) y))
          have HE1 := Lib.hid hE1; clear hE1 e0 e1 e2 a5 f5 k5
          clear H0 E0 NF p0 c0
          go_wp2_with fail
          refine (num16 _ _).mono ?_
          rintro e x1 ⟨rfl, rfl⟩
          go_wp2_with fail
          have H1 := Lib.hid (HPS.out (.int .i64 (ustC 0 0 dv g))); clear HPS
          have E1 := Lib.hid (And.intro (HE1.out (.int .i64 (ustC 0 0 dv g))).1 (And.intro (HE1.out (.int .i64 (ustC 0 0 dv g))).2.1 (HE1.out (.int .i64 (ustC 0 0 dv g))).2.2)); clear HE1
          clear q0 q1
          have c0 := H1.out.a.chg.cell C0W.out id
          have p0 := blk_cell E1.out.1 1
          rw [rounds_succ]
          go_wp2_with fail
          refine (ust0 H1.out.b 0 dv (x / 128 % 2 == 1)).mono ?_
          rintro e w5 ⟨rfl, F2, a5, f5, k5⟩
          have P5 := (H1.out.swap.step a5 f5 k5).swap
          have e0 := k5.at E1.out.1 (NF1.out 0 (by omega)).2
          have e1 := k5.at E1.out.2.1 (NF1.out 1 (by omega)).2
          have e2 := k5.at E1.out.2.2 (NF1.out 2 (by omega)).2
          have hNF2 : ∀ i, i < 3 → ¬ F1 (B + i) ∧ ¬ F2 (B + i) := fun i hi => ⟨(NF1.out i hi).1, footKeep f5 (NF1.out i hi).2 (by have := lt_of_heap E1.out.2.2; omega)⟩
          have NF2 := Lib.hid hNF2; clear hNF2
          have q0 := blk_cell e1 1
          have q1 := blk_free e1 1
          have hP2 := fun y : Value => P5.other (Chg.set1 (i := 1) (Chg.refl _ _) y) (fun k hk => ⟨by rw [hk]; exact (NF2.out 1 (by omega)).1, by rw [hk]; exact (NF2.out 1 (by omega)).2, by omega⟩ : ∀ k, k = B + 1 → _)
          have HPS := Lib.hid hP2; clear hP2 P5
          have hE2 := fun y : Value => And.intro (blk_far (a := ⟨B + 1, 1, none⟩) e0 (by simp only; omega) y) (And.intro (blk_set e1 1 y) (blk_far (a := ⟨B + 1, 1, none⟩) e2 (by simp only; omega) y))
          have HE2 := Lib.hid hE2; clear hE2 e0 e1 e2 a5 f5 k5
          clear H1 E1 NF1 p0 c0
          go_wp2_with fail
          refine (num16 _ _).mono ?_
          rintro e x1 ⟨rfl, rfl⟩
          go_wp2_with fail
          have H2 := Lib.hid (HPS.out (.int .i64 (ustC 0 0 dv g))); clear HPS
          have E2 := Lib.hid (And.intro (HE2.out (.int .i64 (ustC 0 0 dv g))).1 (And.intro (HE2.out (.int .i64 (ustC 0 0 dv g))).2.1 (HE2.out (.int .i64 (ustC 0 0 dv g))).2.2)); clear HE2
          clear q0 q1
          rw [rounds_succ]
          have g0 := blk_cell E2.out.2.1 0
          have g1 := blk_cell E2.out.2.1 1
          have i0 := blk_cell E2.out.2.2 0
          have i1 := blk_cell E2.out.2.2 1
          clear hm
          go_wp2_with fail
          refine (sameYes (.slice none 0 0) (.slice none 0 0) [] _ (RdI.of (OwnC.nil _ 0)) (RdI.of (OwnC.nil _ 0)) (by decide)).mono ?_
          rintro e w8 ⟨rfl, k8⟩
          have H9 := Lib.hid (H2.out.keepN k8); clear k8
          clear g0 g1 i0 i1
          go_wp2_with fail
          go_roundw
          case rel => exact ⟨j + 1, _, _, _, _, _, _, by omega, by go_num, H9.out, HLK.out⟩
          case measure => simp [intOf]; omega
        · have hm := HM.out; clear HM
          go_wp2_with fail
          refine wp_abs (fun W => U2 w0 W u v f g S T F G ∧ W.heap[B]? = some (.cells #[.pointer (some ⟨u, 0, none⟩), .pointer (some ⟨v, 0, none⟩)] 96 (0, 0)) ∧ W.heap[B + 1]? = some (.cells #[.int .i64 0, .int .i64 0] 111 (0, 0)) ∧ W.heap[B + 1 + 1]? = some (.cells #[.slice none 0 0, .slice none 0 0] 112 (0, 0))) ⟨HPQ.out.keepN ((((Chg.refl _ _).alloc (.cells #[.pointer (some ⟨u, 0, none⟩), .pointer (some ⟨v, 0, none⟩)] 96)).alloc (.cells #[.int .i64 0, .int .i64 0] 111)).alloc (.cells #[.slice none 0 0, .slice none 0 0] 112)), by rw [hBe]; exact blk_alloc (blk_alloc (blk_new _ _) _) _, by rw [hBe]; exact blk_alloc (blk_new2 _ _ _) _, by rw [hBe]; exact blk_new3 _ _ _ _⟩ ?_
          rw [← hBe]
          rintro W ⟨h0, e0, e1, e2⟩
          have hNF : ∀ i, i < 3 → ¬ F (B + i) ∧ ¬ G (B + i) := fun i hi => ⟨fun hin => by have := HPQ.out.a.at_.lt _ hin; omega, fun hin => by have := HPQ.out.b.at_.lt _ hin; omega⟩
          have hB0 : w0.heap.size ≤ B := by rw [hBe]; exact HPQ.out.a.chg.size
          have NF := Lib.hid hNF; clear hNF
          have H0 := Lib.hid h0; clear h0
          have E0 := Lib.hid (And.intro e0 (And.intro e1 e2))
          have p0 := blk_cell e0 0
          have c0 := H0.out.a.chg.cell C0W.out id
          clear e0 e1 e2 HPQ hBe
          refine wp_loop_rounds 3 ?_
          obtain ⟨hCC, hLL, hLk⟩ := HL.out.both (m := 1) hdv8 (x / 128 % 2 == 1) j
          have HLK := Lib.hid hLk; clear hLk HL
          have HCC := Lib.hid hCC; clear hCC
          have HLL := Lib.hid hLL; clear hLL
          rw [rounds_succ]
          go_wp2_with fail
          refine (ust1 H0.out.a 0 dv (x / 128 % 2 == 1)).mono ?_
          rintro e w5 ⟨rfl, F1, a5, f5, k5⟩
          rw [HCC.out]
          have P5 := H0.out.step a5 f5 k5
          have e0 := k5.at E0.out.1 (NF.out 0 (by omega)).1
          have e1 := k5.at E0.out.2.1 (NF.out 1 (by omega)).1
          have e2 := k5.at E0.out.2.2 (NF.out 2 (by omega)).1
          have hNF1 : ∀ i, i < 3 → ¬ F1 (B + i) ∧ ¬ G (B + i) := fun i hi => ⟨footKeep f5 (NF.out i hi).1 (by have := lt_of_heap E0.out.2.2; omega), (NF.out i hi).2⟩
          have NF1 := Lib.hid hNF1; clear hNF1
          have q0 := blk_cell e1 0
          have q1 := blk_free e1 0
          have hP1 := fun y : Value => P5.other (Chg.set1 (i := 0) (Chg.refl _ _) y) (fun k hk => ⟨by rw [hk]; exact (NF1.out 1 (by omega)).1, by rw [hk]; exact (NF1.out 1 (by omega)).2, by omega⟩ : ∀ k, k = B + 1 → _)
          have HPS := Lib.hid hP1; clear hP1 P5
          have hE1 := fun y : Value => And.intro (blk_far (a := ⟨B + 1, 0, none⟩) e0 (by simp only; omega) y) (And.intro (blk_set e1 0 y) (blk_far (a := ⟨B + 1, 0, none⟩) e2 (by simp only; omega) y))
          have HE1 := Lib.hid hE1; clear hE1 e0 e1 e2 a5 f5 k5
          clear H0 E0 NF p0 c0
          go_wp2_with fail
          refine (num16 _ _).mono ?_
          rintro e x1 ⟨rfl, rfl⟩
          go_wp2_with fail
          have H1 := Lib.hid (HPS.out (.int .i64 (ustC 1 0 dv g))); clear HPS
          have E1 := Lib.hid (And.intro (HE1.out (.int .i64 (ustC 1 0 dv g))).1 (And.intro (HE1.out (.int .i64 (ustC 1 0 dv g))).2.1 (HE1.out (.int .i64 (ustC 1 0 dv g))).2.2)); clear HE1
          clear q0 q1
          have c0 := H1.out.a.chg.cell C0W.out id
          have p0 := blk_cell E1.out.1 1
          rw [rounds_succ]
          go_wp2_with fail
          refine (ust1 H1.out.b 0 dv (x / 128 % 2 == 1)).mono ?_
          rintro e w5 ⟨rfl, F2, a5, f5, k5⟩
          have P5 := (H1.out.swap.step a5 f5 k5).swap
          have e0 := k5.at E1.out.1 (NF1.out 0 (by omega)).2
          have e1 := k5.at E1.out.2.1 (NF1.out 1 (by omega)).2
          have e2 := k5.at E1.out.2.2 (NF1.out 2 (by omega)).2
          have hNF2 : ∀ i, i < 3 → ¬ F1 (B + i) ∧ ¬ F2 (B + i) := fun i hi => ⟨(NF1.out i hi).1, footKeep f5 (NF1.out i hi).2 (by have := lt_of_heap E1.out.2.2; omega)⟩
          have NF2 := Lib.hid hNF2; clear hNF2
          have q0 := blk_cell e1 1
          have q1 := blk_free e1 1
          have hP2 := fun y : Value => P5.other (Chg.set1 (i := 1) (Chg.refl _ _) y) (fun k hk => ⟨by rw [hk]; exact (NF2.out 1 (by omega)).1, by rw [hk]; exact (NF2.out 1 (by omega)).2, by omega⟩ : ∀ k, k = B + 1 → _)
          have HPS := Lib.hid hP2; clear hP2 P5
          have hE2 := fun y : Value => And.intro (blk_far (a := ⟨B + 1, 1, none⟩) e0 (by simp only; omega) y) (And.intro (blk_set e1 1 y) (blk_far (a := ⟨B + 1, 1, none⟩) e2 (by simp only; omega) y))
          have HE2 := Lib.hid hE2; clear hE2 e0 e1 e2 a5 f5 k5
          clear H1 E1 NF1 p0 c0
          go_wp2_with fail
          refine (num16 _ _).mono ?_
          rintro e x1 ⟨rfl, rfl⟩
          go_wp2_with fail
          have H2 := Lib.hid (HPS.out (.int .i64 (ustC 1 0 dv g))); clear HPS
          have E2 := Lib.hid (And.intro (HE2.out (.int .i64 (ustC 1 0 dv g))).1 (And.intro (HE2.out (.int .i64 (ustC 1 0 dv g))).2.1 (HE2.out (.int .i64 (ustC 1 0 dv g))).2.2)); clear HE2
          clear q0 q1
          rw [rounds_succ]
          have g0 := blk_cell E2.out.2.1 0
          have g1 := blk_cell E2.out.2.1 1
          have i0 := blk_cell E2.out.2.2 0
          have i1 := blk_cell E2.out.2.2 1
          clear hm
          go_wp2_with fail
          refine (sameYes (.slice none 0 0) (.slice none 0 0) [] _ (RdI.of (OwnC.nil _ 0)) (RdI.of (OwnC.nil _ 0)) (by decide)).mono ?_
          rintro e w8 ⟨rfl, k8⟩
          have H9 := Lib.hid (H2.out.keepN k8); clear k8
          clear g0 g1 i0 i1
          go_wp2_with fail
          go_roundw
          case rel => exact ⟨j + 1, _, _, _, _, _, _, by omega, by go_num, H9.out, HLK.out⟩
          case measure => simp [intOf]; omega
        · have hm := HM.out; clear HM
          go_wp2_with fail
          refine wp_abs (fun W => U2 w0 W u v f g S T F G ∧ W.heap[B]? = some (.cells #[.pointer (some ⟨u, 0, none⟩), .pointer (some ⟨v, 0, none⟩)] 96 (0, 0)) ∧ W.heap[B + 1]? = some (.cells #[.int .i64 0, .int .i64 0] 111 (0, 0)) ∧ W.heap[B + 1 + 1]? = some (.cells #[.slice none 0 0, .slice none 0 0] 112 (0, 0))) ⟨HPQ.out.keepN ((((Chg.refl _ _).alloc (.cells #[.pointer (some ⟨u, 0, none⟩), .pointer (some ⟨v, 0, none⟩)] 96)).alloc (.cells #[.int .i64 0, .int .i64 0] 111)).alloc (.cells #[.slice none 0 0, .slice none 0 0] 112)), by rw [hBe]; exact blk_alloc (blk_alloc (blk_new _ _) _) _, by rw [hBe]; exact blk_alloc (blk_new2 _ _ _) _, by rw [hBe]; exact blk_new3 _ _ _ _⟩ ?_
          rw [← hBe]
          rintro W ⟨h0, e0, e1, e2⟩
          have hNF : ∀ i, i < 3 → ¬ F (B + i) ∧ ¬ G (B + i) := fun i hi => ⟨fun hin => by have := HPQ.out.a.at_.lt _ hin; omega, fun hin => by have := HPQ.out.b.at_.lt _ hin; omega⟩
          have hB0 : w0.heap.size ≤ B := by rw [hBe]; exact HPQ.out.a.chg.size
          have NF := Lib.hid hNF; clear hNF
          have H0 := Lib.hid h0; clear h0
          have E0 := Lib.hid (And.intro e0 (And.intro e1 e2))
          have p0 := blk_cell e0 0
          have c0 := H0.out.a.chg.cell C0W.out id
          clear e0 e1 e2 HPQ hBe
          refine wp_loop_rounds 3 ?_
          obtain ⟨hCC, hLL, hLk⟩ := HL.out.both (m := 2) hdv8 (x / 128 % 2 == 1) j
          have HLK := Lib.hid hLk; clear hLk HL
          have HCC := Lib.hid hCC; clear hCC
          have HLL := Lib.hid hLL; clear hLL
          rw [rounds_succ]
          go_wp2_with fail
          refine (ust2 H0.out.a 0 dv (x / 128 % 2 == 1)).mono ?_
          rintro e w5 ⟨rfl, F1, a5, f5, k5⟩
          rw [HCC.out]
          have P5 := H0.out.step a5 f5 k5
          have e0 := k5.at E0.out.1 (NF.out 0 (by omega)).1
          have e1 := k5.at E0.out.2.1 (NF.out 1 (by omega)).1
          have e2 := k5.at E0.out.2.2 (NF.out 2 (by omega)).1
          have hNF1 : ∀ i, i < 3 → ¬ F1 (B + i) ∧ ¬ G (B + i) := fun i hi => ⟨footKeep f5 (NF.out i hi).1 (by have := lt_of_heap E0.out.2.2; omega), (NF.out i hi).2⟩
          have NF1 := Lib.hid hNF1; clear hNF1
          have q0 := blk_cell e1 0
          have q1 := blk_free e1 0
          have hP1 := fun y : Value => P5.other (Chg.set1 (i := 0) (Chg.refl _ _) y) (fun k hk => ⟨by rw [hk]; exact (NF1.out 1 (by omega)).1, by rw [hk]; exact (NF1.out 1 (by omega)).2, by omega⟩ : ∀ k, k = B + 1 → _)
          have HPS := Lib.hid hP1; clear hP1 P5
          have hE1 := fun y : Value => And.intro (blk_far (a := ⟨B + 1, 0, none⟩) e0 (by simp only; omega) y) (And.intro (blk_set e1 0 y) (blk_far (a := ⟨B + 1, 0, none⟩) e2 (by simp only; omega) y))
          have HE1 := Lib.hid hE1; clear hE1 e0 e1 e2 a5 f5 k5
          clear H0 E0 NF p0 c0
          go_wp2_with fail
          refine (num16 _ _).mono ?_
          rintro e x1 ⟨rfl, rfl⟩
          go_wp2_with fail
          have H1 := Lib.hid (HPS.out (.int .i64 (ustC 2 0 dv g))); clear HPS
          have E1 := Lib.hid (And.intro (HE1.out (.int .i64 (ustC 2 0 dv g))).1 (And.intro (HE1.out (.int .i64 (ustC 2 0 dv g))).2.1 (HE1.out (.int .i64 (ustC 2 0 dv g))).2.2)); clear HE1
          clear q0 q1
          have c0 := H1.out.a.chg.cell C0W.out id
          have p0 := blk_cell E1.out.1 1
          rw [rounds_succ]
          go_wp2_with fail
          refine (ust2 H1.out.b 0 dv (x / 128 % 2 == 1)).mono ?_
          rintro e w5 ⟨rfl, F2, a5, f5, k5⟩
          have P5 := (H1.out.swap.step a5 f5 k5).swap
          have e0 := k5.at E1.out.1 (NF1.out 0 (by omega)).2
          have e1 := k5.at E1.out.2.1 (NF1.out 1 (by omega)).2
          have e2 := k5.at E1.out.2.2 (NF1.out 2 (by omega)).2
          have hNF2 : ∀ i, i < 3 → ¬ F1 (B + i) ∧ ¬ F2 (B + i) := fun i hi => ⟨(NF1.out i hi).1, footKeep f5 (NF1.out i hi).2 (by have := lt_of_heap E1.out.2.2; omega)⟩
          have NF2 := Lib.hid hNF2; clear hNF2
          have q0 := blk_cell e1 1
          have q1 := blk_free e1 1
          have hP2 := fun y : Value => P5.other (Chg.set1 (i := 1) (Chg.refl _ _) y) (fun k hk => ⟨by rw [hk]; exact (NF2.out 1 (by omega)).1, by rw [hk]; exact (NF2.out 1 (by omega)).2, by omega⟩ : ∀ k, k = B + 1 → _)
          have HPS := Lib.hid hP2; clear hP2 P5
          have hE2 := fun y : Value => And.intro (blk_far (a := ⟨B + 1, 1, none⟩) e0 (by simp only; omega) y) (And.intro (blk_set e1 1 y) (blk_far (a := ⟨B + 1, 1, none⟩) e2 (by simp only; omega) y))
          have HE2 := Lib.hid hE2; clear hE2 e0 e1 e2 a5 f5 k5
          clear H1 E1 NF1 p0 c0
          go_wp2_with fail
          refine (num16 _ _).mono ?_
          rintro e x1 ⟨rfl, rfl⟩
          go_wp2_with fail
          have H2 := Lib.hid (HPS.out (.int .i64 (ustC 2 0 dv g))); clear HPS
          have E2 := Lib.hid (And.intro (HE2.out (.int .i64 (ustC 2 0 dv g))).1 (And.intro (HE2.out (.int .i64 (ustC 2 0 dv g))).2.1 (HE2.out (.int .i64 (ustC 2 0 dv g))).2.2)); clear HE2
          clear q0 q1
          rw [rounds_succ]
          have g0 := blk_cell E2.out.2.1 0
          have g1 := blk_cell E2.out.2.1 1
          have i0 := blk_cell E2.out.2.2 0
          have i1 := blk_cell E2.out.2.2 1
          clear hm
          go_wp2_with fail
          refine (sameYes (.slice none 0 0) (.slice none 0 0) [] _ (RdI.of (OwnC.nil _ 0)) (RdI.of (OwnC.nil _ 0)) (by decide)).mono ?_
          rintro e w8 ⟨rfl, k8⟩
          have H9 := Lib.hid (H2.out.keepN k8); clear k8
          clear g0 g1 i0 i1
          go_wp2_with fail
          go_roundw
          case rel => exact ⟨j + 1, _, _, _, _, _, _, by omega, by go_num, H9.out, HLK.out⟩
          case measure => simp [intOf]; omega
        · have hm := HM.out; clear HM
          go_wp2_with fail
          refine wp_abs (fun W => U2 w0 W u v f g S T F G ∧ W.heap[B]? = some (.cells #[.pointer (some ⟨u, 0, none⟩), .pointer (some ⟨v, 0, none⟩)] 96 (0, 0)) ∧ W.heap[B + 1]? = some (.cells #[.int .i64 0, .int .i64 0] 111 (0, 0)) ∧ W.heap[B + 1 + 1]? = some (.cells #[.slice none 0 0, .slice none 0 0] 112 (0, 0))) ⟨HPQ.out.keepN ((((Chg.refl _ _).alloc (.cells #[.pointer (some ⟨u, 0, none⟩), .pointer (some ⟨v, 0, none⟩)] 96)).alloc (.cells #[.int .i64 0, .int .i64 0] 111)).alloc (.cells #[.slice none 0 0, .slice none 0 0] 112)), by rw [hBe]; exact blk_alloc (blk_alloc (blk_new _ _) _) _, by rw [hBe]; exact blk_alloc (blk_new2 _ _ _) _, by rw [hBe]; exact blk_new3 _ _ _ _⟩ ?_
          rw [← hBe]
          rintro W ⟨h0, e0, e1, e2⟩
          have hNF : ∀ i, i < 3 → ¬ F (B + i) ∧ ¬ G (B + i) := fun i hi => ⟨fun hin => by have := HPQ.out.a.at_.lt _ hin; omega, fun hin => by have := HPQ.out.b.at_.lt _ hin; omega⟩
          have hB0 : w0.heap.size ≤ B := by rw [hBe]; exact HPQ.out.a.chg.size
          have NF := Lib.hid hNF; clear hNF
          have H0 := Lib.hid h0; clear h0
          have E0 := Lib.hid (And.intro e0 (And.intro e1 e2))
          have p0 := blk_cell e0 0
          have c0 := H0.out.a.chg.cell C0W.out id
          clear e0 e1 e2 HPQ hBe
          refine wp_loop_rounds 3 ?_
          obtain ⟨hCC, hLL, hLk⟩ := HL.out.both (m := 3) hdv8 (x / 128 % 2 == 1) j
          have HLK := Lib.hid hLk; clear hLk HL
          have HCC := Lib.hid hCC; clear hCC
          have HLL := Lib.hid hLL; clear hLL
          rw [rounds_succ]
          go_wp2_with fail
          refine (ust3 H0.out.a 0 dv (x / 128 % 2 == 1)).mono ?_
          rintro e w5 ⟨rfl, F1, a5, f5, k5⟩
          rw [HCC.out]
          have P5 := H0.out.step a5 f5 k5
          have e0 := k5.at E0.out.1 (NF.out 0 (by omega)).1
          have e1 := k5.at E0.out.2.1 (NF.out 1 (by omega)).1
          have e2 := k5.at E0.out.2.2 (NF.out 2 (by omega)).1
          have hNF1 : ∀ i, i < 3 → ¬ F1 (B + i) ∧ ¬ G (B + i) := fun i hi => ⟨footKeep f5 (NF.out i hi).1 (by have := lt_of_heap E0.out.2.2; omega), (NF.out i hi).2⟩
          have NF1 := Lib.hid hNF1; clear hNF1
          have q0 := blk_cell e1 0
          have q1 := blk_free e1 0
          have hP1 := fun y : Value => P5.other (Chg.set1 (i := 0) (Chg.refl _ _) y) (fun k hk => ⟨by rw [hk]; exact (NF1.out 1 (by omega)).1, by rw [hk]; exact (NF1.out 1 (by omega)).2, by omega⟩ : ∀ k, k = B + 1 → _)
          have HPS := Lib.hid hP1; clear hP1 P5
          have hE1 := fun y : Value => And.intro (blk_far (a := ⟨B + 1, 0, none⟩) e0 (by simp only; omega) y) (And.intro (blk_set e1 0 y) (blk_far (a := ⟨B + 1, 0, none⟩) e2 (by simp only; omega) y))
          have HE1 := Lib.hid hE1; clear hE1 e0 e1 e2 a5 f5 k5
          clear H0 E0 NF p0 c0
          go_wp2_with fail
          refine (num16 _ _).mono ?_
          rintro e x1 ⟨rfl, rfl⟩
          go_wp2_with fail
          have H1 := Lib.hid (HPS.out (.int .i64 (ustC 3 0 dv g))); clear HPS
          have E1 := Lib.hid (And.intro (HE1.out (.int .i64 (ustC 3 0 dv g))).1 (And.intro (HE1.out (.int .i64 (ustC 3 0 dv g))).2.1 (HE1.out (.int .i64 (ustC 3 0 dv g))).2.2)); clear HE1
          clear q0 q1
          have c0 := H1.out.a.chg.cell C0W.out id
          have p0 := blk_cell E1.out.1 1
          rw [rounds_succ]
          go_wp2_with fail
          refine (ust3 H1.out.b 0 dv (x / 128 % 2 == 1)).mono ?_
          rintro e w5 ⟨rfl, F2, a5, f5, k5⟩
          have P5 := (H1.out.swap.step a5 f5 k5).swap
          have e0 := k5.at E1.out.1 (NF1.out 0 (by omega)).2
          have e1 := k5.at E1.out.2.1 (NF1.out 1 (by omega)).2
          have e2 := k5.at E1.out.2.2 (NF1.out 2 (by omega)).2
          have hNF2 : ∀ i, i < 3 → ¬ F1 (B + i) ∧ ¬ F2 (B + i) := fun i hi => ⟨(NF1.out i hi).1, footKeep f5 (NF1.out i hi).2 (by have := lt_of_heap E1.out.2.2; omega)⟩
          have NF2 := Lib.hid hNF2; clear hNF2
          have q0 := blk_cell e1 1
          have q1 := blk_free e1 1
          have hP2 := fun y : Value => P5.other (Chg.set1 (i := 1) (Chg.refl _ _) y) (fun k hk => ⟨by rw [hk]; exact (NF2.out 1 (by omega)).1, by rw [hk]; exact (NF2.out 1 (by omega)).2, by omega⟩ : ∀ k, k = B + 1 → _)
          have HPS := Lib.hid hP2; clear hP2 P5
          have hE2 := fun y : Value => And.intro (blk_far (a := ⟨B + 1, 1, none⟩) e0 (by simp only; omega) y) (And.intro (blk_set e1 1 y) (blk_far (a := ⟨B + 1, 1, none⟩) e2 (by simp only; omega) y))
          have HE2 := Lib.hid hE2; clear hE2 e0 e1 e2 a5 f5 k5
          clear H1 E1 NF1 p0 c0
          go_wp2_with fail
          refine (num16 _ _).mono ?_
          rintro e x1 ⟨rfl, rfl⟩
          go_wp2_with fail
          have H2 := Lib.hid (HPS.out (.int .i64 (ustC 3 0 dv g))); clear HPS
          have E2 := Lib.hid (And.intro (HE2.out (.int .i64 (ustC 3 0 dv g))).1 (And.intro (HE2.out (.int .i64 (ustC 3 0 dv g))).2.1 (HE2.out (.int .i64 (ustC 3 0 dv g))).2.2)); clear HE2
          clear q0 q1
          rw [rounds_succ]
          have g0 := blk_cell E2.out.2.1 0
          have g1 := blk_cell E2.out.2.1 1
          have i0 := blk_cell E2.out.2.2 0
          have i1 := blk_cell E2.out.2.2 1
          clear hm
          go_wp2_with fail
          refine (sameYes (.slice none 0 0) (.slice none 0 0) [] _ (RdI.of (OwnC.nil _ 0)) (RdI.of (OwnC.nil _ 0)) (by decide)).mono ?_
          rintro e w8 ⟨rfl, k8⟩
          have H9 := Lib.hid (H2.out.keepN k8); clear k8
          clear g0 g1 i0 i1
          go_wp2_with fail
          go_roundw
          case rel => exact ⟨j + 1, _, _, _, _, _, _, by omega, by go_num, H9.out, HLK.out⟩
          case measure => simp [intOf]; omega
        · have hm := HM.out; clear HM
          go_wp2_with fail
          refine wp_abs (fun W => U2 w0 W u v f g S T F G ∧ W.heap[B]? = some (.cells #[.pointer (some ⟨u, 0, none⟩), .pointer (some ⟨v, 0, none⟩)] 96 (0, 0)) ∧ W.heap[B + 1]? = some (.cells #[.int .i64 0, .int .i64 0] 111 (0, 0)) ∧ W.heap[B + 1 + 1]? = some (.cells #[.slice none 0 0, .slice none 0 0] 112 (0, 0))) ⟨HPQ.out.keepN ((((Chg.refl _ _).alloc (.cells #[.pointer (some ⟨u, 0, none⟩), .pointer (some ⟨v, 0, none⟩)] 96)).alloc (.cells #[.int .i64 0, .int .i64 0] 111)).alloc (.cells #[.slice none 0 0, .slice none 0 0] 112)), by rw [hBe]; exact blk_alloc (blk_alloc (blk_new _ _) _) _, by rw [hBe]; exact blk_alloc (blk_new2 _ _ _) _, by rw [hBe]; exact blk_new3 _ _ _ _⟩ ?_
          rw [← hBe]
          rintro W ⟨h0, e0, e1, e2⟩
          have hNF : ∀ i, i < 3 → ¬ F (B + i) ∧ ¬ G (B + i) := fun i hi => ⟨fun hin => by have := HPQ.out.a.at_.lt _ hin; omega, fun hin => by have := HPQ.out.b.at_.lt _ hin; omega⟩
          have hB0 : w0.heap.size ≤ B := by rw [hBe]; exact HPQ.out.a.chg.size
          have NF := Lib.hid hNF; clear hNF
          have H0 := Lib.hid h0; clear h0
          have E0 := Lib.hid (And.intro e0 (And.intro e1 e2))
          have p0 := blk_cell e0 0
          have c0 := H0.out.a.chg.cell C0W.out id
          clear e0 e1 e2 HPQ hBe
          refine wp_loop_rounds 3 ?_
          obtain ⟨hCC, hLL, hLk⟩ := HL.out.both (m := 4) hdv8 (x / 128 % 2 == 1) j
          have HLK := Lib.hid hLk; clear hLk HL
          have HCC := Lib.hid hCC; clear hCC
          have HLL := Lib.hid hLL; clear hLL
          rw [rounds_succ]
          go_wp2_with fail
          refine (usDeliver H0.out.a (by omega) 0 j).mono ?_
          rintro e w5 ⟨s0, rfl, o5, F1, a5, f5, -, k5⟩
          rw [show tkL 2 0 (j : Int) (maskedL 2 f 32) S = tkL 2 0 j (maskedL 2 g 32) T from HLL.out] at o5
          change US w0 w5 _ 2 2 (ustF 4 0 dv (x / 128 % 2 == 1) f) (ustS 4 0 dv f S) F1 at a5
          have P5 := H0.out.step a5 f5 k5
          have e0 := k5.at E0.out.1 (NF.out 0 (by omega)).1
          have e1 := k5.at E0.out.2.1 (NF.out 1 (by omega)).1
          have e2 := k5.at E0.out.2.2 (NF.out 2 (by omega)).1
          have hNF1 : ∀ i, i < 3 → ¬ F1 (B + i) ∧ ¬ G (B + i) := fun i hi => ⟨footKeep f5 (NF.out i hi).1 (by have := lt_of_heap E0.out.2.2; omega), (NF.out i hi).2⟩
          have NF1 := Lib.hid hNF1; clear hNF1
          have q0 := blk_cell e2 0
          have q1 := blk_free e2 0
          obtain ⟨A0, k0, hs0⟩ := o5.slice
          subst hs0
          have hv0 : ∀ k, (Value.slice A0 (tkL 2 0 j (maskedL 2 g 32) T).length k0).ownBlock = some k → ¬ G k ∧ k ≠ B + 1 ∧ k ≠ B + 1 + 1 := fun k hk => by have h1 := o5.ge hk; have h3 := lt_of_heap E0.out.2.2; exact ⟨fun hin => by have := H0.out.b.at_.lt _ hin; omega, by omega, by omega⟩
          have HV0 := Lib.hid hv0; clear hv0
          have RV0 := Lib.hid (fun y : Value => OwnC.keep (S := fun k => k = B + 1 + 1) o5 (Chg.set1 (i := 0) (Chg.refl _ _) y) (fun k hk e => (HV0.out k hk).2.2 e))
          clear o5
          have hP1 := fun y : Value => P5.other (Chg.set1 (i := 0) (Chg.refl _ _) y) (fun k hk => ⟨by rw [hk]; exact (NF1.out 2 (by omega)).1, by rw [hk]; exact (NF1.out 2 (by omega)).2, by omega⟩ : ∀ k, k = B + 1 + 1 → _)
          have HPS := Lib.hid hP1; clear hP1 P5
          have hE1 := fun y : Value => And.intro (blk_far (a := ⟨B + 1 + 1, 0, none⟩) e0 (by simp only; omega) y) (And.intro (blk_set e2 0 y) (blk_far (a := ⟨B + 1 + 1, 0, none⟩) e1 (by simp only; omega) y))
          have HE1 := Lib.hid hE1; clear hE1 e0 e1 e2 a5 f5 k5
          clear H0 E0 NF p0 c0
          go_wp2_with fail
          have H1 := Lib.hid (HPS.out (.slice A0 (tkL 2 0 j (maskedL 2 g 32) T).length k0)); clear HPS
          have E1 := Lib.hid (And.intro (HE1.out (.slice A0 (tkL 2 0 j (maskedL 2 g 32) T).length k0)).1 (And.intro (HE1.out (.slice A0 (tkL 2 0 j (maskedL 2 g 32) T).length k0)).2.2 (HE1.out (.slice A0 (tkL 2 0 j (maskedL 2 g 32) T).length k0)).2.1)); clear HE1
          clear q0 q1
          have c0 := H1.out.a.chg.cell C0W.out id
          have p0 := blk_cell E1.out.1 1
          rw [rounds_succ]
          go_wp2_with fail
          refine (usDeliver H1.out.b (by omega) 0 j).mono ?_
          rintro e w5 ⟨s1, rfl, o5, F2, a5, f5, -, k5⟩
          change US w0 w5 _ 2 2 (ustF 4 0 dv (x / 128 % 2 == 1) g) (ustS 4 0 dv g T) F2 at a5
          have P5 := (H1.out.swap.step a5 f5 k5).swap
          have e0 := k5.at E1.out.1 (NF1.out 0 (by omega)).2
          have e1 := k5.at E1.out.2.1 (NF1.out 1 (by omega)).2
          have e2 := k5.at E1.out.2.2 (NF1.out 2 (by omega)).2
          have hNF2 : ∀ i, i < 3 → ¬ F1 (B + i) ∧ ¬ F2 (B + i) := fun i hi => ⟨(NF1.out i hi).1, footKeep f5 (NF1.out i hi).2 (by have := lt_of_heap E1.out.2.2; omega)⟩
          have NF2 := Lib.hid hNF2; clear hNF2
          have q0 := blk_cell e2 1
          have q1 := blk_free e2 1
          obtain ⟨A1, k1, hs1⟩ := o5.slice
          subst hs1
          have r0 := (RV0.out _).keep k5 (fun k hk e => (HV0.out k hk).1 e)
          have hv1 : ∀ k, (Value.slice A1 (tkL 2 0 j (maskedL 2 g 32) T).length k1).ownBlock = some k → k ≠ B + 1 + 1 := fun k hk => by have h1 := o5.ge hk; have h3 := lt_of_heap E1.out.2.2; omega
          have HV1 := Lib.hid hv1; clear hv1
          have RV1 := Lib.hid (fun y : Value => And.intro (OwnC.keep (S := fun k => k = B + 1 + 1) r0 (Chg.set1 (i := 1) (Chg.refl _ _) y) (fun k hk e => (HV0.out k hk).2.2 e)) (OwnC.keep (S := fun k => k = B + 1 + 1) o5 (Chg.set1 (i := 1) (Chg.refl _ _) y) (fun k hk e => HV1.out k hk e))); clear r0
          clear o5
          have hP2 := fun y : Value => P5.other (Chg.set1 (i := 1) (Chg.refl _ _) y) (fun k hk => ⟨by rw [hk]; exact (NF2.out 2 (by omega)).1, by rw [hk]; exact (NF2.out 2 (by omega)).2, by omega⟩ : ∀ k, k = B + 1 + 1 → _)
          have HPS := Lib.hid hP2; clear hP2 P5
          have hE2 := fun y : Value => And.intro (blk_far (a := ⟨B + 1 + 1, 1, none⟩) e0 (by simp only; omega) y) (And.intro (blk_set e2 1 y) (blk_far (a := ⟨B + 1 + 1, 1, none⟩) e1 (by simp only; omega) y))
          have HE2 := Lib.hid hE2; clear hE2 e0 e1 e2 a5 f5 k5
          clear H1 E1 NF1 p0 c0
          go_wp2_with fail
          have H2 := Lib.hid (HPS.out (.slice A1 (tkL 2 0 j (maskedL 2 g 32) T).length k1)); clear HPS
          have E2 := Lib.hid (And.intro (HE2.out (.slice A1 (tkL 2 0 j (maskedL 2 g 32) T).length k1)).1 (And.intro (HE2.out (.slice A1 (tkL 2 0 j (maskedL 2 g 32) T).length k1)).2.2 (HE2.out (.slice A1 (tkL 2 0 j (maskedL 2 g 32) T).length k1)).2.1)); clear HE2
          clear q0 q1
          rw [rounds_succ]
          have g0 := blk_cell E2.out.2.1 0
          have g1 := blk_cell E2.out.2.1 1
          have i0 := blk_cell E2.out.2.2 0
          have i1 := blk_cell E2.out.2.2 1
          clear hm
          go_wp2_with fail
          refine (sameYes _ _ _ _ (RdI.of (RV1.out _).1) (RdI.of (RV1.out _).2) (Nat.le_trans (tkL_len _ _ _ _ _) (by decide))).mono ?_
          rintro e w8 ⟨rfl, k8⟩
          have H9 := Lib.hid (H2.out.keepN k8); clear k8
          clear g0 g1 i0 i1
          go_wp2_with fail
          go_roundw
          case rel => exact ⟨j + 1, _, _, _, _, _, _, by omega, by go_num, H9.out, HLK.out⟩
          case measure => simp [intOf]; omega
        · have hm := HM.out; clear HM
          go_wp2_with fail
          refine wp_abs (fun W => U2 w0 W u v f g S T F G ∧ W.heap[B]? = some (.cells #[.pointer (some ⟨u, 0, none⟩), .pointer (some ⟨v, 0, none⟩)] 96 (0, 0)) ∧ W.heap[B + 1]? = some (.cells #[.int .i64 0, .int .i64 0] 111 (0, 0)) ∧ W.heap[B + 1 + 1]? = some (.cells #[.slice none 0 0, .slice none 0 0] 112 (0, 0))) ⟨HPQ.out.keepN ((((Chg.refl _ _).alloc (.cells #[.pointer (some ⟨u, 0, none⟩), .pointer (some ⟨v, 0, none⟩)] 96)).alloc (.cells #[.int .i64 0, .int .i64 0] 111)).alloc (.cells #[.slice none 0 0, .slice none 0 0] 112)), by rw [hBe]; exact blk_alloc (blk_alloc (blk_new _ _) _) _, by rw [hBe]; exact blk_alloc (blk_new2 _ _ _) _, by rw [hBe]; exact blk_new3 _ _ _ _⟩ ?_
          rw [← hBe]
          rintro W ⟨h0, e0, e1, e2⟩
          have hNF : ∀ i, i < 3 → ¬ F (B + i) ∧ ¬ G (B + i) := fun i hi => ⟨fun hin => by have := HPQ.out.a.at_.lt _ hin; omega, fun hin => by have := HPQ.out.b.at_.lt _ hin; omega⟩
          have hB0 : w0.heap.size ≤ B := by rw [hBe]; exact HPQ.out.a.chg.size
          have NF := Lib.hid hNF; clear hNF
          have H0 := Lib.hid h0; clear h0
          have E0 := Lib.hid (And.intro e0 (And.intro e1 e2))
          have p0 := blk_cell e0 0
          have c0 := H0.out.a.chg.cell C0W.out id
          clear e0 e1 e2 HPQ hBe
          refine wp_loop_rounds 3 ?_
          obtain ⟨hCC, hLL, hLk⟩ := HL.out.both (m := 5) hdv8 (x / 128 % 2 == 1) j
          have HLK := Lib.hid hLk; clear hLk HL
          have HCC := Lib.hid hCC; clear hCC
          have HLL := Lib.hid hLL; clear hLL
          rw [rounds_succ]
          go_wp2_with fail
          refine (ust5 H0.out.a 0 dv (x / 128 % 2 == 1)).mono ?_
          rintro e w5 ⟨rfl, F1, a5, f5, k5⟩
          rw [HCC.out]
          have P5 := H0.out.step a5 f5 k5
          have e0 := k5.at E0.out.1 (NF.out 0 (by omega)).1
          have e1 := k5.at E0.out.2.1 (NF.out 1 (by omega)).1
          have e2 := k5.at E0.out.2.2 (NF.out 2 (by omega)).1
          have hNF1 : ∀ i, i < 3 → ¬ F1 (B + i) ∧ ¬ G (B + i) := fun i hi => ⟨footKeep f5 (NF.out i hi).1 (by have := lt_of_heap E0.out.2.2; omega), (NF.out i hi).2⟩
          have NF1 := Lib.hid hNF1; clear hNF1
          have q0 := blk_cell e1 0
          have q1 := blk_free e1 0
          have hP1 := fun y : Value => P5.other (Chg.set1 (i := 0) (Chg.refl _ _) y) (fun k hk => ⟨by rw [hk]; exact (NF1.out 1 (by omega)).1, by rw [hk]; exact (NF1.out 1 (by omega)).2, by omega⟩ : ∀ k, k = B + 1 → _)
          have HPS := Lib.hid hP1; clear hP1 P5
          have hE1 := fun y : Value => And.intro (blk_far (a := ⟨B + 1, 0, none⟩) e0 (by simp only; omega) y) (And.intro (blk_set e1 0 y) (blk_far (a := ⟨B + 1, 0, none⟩) e2 (by simp only; omega) y))
          have HE1 := Lib.hid hE1; clear hE1 e0 e1 e2 a5 f5 k5
          clear H0 E0 NF p0 c0
          go_wp2_with fail
          refine (num16 _ _).mono ?_
          rintro e x1 ⟨rfl, rfl⟩
          go_wp2_with fail
          have H1 := Lib.hid (HPS.out (.int .i64 (ustC 5 0 dv g))); clear HPS
          have E1 := Lib.hid (And.intro (HE1.out (.int .i64 (ustC 5 0 dv g))).1 (And.intro (HE1.out (.int .i64 (ustC 5 0 dv g))).2.1 (HE1.out (.int .i64 (ustC 5 0 dv g))).2.2)); clear HE1
          clear q0 q1
          have c0 := H1.out.a.chg.cell C0W.out id
          have p0 := blk_cell E1.out.1 1
          rw [rounds_succ]
          go_wp2_with fail
          refine (ust5 H1.out.b 0 dv (x / 128 % 2 == 1)).mono ?_
          rintro e w5 ⟨rfl, F2, a5, f5, k5⟩
          have P5 := (H1.out.swap.step a5 f5 k5).swap
          have e0 := k5.at E1.out.1 (NF1.out 0 (by omega)).2
          have e1 := k5.at E1.out.2.1 (NF1.out 1 (by omega)).2
          have e2 := k5.at E1.out.2.2 (NF1.out 2 (by omega)).2
          have hNF2 : ∀ i, i < 3 → ¬ F1 (B + i) ∧ ¬ F2 (B + i) := fun i hi => ⟨(NF1.out i hi).1, footKeep f5 (NF1.out i hi).2 (by have := lt_of_heap E1.out.2.2; omega)⟩
          have NF2 := Lib.hid hNF2; clear hNF2
          have q0 := blk_cell e1 1
          have q1 := blk_free e1 1
          have hP2 := fun y : Value => P5.other (Chg.set1 (i := 1) (Chg.refl _ _) y) (fun k hk => ⟨by rw [hk]; exact (NF2.out 1 (by omega)).1, by rw [hk]; exact (NF2.out 1 (by omega)).2, by omega⟩ : ∀ k, k = B + 1 → _)
          have HPS := Lib.hid hP2; clear hP2 P5
          have hE2 := fun y : Value => And.intro (blk_far (a := ⟨B + 1, 1, none⟩) e0 (by simp only; omega) y) (And.intro (blk_set e1 1 y) (blk_far (a := ⟨B + 1, 1, none⟩) e2 (by simp only; omega) y))
          have HE2 := Lib.hid hE2; clear hE2 e0 e1 e2 a5 f5 k5
          clear H1 E1 NF1 p0 c0
          go_wp2_with fail
          refine (num16 _ _).mono ?_
          rintro e x1 ⟨rfl, rfl⟩
          go_wp2_with fail
          have H2 := Lib.hid (HPS.out (.int .i64 (ustC 5 0 dv g))); clear HPS
          have E2 := Lib.hid (And.intro (HE2.out (.int .i64 (ustC 5 0 dv g))).1 (And.intro (HE2.out (.int .i64 (ustC 5 0 dv g))).2.1 (HE2.out (.int .i64 (ustC 5 0 dv g))).2.2)); clear HE2
          clear q0 q1
          rw [rounds_succ]
          have g0 := blk_cell E2.out.2.1 0
          have g1 := blk_cell E2.out.2.1 1
          have i0 := blk_cell E2.out.2.2 0
          have i1 := blk_cell E2.out.2.2 1
          clear hm
          go_wp2_with fail
          refine (sameYes (.slice none 0 0) (.slice none 0 0) [] _ (RdI.of (OwnC.nil _ 0)) (RdI.of (OwnC.nil _ 0)) (by decide)).mono ?_
          rintro e w8 ⟨rfl, k8⟩
          have H9 := Lib.hid (H2.out.keepN k8); clear k8
          clear g0 g1 i0 i1
          go_wp2_with fail
          go_roundw
          case rel => exact ⟨j + 1, _, _, _, _, _, _, by omega, by go_num, H9.out, HLK.out⟩
          case measure => simp [intOf]; omega
        · have hm := HM.out; clear HM
          go_wp2_with fail
          refine wp_abs (fun W => U2 w0 W u v f g S T F G ∧ W.heap[B]? = some (.cells #[.pointer (some ⟨u, 0, none⟩), .pointer (some ⟨v, 0, none⟩)] 96 (0, 0)) ∧ W.heap[B + 1]? = some (.cells #[.int .i64 0, .int .i64 0] 111 (0, 0)) ∧ W.heap[B + 1 + 1]? = some (.cells #[.slice none 0 0, .slice none 0 0] 112 (0, 0))) ⟨HPQ.out.keepN ((((Chg.refl _ _).alloc (.cells #[.pointer (some ⟨u, 0, none⟩), .pointer (some ⟨v, 0, none⟩)] 96)).alloc (.cells #[.int .i64 0, .int .i64 0] 111)).alloc (.cells #[.slice none 0 0, .slice none 0 0] 112)), by rw [hBe]; exact blk_alloc (blk_alloc (blk_new _ _) _) _, by rw [hBe]; exact blk_alloc (blk_new2 _ _ _) _, by rw [hBe]; exact blk_new3 _ _ _ _⟩ ?_
          rw [← hBe]
          rintro W ⟨h0, e0, e1, e2⟩
          have hNF : ∀ i, i < 3 → ¬ F (B + i) ∧ ¬ G (B + i) := fun i hi => ⟨fun hin => by have := HPQ.out.a.at_.lt _ hin; omega, fun hin => by have := HPQ.out.b.at_.lt _ hin; omega⟩
          have hB0 : w0.heap.size ≤ B := by rw [hBe]; exact HPQ.out.a.chg.size
          have NF := Lib.hid hNF; clear hNF
          have H0 := Lib.hid h0; clear h0
          have E0 := Lib.hid (And.intro e0 (And.intro e1 e2))
          have p0 := blk_cell e0 0
          have c0 := H0.out.a.chg.cell C0W.out id
          clear e0 e1 e2 HPQ hBe
          refine wp_loop_rounds 3 ?_
          obtain ⟨hCC, hLL, hLk⟩ := HL.out.both (m := 6) hdv8 (x / 128 % 2 == 1) j
          have HLK := Lib.hid hLk; clear hLk HL
          have HCC := Lib.hid hCC; clear hCC
          have HLL := Lib.hid hLL; clear hLL
          rw [rounds_succ]
          go_wp2_with fail
          refine (ust6 H0.out.a 0 dv (x / 128 % 2 == 1)).mono ?_
          rintro e w5 ⟨rfl, F1, a5, f5, k5⟩
          rw [HCC.out]
          have P5 := H0.out.step a5 f5 k5
          have e0 := k5.at E0.out.1 (NF.out 0 (by omega)).1
          have e1 := k5.at E0.out.2.1 (NF.out 1 (by omega)).1
          have e2 := k5.at E0.out.2.2 (NF.out 2 (by omega)).1
          have hNF1 : ∀ i, i < 3 → ¬ F1 (B + i) ∧ ¬ G (B + i) := fun i hi => ⟨footKeep f5 (NF.out i hi).1 (by have := lt_of_heap E0.out.2.2; omega), (NF.out i hi).2⟩
          have NF1 := Lib.hid hNF1; clear hNF1
          have q0 := blk_cell e1 0
          have q1 := blk_free e1 0
          have hP1 := fun y : Value => P5.other (Chg.set1 (i := 0) (Chg.refl _ _) y) (fun k hk => ⟨by rw [hk]; exact (NF1.out 1 (by omega)).1, by rw [hk]; exact (NF1.out 1 (by omega)).2, by omega⟩ : ∀ k, k = B + 1 → _)
          have HPS := Lib.hid hP1; clear hP1 P5
          have hE1 := fun y : Value => And.intro (blk_far (a := ⟨B + 1, 0, none⟩) e0 (by simp only; omega) y) (And.intro (blk_set e1 0 y) (blk_far (a := ⟨B + 1, 0, none⟩) e2 (by simp only; omega) y))
          have HE1 := Lib.hid hE1; clear hE1 e0 e1 e2 a5 f5 k5
          clear H0 E0 NF p0 c0
          go_wp2_with fail
          refine (num16 _ _).mono ?_
          rintro e x1 ⟨rfl, rfl⟩
          go_wp2_with fail
          have H1 := Lib.hid (HPS.out (.int .i64 (ustC 6 0 dv g))); clear HPS
          have E1 := Lib.hid (And.intro (HE1.out (.int .i64 (ustC 6 0 dv g))).1 (And.intro (HE1.out (.int .i64 (ustC 6 0 dv g))).2.1 (HE1.out (.int .i64 (ustC 6 0 dv g))).2.2)); clear HE1
          clear q0 q1
          have c0 := H1.out.a.chg.cell C0W.out id
          have p0 := blk_cell E1.out.1 1
          rw [rounds_succ]
          go_wp2_with fail
          refine (ust6 H1.out.b 0 dv (x / 128 % 2 == 1)).mono ?_
          rintro e w5 ⟨rfl, F2, a5, f5, k5⟩
          have P5 := (H1.out.swap.step a5 f5 k5).swap
          have e0 := k5.at E1.out.1 (NF1.out 0 (by omega)).2
          have e1 := k5.at E1.out.2.1 (NF1.out 1 (by omega)).2
          have e2 := k5.at E1.out.2.2 (NF1.out 2 (by omega)).2
          have hNF2 : ∀ i, i < 3 → ¬ F1 (B + i) ∧ ¬ F2 (B + i) := fun i hi => ⟨(NF1.out i hi).1, footKeep f5 (NF1.out i hi).2 (by have := lt_of_heap E1.out.2.2; omega)⟩
          have NF2 := Lib.hid hNF2; clear hNF2
          have q0 := blk_cell e1 1
          have q1 := blk_free e1 1
          have hP2 := fun y : Value => P5.other (Chg.set1 (i := 1) (Chg.refl _ _) y) (fun k hk => ⟨by rw [hk]; exact (NF2.out 1 (by omega)).1, by rw [hk]; exact (NF2.out 1 (by omega)).2, by omega⟩ : ∀ k, k = B + 1 → _)
          have HPS := Lib.hid hP2; clear hP2 P5
          have hE2 := fun y : Value => And.intro (blk_far (a := ⟨B + 1, 1, none⟩) e0 (by simp only; omega) y) (And.intro (blk_set e1 1 y) (blk_far (a := ⟨B + 1, 1, none⟩) e2 (by simp only; omega) y))
          have HE2 := Lib.hid hE2; clear hE2 e0 e1 e2 a5 f5 k5
          clear H1 E1 NF1 p0 c0
          go_wp2_with fail
          refine (num16 _ _).mono ?_
          rintro e x1 ⟨rfl, rfl⟩
          go_wp2_with fail
          have H2 := Lib.hid (HPS.out (.int .i64 (ustC 6 0 dv g))); clear HPS
          have E2 := Lib.hid (And.intro (HE2.out (.int .i64 (ustC 6 0 dv g))).1 (And.intro (HE2.out (.int .i64 (ustC 6 0 dv g))).2.1 (HE2.out (.int .i64 (ustC 6 0 dv g))).2.2)); clear HE2
          clear q0 q1
          rw [rounds_succ]
          have g0 := blk_cell E2.out.2.1 0
          have g1 := blk_cell E2.out.2.1 1
          have i0 := blk_cell E2.out.2.2 0
          have i1 := blk_cell E2.out.2.2 1
          clear hm
          go_wp2_with fail
          refine (sameYes (.slice none 0 0) (.slice none 0 0) [] _ (RdI.of (OwnC.nil _ 0)) (RdI.of (OwnC.nil _ 0)) (by decide)).mono ?_
          rintro e w8 ⟨rfl, k8⟩
          have H9 := Lib.hid (H2.out.keepN k8); clear k8
          clear g0 g1 i0 i1
          go_wp2_with fail
          go_roundw
          case rel => exact ⟨j + 1, _, _, _, _, _, _, by omega, by go_num, H9.out, HLK.out⟩
          case measure => simp [intOf]; omega
        · have hm := HM.out; clear HM
          go_wp2_with fail
          refine wp_abs (fun W => U2 w0 W u v f g S T F G ∧ W.heap[B]? = some (.cells #[.pointer (some ⟨u, 0, none⟩), .pointer (some ⟨v, 0, none⟩)] 96 (0, 0)) ∧ W.heap[B + 1]? = some (.cells #[.int .i64 0, .int .i64 0] 111 (0, 0)) ∧ W.heap[B + 1 + 1]? = some (.cells #[.slice none 0 0, .slice none 0 0] 112 (0, 0))) ⟨HPQ.out.keepN ((((Chg.refl _ _).alloc (.cells #[.pointer (some ⟨u, 0, none⟩), .pointer (some ⟨v, 0, none⟩)] 96)).alloc (.cells #[.int .i64 0, .int .i64 0] 111)).alloc (.cells #[.slice none 0 0, .slice none 0 0] 112)), by rw [hBe]; exact blk_alloc (blk_alloc (blk_new _ _) _) _, by rw [hBe]; exact blk_alloc (blk_new2 _ _ _) _, by rw [hBe]; exact blk_new3 _ _ _ _⟩ ?_
          rw [← hBe]
          rintro W ⟨h0, e0, e1, e2⟩
          have hNF : ∀ i, i < 3 → ¬ F (B + i) ∧ ¬ G (B + i) := fun i hi => ⟨fun hin => by have := HPQ.out.a.at_.lt _ hin; omega, fun hin => by have := HPQ.out.b.at_.lt _ hin; omega⟩
          have hB0 : w0.heap.size ≤ B := by rw [hBe]; exact HPQ.out.a.chg.size
          have NF := Lib.hid hNF; clear hNF
          have H0 := Lib.hid h0; clear h0
          have E0 := Lib.hid (And.intro e0 (And.intro e1 e2))
          have p0 := blk_cell e0 0
          have c0 := H0.out.a.chg.cell C0W.out id
          clear e0 e1 e2 HPQ hBe
          refine wp_loop_rounds 3 ?_
          obtain ⟨hCC, hLL, hLk⟩ := HL.out.both (m := 7) hdv8 (x / 128 % 2 == 1) j
          have HLK := Lib.hid hLk; clear hLk HL
          have HCC := Lib.hid hCC; clear hCC
          have HLL := Lib.hid hLL; clear hLL
          rw [rounds_succ]
          go_wp2_with fail
          refine (ust7 H0.out.a 0 dv (x / 128 % 2 == 1)).mono ?_
          rintro e w5 ⟨rfl, F1, a5, f5, k5⟩
          rw [HCC.out]
          have P5 := H0.out.step a5 f5 k5
          have e0 := k5.at E0.out.1 (NF.out 0 (by omega)).1
          have e1 := k5.at E0.out.2.1 (NF.out 1 (by omega)).1
          have e2 := k5.at E0.out.2.2 (NF.out 2 (by omega)).1
          have hNF1 : ∀ i, i < 3 → ¬ F1 (B + i) ∧ ¬ G (B + i) := fun i hi => ⟨footKeep f5 (NF.out i hi).1 (by have := lt_of_heap E0.out.2.2; omega), (NF.out i hi).2⟩
          have NF1 := Lib.hid hNF1; clear hNF1
          have q0 := blk_cell e1 0
          have q1 := blk_free e1 0
          have hP1 := fun y : Value => P5.other (Chg.set1 (i := 0) (Chg.refl _ _) y) (fun k hk => ⟨by rw [hk]; exact (NF1.out 1 (by omega)).1, by rw [hk]; exact (NF1.out 1 (by omega)).2, by omega⟩ : ∀ k, k = B + 1 → _)
          have HPS := Lib.hid hP1; clear hP1 P5
          have hE1 := fun y : Value => And.intro (blk_far (a := ⟨B + 1, 0, none⟩) e0 (by simp only; omega) y) (And.intro (blk_set e1 0 y) (blk_far (a := ⟨B + 1, 0, none⟩) e2 (by simp only; omega) y))
          have HE1 := Lib.hid hE1; clear hE1 e0 e1 e2 a5 f5 k5
          clear H0 E0 NF p0 c0
          go_wp2_with fail
          refine (num16 _ _).mono ?_
          rintro e x1 ⟨rfl, rfl⟩
          go_wp2_with fail
          have H1 := Lib.hid (HPS.out (.int .i64 (ustC 7 0 dv g))); clear HPS
          have E1 := Lib.hid (And.intro (HE1.out (.int .i64 (ustC 7 0 dv g))).1 (And.intro (HE1.out (.int .i64 (ustC 7 0 dv g))).2.1 (HE1.out (.int .i64 (ustC 7 0 dv g))).2.2)); clear HE1
          clear q0 q1
          have c0 := H1.out.a.chg.cell C0W.out id
          have p0 := blk_cell E1.out.1 1
          rw [rounds_succ]
          go_wp2_with fail
          refine (ust7 H1.out.b 0 dv (x / 128 % 2 == 1)).mono ?_
          rintro e w5 ⟨rfl, F2, a5, f5, k5⟩
          have P5 := (H1.out.swap.step a5 f5 k5).swap
          have e0 := k5.at E1.out.1 (NF1.out 0 (by omega)).2
          have e1 := k5.at E1.out.2.1 (NF1.out 1 (by omega)).2
          have e2 := k5.at E1.out.2.2 (NF1.out 2 (by omega)).2
          have hNF2 : ∀ i, i < 3 → ¬ F1 (B + i) ∧ ¬ F2 (B + i) := fun i hi => ⟨(NF1.out i hi).1, footKeep f5 (NF1.out i hi).2 (by have := lt_of_heap E1.out.2.2; omega)⟩
          have NF2 := Lib.hid hNF2; clear hNF2
          have q0 := blk_cell e1 1
          have q1 := blk_free e1 1
          have hP2 := fun y : Value => P5.other (Chg.set1 (i := 1) (Chg.refl _ _) y) (fun k hk => ⟨by rw [hk]; exact (NF2.out 1 (by omega)).1, by rw [hk]; exact (NF2.out 1 (by omega)).2, by omega⟩ : ∀ k, k = B + 1 → _)
          have HPS := Lib.hid hP2; clear hP2 P5
          have hE2 := fun y : Value => And.intro (blk_far (a := ⟨B + 1, 1, none⟩) e0 (by simp only; omega) y) (And.intro (blk_set e1 1 y) (blk_far (a := ⟨B + 1, 1, none⟩) e2 (by simp only; omega) y))
          have HE2 := Lib.hid hE2; clear hE2 e0 e1 e2 a5 f5 k5
          clear H1 E1 NF1 p0 c0
          go_wp2_with fail
          refine (num16 _ _).mono ?_
          rintro e x1 ⟨rfl, rfl⟩
          go_wp2_with fail
          have H2 := Lib.hid (HPS.out (.int .i64 (ustC 7 0 dv g))); clear HPS
          have E2 := Lib.hid (And.intro (HE2.out (.int .i64 (ustC 7 0 dv g))).1 (And.intro (HE2.out (.int .i64 (ustC 7 0 dv g))).2.1 (HE2.out (.int .i64 (ustC 7 0 dv g))).2.2)); clear HE2
          clear q0 q1
          rw [rounds_succ]
          have g0 := blk_cell E2.out.2.1 0
          have g1 := blk_cell E2.out.2.1 1
          have i0 := blk_cell E2.out.2.2 0
          have i1 := blk_cell E2.out.2.2 1
          clear hm
          go_wp2_with fail
          refine (sameYes (.slice none 0 0) (.slice none 0 0) [] _ (RdI.of (OwnC.nil _ 0)) (RdI.of (OwnC.nil _ 0)) (by decide)).mono ?_
          rintro e w8 ⟨rfl, k8⟩
          have H9 := Lib.hid (H2.out.keepN k8); clear k8
          clear g0 g1 i0 i1
          go_wp2_with fail
          go_roundw
          case rel => exact ⟨j + 1, _, _, _, _, _, _, by omega, by go_num, H9.out, HLK.out⟩
          case measure => simp [intOf]; omega
      · rw [hd]
        clear hd
        obtain ⟨B, hBe⟩ : ∃ B, B = wq.heap.size := ⟨_, rfl⟩
        rcases (by omega : m = 0 ∨ m = 1 ∨ m = 2 ∨ m = 3 ∨ m = 4 ∨ m = 5 ∨ m = 6 ∨ m = 7) with rfl | rfl | rfl | rfl | rfl | rfl | rfl | rfl
        · have hm := HM.out; clear HM
          go_wp2_with fail
          refine wp_abs (fun W => U2 w0 W u v f g S T F G ∧ W.heap[B]? = some (.cells #[.pointer (some ⟨u, 0, none⟩), .pointer (some ⟨v, 0, none⟩)] 96 (0, 0)) ∧ W.heap[B + 1]? = some (.cells #[.int .i64 0, .int .i64 0] 111 (0, 0)) ∧ W.heap[B + 1 + 1]? = some (.cells #[.slice none 0 0, .slice none 0 0] 112 (0, 0))) ⟨HPQ.out.keepN ((((Chg.refl _ _).alloc (.cells #[.pointer (some ⟨u, 0, none⟩), .pointer (some ⟨v, 0, none⟩)] 96)).alloc (.cells #[.int .i64 0, .int .i64 0] 111)).alloc (.cells #[.slice none 0 0, .slice none 0 0] 112)), by rw [hBe]; exact blk_alloc (blk_alloc (blk_new _ _) _) _, by rw [hBe]; exact blk_alloc (blk_new2 _ _ _) _, by rw [hBe]; exact blk_new3 _ _ _ _⟩ ?_
          rw [← hBe]
          rintro W ⟨h0, e0, e1, e2⟩
          have hNF : ∀ i, i < 3 → ¬ F (B + i) ∧ ¬ G (B + i) := fun i hi => ⟨fun hin => by have := HPQ.out.a.at_.lt _ hin; omega, fun hin => by have := HPQ.out.b.at_.lt _ hin; omega⟩
          have hB0 : w0.heap.size ≤ B := by rw [hBe]; exact HPQ.out.a.chg.size
          have NF := Lib.hid hNF; clear hNF
          have H0 := Lib.hid h0; clear h0
          have E0 := Lib.hid (And.intro e0 (And.intro e1 e2))
          have p0 := blk_cell e0 0
          have c0 := H0.out.a.chg.cell C0W.out id
          clear e0 e1 e2 HPQ hBe
          refine wp_loop_rounds 2 ?_
          have hLk := HL.out.one (m := 0) hdv8 (x / 128 % 2 == 1)
          have HLK := Lib.hid hLk; clear hLk HL
          rw [rounds_succ]
          go_wp2_with fail
          refine (ust0 H0.out.a 1 dv (x / 128 % 2 == 1)).mono ?_
          rintro e w5 ⟨rfl, F1, a5, f5, k5⟩
          have P5 := H0.out.step a5 f5 k5
          have e0 := k5.at E0.out.1 (NF.out 0 (by omega)).1
          have e1 := k5.at E0.out.2.1 (NF.out 1 (by omega)).1
          have e2 := k5.at E0.out.2.2 (NF.out 2 (by omega)).1
          have hNF1 : ∀ i, i < 3 → ¬ F1 (B + i) ∧ ¬ G (B + i) := fun i hi => ⟨footKeep f5 (NF.out i hi).1 (by have := lt_of_heap E0.out.2.2; omega), (NF.out i hi).2⟩
          have NF1 := Lib.hid hNF1; clear hNF1
          have q0 := blk_cell e1 0
          have q1 := blk_free e1 0
          have hP1 := fun y : Value => P5.other (Chg.set1 (i := 0) (Chg.refl _ _) y) (fun k hk => ⟨by rw [hk]; exact (NF1.out 1 (by omega)).1, by rw [hk]; exact (NF1.out 1 (by omega)).2, by omega⟩ : ∀ k, k = B + 1 → _)
          have HPS := Lib.hid hP1; clear hP1 P5
          have hE1 := fun y : Value => And.intro (blk_far (a := ⟨B + 1, 0, none⟩) e0 (by simp only; omega) y) (And.intro (blk_set e1 0 y) (blk_far (a := ⟨B + 1, 0, none⟩) e2 (by simp only; omega) y))
          have HE1 := Lib.hid hE1; clear hE1 e0 e1 e2 a5 f5 k5
          clear H0 E0 NF p0 c0
          go_wp2_with fail
          refine (num16 _ _).mono ?_
          rintro e x1 ⟨rfl, rfl⟩
          go_wp2_with fail
          have H1 := Lib.hid (HPS.out (.int .i64 (ustC 0 1 dv f))); clear HPS
          have E1 := Lib.hid (And.intro (HE1.out (.int .i64 (ustC 0 1 dv f))).1 (And.intro (HE1.out (.int .i64 (ustC 0 1 dv f))).2.1 (HE1.out (.int .i64 (ustC 0 1 dv f))).2.2)); clear HE1
          clear q0 q1
          rw [rounds_succ]
          clear hm
          go_wp2_with fail
          first
            | exact ⟨⟨j + 1, _, _, _, _, _, _, by omega, by go_num, H1.out, HLK.out⟩, by simp [intOf]; omega⟩
            | (go_roundw
               case rel => exact ⟨j + 1, _, _, _, _, _, _, by omega, by go_num, H1.out, HLK.out⟩
               case measure => simp [intOf]; omega)
        · have hm := HM.out; clear HM
          go_wp2_with fail
          refine wp_abs (fun W => U2 w0 W u v f g S T F G ∧ W.heap[B]? = some (.cells #[.pointer (some ⟨u, 0, none⟩), .pointer (some ⟨v, 0, none⟩)] 96 (0, 0)) ∧ W.heap[B + 1]? = some (.cells #[.int .i64 0, .int .i64 0] 111 (0, 0)) ∧ W.heap[B + 1 + 1]? = some (.cells #[.slice none 0 0, .slice none 0 0] 112 (0, 0))) ⟨HPQ.out.keepN ((((Chg.refl _ _).alloc (.cells #[.pointer (some ⟨u, 0, none⟩), .pointer (some ⟨v, 0, none⟩)] 96)).alloc (.cells #[.int .i64 0, .int .i64 0] 111)).alloc (.cells #[.slice none 0 0, .slice none 0 0] 112)), by rw [hBe]; exact blk_alloc (blk_alloc (blk_new _ _) _) _, by rw [hBe]; exact blk_alloc (blk_new2 _ _ _) _, by rw [hBe]; exact blk_new3 _ _ _ _⟩ ?_
          rw [← hBe]
          rintro W ⟨h0, e0, e1, e2⟩
          have hNF : ∀ i, i < 3 → ¬ F (B + i) ∧ ¬ G (B + i) := fun i hi => ⟨fun hin => by have := HPQ.out.a.at_.lt _ hin; omega, fun hin => by have := HPQ.out.b.at_.lt _ hin; omega⟩
          have hB0 : w0.heap.size ≤ B := by rw [hBe]; exact HPQ.out.a.chg.size
          have NF := Lib.hid hNF; clear hNF
          have H0 := Lib.hid h0; clear h0
          have E0 := Lib.hid (And.intro e0 (And.intro e1 e2))
          have p0 := blk_cell e0 0
          have c0 := H0.out.a.chg.cell C0W.out id
          clear e0 e1 e2 HPQ hBe
          refine wp_loop_rounds 2 ?_
          have hLk := HL.out.one (m := 1) hdv8 (x / 128 % 2 == 1)
          have HLK := Lib.hid hLk; clear hLk HL
          rw [rounds_succ]
          go_wp2_with fail
          refine (ust1 H0.out.a 1 dv (x / 128 % 2 == 1)).mono ?_
          rintro e w5 ⟨rfl, F1, a5, f5, k5⟩
          have P5 := H0.out.step a5 f5 k5
          have e0 := k5.at E0.out.1 (NF.out 0 (by omega)).1
          have e1 := k5.at E0.out.2.1 (NF.out 1 (by omega)).1
          have e2 := k5.at E0.out.2.2 (NF.out 2 (by omega)).1
          have hNF1 : ∀ i, i < 3 → ¬ F1 (B + i) ∧ ¬ G (B + i) := fun i hi => ⟨footKeep f5 (NF.out i hi).1 (by have := lt_of_heap E0.out.2.2; omega), (NF.out i hi).2⟩
          have NF1 := Lib.hid hNF1; clear hNF1
          have q0 := blk_cell e1 0
          have q1 := blk_free e1 0
          have hP1 := fun y : Value => P5.other (Chg.set1 (i := 0) (Chg.refl _ _) y) (fun k hk => ⟨by rw [hk]; exact (NF1.out 1 (by omega)).1, by rw [hk]; exact (NF1.out 1 (by omega)).2, by omega⟩ : ∀ k, k = B + 1 → _)
          have HPS := Lib.hid hP1; clear hP1 P5
          have hE1 := fun y : Value => And.intro (blk_far (a := ⟨B + 1, 0, none⟩) e0 (by simp only; omega) y) (And.intro (blk_set e1 0 y) (blk_far (a := ⟨B + 1, 0, none⟩) e2 (by simp only; omega) y))
          have HE1 := Lib.hid hE1; clear hE1 e0 e1 e2 a5 f5 k5
          clear H0 E0 NF p0 c0
          go_wp2_with fail
          refine (num16 _ _).mono ?_
          rintro e x1 ⟨rfl, rfl⟩
          go_wp2_with fail
          have H1 := Lib.hid (HPS.out (.int .i64 (ustC 1 1 dv f))); clear HPS
          have E1 := Lib.hid (And.intro (HE1.out (.int .i64 (ustC 1 1 dv f))).1 (And.intro (HE1.out (.int .i64 (ustC 1 1 dv f))).2.1 (HE1.out (.int .i64 (ustC 1 1 dv f))).2.2)); clear HE1
          clear q0 q1
          rw [rounds_succ]
          clear hm
          go_wp2_with fail
          first
            | exact ⟨⟨j + 1, _, _, _, _, _, _, by omega, by go_num, H1.out, HLK.out⟩, by simp [intOf]; omega⟩
            | (go_roundw
               case rel => exact ⟨j + 1, _, _, _, _, _, _, by omega, by go_num, H1.out, HLK.out⟩
               case measure => simp [intOf]; omega)
        · have hm := HM.out; clear HM
          go_wp2_with fail
          refine wp_abs (fun W => U2 w0 W u v f g S T F G ∧ W.heap[B]? = some (.cells #[.pointer (some ⟨u, 0, none⟩), .pointer (some ⟨v, 0, none⟩)] 96 (0, 0)) ∧ W.heap[B + 1]? = some (.cells #[.int .i64 0, .int .i64 0] 111 (0, 0)) ∧ W.heap[B + 1 + 1]? = some (.cells #[.slice none 0 0, .slice none 0 0] 112 (0, 0))) ⟨HPQ.out.keepN ((((Chg.refl _ _).alloc (.cells #[.pointer (some ⟨u, 0, none⟩), .pointer (some ⟨v, 0, none⟩)] 96)).alloc (.cells #[.int .i64 0, .int .i64 0] 111)).alloc (.cells #[.slice none 0 0, .slice none 0 0] 112)), by rw [hBe]; exact blk_alloc (blk_alloc (blk_new _ _) _) _, by rw [hBe]; exact blk_alloc (blk_new2 _ _ _) _, by rw [hBe]; exact blk_new3 _ _ _ _⟩ ?_
          rw [← hBe]
          rintro W ⟨h0, e0, e1, e2⟩
          have hNF : ∀ i, i < 3 → ¬ F (B + i) ∧ ¬ G (B + i) := fun i hi => ⟨fun hin => by have := HPQ.out.a.at_.lt _ hin; omega, fun hin => by have := HPQ.out.b.at_.lt _ hin; omega⟩
          have hB0 : w0.heap.size ≤ B := by rw [hBe]; exact HPQ.out.a.chg.size
          have NF := Lib.hid hNF; clear hNF
          have H0 := Lib.hid h0; clear h0
          have E0 := Lib.hid (And.intro e0 (And.intro e1 e2))
          have p0 := blk_cell e0 0
          have c0 := H0.out.a.chg.cell C0W.out id
          clear e0 e1 e2 HPQ hBe
          refine wp_loop_rounds 2 ?_
          have hLk := HL.out.one (m := 2) hdv8 (x / 128 % 2 == 1)
          have HLK := Lib.hid hLk; clear hLk HL
          rw [rounds_succ]
          go_wp2_with fail
          refine (ust2 H0.out.a 1 dv (x / 128 % 2 == 1)).mono ?_
          rintro e w5 ⟨rfl, F1, a5, f5, k5⟩
          have P5 := H0.out.step a5 f5 k5
          have e0 := k5.at E0.out.1 (NF.out 0 (by omega)).1
          have e1 := k5.at E0.out.2.1 (NF.out 1 (by omega)).1
          have e2 := k5.at E0.out.2.2 (NF.out 2 (by omega)).1
          have hNF1 : ∀ i, i < 3 → ¬ F1 (B + i) ∧ ¬ G (B + i) := fun i hi => ⟨footKeep f5 (NF.out i hi).1 (by have := lt_of_heap E0.out.2.2; omega), (NF.out i hi).2⟩
          have NF1 := Lib.hid hNF1; clear hNF1
          have q0 := blk_cell e1 0
          have q1 := blk_free e1 0
          have hP1 := fun y : Value => P5.other (Chg.set1 (i := 0) (Chg.refl _ _) y) (fun k hk => ⟨by rw [hk]; exact (NF1.out 1 (by omega)).1, by rw [hk]; exact (NF1.out 1 (by omega)).2, by omega⟩ : ∀ k, k = B + 1 → _)
          have HPS := Lib.hid hP1; clear hP1 P5
          have hE1 := fun y : Value => And.intro (blk_far (a := ⟨B + 1, 0, none⟩) e0 (by simp only; omega) y) (And.intro (blk_set e1 0 y) (blk_far (a := ⟨B + 1, 0, none⟩) e2 (by simp only; omega) y))
          have HE1 := Lib.hid hE1; clear hE1 e0 e1 e2 a5 f5 k5
          clear H0 E0 NF p0 c0
          go_wp2_with fail
          refine (num16 _ _).mono ?_
          rintro e x1 ⟨rfl, rfl⟩
          go_wp2_with fail
          have H1 := Lib.hid (HPS.out (.int .i64 (ustC 2 1 dv f))); clear HPS
          have E1 := Lib.hid (And.intro (HE1.out (.int .i64 (ustC 2 1 dv f))).1 (And.intro (HE1.out (.int .i64 (ustC 2 1 dv f))).2.1 (HE1.out (.int .i64 (ustC 2 1 dv f))).2.2)); clear HE1
          clear q0 q1
          rw [rounds_succ]
          clear hm
          go_wp2_with fail
          first
            | exact ⟨⟨j + 1, _, _, _, _, _, _, by omega, by go_num, H1.out, HLK.out⟩, by simp [intOf]; omega⟩
            | (go_roundw
               case rel => exact ⟨j + 1, _, _, _, _, _, _, by omega, by go_num, H1.out, HLK.out⟩
               case measure => simp [intOf]; omega)
        · have hm := HM.out; clear HM
          go_wp2_with fail
          refine wp_abs (fun W => U2 w0 W u v f g S T F G ∧ W.heap[B]? = some (.cells #[.pointer (some ⟨u, 0, none⟩), .pointer (some ⟨v, 0, none⟩)] 96 (0, 0)) ∧ W.heap[B + 1]? = some (.cells #[.int .i64 0, .int .i64 0] 111 (0, 0)) ∧ W.heap[B + 1 + 1]? = some (.cells #[.slice none 0 0, .slice none 0 0] 112 (0, 0))) ⟨HPQ.out.keepN ((((Chg.refl _ _).alloc (.cells #[.pointer (some ⟨u, 0, none⟩), .pointer (some ⟨v, 0, none⟩)] 96)).alloc (.cells #[.int .i64 0, .int .i64 0] 111)).alloc (.cells #[.slice none 0 0, .slice none 0 0] 112)), by rw [hBe]; exact blk_alloc (blk_alloc (blk_new _ _) _) _, by rw [hBe]; exact blk_alloc (blk_new2 _ _ _) _, by rw [hBe]; exact blk_new3 _ _ _ _⟩ ?_
          rw [← hBe]
          rintro W ⟨h0, e0, e1, e2⟩
          have hNF : ∀ i, i < 3 → ¬ F (B + i) ∧ ¬ G (B + i) := fun i hi => ⟨fun hin => by have := HPQ.out.a.at_.lt _ hin; omega, fun hin => by have := HPQ.out.b.at_.lt _ hin; omega⟩
          have hB0 : w0.heap.size ≤ B := by rw [hBe]; exact HPQ.out.a.chg.size
          have NF := Lib.hid hNF; clear hNF
          have H0 := Lib.hid h0; clear h0
          have E0 := Lib.hid (And.intro e0 (And.intro e1 e2))
          have p0 := blk_cell e0 0
          have c0 := H0.out.a.chg.cell C0W.out id
          clear e0 e1 e2 HPQ hBe
          refine wp_loop_rounds 2 ?_
          have hLk := HL.out.one (m := 3) hdv8 (x / 128 % 2 == 1)
          have HLK := Lib.hid hLk; clear hLk HL
          rw [rounds_succ]
          go_wp2_with fail
          refine (ust3 H0.out.a 1 dv (x / 128 % 2 == 1)).mono ?_
          rintro e w5 ⟨rfl, F1, a5, f5, k5⟩
          have P5 := H0.out.step a5 f5 k5
          have e0 := k5.at E0.out.1 (NF.out 0 (by omega)).1
          have e1 := k5.at E0.out.2.1 (NF.out 1 (by omega)).1
          have e2 := k5.at E0.out.2.2 (NF.out 2 (by omega)).1
          have hNF1 : ∀ i, i < 3 → ¬ F1 (B + i) ∧ ¬ G (B + i) := fun i hi => ⟨footKeep f5 (NF.out i hi).1 (by have := lt_of_heap E0.out.2.2; omega), (NF.out i hi).2⟩
          have NF1 := Lib.hid hNF1; clear hNF1
          have q0 := blk_cell e1 0
          have q1 := blk_free e1 0
          have hP1 := fun y : Value => P5.other (Chg.set1 (i := 0) (Chg.refl _ _) y) (fun k hk => ⟨by rw [hk]; exact (NF1.out 1 (by omega)).1, by rw [hk]; exact (NF1.out 1 (by omega)).2, by omega⟩ : ∀ k, k = B + 1 → _)
          have HPS := Lib.hid hP1; clear hP1 P5
          have hE1 := fun y : Value => And.intro (blk_far (a := ⟨B + 1, 0, none⟩) e0 (by simp only; omega) y) (And.intro (blk_set e1 0 y) (blk_far (a := ⟨B + 1, 0, none⟩) e2 (by simp only; omega) y))
          have HE1 := Lib.hid hE1; clear hE1 e0 e1 e2 a5 f5 k5
          clear H0 E0 NF p0 c0
          go_wp2_with fail
          refine (num16 _ _).mono ?_
          rintro e x1 ⟨rfl, rfl⟩
          go_wp2_with fail
          have H1 := Lib.hid (HPS.out (.int .i64 (ustC 3 1 dv f))); clear HPS
          have E1 := Lib.hid (And.intro (HE1.out (.int .i64 (ustC 3 1 dv f))).1 (And.intro (HE1.out (.int .i64 (ustC 3 1 dv f))).2.1 (HE1.out (.int .i64 (ustC 3 1 dv f))).2.2)); clear HE1
          clear q0 q1
          rw [rounds_succ]
          clear hm
          go_wp2_with fail
          first
            | exact ⟨⟨j + 1, _, _, _, _, _, _, by omega, by go_num, H1.out, HLK.out⟩, by simp [intOf]; omega⟩
            | (go_roundw
               case rel => exact ⟨j + 1, _, _, _, _, _, _, by omega, by go_num, H1.out, HLK.out⟩
               case measure => simp [intOf]; omega)
        · have hm := HM.out; clear HM
          go_wp2_with fail
          refine wp_abs (fun W => U2 w0 W u v f g S T F G ∧ W.heap[B]? = some (.cells #[.pointer (some ⟨u, 0, none⟩), .pointer (some ⟨v, 0, none⟩)] 96 (0, 0)) ∧ W.heap[B + 1]? = some (.cells #[.int .i64 0, .int .i64 0] 111 (0, 0)) ∧ W.heap[B + 1 + 1]? = some (.cells #[.slice none 0 0, .slice none 0 0] 112 (0, 0))) ⟨HPQ.out.keepN ((((Chg.refl _ _).alloc (.cells #[.pointer (some ⟨u, 0, none⟩), .pointer (some ⟨v, 0, none⟩)] 96)).alloc (.cells #[.int .i64 0, .int .i64 0] 111)).alloc (.cells #[.slice none 0 0, .slice none 0 0] 112)), by rw [hBe]; exact blk_alloc (blk_alloc (blk_new _ _) _) _, by rw [hBe]; exact blk_alloc (blk_new2 _ _ _) _, by rw [hBe]; exact blk_new3 _ _ _ _⟩ ?_
          rw [← hBe]
          rintro W ⟨h0, e0, e1, e2⟩
          have hNF : ∀ i, i < 3 → ¬ F (B + i) ∧ ¬ G (B + i) := fun i hi => ⟨fun hin => by have := HPQ.out.a.at_.lt _ hin; omega, fun hin => by have := HPQ.out.b.at_.lt _ hin; omega⟩
          have hB0 : w0.heap.size ≤ B := by rw [hBe]; exact HPQ.out.a.chg.size
          have NF := Lib.hid hNF; clear hNF
          have H0 := Lib.hid h0; clear h0
          have E0 := Lib.hid (And.intro e0 (And.intro e1 e2))
          have p0 := blk_cell e0 0
          have c0 := H0.out.a.chg.cell C0W.out id
          clear e0 e1 e2 HPQ hBe
          refine wp_loop_rounds 2 ?_
          have hLk := HL.out.one (m := 4) hdv8 (x / 128 % 2 == 1)
          have HLK := Lib.hid hLk; clear hLk HL
          rw [rounds_succ]
          go_wp2_with fail
          refine (usDeliver H0.out.a (by omega) 1 j).mono ?_
          rintro e w5 ⟨s0, rfl, o5, F1, a5, f5, -, k5⟩
          change US w0 w5 _ 2 2 (ustF 4 1 dv (x / 128 % 2 == 1) f) (ustS 4 1 dv f S) F1 at a5
          have P5 := H0.out.step a5 f5 k5
          have e0 := k5.at E0.out.1 (NF.out 0 (by omega)).1
          have e1 := k5.at E0.out.2.1 (NF.out 1 (by omega)).1
          have e2 := k5.at E0.out.2.2 (NF.out 2 (by omega)).1
          have hNF1 : ∀ i, i < 3 → ¬ F1 (B + i) ∧ ¬ G (B + i) := fun i hi => ⟨footKeep f5 (NF.out i hi).1 (by have := lt_of_heap E0.out.2.2; omega), (NF.out i hi).2⟩
          have NF1 := Lib.hid hNF1; clear hNF1
          have q0 := blk_cell e2 0
          have q1 := blk_free e2 0
          obtain ⟨A0, k0, hs0⟩ := o5.slice
          subst hs0
          have hv0 : ∀ k, (Value.slice A0 (tkL 2 1 j (maskedL 2 f 32) S).length k0).ownBlock = some k → ¬ G k ∧ k ≠ B + 1 ∧ k ≠ B + 1 + 1 := fun k hk => by have h1 := o5.ge hk; have h3 := lt_of_heap E0.out.2.2; exact ⟨fun hin => by have := H0.out.b.at_.lt _ hin; omega, by omega, by omega⟩
          have HV0 := Lib.hid hv0; clear hv0
          have RV0 := Lib.hid (fun y : Value => OwnC.keep (S := fun k => k = B + 1 + 1) o5 (Chg.set1 (i := 0) (Chg.refl _ _) y) (fun k hk e => (HV0.out k hk).2.2 e))
          clear o5
          have hP1 := fun y : Value => P5.other (Chg.set1 (i := 0) (Chg.refl _ _) y) (fun k hk => ⟨by rw [hk]; exact (NF1.out 2 (by omega)).1, by rw [hk]; exact (NF1.out 2 (by omega)).2, by omega⟩ : ∀ k, k = B + 1 + 1 → _)
          have HPS := Lib.hid hP1; clear hP1 P5
          have hE1 := fun y : Value => And.intro (blk_far (a := ⟨B + 1 + 1, 0, none⟩) e0 (by simp only; omega) y) (And.intro (blk_set e2 0 y) (blk_far (a := ⟨B + 1 + 1, 0, none⟩) e1 (by simp only; omega) y))
          have HE1 := Lib.hid hE1; clear hE1 e0 e1 e2 a5 f5 k5
          clear H0 E0 NF p0 c0
          go_wp2_with fail
          have H1 := Lib.hid (HPS.out (.slice A0 (tkL 2 1 j (maskedL 2 f 32) S).length k0)); clear HPS
          have E1 := Lib.hid (And.intro (HE1.out (.slice A0 (tkL 2 1 j (maskedL 2 f 32) S).length k0)).1 (And.intro (HE1.out (.slice A0 (tkL 2 1 j (maskedL 2 f 32) S).length k0)).2.2 (HE1.out (.slice A0 (tkL 2 1 j (maskedL 2 f 32) S).length k0)).2.1)); clear HE1
          clear q0 q1
          rw [rounds_succ]
          clear hm
          go_wp2_with fail
          first
            | exact ⟨⟨j + 1, _, _, _, _, _, _, by omega, by go_num, H1.out, HLK.out⟩, by simp [intOf]; omega⟩
            | (go_roundw
               case rel => exact ⟨j + 1, _, _, _, _, _, _, by omega, by go_num, H1.out, HLK.out⟩
               case measure => simp [intOf]; omega)
        · have hm := HM.out; clear HM
          go_wp2_with fail
          refine wp_abs (fun W => U2 w0 W u v f g S T F G ∧ W.heap[B]? = some (.cells #[.pointer (some ⟨u, 0, none⟩), .pointer (some ⟨v, 0, none⟩)] 96 (0, 0)) ∧ W.heap[B + 1]? = some (.cells #[.int .i64 0, .int .i64 0] 111 (0, 0)) ∧ W.heap[B + 1 + 1]? = some (.cells #[.slice none 0 0, .slice none 0 0] 112 (0, 0))) ⟨HPQ.out.keepN ((((Chg.refl _ _).alloc (.cells #[.pointer (some ⟨u, 0, none⟩), .pointer (some ⟨v, 0, none⟩)] 96)).alloc (.cells #[.int .i64 0, .int .i64 0] 111)).alloc (.cells #[.slice none 0 0, .slice none 0 0] 112)), by rw [hBe]; exact blk_alloc (blk_alloc (blk_new _ _) _) _, by rw [hBe]; exact blk_alloc (blk_new2 _ _ _) _, by rw [hBe]; exact blk_new3 _ _ _ _⟩ ?_
          rw [← hBe]
          rintro W ⟨h0, e0, e1, e2⟩
          have hNF : ∀ i, i < 3 → ¬ F (B + i) ∧ ¬ G (B + i) := fun i hi => ⟨fun hin => by have := HPQ.out.a.at_.lt _ hin; omega, fun hin => by have := HPQ.out.b.at_.lt _ hin; omega⟩
          have hB0 : w0.heap.size ≤ B := by rw [hBe]; exact HPQ.out.a.chg.size
          have NF := Lib.hid hNF; clear hNF
          have H0 := Lib.hid h0; clear h0
          have E0 := Lib.hid (And.intro e0 (And.intro e1 e2))
          have p0 := blk_cell e0 0
          have c0 := H0.out.a.chg.cell C0W.out id
          clear e0 e1 e2 HPQ hBe
          refine wp_loop_rounds 2 ?_
          have hLk := HL.out.one (m := 5) hdv8 (x / 128 % 2 == 1)
          have HLK := Lib.hid hLk; clear hLk HL
          rw [rounds_succ]
          go_wp2_with fail
          refine (ust5 H0.out.a 1 dv (x / 128 % 2 == 1)).mono ?_
          rintro e w5 ⟨rfl, F1, a5, f5, k5⟩
          have P5 := H0.out.step a5 f5 k5
          have e0 := k5.at E0.out.1 (NF.out 0 (by omega)).1
          have e1 := k5.at E0.out.2.1 (NF.out 1 (by omega)).1
          have e2 := k5.at E0.out.2.2 (NF.out 2 (by omega)).1
          have hNF1 : ∀ i, i < 3 → ¬ F1 (B + i) ∧ ¬ G (B + i) := fun i hi => ⟨footKeep f5 (NF.out i hi).1 (by have := lt_of_heap E0.out.2.2; omega), (NF.out i hi).2⟩
          have NF1 := Lib.hid hNF1; clear hNF1
          have q0 := blk_cell e1 0
          have q1 := blk_free e1 0
          have hP1 := fun y : Value => P5.other (Chg.set1 (i := 0) (Chg.refl _ _) y) (fun k hk => ⟨by rw [hk]; exact (NF1.out 1 (by omega)).1, by rw [hk]; exact (NF1.out 1 (by omega)).2, by omega⟩ : ∀ k, k = B + 1 → _)
          have HPS := Lib.hid hP1; clear hP1 P5
          have hE1 := fun y : Value => And.intro (blk_far (a := ⟨B + 1, 0, none⟩) e0 (by simp only; omega) y) (And.intro (blk_set e1 0 y) (blk_far (a := ⟨B + 1, 0, none⟩) e2 (by simp only; omega) y))
          have HE1 := Lib.hid hE1; clear hE1 e0 e1 e2 a5 f5 k5
          clear H0 E0 NF p0 c0
          go_wp2_with fail
          refine (num16 _ _).mono ?_
          rintro e x1 ⟨rfl, rfl⟩
          go_wp2_with fail
          have H1 := Lib.hid (HPS.out (.int .i64 (ustC 5 1 dv f))); clear HPS
          have E1 := Lib.hid (And.intro (HE1.out (.int .i64 (ustC 5 1 dv f))).1 (And.intro (HE1.out (.int .i64 (ustC 5 1 dv f))).2.1 (HE1.out (.int .i64 (ustC 5 1 dv f))).2.2)); clear HE1
          clear q0 q1
          rw [rounds_succ]
          clear hm
          go_wp2_with fail
          first
            | exact ⟨⟨j + 1, _, _, _, _, _, _, by omega, by go_num, H1.out, HLK.out⟩, by simp [intOf]; omega⟩
            | (go_roundw
               case rel => exact ⟨j + 1, _, _, _, _, _, _, by omega, by go_num, H1.out, HLK.out⟩
               case measure => simp [intOf]; omega)
        · have hm := HM.out; clear HM
          go_wp2_with fail
          refine wp_abs (fun W => U2 w0 W u v f g S T F G ∧ W.heap[B]? = some (.cells #[.pointer (some ⟨u, 0, none⟩), .pointer (some ⟨v, 0, none⟩)] 96 (0, 0)) ∧ W.heap[B + 1]? = some (.cells #[.int .i64 0, .int .i64 0] 111 (0, 0)) ∧ W.heap[B + 1 + 1]? = some (.cells #[.slice none 0 0, .slice none 0 0] 112 (0, 0))) ⟨HPQ.out.keepN ((((Chg.refl _ _).alloc (.cells #[.pointer (some ⟨u, 0, none⟩), .pointer (some ⟨v, 0, none⟩)] 96)).alloc (.cells #[.int .i64 0, .int .i64 0] 111)).alloc (.cells #[.slice none 0 0, .slice none 0 0] 112)), by rw [hBe]; exact blk_alloc (blk_alloc (blk_new _ _) _) _, by rw [hBe]; exact blk_alloc (blk_new2 _ _ _) _, by rw [hBe]; exact blk_new3 _ _ _ _⟩ ?_
          rw [← hBe]
          rintro W ⟨h0, e0, e1, e2⟩
          have hNF : ∀ i, i < 3 → ¬ F (B + i) ∧ ¬ G (B + i) := fun i hi => ⟨fun hin => by have := HPQ.out.a.at_.lt _ hin; omega, fun hin => by have := HPQ.out.b.at_.lt _ hin; omega⟩
          have hB0 : w0.heap.size ≤ B := by rw [hBe]; exact HPQ.out.a.chg.size
          have NF := Lib.hid hNF; clear hNF
          have H0 := Lib.hid h0; clear h0
          have E0 := Lib.hid (And.intro e0 (And.intro e1 e2))
          have p0 := blk_cell e0 0
          have c0 := H0.out.a.chg.cell C0W.out id
          clear e0 e1 e2 HPQ hBe
          refine wp_loop_rounds 2 ?_
          have hLk := HL.out.one (m := 6) hdv8 (x / 128 % 2 == 1)
          have HLK := Lib.hid hLk; clear hLk HL
          rw [rounds_succ]
          go_wp2_with fail
          refine (ust6 H0.out.a 1 dv (x / 128 % 2 == 1)).mono ?_
          rintro e w5 ⟨rfl, F1, a5, f5, k5⟩
          have P5 := H0.out.step a5 f5 k5
          have e0 := k5.at E0.out.1 (NF.out 0 (by omega)).1
          have e1 := k5.at E0.out.2.1 (NF.out 1 (by omega)).1
          have e2 := k5.at E0.out.2.2 (NF.out 2 (by omega)).1
          have hNF1 : ∀ i, i < 3 → ¬ F1 (B + i) ∧ ¬ G (B + i) := fun i hi => ⟨footKeep f5 (NF.out i hi).1 (by have := lt_of_heap E0.out.2.2; omega), (NF.out i hi).2⟩
          have NF1 := Lib.hid hNF1; clear hNF1
          have q0 := blk_cell e1 0
          have q1 := blk_free e1 0
          have hP1 := fun y : Value => P5.other (Chg.set1 (i := 0) (Chg.refl _ _) y) (fun k hk => ⟨by rw [hk]; exact (NF1.out 1 (by omega)).1, by rw [hk]; exact (NF1.out 1 (by omega)).2, by omega⟩ : ∀ k, k = B + 1 → _)
          have HPS := Lib.hid hP1; clear hP1 P5
          have hE1 := fun y : Value => And.intro (blk_far (a := ⟨B + 1, 0, none⟩) e0 (by simp only; omega) y) (And.intro (blk_set e1 0 y) (blk_far (a := ⟨B + 1, 0, none⟩) e2 (by simp only; omega) y))
          have HE1 := Lib.hid hE1; clear hE1 e0 e1 e2 a5 f5 k5
          clear H0 E0 NF p0 c0
          go_wp2_with fail
          refine (num16 _ _).mono ?_
          rintro e x1 ⟨rfl, rfl⟩
          go_wp2_with fail
          have H1 := Lib.hid (HPS.out (.int .i64 (ustC 6 1 dv f))); clear HPS
          have E1 := Lib.hid (And.intro (HE1.out (.int .i64 (ustC 6 1 dv f))).1 (And.intro (HE1.out (.int .i64 (ustC 6 1 dv f))).2.1 (HE1.out (.int .i64 (ustC 6 1 dv f))).2.2)); clear HE1
          clear q0 q1
          rw [rounds_succ]
          clear hm
          go_wp2_with fail
          first
            | exact ⟨⟨j + 1, _, _, _, _, _, _, by omega, by go_num, H1.out, HLK.out⟩, by simp [intOf]; omega⟩
            | (go_roundw
               case rel => exact ⟨j + 1, _, _, _, _, _, _, by omega, by go_num, H1.out, HLK.out⟩
               case measure => simp [intOf]; omega)
        · have hm := HM.out; clear HM
          go_wp2_with fail
          refine wp_abs (fun W => U2 w0 W u v f g S T F G ∧ W.heap[B]? = some (.cells #[.pointer (some ⟨u, 0, none⟩), .pointer (some ⟨v, 0, none⟩)] 96 (0, 0)) ∧ W.heap[B + 1]? = some (.cells #[.int .i64 0, .int .i64 0] 111 (0, 0)) ∧ W.heap[B + 1 + 1]? = some (.cells #[.slice none 0 0, .slice none 0 0] 112 (0, 0))) ⟨HPQ.out.keepN ((((Chg.refl _ _).alloc (.cells #[.pointer (some ⟨u, 0, none⟩), .pointer (some ⟨v, 0, none⟩)] 96)).alloc (.cells #[.int .i64 0, .int .i64 0] 111)).alloc (.cells #[.slice none 0 0, .slice none 0 0] 112)), by rw [hBe]; exact blk_alloc (blk_alloc (blk_new _ _) _) _, by rw [hBe]; exact blk_alloc (blk_new2 _ _ _) _, by rw [hBe]; exact blk_new3 _ _ _ _⟩ ?_
          rw [← hBe]
          rintro W ⟨h0, e0, e1, e2⟩
          have hNF : ∀ i, i < 3 → ¬ F (B + i) ∧ ¬ G (B + i) := fun i hi => ⟨fun hin => by have := HPQ.out.a.at_.lt _ hin; omega, fun hin => by have := HPQ.out.b.at_.lt _ hin; omega⟩
          have hB0 : w0.heap.size ≤ B := by rw [hBe]; exact HPQ.out.a.chg.size
          have NF := Lib.hid hNF; clear hNF
          have H0 := Lib.hid h0; clear h0
          have E0 := Lib.hid (And.intro e0 (And.intro e1 e2))
          have p0 := blk_cell e0 0
          have c0 := H0.out.a.chg.cell C0W.out id
          clear e0 e1 e2 HPQ hBe
          refine wp_loop_rounds 2 ?_
          have hLk := HL.out.one (m := 7) hdv8 (x / 128 % 2 == 1)
          have HLK := Lib.hid hLk; clear hLk HL
          rw [rounds_succ]
          go_wp2_with fail
          refine (ust7 H0.out.a 1 dv (x / 128 % 2 == 1)).mono ?_
          rintro e w5 ⟨rfl, F1, a5, f5, k5⟩
          have P5 := H0.out.step a5 f5 k5
          have e0 := k5.at E0.out.1 (NF.out 0 (by omega)).1
          have e1 := k5.at E0.out.2.1 (NF.out 1 (by omega)).1
          have e2 := k5.at E0.out.2.2 (NF.out 2 (by omega)).1
          have hNF1 : ∀ i, i < 3 → ¬ F1 (B + i) ∧ ¬ G (B + i) := fun i hi => ⟨footKeep f5 (NF.out i hi).1 (by have := lt_of_heap E0.out.2.2; omega), (NF.out i hi).2⟩
          have NF1 := Lib.hid hNF1; clear hNF1
          have q0 := blk_cell e1 0
          have q1 := blk_free e1 0
          have hP1 := fun y : Value => P5.other (Chg.set1 (i := 0) (Chg.refl _ _) y) (fun k hk => ⟨by rw [hk]; exact (NF1.out 1 (by omega)).1, by rw [hk]; exact (NF1.out 1 (by omega)).2, by omega⟩ : ∀ k, k = B + 1 → _)
          have HPS := Lib.hid hP1; clear hP1 P5
          have hE1 := fun y : Value => And.intro (blk_far (a := ⟨B + 1, 0, none⟩) e0 (by simp only; omega) y) (And.intro (blk_set e1 0 y) (blk_far (a := ⟨B + 1, 0, none⟩) e2 (by simp only; omega) y))
          have HE1 := Lib.hid hE1; clear hE1 e0 e1 e2 a5 f5 k5
          clear H0 E0 NF p0 c0
          go_wp2_with fail
          refine (num16 _ _).mono ?_
          rintro e x1 ⟨rfl, rfl⟩
          go_wp2_with fail
          have H1 := Lib.hid (HPS.out (.int .i64 (ustC 7 1 dv f))); clear HPS
          have E1 := Lib.hid (And.intro (HE1.out (.int .i64 (ustC 7 1 dv f))).1 (And.intro (HE1.out (.int .i64 (ustC 7 1 dv f))).2.1 (HE1.out (.int .i64 (ustC 7 1 dv f))).2.2)); clear HE1
          clear q0 q1
          rw [rounds_succ]
          clear hm
          go_wp2_with fail
          first
            | exact ⟨⟨j + 1, _, _, _, _, _, _, by omega, by go_num, H1.out, HLK.out⟩, by simp [intOf]; omega⟩
            | (go_roundw
               case rel => exact ⟨j + 1, _, _, _, _, _, _, by omega, by go_num, H1.out, HLK.out⟩
               case measure => simp [intOf]; omega)
    · have hend : (j : Int) < xs.length → (60 : Int) ≤ j := by omega
      have HP := Lib.hid hP; clear hP
      have HL := Lib.hid hL; clear hL
      clear hlt hj
      by_cases hl : (j : Int) < xs.length
      all_goals
        first
          | have h60 := hend hl
          | skip
        clear hend
        go_wp2_with fail
        refine (usDeliver HP.out.a (by omega) 0 99).mono ?_
        rintro e w5 ⟨va, rfl, o5, F1, a5, f5, -, k5⟩
        have P5 := HP.out.step a5 f5 k5
        have hGv : ∀ k, va.ownBlock = some k → ¬ G k := fun k hk hin => by have := o5.ge hk; have := HP.out.b.at_.lt _ hin; omega
        rw [(HL.out.take 99).1] at o5
        have HG := Lib.hid hGv; clear hGv
        have HO := Lib.hid o5; clear o5
        have HP5 := Lib.hid P5; clear P5 a5 f5 k5 HP
        go_wp2_with fail
        refine (usDeliver HP5.out.b (by omega) 0 99).mono ?_
        rintro e w6 ⟨vb, rfl, o6, G1, a6, f6, -, k6⟩
        have P6 := (HP5.out.swap.step a6 f6 k6).swap
        have hsm := sameYes va vb _ _ (RdI.of (HO.out.keep k6 (fun k hk e => HG.out k hk e))) (RdI.of o6) (Nat.le_trans (tkL_len _ _ _ _ _) (by decide))
        have HS := Lib.hid hsm; clear hsm o6
        have HP6 := Lib.hid P6; clear P6 a6 f6 k6 HP5 HG HO
        go_wp2_with fail
        refine HS.out.mono ?_
        rintro e w7 ⟨rfl, k7⟩
        have HP7 := Lib.hid (HP6.out.keepN k7); clear k7 HP6 HS
        go_wp2_with fail
        refine (usDeliver HP7.out.b (by omega) 1 99).mono ?_
        rintro e w8 ⟨vc, rfl, o8, G2, a8, -, -, -⟩
        have hnil : tkL 2 1 99 (maskedL 2 g 32) (tkS 2 0 (maskedL 2 g 32) T) = [] := by
          unfold tkL
          rw [if_pos (by decide), show ((1 : Int).toNat) = 1 from rfl]
          exact takeL_nil (fun k hk => (HL.out.take 99).2.z k hk) _ _
        rw [hnil] at o8
        obtain ⟨A8, k8, rfl⟩ := o8.slice
        have HC := Lib.hid a8.chg; clear a8 o8 hnil HP7
        go_wp2_with fail
        go_ret
        exact ⟨rfl, HC.out⟩
theorem irqApart_walk (w : World) (A : Option Addr) (ca : Nat) (xs : List Int) (hmx : xs.length ≤ maxLen) (rx : RowC w A (xs.flatMap icell)) (_hw : ∀ x ∈ xs, True) :
    Calls Try.prog 18 #[.slice A xs.length ca] w fun e w' => e = .returned (.bool true) ∧ Below w.heap.size w w' :=
  (irqApart_main A ca xs w (by unfold maxLen at hmx; omega) rx).mono fun e w' ⟨h1, h2⟩ => ⟨h1, h2.below (Nat.le_refl _) (fun _ h => h.elim)⟩
end Go.Proofs.Ytpnhdiajiieonaa
