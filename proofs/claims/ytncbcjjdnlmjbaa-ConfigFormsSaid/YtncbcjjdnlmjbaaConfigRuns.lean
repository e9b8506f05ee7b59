/- The law ConfigRuns: the walk. -/
import Derived.Test.YtncbcjjdnlmjbaaCfgK
set_option linter.unusedSimpArgs false
set_option linter.unusedVariables false
namespace Go.Proofs.Ytncbcjjdnlmjbaa
open Go.RowKit

/-- A run is allowed just if each of its bytes is. -/
theorem runs_iff (C : Cf) (iw : Bool) (p a m : Int) (hm : MayP C) (ha : 0 ≤ a) (hp : C.there p) (hm0 : 0 ≤ m) (hr : RunP a m (C.frames * 64)) : ReadsP C p a m iw ↔ ∀ k : Nat, k < m.toNat → ReadsP C p (a + k) 1 iw := by
  obtain ⟨r0, r1, r2, r3, r4⟩ := hr
  constructor
  · rintro ⟨_, _, _, h⟩ k hk
    refine ⟨hm, hp, ⟨by omega, by omega, r2, by omega, by omega⟩, fun i hi => ?_⟩
    obtain rfl : i = 0 := by simp at hi; omega
    simpa using h k hk
  · intro h
    refine ⟨hm, hp, ⟨r0, r1, r2, r3, r4⟩, fun k hk => ?_⟩
    have := (h k hk).2.2.2 0 (by decide)
    simpa using this
/-- Behind the end nothing is allowed. -/
theorem runs_out (C : Cf) (iw : Bool) (p a m : Int) (ha : 0 ≤ a) (hlt : a < C.frames * 64) (hm0 : 0 < m) (hr : ¬ RunP a m (C.frames * 64)) : ¬ ReadsP C p a m iw ∧ ∃ k : Nat, k < m.toNat ∧ ¬ ReadsP C p (a + k) 1 iw := by
  refine ⟨fun h => hr h.2.2.1, (C.frames * 64 - a).toNat, ?_, fun h => ?_⟩
  · unfold RunP at hr; omega
  · have := h.2.2.1.2.2.2.1
    have := h.2.2.1.2.2.2.2
    omega
theorem runs_all (C : Cf) (iw : Bool) (p a m : Int) (hm : MayP C) (hp : C.there p) (ha : 0 ≤ a) (hlt : a < C.frames * 64) (hm0 : 0 ≤ m) : decide (ReadsP C p a m iw) = decide (∀ k : Nat, k < m.toNat → ReadsP C p (a + k) 1 iw) := by
  rw [Bool.eq_iff_iff]; simp only [decide_eq_true_eq]
  by_cases hr : RunP a m (C.frames * 64)
  · exact runs_iff C iw p a m hm ha hp hm0 hr
  · have h1 : 0 < m := by
      rcases Int.lt_or_eq_of_le hm0 with h | h
      · exact h
      · exfalso; apply hr; subst h; exact ⟨ha, by omega, by omega, by omega, by omega⟩
    obtain ⟨h2, k, hk, h3⟩ := runs_out C iw p a m ha hlt h1 hr
    exact ⟨fun h => absurd h h2, fun h => absurd (h k hk) h3⟩
theorem i64_and127 (n : Int) : bits .and .i64 n 127 = n % 128 := by
  have h : (BitVec.ofInt 64 127).toNat = 2 ^ 7 - 1 := by decide
  have key : (BitVec.ofInt 64 n &&& BitVec.ofInt 64 127).toNat = (n % ((2 ^ 64 : Nat) : Int)).toNat % 2 ^ 7 := by
    rw [BitVec.toNat_and, BitVec.toNat_ofInt, h, Nat.and_two_pow_sub_one_eq_mod]
  show IntKind.i64.wrap ((BitVec.ofInt 64 n &&& BitVec.ofInt 64 127).toNat : Nat) = n % 128
  rw [key, IntKind.wrap_i64]
  omega
theorem uidx (x len : Int) (h : 0 < len) (hl : len ≤ 4096) : 0 ≤ wrap64 ((IntKind.u64.wrap x).tmod len) ∧ wrap64 ((IntKind.u64.wrap x).tmod len) < len := by
  have h0 : 0 ≤ IntKind.u64.wrap x := by unfold IntKind.wrap; simp [IntKind.bits, IntKind.signed]; omega
  have h1 := Int.tmod_nonneg len h0
  have h2 := Int.tmod_lt_of_pos (IntKind.u64.wrap x) h
  generalize (IntKind.u64.wrap x).tmod len = z at *
  unfold wrap64
  omega
attribute [local go_sem] i64_and127
set_option maxRecDepth 100000 in
set_option maxHeartbeats 4000000 in
theorem configRuns_in (C : Cf) (s : Vs) (part pos k : Int) (w : World) (h : s.R w C) (hm : MayP C) :
    Calls Try.prog 6 #[.agg (cfc C s), .int .i64 part, .int .i64 pos, .int .i64 k] w fun e w' => e = .returned (.bool true) ∧ Chg (fun _ => False) w w' := by
  have hA : Chg (fun _ => False) w (w.alloc (.cells (cfc C s) 27)) := (Chg.refl _ _).alloc _
  have HP : Hid (∀ wr, Chg (fun _ => False) (w.alloc (.cells (cfc C s) 27)) wr → CfP wr w.heap.size C s) := fun wr hC => CfP.keepN ⟨blk_new w _, h.keepN hA⟩ hC
  have HA := Lib.hid hA; clear hA h
  obtain ⟨A1, k1, A2, k2, A3, k3, A4, k4, rfl, m1, m2, m3, m4⟩ := (HP.out _ (Chg.refl _ _)).open
  have f0 := hm.2.2.1.1
  have f1 := hm.2.2.1.2.1
  have l0 := hm.1.2.1
  have l1 := hm.1.2.2
  have hmd := decide_eq_true hm
  have HM := Lib.hid hm; clear hm
  have HB : Hid (∀ W, Chg (fun _ => False) (w.alloc (.cells (cfc C ⟨.slice A1 C.parts.length k1, .slice A2 C.devs.length k2, .slice A3 C.wins.length k3, .slice A4 C.grants.length k4⟩) 27)) W → W.heap[w.heap.size]? = some (.cells #[.int .i64 C.frames, .slice A1 C.parts.length k1, .slice A2 C.devs.length k2, .int .i64 C.major, .slice A3 C.wins.length k3, .slice A4 C.grants.length k4, .int .i64 C.sectors, .int .i64 C.quota, .int .i64 C.quiet] 27 (0, 0))) := fun W hW => (HP.out W hW).1
  unfold cfc at *
  go_enter Try.func6, Try.ntmps6
  go_wp2_with fail
  refine (awake21 _).mono ?_
  rintro e w1 ⟨rfl, hC1⟩
  have C1 := Lib.hid hC1; clear hC1
  have g := HB.out _ C1.out
  have y0 := blk_cell g 0
  have y1 := blk_cell g 1
  have y2 := blk_cell g 2
  have y3 := blk_cell g 3
  have y4 := blk_cell g 4
  have y5 := blk_cell g 5
  have y6 := blk_cell g 6
  have y7 := blk_cell g 7
  have y8 := blk_cell g 8
  simp only [List.getElem?_toArray, List.getElem?_cons_zero, List.getElem?_cons_succ] at y0 y1 y2 y3 y4 y5 y6 y7 y8
  clear g
  go_wp2_with fail
  refine (cMay C _ _ (HP.out _ C1.out).2).mono ?_
  rintro e w2 ⟨rfl, hC2⟩
  rw [hmd]
  have C2 := Lib.hid (C1.out.trans hC2); clear hC2 C1 y0 y1 y2 y3 y4 y5 y6 y7 y8
  have g := HB.out _ C2.out
  have y0 := blk_cell g 0
  have y1 := blk_cell g 1
  simp only [List.getElem?_toArray, List.getElem?_cons_zero, List.getElem?_cons_succ] at y0 y1
  clear g
  go_upto_region 7 with fail
  clear y0 y1
  obtain ⟨p0, p1⟩ := uidx part C.parts.length (by omega) (by omega)
  obtain ⟨q0, q1⟩ := uidx pos (C.frames * 64) (by omega) (by omega)
  have z0 : 0 ≤ k % 128 := by omega
  have z1 : k % 128 < 128 := by omega
  generalize wrap64 ((IntKind.u64.wrap part).tmod C.parts.length) = P at *
  generalize wrap64 ((IntKind.u64.wrap pos).tmod (C.frames * 64)) = A at *
  obtain ⟨K, hK⟩ := Int.eq_ofNat_of_zero_le z0
  rw [hK]
  have hall : ∀ iw : Bool, decide (ReadsP C P A K iw) = decide (∀ q : Nat, q < K → ReadsP C P (A + q) 1 iw) := fun iw => runs_all C iw P A K HM.out ⟨p0, p1⟩ q0 q1 (by omega)
  have HALL := Lib.hid hall; clear hall
  have zK : (K : Int) < 128 := by omega
  have hA2 : A < 4096 := by omega
  clear hK z0 z1 hmd
  go_wp2_with fail
  go_loopw [12, 13, 14] (fun s12 s13 s14 wr => ∃ (j : Nat) (b1 b2 : Bool), j ≤ K ∧ s14 = .int .i64 (A + j) ∧ s12 = .bool b1 ∧ s13 = .bool b2 ∧ (b1 = true ↔ ∀ q : Nat, q < j → ReadsP C P (A + q) 1 false) ∧ (b2 = true ↔ ∀ q : Nat, q < j → ReadsP C P (A + q) 1 true) ∧ Chg (fun _ => False) (w.alloc (.cells #[.int .i64 C.frames, .slice A1 C.parts.length k1, .slice A2 C.devs.length k2, .int .i64 C.major, .slice A3 C.wins.length k3, .slice A4 C.grants.length k4, .int .i64 C.sectors, .int .i64 C.quota, .int .i64 C.quiet] 27)) wr) (fun s12 s13 s14 _ => (A + K - intOf s14).toNat)
  case atStart => exact ⟨0, true, true, by omega, by simp, rfl, rfl, by simp, by simp, C2.out⟩
  case round =>
    clear C2
    obtain ⟨j, b1, b2, hj, rfl, rfl, rfl, hb1, hb2, hC⟩ := hrel
    have C3 := Lib.hid hC; clear hC
    by_cases hlt : j < K
    · have j1 : A + (j : Int) < A + K := by omega
      have nx : ∀ iw : Bool, (∀ q : Nat, q < j + 1 → ReadsP C P (A + q) 1 iw) ↔ ((∀ q : Nat, q < j → ReadsP C P (A + q) 1 iw) ∧ ReadsP C P (A + j) 1 iw) := fun iw => by
        constructor
        · exact fun h => ⟨fun q hq => h q (by omega), h j (by omega)⟩
        · rintro ⟨h, h'⟩ q hq
          by_cases e : q = j
          · subst e; exact h'
          · exact h q (by omega)
      have NX := Lib.hid nx; clear nx
      have B1 := Lib.hid hb1; clear hb1
      have B2 := Lib.hid hb2; clear hb2
      cases b1 with
      | true =>
        have g := HB.out _ C3.out
        have y0 := blk_cell g 0
        have y1 := blk_cell g 1
        have y2 := blk_cell g 2
        have y3 := blk_cell g 3
        have y4 := blk_cell g 4
        have y5 := blk_cell g 5
        have y6 := blk_cell g 6
        have y7 := blk_cell g 7
        have y8 := blk_cell g 8
        simp only [List.getElem?_toArray, List.getElem?_cons_zero, List.getElem?_cons_succ] at y0 y1 y2 y3 y4 y5 y6 y7 y8
        clear g
        go_wp2_with fail
        refine (cReads P (A + j) 1 C _ _ (HP.out _ C3.out).2).mono ?_
        rintro e w3 ⟨rfl, hC3⟩
        have C4 := Lib.hid (C3.out.trans hC3); clear hC3 y0 y1 y2 y3 y4 y5 y6 y7 y8 C3
        cases b2 with
        | true =>
          have g := HB.out _ C4.out
          have y0 := blk_cell g 0
          have y1 := blk_cell g 1
          have y2 := blk_cell g 2
          have y3 := blk_cell g 3
          have y4 := blk_cell g 4
          have y5 := blk_cell g 5
          have y6 := blk_cell g 6
          have y7 := blk_cell g 7
          have y8 := blk_cell g 8
          simp only [List.getElem?_toArray, List.getElem?_cons_zero, List.getElem?_cons_succ] at y0 y1 y2 y3 y4 y5 y6 y7 y8
          clear g
          go_wp2_with fail
          refine (cWrites P (A + j) 1 C _ _ (HP.out _ C4.out).2).mono ?_
          rintro e w4 ⟨rfl, hC4⟩
          have C5 := Lib.hid (C4.out.trans hC4); clear hC4 y0 y1 y2 y3 y4 y5 y6 y7 y8
          go_wp2_with fail
          go_roundw
          case rel => exact ⟨j + 1, decide (ReadsP C P (A + j) 1 false), decide (ReadsP C P (A + j) 1 true), by omega, by simp; omega, rfl, rfl, by rw [NX.out]; simp only [decide_eq_true_eq]; exact ⟨fun h => ⟨B1.out.1 (by first | rfl | trivial), h⟩, fun h => h.2⟩, by rw [NX.out]; simp only [decide_eq_true_eq]; exact ⟨fun h => ⟨B2.out.1 (by first | rfl | trivial), h⟩, fun h => h.2⟩, C5.out⟩
          case measure => simp [intOf]; omega
        | false =>
          go_wp2_with fail
          go_roundw
          case rel => exact ⟨j + 1, decide (ReadsP C P (A + j) 1 false), false, by omega, by simp; omega, rfl, rfl, by rw [NX.out]; simp only [decide_eq_true_eq]; exact ⟨fun h => ⟨B1.out.1 (by first | rfl | trivial), h⟩, fun h => h.2⟩, by rw [NX.out]; exact ⟨fun h => absurd h (by decide), fun h => absurd (B2.out.2 h.1) (by decide)⟩, C4.out⟩
          case measure => simp [intOf]; omega
      | false =>
        cases b2 with
        | true =>
          have g := HB.out _ C3.out
          have y0 := blk_cell g 0
          have y1 := blk_cell g 1
          have y2 := blk_cell g 2
          have y3 := blk_cell g 3
          have y4 := blk_cell g 4
          have y5 := blk_cell g 5
          have y6 := blk_cell g 6
          have y7 := blk_cell g 7
          have y8 := blk_cell g 8
          simp only [List.getElem?_toArray, List.getElem?_cons_zero, List.getElem?_cons_succ] at y0 y1 y2 y3 y4 y5 y6 y7 y8
          clear g
          go_wp2_with fail
          refine (cWrites P (A + j) 1 C _ _ (HP.out _ C3.out).2).mono ?_
          rintro e w4 ⟨rfl, hC4⟩
          have C5 := Lib.hid (C3.out.trans hC4); clear hC4 y0 y1 y2 y3 y4 y5 y6 y7 y8
          go_wp2_with fail
          go_roundw
          case rel => exact ⟨j + 1, false, decide (ReadsP C P (A + j) 1 true), by omega, by simp; omega, rfl, rfl, by rw [NX.out]; exact ⟨fun h => absurd h (by decide), fun h => absurd (B1.out.2 h.1) (by decide)⟩, by rw [NX.out]; simp only [decide_eq_true_eq]; exact ⟨fun h => ⟨B2.out.1 (by first | rfl | trivial), h⟩, fun h => h.2⟩, C5.out⟩
          case measure => simp [intOf]; omega
        | false =>
          go_wp2_with fail
          go_roundw
          case rel => exact ⟨j + 1, false, false, by omega, by simp; omega, rfl, rfl, by rw [NX.out]; exact ⟨fun h => absurd h (by decide), fun h => absurd (B1.out.2 h.1) (by decide)⟩, by rw [NX.out]; exact ⟨fun h => absurd h (by decide), fun h => absurd (B2.out.2 h.1) (by decide)⟩, C3.out⟩
          case measure => simp [intOf]; omega
    · obtain rfl : j = K := by omega
      have e1 : decide (ReadsP C P A j false) = b1 := by rw [HALL.out, Bool.eq_iff_iff, decide_eq_true_eq]; exact hb1.symm
      have e2 : decide (ReadsP C P A j true) = b2 := by rw [HALL.out, Bool.eq_iff_iff, decide_eq_true_eq]; exact hb2.symm
      have E1 := Lib.hid e1
      have E2 := Lib.hid e2
      clear e1 e2 hb1 hb2 hlt hj HALL
      have g := HB.out _ C3.out
      have y0 := blk_cell g 0
      have y1 := blk_cell g 1
      have y2 := blk_cell g 2
      have y3 := blk_cell g 3
      have y4 := blk_cell g 4
      have y5 := blk_cell g 5
      have y6 := blk_cell g 6
      have y7 := blk_cell g 7
      have y8 := blk_cell g 8
      simp only [List.getElem?_toArray, List.getElem?_cons_zero, List.getElem?_cons_succ] at y0 y1 y2 y3 y4 y5 y6 y7 y8
      clear g
      go_wp2_with fail
      refine (cReads P A j C _ _ (HP.out _ C3.out).2).mono ?_
      rintro e w3 ⟨rfl, hC3⟩
      rw [E1.out]
      have C4 := Lib.hid (C3.out.trans hC3); clear hC3 y0 y1 y2 y3 y4 y5 y6 y7 y8 C3
      have g := HB.out _ C4.out
      have y0 := blk_cell g 0
      have y1 := blk_cell g 1
      have y2 := blk_cell g 2
      have y3 := blk_cell g 3
      have y4 := blk_cell g 4
      have y5 := blk_cell g 5
      have y6 := blk_cell g 6
      have y7 := blk_cell g 7
      have y8 := blk_cell g 8
      simp only [List.getElem?_toArray, List.getElem?_cons_zero, List.getElem?_cons_succ] at y0 y1 y2 y3 y4 y5 y6 y7 y8
      clear g
      cases b1 <;>
      · go_wp2_with fail
        refine (cWrites P A j C _ _ (HP.out _ C4.out).2).mono ?_
        rintro e w4 ⟨rfl, hC4⟩
        rw [E2.out]
        have C5 := Lib.hid (C4.out.trans hC4); clear hC4 y0 y1 y2 y3 y4 y5 y6 y7 y8 C4
        cases b2 <;>
        · go_wp2_with fail
          go_ret
          exact ⟨rfl, HA.out.trans C5.out⟩
set_option maxRecDepth 100000 in
set_option maxHeartbeats 4000000 in
theorem configRuns_no (C : Cf) (s : Vs) (part pos k : Int) (w : World) (h : s.R w C) (hm : ¬ MayP C) :
    Calls Try.prog 6 #[.agg (cfc C s), .int .i64 part, .int .i64 pos, .int .i64 k] w fun e w' => e = .returned (.bool true) ∧ Chg (fun _ => False) w w' := by
  have hA : Chg (fun _ => False) w (w.alloc (.cells (cfc C s) 27)) := (Chg.refl _ _).alloc _
  have HP : Hid (∀ wr, Chg (fun _ => False) (w.alloc (.cells (cfc C s) 27)) wr → CfP wr w.heap.size C s) := fun wr hC => CfP.keepN ⟨blk_new w _, h.keepN hA⟩ hC
  have HA := Lib.hid hA; clear hA h
  obtain ⟨A1, k1, A2, k2, A3, k3, A4, k4, rfl, m1, m2, m3, m4⟩ := (HP.out _ (Chg.refl _ _)).open
  have hmd := decide_eq_false hm
  have hrd : decide (ReadsP C part pos k false) = false := decide_eq_false (fun h => hm h.1)
  clear hm
  have HB : Hid (∀ W, Chg (fun _ => False) (w.alloc (.cells (cfc C ⟨.slice A1 C.parts.length k1, .slice A2 C.devs.length k2, .slice A3 C.wins.length k3, .slice A4 C.grants.length k4⟩) 27)) W → W.heap[w.heap.size]? = some (.cells #[.int .i64 C.frames, .slice A1 C.parts.length k1, .slice A2 C.devs.length k2, .int .i64 C.major, .slice A3 C.wins.length k3, .slice A4 C.grants.length k4, .int .i64 C.sectors, .int .i64 C.quota, .int .i64 C.quiet] 27 (0, 0))) := fun W hW => (HP.out W hW).1
  unfold cfc at *
  go_enter Try.func6, Try.ntmps6
  go_wp2_with fail
  refine (awake21 _).mono ?_
  rintro e w1 ⟨rfl, hC1⟩
  have C1 := Lib.hid hC1; clear hC1
  have g := HB.out _ C1.out
  have y0 := blk_cell g 0
  have y1 := blk_cell g 1
  have y2 := blk_cell g 2
  have y3 := blk_cell g 3
  have y4 := blk_cell g 4
  have y5 := blk_cell g 5
  have y6 := blk_cell g 6
  have y7 := blk_cell g 7
  have y8 := blk_cell g 8
  simp only [List.getElem?_toArray, List.getElem?_cons_zero, List.getElem?_cons_succ] at y0 y1 y2 y3 y4 y5 y6 y7 y8
  clear g
  go_wp2_with fail
  refine (cMay C _ _ (HP.out _ C1.out).2).mono ?_
  rintro e w2 ⟨rfl, hC2⟩
  rw [hmd]
  have C2 := Lib.hid (C1.out.trans hC2); clear hC2 C1 y0 y1 y2 y3 y4 y5 y6 y7 y8
  have g := HB.out _ C2.out
  have y0 := blk_cell g 0
  have y1 := blk_cell g 1
  have y2 := blk_cell g 2
  have y3 := blk_cell g 3
  have y4 := blk_cell g 4
  have y5 := blk_cell g 5
  have y6 := blk_cell g 6
  have y7 := blk_cell g 7
  have y8 := blk_cell g 8
  simp only [List.getElem?_toArray, List.getElem?_cons_zero, List.getElem?_cons_succ] at y0 y1 y2 y3 y4 y5 y6 y7 y8
  clear g
  go_wp2_with fail
  refine (cReads part pos k C _ _ (HP.out _ C2.out).2).mono ?_
  rintro e w3 ⟨rfl, hC3⟩
  rw [hrd]
  have C3 := Lib.hid (C2.out.trans hC3); clear hC3 y0 y1 y2 y3 y4 y5 y6 y7 y8
  go_wp2_with fail
  go_ret
  exact ⟨rfl, HA.out.trans C3.out⟩
theorem configRuns_walk (w : World) (C : Cf) (s : Vs) (h : s.R w C) (_hb : True) (part pos k : Int) :
    Calls Try.prog 6 #[.agg (cfc C s), .int .i64 part, .int .i64 pos, .int .i64 k] w fun e w' => e = .returned (.bool true) ∧ Below w.heap.size w w' := by
  by_cases hm : MayP C
  · exact (configRuns_in C s part pos k w h hm).mono fun e w' ⟨h1, h2⟩ => ⟨h1, h2.below (Nat.le_refl _) (fun _ h => h.elim)⟩
  · exact (configRuns_no C s part pos k w h hm).mono fun e w' ⟨h1, h2⟩ => ⟨h1, h2.below (Nat.le_refl _) (fun _ h => h.elim)⟩
end Go.Proofs.Ytncbcjjdnlmjbaa
