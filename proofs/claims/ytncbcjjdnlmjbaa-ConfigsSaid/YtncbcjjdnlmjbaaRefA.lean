/- The document's side: may a partition read bytes, or write them? Printed by mkrefa.py. -/
import Derived.Test.YtncbcjjdnlmjbaaRefM
import Derived.Test.YtncbcjjdnlmjbaaCfgS
import Derived.StillTailTactics
set_option linter.unusedSimpArgs false
set_option linter.unusedVariables false
namespace Go.Proofs.Ytncbcjjdnlmjbaa
open Go.RowKit

def AlP (C : Cf) (p a n : Int) : Prop := MayP C ∧ C.there p ∧ RunP a n (C.frames * 64)
instance (C : Cf) (p a n : Int) : Decidable (AlP C p a n) := by unfold AlP; infer_instance
set_option maxRecDepth 100000 in
set_option maxHeartbeats 4000000 in
theorem refAllowed (p a n : Int) (iw : Bool) (C : Cf) (s : Vs) (w : World) (h : s.R w C) (hd : C.wfD) :
    Calls Try.prog 68 #[.agg (cfc C s), .int .i64 p, .int .i64 a, .int .i64 n, .bool iw] w fun e w' => e = .returned (.bool (decide (ReadsP C p a n iw))) ∧ Chg (fun _ => False) w w' := by
  have hA : Chg (fun _ => False) w (w.alloc (.cells (cfc C s) 27)) := (Chg.refl _ _).alloc _
  have HP : Hid (∀ W, Chg (fun _ => False) (w.alloc (.cells (cfc C s) 27)) W → CfP W w.heap.size C s) := byVal h
  have HA := Lib.hid hA; clear hA h
  have HDL := Lib.hid hd; clear hd
  obtain ⟨A1, k1, A2, k2, A3, k3, A4, k4, rfl, m1, m2, m3, m4⟩ := (HP.out _ (Chg.refl _ _)).open
  unfold cfc at *
  go_enter Try.func68, Try.ntmps68
  go_upto_region 1 with fail
  generalize (w.alloc (.cells #[.int .i64 C.frames, .slice A1 C.parts.length k1, .slice A2 C.devs.length k2, .int .i64 C.major, .slice A3 C.wins.length k3, .slice A4 C.grants.length k4, .int .i64 C.sectors, .int .i64 C.quota, .int .i64 C.quiet] 27)) = W0 at *
  generalize w.heap.size = b at *
  have HR := Lib.hid (Chg.refl (fun _ => False) W0)
  obtain ⟨y0, y1, y2, y3, y4, y5, y6, y7, y8⟩ := (HP.out _ HR.out).c9'
  go_cut [36] (fun s wx => s = .bool (!decide (AlP C p a n)) ∧ Chg (fun _ => False) W0 wx)
  case first =>
    by_cases t0 : ¬ MayP C
    · skip
      have EN := Lib.hid (show true = !decide (AlP C p a n) from by rw [decide_eq_false (fun h : AlP C p a n => by obtain ⟨h0, ⟨h1, h2⟩, h3⟩ := h; first | contradiction | omega)]; rfl)
      have R0 := Lib.hid (decide_eq_false t0)
      clear t0
      go_wp2_with fail
      refine (refMay C _ _ (HP.out _ HR.out).2 HDL.out).mono ?_
      rintro e w5 ⟨rfl, k5⟩
      rw [R0.out]
      replace HR := Lib.hid (HR.out.trans k5)
      clear k5 y0 y1 y2 y3 y4 y5 y6 y7 y8
      obtain ⟨y0, y1, y2, y3, y4, y5, y6, y7, y8⟩ := (HP.out _ HR.out).c9'
      go_wp2_with fail
      go_meet
      exact ⟨congrArg Value.bool EN.out, HR.out⟩
    · skip
      by_cases t1 : p < 0
      · skip
        have d1_0 : decide (p < 0) = true := by first | (simpa using t1) | (simp; omega)
        have EN := Lib.hid (show true = !decide (AlP C p a n) from by rw [decide_eq_false (fun h : AlP C p a n => by obtain ⟨h0, ⟨h1, h2⟩, h3⟩ := h; first | contradiction | omega)]; rfl)
        have R0 := Lib.hid (decide_eq_true (Decidable.not_not.1 t0))
        have hm := Decidable.not_not.1 t0
        have f0 := hm.2.2.1.1
        have f1 := hm.2.2.1.2.1
        clear t0 t1 hm
        go_wp2_with fail
        refine (refMay C _ _ (HP.out _ HR.out).2 HDL.out).mono ?_
        rintro e w5 ⟨rfl, k5⟩
        rw [R0.out]
        replace HR := Lib.hid (HR.out.trans k5)
        clear k5 y0 y1 y2 y3 y4 y5 y6 y7 y8
        obtain ⟨y0, y1, y2, y3, y4, y5, y6, y7, y8⟩ := (HP.out _ HR.out).c9'
        go_wp2_with fail
        go_meet
        exact ⟨congrArg Value.bool EN.out, HR.out⟩
      · skip
        have d1_0 : decide (p < 0) = false := by first | (simpa using t1) | (simp; omega)
        by_cases t2 : (C.parts.length : Int) ≤ p
        · skip
          have d2_0 : decide ((C.parts.length : Int) ≤ p) = true := by first | (simpa using t2) | (simp; omega)
          have EN := Lib.hid (show true = !decide (AlP C p a n) from by rw [decide_eq_false (fun h : AlP C p a n => by obtain ⟨h0, ⟨h1, h2⟩, h3⟩ := h; first | contradiction | omega)]; rfl)
          have R0 := Lib.hid (decide_eq_true (Decidable.not_not.1 t0))
          have hm := Decidable.not_not.1 t0
          have f0 := hm.2.2.1.1
          have f1 := hm.2.2.1.2.1
          clear t0 t1 t2 hm
          go_wp2_with fail
          refine (refMay C _ _ (HP.out _ HR.out).2 HDL.out).mono ?_
          rintro e w5 ⟨rfl, k5⟩
          rw [R0.out]
          replace HR := Lib.hid (HR.out.trans k5)
          clear k5 y0 y1 y2 y3 y4 y5 y6 y7 y8
          obtain ⟨y0, y1, y2, y3, y4, y5, y6, y7, y8⟩ := (HP.out _ HR.out).c9'
          go_wp2_with fail
          go_meet
          exact ⟨congrArg Value.bool EN.out, HR.out⟩
        · skip
          have d2_0 : decide ((C.parts.length : Int) ≤ p) = false := by first | (simpa using t2) | (simp; omega)
          by_cases t3 : ¬ RunP a n (C.frames * 64)
          · skip
            have EN := Lib.hid (show true = !decide (AlP C p a n) from by rw [decide_eq_false (fun h : AlP C p a n => by obtain ⟨h0, ⟨h1, h2⟩, h3⟩ := h; first | contradiction | omega)]; rfl)
            have R0 := Lib.hid (decide_eq_true (Decidable.not_not.1 t0))
            have hm := Decidable.not_not.1 t0
            have f0 := hm.2.2.1.1
            have f1 := hm.2.2.1.2.1
            have R3 := Lib.hid (decide_eq_false t3)
            clear t0 t1 t2 t3 hm
            go_wp2_with fail
            refine (refMay C _ _ (HP.out _ HR.out).2 HDL.out).mono ?_
            rintro e w5 ⟨rfl, k5⟩
            rw [R0.out]
            replace HR := Lib.hid (HR.out.trans k5)
            clear k5 y0 y1 y2 y3 y4 y5 y6 y7 y8
            obtain ⟨y0, y1, y2, y3, y4, y5, y6, y7, y8⟩ := (HP.out _ HR.out).c9'
            go_wp2_with fail
            refine (refRun a n (C.frames * 64) _ (by omega)).mono ?_
            rintro e w6 ⟨rfl, rfl⟩
            rw [R3.out]
            go_wp2_with fail
            go_meet
            exact ⟨congrArg Value.bool EN.out, HR.out⟩
          · skip
            have EN := Lib.hid (show false = !decide (AlP C p a n) from by rw [decide_eq_true (show AlP C p a n from ⟨Decidable.not_not.1 t0, ⟨by omega, by omega⟩, Decidable.not_not.1 t3⟩)]; rfl)
            have R0 := Lib.hid (decide_eq_true (Decidable.not_not.1 t0))
            have R3 := Lib.hid (decide_eq_true (Decidable.not_not.1 t3))
            have hm := Decidable.not_not.1 t0
            have f0 := hm.2.2.1.1
            have f1 := hm.2.2.1.2.1
            clear t0 t1 t2 t3 hm
            go_wp2_with fail
            refine (refMay C _ _ (HP.out _ HR.out).2 HDL.out).mono ?_
            rintro e w5 ⟨rfl, k5⟩
            rw [R0.out]
            replace HR := Lib.hid (HR.out.trans k5)
            clear k5 y0 y1 y2 y3 y4 y5 y6 y7 y8
            obtain ⟨y0, y1, y2, y3, y4, y5, y6, y7, y8⟩ := (HP.out _ HR.out).c9'
            go_wp2_with fail
            refine (refRun a n (C.frames * 64) _ (by omega)).mono ?_
            rintro e w6 ⟨rfl, rfl⟩
            rw [R3.out]
            go_wp2_with fail
            go_meet
            exact ⟨congrArg Value.bool EN.out, HR.out⟩
  case rest =>
    clear HR y0 y1 y2 y3 y4 y5 y6 y7 y8
    obtain ⟨rfl, hC0⟩ := hcut
    have HC := Lib.hid hC0; clear hC0
    by_cases hh : AlP C p a n
    · rw [decide_eq_true hh, Bool.not_true]
      have hh' := hh
      obtain ⟨hm, ht, r0, r1, r2, r3, r4⟩ := hh'
      have f0 := hm.2.2.1.1
      have f1 := hm.2.2.1.2.1
      have HD := Lib.hid hh; clear hh hm ht
      go_wp2_with fail
      refine (refSplit a n _ r0 r1 (by omega)).mono ?_
      rintro e w6 ⟨v, L, rfl, hq, hcov, hC⟩
      have HQ : Hid (∀ W, Chg (fun _ => False) w6 W → RdQ W v L) := fun W hW => hq.keepN hW
      obtain ⟨hqm, A, c, rfl, _⟩ := hq
      have HW : Hid ((¬ ∃ q ∈ L, ¬ ReachP C p q.frame iw) ↔ WithinP C p a n iw) := within_ex hcov r1 HD.out.2.1 HD.out.2.2
      have hlm : (L.length : Int) ≤ 9223372036854775807 := by unfold maxLen at hqm; omega
      have HC6 := Lib.hid (HC.out.trans hC)
      have H6 := Lib.hid (Chg.refl (fun _ => False) w6)
      clear hcov hC hqm HC
      go_wp2_with fail
      go_loopw [13] (fun s13 wr => ∃ i : Nat, i ≤ L.length ∧ s13 = .int .i64 i ∧ (∀ k (h : k < L.length), k < i → ReachP C p L[k].frame iw) ∧ Chg (fun _ => False) w6 wr) (fun s13 _ => (L.length - intOf s13).toNat)
      case atStart => exact ⟨0, by omega, rfl, by intro k h hk; omega, H6.out⟩
      case round =>
        clear H6
        obtain ⟨i, hi, rfl, hall, hC⟩ := hrel
        have i0 : (0 : Int) ≤ i := by omega
        have HALL := Lib.hid hall; clear hall
        have H6 := Lib.hid hC; clear hC
        have HR := Lib.hid (HC6.out.trans H6.out)
        by_cases hlt : i < L.length
        · have i1 : (i : Int) < L.length := by omega
          obtain ⟨_, A', c', hv, hel⟩ := HQ.out wr H6.out
          injection hv with e1 e2 e3
          subst e1 e3
          obtain ⟨g, o, rfl, a0, _, _⟩ := hel i hlt
          clear hel e2
          obtain ⟨y0, y1, y2, y3, y4, y5, y6, y7, y8⟩ := (HP.out _ HR.out).c9'
          have hRR := refReach p L[i].frame iw C _ _ (HP.out _ HR.out.drew).2
          have HRR := Lib.hid hRR; clear hRR
          go_upto_region 7 with fail
          go_still_tail 8, (by kernel_rfl)
          change wpList _ _ _ _ _ wr.drew
          go_wp2_with fail
          refine HRR.out.mono ?_
          rintro e w7 ⟨rfl, k7⟩
          have H7 := Lib.hid (H6.out.drew.trans k7)
          have HR7 := Lib.hid (HR.out.drew.trans k7)
          clear k7 y0 y1 y2 y3 y4 y5 y6 y7 y8 a0 HRR H6
          by_cases hr : ReachP C p L[i].frame iw
          · rw [decide_eq_true hr]
            have HAL2 : Hid (∀ k (h : k < L.length), k < i + 1 → ReachP C p L[k].frame iw) := fun k hk hki => by
              by_cases e : k = i
              · subst e; exact hr
              · exact HALL.out k hk (by omega)
            clear hr
            go_wp2_with fail
            go_roundw
            case rel => exact ⟨i + 1, by omega, by go_num, HAL2.out, H7.out⟩
            case measure => simp [intOf]; omega
          · rw [decide_eq_false hr]
            have HN := Lib.hid (decide_eq_false (fun h : ReadsP C p a n iw => HW.out.2 h.2 ⟨L[i], List.getElem_mem hlt, hr⟩))
            clear hr
            go_wp2_with fail
            go_ret
            exact ⟨retB HN.out.symm, HA.out.trans HR7.out⟩
        · obtain rfl : i = L.length := by omega
          have hok : ReadsP C p a n iw := ⟨HD.out.1, HW.out.1 (fun ⟨q, hq, hn⟩ => by
            obtain ⟨k, hk, rfl⟩ := List.getElem_of_mem hq
            exact hn (HALL.out k hk hk))⟩
          have HN := Lib.hid (decide_eq_true hok)
          clear hok
          go_wp2_with fail
          go_ret
          exact ⟨retB HN.out.symm, HA.out.trans HR.out⟩
    · rw [decide_eq_false hh]
      have HN := Lib.hid (decide_eq_false (fun h : ReadsP C p a n iw => hh ⟨h.1, h.2.1, h.2.2.1⟩))
      clear hh
      go_wp2_with fail
      go_ret
      exact ⟨retB HN.out.symm, HA.out.trans HC.out⟩
set_option maxRecDepth 100000 in
theorem refReads (p a n : Int) (C : Cf) (s : Vs) (w : World) (h : s.R w C) (hd : C.wfD) :
    Calls Try.prog 26 #[.agg (cfc C s), .int .i64 p, .int .i64 a, .int .i64 n] w fun e w' => e = .returned (.bool (decide (ReadsP C p a n false))) ∧ Chg (fun _ => False) w w' := by
  have hA : Chg (fun _ => False) w (w.alloc (.cells (cfc C s) 27)) := (Chg.refl _ _).alloc _
  have HL := Lib.hid (refAllowed p a n false C s (w.alloc (.cells (cfc C s) 27)) (h.keepN hA) hd)
  have HA := Lib.hid hA; clear hA h hd
  unfold cfc at *
  go_enter Try.func26, Try.ntmps26
  go_wp2_with fail
  refine HL.out.mono ?_
  rintro e w1 ⟨rfl, k1⟩
  have HC := Lib.hid (HA.out.trans k1); clear k1
  go_wp2_with fail
  go_ret
  exact ⟨rfl, HC.out⟩
set_option maxRecDepth 100000 in
theorem refWrites (p a n : Int) (C : Cf) (s : Vs) (w : World) (h : s.R w C) (hd : C.wfD) :
    Calls Try.prog 28 #[.agg (cfc C s), .int .i64 p, .int .i64 a, .int .i64 n] w fun e w' => e = .returned (.bool (decide (ReadsP C p a n true))) ∧ Chg (fun _ => False) w w' := by
  have hA : Chg (fun _ => False) w (w.alloc (.cells (cfc C s) 27)) := (Chg.refl _ _).alloc _
  have HL := Lib.hid (refAllowed p a n true C s (w.alloc (.cells (cfc C s) 27)) (h.keepN hA) hd)
  have HA := Lib.hid hA; clear hA h hd
  unfold cfc at *
  go_enter Try.func28, Try.ntmps28
  go_wp2_with fail
  refine HL.out.mono ?_
  rintro e w1 ⟨rfl, k1⟩
  have HC := Lib.hid (HA.out.trans k1); clear k1
  go_wp2_with fail
  go_ret
  exact ⟨rfl, HC.out⟩
end Go.Proofs.Ytncbcjjdnlmjbaa
