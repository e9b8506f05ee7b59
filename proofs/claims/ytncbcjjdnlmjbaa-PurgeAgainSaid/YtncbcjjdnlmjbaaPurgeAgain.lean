/- The law PurgeAgain: the walk. Printed by mkpagain.py. -/
import Derived.Test.YtncbcjjdnlmjbaaPurgLaw
set_option linter.unusedSimpArgs false
set_option linter.unusedVariables false
namespace Go.Proofs.Ytncbcjjdnlmjbaa
open Go.RowKit

set_option maxRecDepth 100000 in
set_option maxHeartbeats 8000000 in
theorem purgeAgain_c (C : Cf) (s : Vs) (A : Option Addr) (c : Nat) (L : List St) (p : Int) (w : World) (h : s.R w C) (hm : L.length ≤ maxLen) (hl : L.length * 64 ≤ 140737488351232) (hr : RowC w A (L.flatMap stcell)) :
    Calls Try.prog 10 #[.agg (cfc C s), .slice A L.length c, .int .i64 p] w fun e w' => e = .returned (.bool true) ∧ Chg (fun _ => False) w w' := by
  have HA := Lib.hid ((Chg.refl (fun _ => False) w).alloc (.cells (cfc C s) 27))
  have HP : Hid (∀ W, Chg (fun _ => False) (w.alloc (.cells (cfc C s) 27)) W → CfP W w.heap.size C s) := byVal h
  have HS : Hid (∀ W, Chg (fun _ => False) (w.alloc (.cells (cfc C s) 27)) W → RdS W (.slice A L.length c) L) := fun W hW => (RdS.ofRow hr hm).keepN (((Chg.refl (fun _ => False) w).alloc _).trans hW)
  have HM := Lib.hid hm
  have HL1 : Hid (L.length * 64 ≤ 140737488355328) := by unfold Hid; omega
  have l0 : (L.length : Int) ≤ 9223372036854775807 := by omega
  clear h hr hm hl
  obtain ⟨A1, k1, A2, k2, A3, k3, A4, k4, rfl, m1, m2, m3, m4⟩ := (HP.out _ (Chg.refl _ _)).open
  unfold cfc at *
  go_enter Try.func10, Try.ntmps10
  go_upto_region 1 with fail
  generalize (w.alloc (.cells #[.int .i64 C.frames, .slice A1 C.parts.length k1, .slice A2 C.devs.length k2, .int .i64 C.major, .slice A3 C.wins.length k3, .slice A4 C.grants.length k4, .int .i64 C.sectors, .int .i64 C.quota, .int .i64 C.quiet] 27)) = W0 at *
  generalize w.heap.size = B at *
  go_wp2_with fail
  refine (awake23 _).mono ?_
  rintro e w1 ⟨rfl, k1'⟩
  have HR := Lib.hid k1'; clear k1'
  obtain ⟨y0, y1, y2, y3, y4, y5, y6, y7, y8⟩ := (HP.out _ HR.out).c9'
  go_wp2_with fail
  refine (vPurge p C _ _ L _ (HP.out _ HR.out).2 (HS.out _ HR.out) HL1.out).mono ?_
  rintro e w2 hpost
  clear y0 y1 y2 y3 y4 y5 y6 y7 y8
  by_cases hmp : MayP C ∧ C.there p
  · obtain ⟨v, rfl, ho, k2'⟩ := hpost.yes hmp.1 hmp.2
    obtain ⟨pn, rfl⟩ := Int.eq_ofNat_of_zero_le hmp.2.1
    rw [show (pn : Int).toNat = pn from rfl] at ho
    have HMP := Lib.hid hmp; clear hmp hpost
    replace HR := Lib.hid (HR.out.trans k2'); clear k2'
    have hpl := purgeC_len C pn L
    have HAT := Lib.hid (fun j (hj : j < L.length) => purgeC_same (C := C) (p := pn) hj)
    have HAG := Lib.hid (purgeC_again C pn L)
    have hra := rdStepsOf ho (by rw [hpl]; exact HM.out)
    obtain ⟨_, AA, ac, rfl⟩ := hra.len
    rw [hpl] at hra
    rw [hpl]
    have HRA : Hid (∀ W, Chg (fun _ => False) w2 W → RdS W (.slice AA L.length ac) (purgeC C pn L)) := fun W hW => hra.keepN hW
    have HR2 := Lib.hid (Chg.refl (fun _ => False) w2)
    have HL2 : Hid ((purgeC C pn L).length * 64 ≤ 140737488355328) := by unfold Hid; rw [hpl]; exact HL1.out
    have HPM : Hid ((purgeC C pn L).length ≤ maxLen) := by unfold Hid; rw [hpl]; exact HM.out
    have HPL := Lib.hid hpl
    clear hra ho hpl
    go_wp2_with fail
    refine (num16 _ _).mono ?_
    rintro e x9 ⟨rfl, rfl⟩
    obtain ⟨y0, y1, y2, y3, y4, y5, y6, y7, y8⟩ := (HP.out _ HR.out).c9'
    go_wp2_with fail
    refine (vPurge pn C _ _ (purgeC C pn L) _ (HP.out _ HR.out).2 (HRA.out _ HR2.out) HL2.out).mono ?_
    rintro e w3 hpost
    clear y0 y1 y2 y3 y4 y5 y6 y7 y8
    obtain ⟨v, rfl, ho, k3'⟩ := hpost.yes HMP.out.1 HMP.out.2
    rw [show (pn : Int).toNat = pn from rfl, HAG.out] at ho
    have HRB : Hid (∀ W, Chg (fun _ => False) w3 W → RdS W v (purgeC C pn L)) := fun W hW => (rdStepsOf ho HPM.out).keepN hW
    replace HR := Lib.hid (HR.out.trans k3')
    replace HR2 := Lib.hid (HR2.out.trans k3')
    have HR3 := Lib.hid (Chg.refl (fun _ => False) w3)
    clear k3' hpost ho
    go_wp2_with fail
    refine (num16 _ _).mono ?_
    rintro e x9 ⟨rfl, rfl⟩
    go_wp2_with fail
    refine (sameSteps _ _ (purgeC C pn L) _ (HRA.out _ HR2.out) (HRB.out _ HR3.out)).mono ?_
    rintro e w4 ⟨rfl, k4'⟩
    replace HR := Lib.hid (HR.out.trans k4')
    replace HR2 := Lib.hid (HR2.out.trans k4')
    clear k4' HRB HR3
    go_wp2_with fail
    go_loopw [11] (fun s11 wr => ∃ j : Nat, j ≤ L.length ∧ s11 = .int .i64 j ∧ Chg (fun _ => False) w4 wr) (fun s11 _ => L.length - (intOf s11).toNat)
    case atStart => exact ⟨0, by omega, rfl, Chg.refl _ _⟩
    case round =>
      obtain ⟨j, hj, rfl, hC⟩ := hrel
      have j0 : (0 : Int) ≤ j := by omega
      by_cases hlt : j < L.length
      · have j1 : (j : Int) < L.length := by omega
        have hpj : j < (purgeC C pn L).length := by rw [HPL.out]; exact hlt
        obtain ⟨g, o, rfl, a0, a1, a2, a3, a4, a5, a6⟩ := (HRA.out _ (HR2.out.trans hC)).at7 hpj
        obtain ⟨g', o', rfl, b0, b1, b2, b3, b4, b5, b6⟩ := (HS.out _ (HR.out.trans hC)).at7 hlt
        have hat := HAT.out j hlt
        have HC := Lib.hid hC; clear hC
        generalize (purgeC C pn L)[j] = Y at *
        generalize L[j] = X at *
        clear hpj
        obtain ⟨x0, x1, x2, x3, x4, x5, x6⟩ := X
        rcases hat with rfl | ⟨rfl, q0, q1⟩
        · dsimp only at a0 a1 a2 a3 a4 a5 a6 b0 b1 b2 b3 b4 b5 b6
          by_cases t1 : x0 = 1
          · have d1 : (x0 == 1) = true := by simpa using t1
            clear t1
            go_wp2_with fail
            go_quiet (fail)
            rename_i nq
            go_wp2_with fail
            go_roundw
            case rel => exact ⟨j + 1, by omega, by go_num, HC.out.drewN nq⟩
            case measure => simp [intOf]; omega
          · have d1 : (x0 == 1) = false := by simpa using t1
            clear t1
            by_cases t2 : x0 = 2
            · have d2 : (x0 == 2) = true := by simpa using t2
              clear t2
              go_wp2_with fail
              go_quiet (fail)
              rename_i nq
              go_wp2_with fail
              go_roundw
              case rel => exact ⟨j + 1, by omega, by go_num, HC.out.drewN nq⟩
              case measure => simp [intOf]; omega
            · have d2 : (x0 == 2) = false := by simpa using t2
              clear t2
              go_wp2_with fail
              go_quiet (fail)
              rename_i nq
              go_wp2_with fail
              go_roundw
              case rel => exact ⟨j + 1, by omega, by go_num, HC.out.drewN nq⟩
              case measure => simp [intOf]; omega
        · dsimp only at b0 b1 b2 b3 b4 b5 b6 q0 q1
          simp only [St.zero] at a0 a1 a2 a3 a4 a5 a6
          have d1 : (x0 == 1) = false := by simp; omega
          have d2 : (x0 == 2) = false := by simp; omega
          have d0 : ((0 : Int) == x0) = false := by simp; omega
          have d00 : decide ((0 : Int) = x0) = false := by simp; omega
          clear q0 q1
          go_wp2_with fail
          go_quiet (fail)
          rename_i nq
          go_wp2_with fail
          go_roundw
          case rel => exact ⟨j + 1, by omega, by go_num, HC.out.drewN nq⟩
          case measure => simp [intOf]; omega
      · obtain rfl : j = L.length := by omega
        have HC := Lib.hid hC; clear hC
        go_wp2_with fail
        go_ret
        exact ⟨rfl, HA.out.trans (HR.out.trans HC.out)⟩
  · obtain ⟨rfl, k2'⟩ := hpost.no hmp
    replace HR := Lib.hid (HR.out.trans k2')
    clear k2' hpost hmp
    go_wp2_with fail
    refine (num16 _ _).mono ?_
    rintro e x9 ⟨rfl, rfl⟩
    go_wp2_with fail
    go_ret
    exact ⟨rfl, HA.out.trans HR.out⟩
theorem purgeAgain_walk (w : World) (C : Cf) (s : Vs) (h : s.R w C) (_ : True) (A : Option Addr) (c : Nat) (L : List St) (hm : L.length ≤ maxLen) (hl : L.length * Try.prog.bytesOf 59 ≤ reachBytes) (hr : RowC w A (L.flatMap stcell)) (_ : ∀ x ∈ L, x.data.size ≤ maxLen) (p : Int) :
    Calls Try.prog 10 #[.agg (cfc C s), .slice A L.length c, .int .i64 p] w fun e w' => e = .returned (.bool true) ∧ Below w.heap.size w w' :=
  (purgeAgain_c C s A c L p w h hm (by rw [bytesStep] at hl; exact hl) hr).mono fun e w' ⟨h1, h2⟩ => ⟨h1, h2.below (Nat.le_refl _) (fun _ h => h.elim)⟩
end Go.Proofs.Ytncbcjjdnlmjbaa
