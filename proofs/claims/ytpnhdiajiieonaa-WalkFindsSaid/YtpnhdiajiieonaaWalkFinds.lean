/- The law WalkFinds. -/
import Derived.Test.YtpnhdiajiieonaaTab5
import Derived.Test.YtpnhdiajiieonaaLaw5
set_option linter.unusedSimpArgs false
set_option linter.unusedVariables false
namespace Go.Proofs.Ytpnhdiajiieonaa
open Go.RowKit Go.ChangeShapes Go.WideShapes Go.Deep
attribute [local go_sem] i64_and63 i64_and7 i64_and3 i64_and127

theorem put43_tab (p r : Nat) (bs : List UInt8) (a x : Int) (w : World) (h : MemAt w 141 p r bs) (hl : bs.length = 512) (hp : putP bs a x) :
    Calls Try.prog 32 #[.pointer (some ⟨p, 0, none⟩), .int .i64 a, .int .i64 x] w fun e w' => e = .returned (.int .i64 0) ∧ MemAt w' 141 p r (putB bs a x) ∧ Chg (fun k => k = r) w w' :=
  (put43 p r bs a x w h (by omega)).mono fun e w' ⟨h1, h2⟩ => ⟨by rw [h1, show putC bs a x = 0 from if_pos hp], h2⟩
theorem rPut_ok (f p : Int) (w : World) (h : mayE f p) : Calls Try.prog 41 #[.agg #[.int .i64 f, .int .i64 p]] w fun e w' => e = .returned (.tuple #[.int .i64 (putE f p), .int .i64 0]) ∧ Chg (fun _ => False) w w' :=
  (rPut f p w).mono fun e w' ⟨h1, h2⟩ => ⟨by rw [h1, if_pos h, if_pos h], h2⟩

set_option maxRecDepth 100000 in
set_option maxHeartbeats 4000000 in
theorem walkFinds_main (A : Option Addr) (ca : Nat) (xs : List Int) (ask : Int) (w0 : World) (hx : xs.length ≤ 9223372036854775807) (rx : RowC w0 A (xs.flatMap icell)) :
    Calls Try.prog 5 #[.slice A xs.length ca, .int .i64 ask] w0 fun e w' => e = .returned (.bool true) ∧ Chg (fun _ => False) w0 w' := by
  go_enter Try.func5, Try.ntmps5
  go_wp2_with fail
  refine (awake5 _).mono ?_
  rintro e w ⟨rfl, hC0⟩
  go_wp2_with fail
  refine (mnew37_ok 8 w (by omega) (by omega)).mono ?_
  rintro e w1 ⟨rfl, m1, hs, hC⟩
  have hB := hC0.size
  replace hC := hC0.trans hC
  clear hs hC0
  generalize w.heap.size = H at *
  go_wp2_with fail
  refine (num16 _ _).mono ?_
  rintro e w2 ⟨rfl, rfl⟩
  go_wp2_with fail
  go_loopw [7] (fun i wr => ∃ k : Nat, k ≤ 4 ∧ i = .int .i64 k ∧ ∃ bs, Root5 bs k ∧ MemAt wr 141 (H + 1) H bs ∧ Chg (fun _ => False) w0 wr) (fun i _ => 4 - (intOf i).toNat)
  case atStart => exact ⟨0, by omega, rfl, _, root5_zero, m1, hC⟩
  case round =>
    clear m1 hC
    obtain ⟨k, hk, rfl, bs, hT, m1, hC⟩ := hrel
    have hk0 : (0 : Int) ≤ k := by omega
    by_cases hlt : k < 4
    · have hk1 : (k : Int) < 4 := by omega
      have hpt := root5_put hT hlt
      have HT := Lib.hid hT; clear hT
      have HP := Lib.hid hpt; clear hpt
      go_wp2_with fail
      refine (rPut_ok _ _ _ (by unfold mayE; omega)).mono ?_
      rintro e v ⟨rfl, hD⟩
      replace m1 := m1.keep hD id id
      replace hC := hC.trans hD
      clear hD
      go_wp2_with fail
      refine (put43_tab _ _ _ _ _ _ m1 HT.out.len HP.out.1).mono ?_
      rintro e v2 ⟨rfl, m2, hD⟩
      replace hC := hC.trans' hD (fun i hi h => by omega)
      clear hD m1
      have M2 := Lib.hid m2; clear m2
      have HC := Lib.hid hC; clear hC
      go_wp2_with ((refine (num16 _ _).mono ?_; rintro e w6 ⟨rfl, rfl⟩))
      go_roundw
      case rel => exact ⟨k + 1, by omega, by go_num, _, HP.out.2, M2.out, HC.out⟩
      case measure => simp [intOf]; omega
    · obtain rfl : k = 4 := by omega
      rw [show ((4 : Nat) : Int) = 4 from rfl]
      clear hk hlt hk0
      have hT4 := tab5_start hT
      clear hT
      go_wp2_with fail
      refine wp_abs (fun W => MemAt W 141 (H + 1) H bs ∧ ArrC ecell 2 W wr.heap.size 58 64 (fun _ => (0, 0)) ∧ Chg (fun _ => False) w0 W) ⟨m1.keep (S := fun _ => False) ((Chg.refl _ _).alloc _) id id, ArrC.zero (z := .int .i64 0) (blk_new _ _) (fun j hj => by match j, hj with | 0, _ => rfl | 1, _ => rfl), hC.alloc _⟩ ?_
      have hqH : H + 1 < wr.heap.size := m1.lt.1
      have hqB := hC.size
      clear m1 hC
      generalize wr.heap.size = q at *
      rintro W ⟨m1, hA, hC⟩
      have HQ := Lib.hid hqH; clear hqH
      have HQB := Lib.hid hqB; clear hqB
      have HB := Lib.hid hB; clear hB
      have HT4 := Lib.hid hT4; clear hT4
      go_loopw [12] (fun i wr => ∃ k : Nat, k ≤ min xs.length 30 ∧ i = .int .i64 k ∧ ∃ bs g, Tab5 bs g ∧ MemAt wr 141 (H + 1) H bs ∧ ArrC ecell 2 wr q 58 64 g ∧ Chg (fun _ => False) w0 wr) (fun i _ => min xs.length 30 - (intOf i).toNat)
      case atStart => exact ⟨0, by omega, rfl, _, _, HT4.out, m1, hA, hC⟩
      case round =>
        clear m1 hA hC HT4
        obtain ⟨k, hk, rfl, bs, g, hT, m1, hA, hC⟩ := hrel
        have hk0 : (0 : Int) ≤ k := by omega
        by_cases hlt : k < xs.length
        · have hk1 : (k : Int) < xs.length := by omega
          obtain ⟨b, o, rfl, c0w⟩ := intAt rx k hlt
          by_cases h30 : k < 30
          · have hk3 : (k : Int) < 30 := by omega
            have c0 := hC.cell c0w id
            have hkm : k < min xs.length 30 := by omega
            have HKM := Lib.hid hkm; clear hkm hk
            generalize xs[k] = y at *
            go_wp2_with fail
            obtain ⟨j, hj, hj64⟩ : ∃ j : Nat, y % 64 = j ∧ j < 64 := ⟨(y % 64).toNat, by omega, by omega⟩
            rw [hj]
            clear hj
            have j0 : (0 : Int) ≤ j := by omega
            have j1 : (j : Int) < 64 := by omega
            have A0 : wr.cell? ⟨q, j * 2, none⟩ = some (.int .i64 (g j).1) := hA.cell hj64 (show 0 < 2 by omega)
            have A1 : wr.cell? ⟨q, j * 2 + 1, none⟩ = some (.int .i64 (g j).2) := hA.cell hj64 (show 1 < 2 by omega)
            have F0 := hA.free (j * 2)
            have F1 := hA.free (j * 2 + 1)
            have HM := Lib.hid m1; clear m1
            have HAA := Lib.hid hA; clear hA
            have HC := Lib.hid hC; clear hC
            go_region
            have e1 : mayE (y / 64 % 8) (1 + y / 512 % 4 % 3) := by unfold mayE; omega
            have hpt := tab5_put hT j hj64 (y / 64 % 8, 1 + y / 512 % 4 % 3) e1 (by show y / 64 % 8 < 8; omega)
            have hA2 : ArrC ecell 2 (((wr.setCell ⟨q, j * 2, none⟩ (.int .i64 (y / 64 % 8))).setCell ⟨q, j * 2 + 1, none⟩ (.int .i64 (1 + y / 512 % 4 % 3))).drew) q 58 64 (upd g j (y / 64 % 8, 1 + y / 512 % 4 % 3)) :=
              (HAA.out.set hj64 (y / 64 % 8, 1 + y / 512 % 4 % 3) rfl).keep (S := fun _ => False) ((Chg.refl _ _).drew) id
            have hCq : Chg (fun k => k = q) wr (((wr.setCell ⟨q, j * 2, none⟩ (.int .i64 (y / 64 % 8))).setCell ⟨q, j * 2 + 1, none⟩ (.int .i64 (1 + y / 512 % 4 % 3))).drew) := (((Chg.refl _ _).set1 _).set1 _).drew
            have m2 := HM.out.keep hCq (by have := HQ.out; omega) (by have := HQ.out; omega)
            have hC2 := HC.out.trans' hCq (fun i hi h => by have := HQB.out; have := HQ.out; omega)
            clear hCq HM HAA HC A0 A1 F0 F1 c0
            generalize y / 64 % 8 = ef at *
            generalize 1 + y / 512 % 4 % 3 = ep at *
            generalize ((wr.setCell ⟨q, j * 2, none⟩ (.int .i64 ef)).setCell ⟨q, j * 2 + 1, none⟩ (.int .i64 ep)).drew = W at *
            have HT := Lib.hid hT; clear hT
            have HP := Lib.hid hpt; clear hpt
            have A0 : W.cell? ⟨q, j * 2, none⟩ = some (.int .i64 ef) := by have := hA2.cell hj64 (show 0 < 2 by omega); rw [upd_same] at this; exact this
            have A1 : W.cell? ⟨q, j * 2 + 1, none⟩ = some (.int .i64 ep) := by have := hA2.cell hj64 (show 1 < 2 by omega); rw [upd_same] at this; exact this
            go_wp2_with fail
            refine (rPut_ok _ _ _ e1).mono ?_
            rintro e v ⟨rfl, hD⟩
            replace m2 := m2.keep hD id id
            replace hA2 := hA2.keep hD id
            replace hC2 := hC2.trans hD
            clear hD A0 A1
            go_wp2_with fail
            refine (put43_tab _ _ _ _ _ _ m2 HT.out.len HP.out.1).mono ?_
            rintro e v2 ⟨rfl, m3, hD⟩
            replace hA2 := hA2.keep hD (by have := HQ.out; omega)
            replace hC2 := hC2.trans' hD (fun i hi h => by have := HB.out; have := HQB.out; omega)
            clear hD m2
            have M3 := Lib.hid m3; clear m3
            have HA2 := Lib.hid hA2; clear hA2
            have HC2 := Lib.hid hC2; clear hC2
            go_wp2_with ((refine (num16 _ _).mono ?_; rintro e w6 ⟨rfl, rfl⟩))
            go_roundw
            case rel => exact ⟨k + 1, by have := HKM.out; omega, by go_num, _, _, HP.out.2, M3.out, HA2.out, HC2.out⟩
            case measure => have := HKM.out; simp [intOf]; omega
          · have hk30 : decide ((k : Int) < 30) = false := by simp; omega
            have hk31 : (30 : Int) ≤ k := by omega
            have HT2 := Lib.hid hT; clear hT
            go_wp2_with fail
            go_loopw [17] (fun i wr => ∃ k : Nat, k ≤ 64 ∧ i = .int .i64 k ∧ MemAt wr 141 (H + 1) H bs ∧ ArrC ecell 2 wr q 58 64 g ∧ Chg (fun _ => False) w0 wr) (fun i _ => 64 - (intOf i).toNat)
            case atStart => exact ⟨0, by omega, rfl, m1, hA, hC⟩
            case round =>
              clear m1 hA hC
              obtain ⟨k, hk, rfl, m1, hA, hC⟩ := hrel
              have hk0 : (0 : Int) ≤ k := by omega
              by_cases hlt : k < 64
              · have hk1 : (k : Int) < 64 := by omega
                have hw5 := walk5 HT2.out k hlt
                have hmk := HT2.out.may k
                have hlen : bs.length ≤ 4096 := by rw [HT2.out.len]; omega
                have H5 := Lib.hid hw5; clear hw5
                have HLN := Lib.hid hlen; clear hlen
                by_cases hp : (g k).2 = 0
                · have hg : g k = (0, 0) := by
                    unfold mayE at hmk
                    exact Prod.ext (by show (g k).1 = 0; omega) hp
                  clear hmk
                  go_wp2_with fail
                  refine (wWalk _ _ bs 0 k _ m1 HLN.out).mono ?_
                  rintro e v ⟨rfl, hD⟩
                  rw [H5.out, if_pos hp]
                  replace m1 := m1.keep hD id id
                  replace hA := hA.keep hD id
                  replace hC := hC.trans hD
                  have A0 : v.cell? ⟨q, k * 2, none⟩ = some (.int .i64 0) := by have := hA.cell hlt (show 0 < 2 by omega); rw [hg] at this; exact this
                  have A1 : v.cell? ⟨q, k * 2 + 1, none⟩ = some (.int .i64 0) := by have := hA.cell hlt (show 1 < 2 by omega); rw [hg] at this; exact this
                  have hqv := hA.lt
                  clear hD H5 HLN hp hg
                  have HM := Lib.hid m1; clear m1
                  have HAA := Lib.hid hA; clear hA
                  have HC := Lib.hid hC; clear hC
                  go_wp2_with fail
                  go_quiet ((go_at_call 27; exact Calls.quiet_of_same (num16q _ _)))
                  rename_i nq
                  go_wp2_with fail
                  go_roundw
                  case rel => exact ⟨k + 1, by omega, by go_num, (HM.out.keep (S := fun _ => False) ((Chg.refl _ _).alloc _) id id).keep (S := fun _ => False) ((Chg.refl _ _).drewN _) id id, (HAA.out.keep (S := fun _ => False) ((Chg.refl _ _).alloc _) id).keep (S := fun _ => False) ((Chg.refl _ _).drewN _) id, (HC.out.alloc _).drewN _⟩
                  case measure => simp [intOf]; omega
                · have hp1 : ((g k).2 == 0) = false := beq_eq_false_iff_ne.2 hp
                  have hp2 : ((g k).2 != 0) = true := bne_iff_ne.2 hp
                  clear hmk
                  go_wp2_with fail
                  refine (wWalk _ _ bs 0 k _ m1 HLN.out).mono ?_
                  rintro e v ⟨rfl, hD⟩
                  rw [H5.out, if_neg hp]
                  replace m1 := m1.keep hD id id
                  replace hA := hA.keep hD id
                  replace hC := hC.trans hD
                  have A0 : v.cell? ⟨q, k * 2, none⟩ = some (.int .i64 (g k).1) := hA.cell hlt (show 0 < 2 by omega)
                  have A1 : v.cell? ⟨q, k * 2 + 1, none⟩ = some (.int .i64 (g k).2) := hA.cell hlt (show 1 < 2 by omega)
                  have hqv := hA.lt
                  clear hD H5 HLN hp
                  have HM := Lib.hid m1; clear m1
                  have HAA := Lib.hid hA; clear hA
                  have HC := Lib.hid hC; clear hC
                  go_wp2_with fail
                  go_quiet ((go_at_call 27; exact Calls.quiet_of_same (num16q _ _)))
                  rename_i nq
                  go_wp2_with fail
                  go_roundw
                  case rel => exact ⟨k + 1, by omega, by go_num, (HM.out.keep (S := fun _ => False) ((Chg.refl _ _).alloc _) id id).keep (S := fun _ => False) ((Chg.refl _ _).drewN _) id id, (HAA.out.keep (S := fun _ => False) ((Chg.refl _ _).alloc _) id).keep (S := fun _ => False) ((Chg.refl _ _).drewN _) id, (HC.out.alloc _).drewN _⟩
                  case measure => simp [intOf]; omega
              · have hwn := walk5_none HT2.out (64 + ask % 128) (by omega) (by omega)
                have hlen : bs.length ≤ 4096 := by rw [HT2.out.len]; omega
                have HWN := Lib.hid hwn; clear hwn
                have HLN := Lib.hid hlen; clear hlen
                have hk64 : ¬ (k : Int) < 64 := by omega
                go_wp2_with fail
                refine (wWalk _ _ bs 0 (64 + ask % 128) _ m1 HLN.out).mono ?_
                rintro e v ⟨rfl, hD⟩
                rw [HWN.out]
                replace hC := hC.trans hD
                clear hD HWN HLN m1 hA
                have HC := Lib.hid hC; clear hC
                go_wp2_with ((refine (num16 _ _).mono ?_; rintro e w6 ⟨rfl, rfl⟩))
                go_ret
                exact ⟨rfl, HC.out.alloc _⟩
        · have hk30 : decide ((k : Int) < xs.length) = false := by simp; omega
          have hk31 : (xs.length : Int) ≤ k := by omega
          have HT2 := Lib.hid hT; clear hT
          go_wp2_with fail
          go_loopw [17] (fun i wr => ∃ k : Nat, k ≤ 64 ∧ i = .int .i64 k ∧ MemAt wr 141 (H + 1) H bs ∧ ArrC ecell 2 wr q 58 64 g ∧ Chg (fun _ => False) w0 wr) (fun i _ => 64 - (intOf i).toNat)
          case atStart => exact ⟨0, by omega, rfl, m1, hA, hC⟩
          case round =>
            clear m1 hA hC
            obtain ⟨k, hk, rfl, m1, hA, hC⟩ := hrel
            have hk0 : (0 : Int) ≤ k := by omega
            by_cases hlt : k < 64
            · have hk1 : (k : Int) < 64 := by omega
              have hw5 := walk5 HT2.out k hlt
              have hmk := HT2.out.may k
              have hlen : bs.length ≤ 4096 := by rw [HT2.out.len]; omega
              have H5 := Lib.hid hw5; clear hw5
              have HLN := Lib.hid hlen; clear hlen
              by_cases hp : (g k).2 = 0
              · have hg : g k = (0, 0) := by
                  unfold mayE at hmk
                  exact Prod.ext (by show (g k).1 = 0; omega) hp
                clear hmk
                go_wp2_with fail
                refine (wWalk _ _ bs 0 k _ m1 HLN.out).mono ?_
                rintro e v ⟨rfl, hD⟩
                rw [H5.out, if_pos hp]
                replace m1 := m1.keep hD id id
                replace hA := hA.keep hD id
                replace hC := hC.trans hD
                have A0 : v.cell? ⟨q, k * 2, none⟩ = some (.int .i64 0) := by have := hA.cell hlt (show 0 < 2 by omega); rw [hg] at this; exact this
                have A1 : v.cell? ⟨q, k * 2 + 1, none⟩ = some (.int .i64 0) := by have := hA.cell hlt (show 1 < 2 by omega); rw [hg] at this; exact this
                have hqv := hA.lt
                clear hD H5 HLN hp hg
                have HM := Lib.hid m1; clear m1
                have HAA := Lib.hid hA; clear hA
                have HC := Lib.hid hC; clear hC
                go_wp2_with fail
                go_quiet ((go_at_call 27; exact Calls.quiet_of_same (num16q _ _)))
                rename_i nq
                go_wp2_with fail
                go_roundw
                case rel => exact ⟨k + 1, by omega, by go_num, (HM.out.keep (S := fun _ => False) ((Chg.refl _ _).alloc _) id id).keep (S := fun _ => False) ((Chg.refl _ _).drewN _) id id, (HAA.out.keep (S := fun _ => False) ((Chg.refl _ _).alloc _) id).keep (S := fun _ => False) ((Chg.refl _ _).drewN _) id, (HC.out.alloc _).drewN _⟩
                case measure => simp [intOf]; omega
              · have hp1 : ((g k).2 == 0) = false := beq_eq_false_iff_ne.2 hp
                have hp2 : ((g k).2 != 0) = true := bne_iff_ne.2 hp
                clear hmk
                go_wp2_with fail
                refine (wWalk _ _ bs 0 k _ m1 HLN.out).mono ?_
                rintro e v ⟨rfl, hD⟩
                rw [H5.out, if_neg hp]
                replace m1 := m1.keep hD id id
                replace hA := hA.keep hD id
                replace hC := hC.trans hD
                have A0 : v.cell? ⟨q, k * 2, none⟩ = some (.int .i64 (g k).1) := hA.cell hlt (show 0 < 2 by omega)
                have A1 : v.cell? ⟨q, k * 2 + 1, none⟩ = some (.int .i64 (g k).2) := hA.cell hlt (show 1 < 2 by omega)
                have hqv := hA.lt
                clear hD H5 HLN hp
                have HM := Lib.hid m1; clear m1
                have HAA := Lib.hid hA; clear hA
                have HC := Lib.hid hC; clear hC
                go_wp2_with fail
                go_quiet ((go_at_call 27; exact Calls.quiet_of_same (num16q _ _)))
                rename_i nq
                go_wp2_with fail
                go_roundw
                case rel => exact ⟨k + 1, by omega, by go_num, (HM.out.keep (S := fun _ => False) ((Chg.refl _ _).alloc _) id id).keep (S := fun _ => False) ((Chg.refl _ _).drewN _) id id, (HAA.out.keep (S := fun _ => False) ((Chg.refl _ _).alloc _) id).keep (S := fun _ => False) ((Chg.refl _ _).drewN _) id, (HC.out.alloc _).drewN _⟩
                case measure => simp [intOf]; omega
            · have hwn := walk5_none HT2.out (64 + ask % 128) (by omega) (by omega)
              have hlen : bs.length ≤ 4096 := by rw [HT2.out.len]; omega
              have HWN := Lib.hid hwn; clear hwn
              have HLN := Lib.hid hlen; clear hlen
              have hk64 : ¬ (k : Int) < 64 := by omega
              go_wp2_with fail
              refine (wWalk _ _ bs 0 (64 + ask % 128) _ m1 HLN.out).mono ?_
              rintro e v ⟨rfl, hD⟩
              rw [HWN.out]
              replace hC := hC.trans hD
              clear hD HWN HLN m1 hA
              have HC := Lib.hid hC; clear hC
              go_wp2_with ((refine (num16 _ _).mono ?_; rintro e w6 ⟨rfl, rfl⟩))
              go_ret
              exact ⟨rfl, HC.out.alloc _⟩
theorem walkFinds_walk (w : World) (A : Option Addr) (ca : Nat) (xs : List Int) (hmx : xs.length ≤ maxLen) (rx : RowC w A (xs.flatMap icell)) (_hw : ∀ x ∈ xs, True) (ask : Int) :
    Calls Try.prog 5 #[.slice A xs.length ca, .int .i64 ask] w fun e w' => e = .returned (.bool true) ∧ Below w.heap.size w w' := by
  unfold maxLen at hmx
  exact (walkFinds_main A ca xs ask w (by omega) rx).mono fun e w' ⟨h1, h2⟩ => ⟨h1, h2.below (Nat.le_refl _) (fun _ h => h.elim)⟩
end Go.Proofs.Ytpnhdiajiieonaa
