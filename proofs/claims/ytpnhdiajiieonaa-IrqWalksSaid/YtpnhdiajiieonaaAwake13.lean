/- Chapter 13: the law's awake, walked. -/
import Derived.Test.YtpnhdiajiieonaaUnit6
set_option linter.unusedSimpArgs false
set_option linter.unusedVariables false
namespace Go.Proofs.Ytpnhdiajiieonaa
open Go.RowKit

set_option maxRecDepth 100000 in
set_option maxHeartbeats 4000000 in
theorem awake13 (w : World) : Calls Try.prog 60 #[] w fun e w' => e = .returned (.bool true) ∧ Chg (fun _ => False) w w' := by
  obtain ⟨r1, r2, r3, r4, r5, r6, r7, r8, r9, r10, r11, r12, r13⟩ := ub_facts
  go_enter Try.func60, Try.ntmps60
  go_wp2_with fail
  refine (usNew 2 2 w w (by omega) (by omega) (Chg.refl _ _)).mono ?_
  rintro e w1 ⟨u, F0, rfl, P0, _, _⟩
  change US w w1 u 2 2 ub0 us0 F0 at P0
  go_wp2_with fail
  refine (uNew_no 0 2 w1 (by omega)).mono ?_
  rintro e w2 ⟨rfl, k1⟩
  replace P0 := P0.keepN k1
  clear k1
  go_wp2_with fail
  refine (num16 0 w2).mono ?_
  rintro e x1 ⟨rfl, rfl⟩

  go_wp2_with fail
  refine (usRoute P0 1 3 1).mono ?_
  rintro e w3 ⟨rfl, F1, P1, f1, k1⟩
  rw [show routeC 2 2 1 3 1 = 0 from r1]
  change US w w3 u 2 2 ub1 us0 F1 at P1
  clear P0 f1 k1
  go_wp2_with fail
  refine (usRaise P1 (by omega) 1 3 1).mono ?_
  rintro e w4 ⟨rfl, F2, P2, f1, k1⟩
  rw [r2]
  change US w w4 u 2 2 ub1 us1 F2 at P2
  clear P1 f1 k1
  go_wp2_with fail
  refine (usRaise P2 (by omega) 1 3 0).mono ?_
  rintro e w5 ⟨rfl, F3, P3, f1, k1⟩
  rw [r3]
  change US w w5 u 2 2 ub1 us2 F3 at P3
  clear P2 f1 k1
  go_wp2_with fail
  refine (usRaise P3 (by omega) 1 4 1).mono ?_
  rintro e w6 ⟨rfl, F4, P4, f1, k1⟩
  rw [r4]
  change US w w6 u 2 2 ub1 us3 F4 at P4
  clear P3 f1 k1
  go_wp2_with fail
  refine (usMask P4 1 3 true).mono ?_
  rintro e w7 ⟨rfl, F5, P5, f1, k1⟩
  rw [r5]
  change US w w7 u 2 2 ub2 us3 F5 at P5
  clear P4 f1 k1
  go_wp2_with fail
  refine (usDeliver P5 (by omega) 1 5).mono ?_
  rintro e w8 ⟨va, rfl, _, F6, P6, f1, Vva, k1⟩
  change US w w8 u 2 2 ub2 us4 F6 at P6
  change IsV w8 F6 va (tkL 2 1 5 (maskedL 2 ub2 32) us3) at Vva
  rw [r6] at Vva
  clear P5 f1 k1
  go_wp2_with fail
  refine (usMask P6 1 3 false).mono ?_
  rintro e w9 ⟨rfl, F7, P7, f1, k1⟩
  replace Vva := Vva.step f1 k1
  rw [r7]
  change US w w9 u 2 2 ub3 us4 F7 at P7
  clear P6 f1 k1
  go_wp2_with fail
  refine (usDeliver P7 (by omega) 1 6).mono ?_
  rintro e w10 ⟨vb, rfl, _, F8, P8, f1, Vvb, k1⟩
  replace Vva := Vva.step f1 k1
  change US w w10 u 2 2 ub3 us5 F8 at P8
  change IsV w10 F8 vb (tkL 2 1 6 (maskedL 2 ub3 32) us4) at Vvb
  rw [r8] at Vvb
  clear P7 f1 k1
  go_wp2_with fail
  refine (usRoute P8 1 3 2).mono ?_
  rintro e w11 ⟨rfl, F9, P9, f1, k1⟩
  replace Vva := Vva.step f1 k1
  replace Vvb := Vvb.step f1 k1
  rw [r9]
  change US w w11 u 2 2 ub4 us5 F9 at P9
  clear P8 f1 k1
  go_wp2_with fail
  refine (usRaise P9 (by omega) 1 3 1).mono ?_
  rintro e w12 ⟨rfl, F10, P10, f1, k1⟩
  replace Vva := Vva.step f1 k1
  replace Vvb := Vvb.step f1 k1
  rw [r10]
  change US w w12 u 2 2 ub4 us6 F10 at P10
  clear P9 f1 k1
  go_wp2_with fail
  refine (usUnroute P10 (by omega) 1 3).mono ?_
  rintro e w13 ⟨rfl, F11, P11, f1, k1⟩
  replace Vva := Vva.step f1 k1
  replace Vvb := Vvb.step f1 k1
  rw [r11]
  change US w w13 u 2 2 ub5 us7 F11 at P11
  clear P10 f1 k1
  go_wp2_with fail
  refine (usDeliver P11 (by omega) 1 7).mono ?_
  rintro e w14 ⟨vc, rfl, _, F12, P12, f1, Vvc, k1⟩
  replace Vva := Vva.step f1 k1
  replace Vvb := Vvb.step f1 k1
  change US w w14 u 2 2 ub5 us8 F12 at P12
  change IsV w14 F12 vc (tkL 2 1 7 (maskedL 2 ub5 32) us7) at Vvc
  rw [r12] at Vvc
  clear P11 f1 k1
  go_wp2_with fail
  refine (usClear P12 (by omega) 2).mono ?_
  rintro e w15 ⟨rfl, F13, P13, f1, k1⟩
  replace Vva := Vva.step f1 k1
  replace Vvb := Vvb.step f1 k1
  replace Vvc := Vvc.step f1 k1
  rw [r13]
  change US w w15 u 2 2 (clearF 2 2 ub5) (uclearS 2 2 us8) F13 at P13
  clear P12 f1 k1
  obtain ⟨⟨A1, c1, rfl, _⟩, _⟩ := Vva
  obtain ⟨⟨A3, c3, rfl, _⟩, _⟩ := Vvc
  have hC := P13.chg
  have HV := Lib.hid Vvb.rd; clear Vvb
  have HC := Lib.hid hC; clear hC P13 r1 r2 r3 r4 r5 r6 r7 r8 r9 r10 r11 r12 r13
  go_wp2_with fail
  refine (num16 1300 _).mono ?_
  rintro e x1 ⟨rfl, rfl⟩
  go_wp2_with fail
  refine (num16 0 _).mono ?_
  rintro e x1 ⟨rfl, rfl⟩
  go_wp2_with fail
  refine (num16 0 _).mono ?_
  rintro e x1 ⟨rfl, rfl⟩
  go_wp2_with fail
  refine (num16 1301 _).mono ?_
  rintro e x1 ⟨rfl, rfl⟩
  go_wp2_with fail
  refine (num16 1301 _).mono ?_
  rintro e x1 ⟨rfl, rfl⟩
  go_wp2_with fail
  refine (num16 0 _).mono ?_
  rintro e x1 ⟨rfl, rfl⟩
  go_wp2_with fail
  refine (num16 0 _).mono ?_
  rintro e x1 ⟨rfl, rfl⟩
  go_wp2_with fail
  refine (sameLit vb [⟨6, 1, 3⟩] _ HV.out (by decide)).mono ?_
  rintro e x1 ⟨rfl, k1⟩
  have HC2 := Lib.hid (HC.out.trans k1); clear k1 HV HC
  go_wp2_with fail
  refine (num16 1300 _).mono ?_
  rintro e x2 ⟨rfl, rfl⟩
  go_wp2_with fail
  refine (num16 0 _).mono ?_
  rintro e x2 ⟨rfl, rfl⟩
  go_wp2_with fail
  refine (num16 0 _).mono ?_
  rintro e x2 ⟨rfl, rfl⟩
  go_wp2_with fail
  refine (num16 1300 _).mono ?_
  rintro e x2 ⟨rfl, rfl⟩
  go_wp2_with fail
  go_ret
  exact ⟨rfl, HC2.out⟩
end Go.Proofs.Ytpnhdiajiieonaa
