/- Chapter 12: the law's awake, walked. -/
import Derived.Test.YtpnhdiajiieonaaAw12
set_option linter.unusedSimpArgs false
set_option linter.unusedVariables false
namespace Go.Proofs.Ytpnhdiajiieonaa
open Go.RowKit

set_option maxRecDepth 100000 in
set_option maxHeartbeats 4000000 in
theorem awake12 (w : World) : Calls Try.prog 47 #[] w fun e w' => e = .returned (.bool true) ∧ Chg (fun _ => False) w w' := by
  obtain ⟨b1, c1, b2, c2, t1, t2, n1, t3⟩ := aw_facts
  go_enter Try.func47, Try.ntmps47
  go_wp2_with fail
  refine (psNew 2 w w (by omega) (by omega) (Chg.refl _ _)).mono ?_
  rintro e w1 ⟨rfl, P, _, _⟩
  generalize hp : w.heap.size + 1 = p at *
  generalize hF : (fun k => k = w.heap.size) = F at *
  clear hF hp
  change PS w w1 p 2 aw0 F at P
  go_wp2_with fail
  refine (pNew_no 0 w1 (by omega)).mono ?_
  rintro e w2 ⟨rfl, rfl⟩
  go_wp2_with fail
  refine (num16 0 w1).mono ?_
  rintro e w2 ⟨rfl, rfl⟩
  go_wp2_with fail
  refine (psRaise P (by omega) 1 2 5).mono ?_
  rintro e w2 ⟨rfl, F2, P2, _, _⟩
  rw [b1, c1]
  change PS w w2 p 2 aw1 F2 at P2
  go_wp2_with fail
  refine (psRaise P2 (by omega) 1 2 5).mono ?_
  rintro e w3 ⟨rfl, F3, P3, _, _⟩
  rw [b2, c1]
  change PS w w3 p 2 aw2 F3 at P3
  go_wp2_with fail
  refine (psRaise P3 (by omega) 1 0 7).mono ?_
  rintro e w4 ⟨rfl, F4, P4, _, _⟩
  change PS w w4 p 2 aw3 F4 at P4
  go_wp2_with fail
  refine (psRaise P4 (by omega) 1 2 1).mono ?_
  rintro e w5 ⟨rfl, F5, P5, _, _⟩
  change PS w w5 p 2 aw4 F5 at P5
  go_wp2_with fail
  refine (psRaise P5 (by omega) 2 0 0).mono ?_
  rintro e w6 ⟨rfl, F6, P6, _, _⟩
  rw [c2]
  change PS w w6 p 2 aw5 F6 at P6
  clear P P2 P3 P4 P5
  go_wp2_with fail
  have hm : OwnC iqc 3 92 (w6.alloc (.cells #[.int .i64 0, .int .i64 2, .int .i64 1] 92)) 0 (.slice (some ⟨w6.heap.size, 0, none⟩) 1 1) awM := lit_own (L := awM) (blk_new w6 (.cells #[.int .i64 0, .int .i64 2, .int .i64 1] 92)) (by decide)
  refine (psTake (i := 1) (P6.keepN ((Chg.refl _ _).alloc _)) (by omega) (by omega) 9 hm (by decide)).mono ?_
  rintro e w7 ⟨va, rfl, F7, P7, V7, _, _⟩
  change PS w w7 p 2 aw6 F7 at P7
  rw [t1] at V7
  clear P6 hm
  go_wp2_with fail
  refine (psTake (i := 1) (mb := 0) P7 (by omega) (by omega) 10 (OwnC.nil _ _) (by decide)).mono ?_
  rintro e w8 ⟨vb, rfl, F8, P8, V8, f8, k8⟩
  change PS w w8 p 2 aw7 F8 at P8
  rw [t2] at V8
  replace V7 := V7.step f8 k8
  clear P7 f8 k8
  go_wp2_with fail
  refine (psRaise P8 (by omega) 0 3 3).mono ?_
  rintro e w9 ⟨rfl, F9, P9, f9, k9⟩
  change PS w w9 p 2 aw8 F9 at P9
  replace V7 := V7.step f9 k9
  replace V8 := V8.step f9 k9
  clear P8 f9 k9
  go_wp2_with fail
  refine (num16 1200 w9).mono ?_
  rintro e x1 ⟨rfl, rfl⟩
  go_wp2_with fail
  refine (num16 0 w9).mono ?_
  rintro e x1 ⟨rfl, rfl⟩
  go_wp2_with fail
  refine (num16 0 w9).mono ?_
  rintro e x1 ⟨rfl, rfl⟩
  go_wp2_with fail
  refine (num16 1200 w9).mono ?_
  rintro e x1 ⟨rfl, rfl⟩
  go_wp2_with fail
  refine (sameLit va [⟨9, 0, 7⟩, ⟨9, 2, 5⟩] w9 V7.rd (by decide)).mono ?_
  rintro e x1 ⟨rfl, k1⟩
  replace P9 := P9.keepN k1
  replace V8 := V8.keepN k1
  clear V7 k1
  go_wp2_with fail
  refine (sameLit vb [⟨10, 2, 1⟩] x1 V8.rd (by decide)).mono ?_
  rintro e x2 ⟨rfl, k1⟩
  replace P9 := P9.keepN k1
  clear V8 k1
  go_wp2_with fail
  refine (psClear P9 (by omega) 3).mono ?_
  rintro e x3 ⟨rfl, F10, P10, _, _⟩
  rw [n1]
  change PS w x3 p 2 aw9 F10 at P10
  clear P9
  go_wp2_with fail
  refine (psTake (i := 0) (mb := 0) P10 (by omega) (by omega) 1 (OwnC.nil _ _) (by decide)).mono ?_
  rintro e x4 ⟨vc, rfl, F11, P11, V11, _, _⟩
  rw [t3] at V11
  obtain ⟨⟨A, c, rfl, _⟩, _⟩ := V11
  have hC := P11.chg
  clear P10 P11
  go_wp2_with fail
  go_ret
  exact ⟨rfl, hC⟩
end Go.Proofs.Ytpnhdiajiieonaa
