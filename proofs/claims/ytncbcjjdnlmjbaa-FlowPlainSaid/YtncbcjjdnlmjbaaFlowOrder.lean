/- The law FlowOrder: the walk. Printed by mkflaw.py. -/
import Derived.Test.YtncbcjjdnlmjbaaAw23
set_option linter.unusedSimpArgs false
set_option linter.unusedVariables false
namespace Go.Proofs.Ytncbcjjdnlmjbaa
open Go.RowKit

theorem uidxL (x len : Int) (h : 0 < len) (hl : len ≤ 9223372036854775807) : 0 ≤ wrap64 ((IntKind.u64.wrap x).tmod len) ∧ wrap64 ((IntKind.u64.wrap x).tmod len) < len := by
  have h0 : 0 ≤ IntKind.u64.wrap x := by unfold IntKind.wrap; simp [IntKind.bits, IntKind.signed]; omega
  have h1 := Int.tmod_nonneg len h0
  have h2 := Int.tmod_lt_of_pos (IntKind.u64.wrap x) h
  generalize (IntKind.u64.wrap x).tmod len = z at *
  unfold wrap64
  constructor <;> omega
theorem u64_same {n : Int} (h0 : 0 ≤ n) (h1 : n ≤ 9223372036854775807) : IntKind.u64.wrap n = n := by rw [IntKind.wrap_u64]; omega
theorem flow_there {C : Cf} {p q : Int} (h : flowB C p q = true) : C.there p ∧ C.there q ∧ PathD (DirP C) C.parts.length p.toNat q.toNat := by
  unfold flowB at h
  simp only [Bool.and_eq_true, decide_eq_true_eq, pathB_iff] at h
  exact ⟨h.1.1.2, h.1.2, h.2⟩
theorem flow_mk {C : Cf} {p q : Int} (hm : MayP C) (hp : C.there p) (hq : C.there q) (h : PathD (DirP C) C.parts.length p.toNat q.toNat) : flowB C p q = true := by
  unfold flowB
  simp only [Bool.and_eq_true, decide_eq_true_eq, pathB_iff]
  exact ⟨⟨⟨hm, hp⟩, hq⟩, h⟩
theorem flow_refl {C : Cf} {p : Int} (hm : MayP C) (hp : C.there p) : flowB C p p = true := flow_mk hm hp hp .refl
theorem flow_notP {C : Cf} {p q : Int} (h : ¬ C.there p) : flowB C p q = false := by
  rw [Bool.eq_false_iff]; exact fun e => h (flow_there e).1
theorem flow_notQ {C : Cf} {p q : Int} (h : ¬ C.there q) : flowB C p q = false := by
  rw [Bool.eq_false_iff]; exact fun e => h (flow_there e).2.1
theorem flow_notM {C : Cf} {p q : Int} (h : ¬ MayP C) : flowB C p q = false := by unfold flowB; rw [decide_eq_false h]; simp
theorem flow_trans {C : Cf} {p q r : Int} (hm : MayP C) (h1 : flowB C p q = true) (h2 : flowB C q r = true) : flowB C p r = true :=
  flow_mk hm (flow_there h1).1 (flow_there h2).2.1 ((flow_there h1).2.2.trans (flow_there h2).2.2)
set_option maxRecDepth 100000 in
set_option maxHeartbeats 8000000 in
theorem flowOrder_c (C : Cf) (s : Vs) (a b d : Int) (w : World) (h : s.R w C) :
    Calls Try.prog 9 #[.agg (cfc C s), .int .i64 a, .int .i64 b, .int .i64 d] w fun e w' => e = .returned (.bool true) ∧ Chg (fun _ => False) w w' := by
  have HA := Lib.hid ((Chg.refl (fun _ => False) w).alloc (.cells (cfc C s) 27))
  have HP : Hid (∀ W, Chg (fun _ => False) (w.alloc (.cells (cfc C s) 27)) W → CfP W w.heap.size C s) := byVal h
  clear h
  obtain ⟨A1, k1, A2, k2, A3, k3, A4, k4, rfl, m1, m2, m3, m4⟩ := (HP.out _ (Chg.refl _ _)).open
  unfold cfc at *
  go_enter Try.func9, Try.ntmps9
  go_upto_region 1 with fail
  generalize (w.alloc (.cells #[.int .i64 C.frames, .slice A1 C.parts.length k1, .slice A2 C.devs.length k2, .int .i64 C.major, .slice A3 C.wins.length k3, .slice A4 C.grants.length k4, .int .i64 C.sectors, .int .i64 C.quota, .int .i64 C.quiet] 27)) = W0 at *
  generalize w.heap.size = B at *
  go_wp2_with fail
  refine (awake23 _).mono ?_
  rintro e w1 ⟨rfl, k1'⟩
  have HR := Lib.hid k1'; clear k1'
  by_cases h0 : C.parts.length = 0
  · have d0 : ((C.parts.length : Int) == 0) = true := by simpa using h0
    have hm : ¬ MayP C := fun h => by have := h.1.2.1; omega
    have E1 := Lib.hid (flow_notM (p := a) (q := b) hm)
    clear hm h0
    obtain ⟨y0, y1, y2, y3, y4, y5, y6, y7, y8⟩ := (HP.out _ HR.out).c9'
    go_wp2_with fail
    refine (vFlows a b C _ _ (HP.out _ HR.out).2).mono ?_
    rintro e w2 ⟨rfl, k2⟩
    rw [E1.out]
    replace HR := Lib.hid (HR.out.trans k2)
    clear k2 y0 y1 y2 y3 y4 y5 y6 y7 y8
    go_wp2_with fail
    go_ret
    exact ⟨rfl, HA.out.trans HR.out⟩
  · have d0 : ((C.parts.length : Int) == 0) = false := by simpa using h0
    have d0n : (C.parts.length == 0) = false := by simpa using h0
    have hpos : (0 : Int) < C.parts.length := by omega
    by_cases hm : MayP C
    · have hl := hm.1.2.2
      have t0 : C.there 0 := ⟨by omega, by omega⟩
      have E1 := Lib.hid (flow_refl (C := C) hm t0)
      have hu : IntKind.u64.wrap (C.parts.length : Int) = C.parts.length := u64_same (by omega) (by omega)
      have ux := uidxL a C.parts.length hpos (by omega)
      have uy := uidxL b C.parts.length hpos (by omega)
      have uz := uidxL d C.parts.length hpos (by omega)
      have hne : ((C.parts.length : Int) == 0) = false := d0
      have HM := Lib.hid hm
      clear t0 hm h0
      obtain ⟨y0, y1, y2, y3, y4, y5, y6, y7, y8⟩ := (HP.out _ HR.out).c9'
      go_wp2_with fail
      refine (vFlows 0 0 C _ _ (HP.out _ HR.out).2).mono ?_
      rintro e w2 ⟨rfl, k2⟩
      rw [E1.out]
      replace HR := Lib.hid (HR.out.trans k2)
      clear k2 y0 y1 y2 y3 y4 y5 y6 y7 y8
      clear E1
      obtain ⟨y0, y1, y2, y3, y4, y5, y6, y7, y8⟩ := (HP.out _ HR.out).c9'
      go_upto_region 6 with fail
      go_quiet (fail)
      rename_i nq
      generalize wrap64 ((IntKind.u64.wrap a).tmod C.parts.length) = x at *
      generalize wrap64 ((IntKind.u64.wrap b).tmod C.parts.length) = y at *
      generalize wrap64 ((IntKind.u64.wrap d).tmod C.parts.length) = z at *
      clear hu hne d0 d0n y0 y1 y2 y3 y4 y5 y6 y7 y8
      replace HR := Lib.hid (HR.out.drewN nq)
      have E1 := Lib.hid (flow_refl (C := C) (p := x) HM.out ⟨ux.1, ux.2⟩)
      have E2 := Lib.hid (flow_notQ (C := C) (p := x) (q := C.parts.length) (fun h => by have := h.2; omega))
      have E3 := Lib.hid (flow_notP (C := C) (p := -1) (q := x) (fun h => by have := h.1; omega))
      obtain ⟨y0, y1, y2, y3, y4, y5, y6, y7, y8⟩ := (HP.out _ HR.out).c9'
      go_wp2_with fail
      refine (vFlows x x C _ _ (HP.out _ HR.out).2).mono ?_
      rintro e w3 ⟨rfl, k3⟩
      rw [E1.out]
      replace HR := Lib.hid (HR.out.trans k3)
      clear k3 y0 y1 y2 y3 y4 y5 y6 y7 y8
      obtain ⟨y0, y1, y2, y3, y4, y5, y6, y7, y8⟩ := (HP.out _ HR.out).c9'
      go_wp2_with fail
      refine (vFlows x C.parts.length C _ _ (HP.out _ HR.out).2).mono ?_
      rintro e w4 ⟨rfl, k4⟩
      rw [E2.out]
      replace HR := Lib.hid (HR.out.trans k4)
      clear k4 y0 y1 y2 y3 y4 y5 y6 y7 y8
      obtain ⟨y0, y1, y2, y3, y4, y5, y6, y7, y8⟩ := (HP.out _ HR.out).c9'
      go_wp2_with fail
      refine (vFlows (-1) x C _ _ (HP.out _ HR.out).2).mono ?_
      rintro e w5 ⟨rfl, k5⟩
      rw [E3.out]
      replace HR := Lib.hid (HR.out.trans k5)
      clear k5 y0 y1 y2 y3 y4 y5 y6 y7 y8
      clear E1 E2 E3
      by_cases b1 : flowB C x y = true
      · by_cases b2 : flowB C y z = true
        · have E1 := Lib.hid b1
          have E2 := Lib.hid b2
          have E3 := Lib.hid (flow_trans HM.out b1 b2)
          clear b1 b2
          obtain ⟨y0, y1, y2, y3, y4, y5, y6, y7, y8⟩ := (HP.out _ HR.out).c9'
          go_wp2_with fail
          refine (vFlows x y C _ _ (HP.out _ HR.out).2).mono ?_
          rintro e w6 ⟨rfl, k6⟩
          rw [E1.out]
          replace HR := Lib.hid (HR.out.trans k6)
          clear k6 y0 y1 y2 y3 y4 y5 y6 y7 y8
          obtain ⟨y0, y1, y2, y3, y4, y5, y6, y7, y8⟩ := (HP.out _ HR.out).c9'
          go_wp2_with fail
          refine (vFlows y z C _ _ (HP.out _ HR.out).2).mono ?_
          rintro e w7 ⟨rfl, k7⟩
          rw [E2.out]
          replace HR := Lib.hid (HR.out.trans k7)
          clear k7 y0 y1 y2 y3 y4 y5 y6 y7 y8
          obtain ⟨y0, y1, y2, y3, y4, y5, y6, y7, y8⟩ := (HP.out _ HR.out).c9'
          go_wp2_with fail
          refine (vFlows x z C _ _ (HP.out _ HR.out).2).mono ?_
          rintro e w8 ⟨rfl, k8⟩
          rw [E3.out]
          replace HR := Lib.hid (HR.out.trans k8)
          clear k8 y0 y1 y2 y3 y4 y5 y6 y7 y8
          go_wp2_with fail
          go_ret
          exact ⟨rfl, HA.out.trans HR.out⟩
        · have E1 := Lib.hid b1
          have E2 := Lib.hid (Bool.eq_false_iff.2 b2)
          clear b1 b2
          obtain ⟨y0, y1, y2, y3, y4, y5, y6, y7, y8⟩ := (HP.out _ HR.out).c9'
          go_wp2_with fail
          refine (vFlows x y C _ _ (HP.out _ HR.out).2).mono ?_
          rintro e w6 ⟨rfl, k6⟩
          rw [E1.out]
          replace HR := Lib.hid (HR.out.trans k6)
          clear k6 y0 y1 y2 y3 y4 y5 y6 y7 y8
          obtain ⟨y0, y1, y2, y3, y4, y5, y6, y7, y8⟩ := (HP.out _ HR.out).c9'
          go_wp2_with fail
          refine (vFlows y z C _ _ (HP.out _ HR.out).2).mono ?_
          rintro e w7 ⟨rfl, k7⟩
          rw [E2.out]
          replace HR := Lib.hid (HR.out.trans k7)
          clear k7 y0 y1 y2 y3 y4 y5 y6 y7 y8
          go_wp2_with fail
          go_ret
          exact ⟨rfl, HA.out.trans HR.out⟩
      · have E1 := Lib.hid (Bool.eq_false_iff.2 b1)
        clear b1
        obtain ⟨y0, y1, y2, y3, y4, y5, y6, y7, y8⟩ := (HP.out _ HR.out).c9'
        go_wp2_with fail
        refine (vFlows x y C _ _ (HP.out _ HR.out).2).mono ?_
        rintro e w6 ⟨rfl, k6⟩
        rw [E1.out]
        replace HR := Lib.hid (HR.out.trans k6)
        clear k6 y0 y1 y2 y3 y4 y5 y6 y7 y8
        go_wp2_with fail
        go_ret
        exact ⟨rfl, HA.out.trans HR.out⟩
    · have E1 := Lib.hid (flow_notM (p := 0) (q := 0) hm)
      have E2 := Lib.hid (flow_notM (p := a) (q := b) hm)
      clear hm h0
      obtain ⟨y0, y1, y2, y3, y4, y5, y6, y7, y8⟩ := (HP.out _ HR.out).c9'
      go_wp2_with fail
      refine (vFlows 0 0 C _ _ (HP.out _ HR.out).2).mono ?_
      rintro e w2 ⟨rfl, k2⟩
      rw [E1.out]
      replace HR := Lib.hid (HR.out.trans k2)
      clear k2 y0 y1 y2 y3 y4 y5 y6 y7 y8
      obtain ⟨y0, y1, y2, y3, y4, y5, y6, y7, y8⟩ := (HP.out _ HR.out).c9'
      go_wp2_with fail
      refine (vFlows a b C _ _ (HP.out _ HR.out).2).mono ?_
      rintro e w3 ⟨rfl, k3⟩
      rw [E2.out]
      replace HR := Lib.hid (HR.out.trans k3)
      clear k3 y0 y1 y2 y3 y4 y5 y6 y7 y8
      go_wp2_with fail
      go_ret
      exact ⟨rfl, HA.out.trans HR.out⟩
theorem flowOrder_walk (w : World) (C : Cf) (s : Vs) (h : s.R w C) (_ : True) (a b d : Int) :
    Calls Try.prog 9 #[.agg (cfc C s), .int .i64 a, .int .i64 b, .int .i64 d] w fun e w' => e = .returned (.bool true) ∧ Below w.heap.size w w' :=
  (flowOrder_c C s a b d w h).mono fun e w' ⟨h1, h2⟩ => ⟨h1, h2.below (Nat.le_refl _) (fun _ h => h.elim)⟩
end Go.Proofs.Ytncbcjjdnlmjbaa
