/- The document's side: may a config be? Printed by mkrefm.py. -/
import Derived.Test.YtncbcjjdnlmjbaaRefF
set_option linter.unusedSimpArgs false
set_option linter.unusedVariables false
namespace Go.Proofs.Ytncbcjjdnlmjbaa
open Go.RowKit

theorem refLabel (lv cats : Int) (w : World) : Calls Try.prog 66 #[.agg #[.int .i64 lv, .int .i64 cats]] w fun e w' => e = .returned (.bool (decide (LabP lv cats))) ∧ Chg (fun _ => False) w w' := by
  by_cases t0 : ¬ 0 ≤ lv
  · skip
    have d0 : decide (0 ≤ lv) = false := by simp; omega
    have EN := Lib.hid (decide_eq_false (fun h : LabP lv cats => by unfold LabP at h; omega))
    clear t0
    go_enter Try.func66, Try.ntmps66
    go_wp2
    go_ret
    exact ⟨retB EN.out.symm, (Chg.refl _ _).alloc _⟩
  · skip
    by_cases t1 : ¬ lv ≤ 3
    · skip
      have d0 : decide (0 ≤ lv) = true := by simp; omega
      have d1 : decide (lv ≤ 3) = false := by simp; omega
      have EN := Lib.hid (decide_eq_false (fun h : LabP lv cats => by unfold LabP at h; omega))
      clear t0 t1
      go_enter Try.func66, Try.ntmps66
      go_wp2
      go_ret
      exact ⟨retB EN.out.symm, (Chg.refl _ _).alloc _⟩
    · skip
      by_cases t2 : ¬ 0 ≤ cats
      · skip
        have d0 : decide (0 ≤ lv) = true := by simp; omega
        have d1 : decide (lv ≤ 3) = true := by simp; omega
        have d2 : decide (0 ≤ cats) = false := by simp; omega
        have EN := Lib.hid (decide_eq_false (fun h : LabP lv cats => by unfold LabP at h; omega))
        clear t0 t1 t2
        go_enter Try.func66, Try.ntmps66
        go_wp2
        go_ret
        exact ⟨retB EN.out.symm, (Chg.refl _ _).alloc _⟩
      · skip
        by_cases t3 : ¬ cats ≤ 15
        · skip
          have d0 : decide (0 ≤ lv) = true := by simp; omega
          have d1 : decide (lv ≤ 3) = true := by simp; omega
          have d2 : decide (0 ≤ cats) = true := by simp; omega
          have d3 : decide (cats ≤ 15) = false := by simp; omega
          have EN := Lib.hid (decide_eq_false (fun h : LabP lv cats => by unfold LabP at h; omega))
          clear t0 t1 t2 t3
          go_enter Try.func66, Try.ntmps66
          go_wp2
          go_ret
          exact ⟨retB EN.out.symm, (Chg.refl _ _).alloc _⟩
        · skip
          have d0 : decide (0 ≤ lv) = true := by simp; omega
          have d1 : decide (lv ≤ 3) = true := by simp; omega
          have d2 : decide (0 ≤ cats) = true := by simp; omega
          have d3 : decide (cats ≤ 15) = true := by simp; omega
          have EN := Lib.hid (decide_eq_true (show LabP lv cats from by unfold LabP; omega))
          clear t0 t1 t2 t3
          go_enter Try.func66, Try.ntmps66
          go_wp2
          go_ret
          exact ⟨retB EN.out.symm, (Chg.refl _ _).alloc _⟩
/-- No window's deliver is beyond what a number holds. -/
def Cf.wfD (C : Cf) : Prop := ∀ x ∈ C.wins, x.deliver ≤ 9223372036854775807
def HeadP (C : Cf) : Prop := 1 ≤ C.frames ∧ C.frames ≤ 64 ∧ 1 ≤ C.parts.length ∧ C.parts.length ≤ 4 ∧ 1 ≤ C.devs.length ∧ C.devs.length ≤ 4 ∧ FrDoc C ∧ GrsOk C ∧ WinsOk C.wins C.major C.parts.length ∧ ExtOk C.parts C.sectors
instance (C : Cf) : Decidable (HeadP C) := by unfold HeadP; infer_instance
def OwnW (C : Cf) (i : Nat) : Prop := ∃ x ∈ C.wins, x.part = i
instance (C : Cf) (i : Nat) : Decidable (OwnW C i) := by unfold OwnW; infer_instance
theorem may_doc {C : Cf} (h : HeadP C) (hp : ∀ i (hi : i < C.parts.length), OwnW C i ∧ LabP C.parts[i].lv C.parts[i].cats) (hn : 0 ≤ C.quota ∧ C.quota ≤ 64 ∧ 1 ≤ C.quiet ∧ C.quiet ≤ 8) : MayP C := by
  obtain ⟨h0, h1, h2, h3, h4, h5, h6, h7, h8, h9⟩ := h
  exact ⟨⟨fun i hi => ⟨(hp i hi).2, (h6.1 i hi).1, (hp i hi).1⟩, h2, h3⟩, ⟨h6.2.1, h4, h5⟩, ⟨h0, h1, h6.2.2⟩, h8, h7, h9, hn.1, hn.2.1, hn.2.2.1, hn.2.2.2⟩
theorem head_of {C : Cf} (h : MayP C) : HeadP C := by
  obtain ⟨hp, hd, hf, hw, hg, he, _⟩ := h
  refine ⟨hf.1, hf.2.1, hp.2.1, hp.2.2, hd.2.1, hd.2.2, ⟨fun i hi => ⟨(hp.1 i hi).2.1, (frames_short hf).1 _ (List.getElem_mem hi)⟩, hd.1, hf.2.2⟩, hg, hw, he⟩
set_option maxRecDepth 100000 in
set_option maxHeartbeats 4000000 in
theorem refMay (C : Cf) (s : Vs) (w : World) (h : s.R w C) (hd : C.wfD) :
    Calls Try.prog 24 #[.agg (cfc C s)] w fun e w' => e = .returned (.bool (decide (MayP C))) ∧ Chg (fun _ => False) w w' := by
  have hA : Chg (fun _ => False) w (w.alloc (.cells (cfc C s) 27)) := (Chg.refl _ _).alloc _
  have HP : Hid (∀ W, Chg (fun _ => False) (w.alloc (.cells (cfc C s) 27)) W → CfP W w.heap.size C s) := byVal h
  have HA := Lib.hid hA; clear hA h
  have HDL := Lib.hid hd; clear hd
  obtain ⟨A1, k1, A2, k2, A3, k3, A4, k4, rfl, m1, m2, m3, m4⟩ := (HP.out _ (Chg.refl _ _)).open
  unfold cfc at *
  go_enter Try.func24, Try.ntmps24
  go_upto_region 1 with fail
  generalize (w.alloc (.cells #[.int .i64 C.frames, .slice A1 C.parts.length k1, .slice A2 C.devs.length k2, .int .i64 C.major, .slice A3 C.wins.length k3, .slice A4 C.grants.length k4, .int .i64 C.sectors, .int .i64 C.quota, .int .i64 C.quiet] 27)) = W0 at *
  generalize w.heap.size = b at *
  have HR := Lib.hid (Chg.refl (fun _ => False) W0)
  obtain ⟨y0, y1, y2, y3, y4, y5, y6, y7, y8⟩ := (HP.out _ HR.out).c9'
  go_upto_region 2 with fail
  go_cut [64] (fun s wx => s = .bool (!decide (HeadP C)) ∧ Chg (fun _ => False) W0 wx)
  case first =>
    by_cases t0 : C.frames < 1
    · skip
      have d0_0 : decide (C.frames < 1) = true := by first | (simpa using t0) | (simp; omega)
      have EN := Lib.hid (show true = !decide (HeadP C) from by rw [decide_eq_false (fun h : HeadP C => by obtain ⟨h0, h1, h2, h3, h4, h5, h6, h7, h8, h9⟩ := h; first | omega | contradiction)]; rfl)
      clear t0
      go_wp2_with fail
      go_meet
      exact ⟨congrArg Value.bool EN.out, HR.out⟩
    · skip
      have d0_0 : decide (C.frames < 1) = false := by first | (simpa using t0) | (simp; omega)
      by_cases t1 : 64 < C.frames
      · skip
        have d1_0 : decide (64 < C.frames) = true := by first | (simpa using t1) | (simp; omega)
        have EN := Lib.hid (show true = !decide (HeadP C) from by rw [decide_eq_false (fun h : HeadP C => by obtain ⟨h0, h1, h2, h3, h4, h5, h6, h7, h8, h9⟩ := h; first | omega | contradiction)]; rfl)
        clear t0 t1
        go_wp2_with fail
        go_meet
        exact ⟨congrArg Value.bool EN.out, HR.out⟩
      · skip
        have d1_0 : decide (64 < C.frames) = false := by first | (simpa using t1) | (simp; omega)
        by_cases t2 : C.parts.length < 1
        · skip
          have d2_0 : decide (C.parts.length < 1) = true := by first | (simpa using t2) | (simp; omega)
          have d2_1 : decide ((C.parts.length : Int) < 1) = true := by first | (simpa using t2) | (simp; omega)
          have EN := Lib.hid (show true = !decide (HeadP C) from by rw [decide_eq_false (fun h : HeadP C => by obtain ⟨h0, h1, h2, h3, h4, h5, h6, h7, h8, h9⟩ := h; first | omega | contradiction)]; rfl)
          clear t0 t1 t2
          go_wp2_with fail
          go_meet
          exact ⟨congrArg Value.bool EN.out, HR.out⟩
        · skip
          have d2_0 : decide (C.parts.length < 1) = false := by first | (simpa using t2) | (simp; omega)
          have d2_1 : decide ((C.parts.length : Int) < 1) = false := by first | (simpa using t2) | (simp; omega)
          by_cases t3 : 4 < C.parts.length
          · skip
            have d3_0 : decide (4 < C.parts.length) = true := by first | (simpa using t3) | (simp; omega)
            have d3_1 : decide (4 < (C.parts.length : Int)) = true := by first | (simpa using t3) | (simp; omega)
            have EN := Lib.hid (show true = !decide (HeadP C) from by rw [decide_eq_false (fun h : HeadP C => by obtain ⟨h0, h1, h2, h3, h4, h5, h6, h7, h8, h9⟩ := h; first | omega | contradiction)]; rfl)
            clear t0 t1 t2 t3
            go_wp2_with fail
            go_meet
            exact ⟨congrArg Value.bool EN.out, HR.out⟩
          · skip
            have d3_0 : decide (4 < C.parts.length) = false := by first | (simpa using t3) | (simp; omega)
            have d3_1 : decide (4 < (C.parts.length : Int)) = false := by first | (simpa using t3) | (simp; omega)
            by_cases t4 : C.devs.length < 1
            · skip
              have d4_0 : decide (C.devs.length < 1) = true := by first | (simpa using t4) | (simp; omega)
              have d4_1 : decide ((C.devs.length : Int) < 1) = true := by first | (simpa using t4) | (simp; omega)
              have EN := Lib.hid (show true = !decide (HeadP C) from by rw [decide_eq_false (fun h : HeadP C => by obtain ⟨h0, h1, h2, h3, h4, h5, h6, h7, h8, h9⟩ := h; first | omega | contradiction)]; rfl)
              clear t0 t1 t2 t3 t4
              go_wp2_with fail
              go_meet
              exact ⟨congrArg Value.bool EN.out, HR.out⟩
            · skip
              have d4_0 : decide (C.devs.length < 1) = false := by first | (simpa using t4) | (simp; omega)
              have d4_1 : decide ((C.devs.length : Int) < 1) = false := by first | (simpa using t4) | (simp; omega)
              by_cases t5 : 4 < C.devs.length
              · skip
                have d5_0 : decide (4 < C.devs.length) = true := by first | (simpa using t5) | (simp; omega)
                have d5_1 : decide (4 < (C.devs.length : Int)) = true := by first | (simpa using t5) | (simp; omega)
                have EN := Lib.hid (show true = !decide (HeadP C) from by rw [decide_eq_false (fun h : HeadP C => by obtain ⟨h0, h1, h2, h3, h4, h5, h6, h7, h8, h9⟩ := h; first | omega | contradiction)]; rfl)
                clear t0 t1 t2 t3 t4 t5
                go_wp2_with fail
                go_meet
                exact ⟨congrArg Value.bool EN.out, HR.out⟩
              · skip
                have d5_0 : decide (4 < C.devs.length) = false := by first | (simpa using t5) | (simp; omega)
                have d5_1 : decide (4 < (C.devs.length : Int)) = false := by first | (simpa using t5) | (simp; omega)
                by_cases t6 : ¬ FrDoc C
                · skip
                  have EN := Lib.hid (show true = !decide (HeadP C) from by rw [decide_eq_false (fun h : HeadP C => by obtain ⟨h0, h1, h2, h3, h4, h5, h6, h7, h8, h9⟩ := h; first | omega | contradiction)]; rfl)
                  have R0 := Lib.hid (decide_eq_false t6)
                  have NP := Lib.hid (show C.parts.length ≤ 4 by omega)
                  have ND := Lib.hid (show C.devs.length ≤ 4 by omega)
                  have FB := Lib.hid (show 1 ≤ C.frames ∧ C.frames ≤ 64 by omega)
                  clear t0 t1 t2 t3 t4 t5 t6
                  go_wp2_with fail
                  refine (refFrames C _ _ (HP.out _ HR.out).2 NP.out ND.out FB.out.1 FB.out.2).mono ?_
                  rintro e w5 ⟨rfl, k5⟩
                  rw [R0.out]
                  replace HR := Lib.hid (HR.out.trans k5)
                  clear k5 y0 y1 y2 y3 y4 y5 y6 y7 y8
                  obtain ⟨y0, y1, y2, y3, y4, y5, y6, y7, y8⟩ := (HP.out _ HR.out).c9'
                  go_wp2_with fail
                  go_meet
                  exact ⟨congrArg Value.bool EN.out, HR.out⟩
                · skip
                  by_cases t7 : ¬ GrsOk C
                  · skip
                    have EN := Lib.hid (show true = !decide (HeadP C) from by rw [decide_eq_false (fun h : HeadP C => by obtain ⟨h0, h1, h2, h3, h4, h5, h6, h7, h8, h9⟩ := h; first | omega | contradiction)]; rfl)
                    have R0 := Lib.hid (decide_eq_true (Decidable.not_not.1 t6))
                    have R1 := Lib.hid (decide_eq_false t7)
                    have NP := Lib.hid (show C.parts.length ≤ 4 by omega)
                    have ND := Lib.hid (show C.devs.length ≤ 4 by omega)
                    have FB := Lib.hid (show 1 ≤ C.frames ∧ C.frames ≤ 64 by omega)
                    clear t0 t1 t2 t3 t4 t5 t6 t7
                    go_wp2_with fail
                    refine (refFrames C _ _ (HP.out _ HR.out).2 NP.out ND.out FB.out.1 FB.out.2).mono ?_
                    rintro e w5 ⟨rfl, k5⟩
                    rw [R0.out]
                    replace HR := Lib.hid (HR.out.trans k5)
                    clear k5 y0 y1 y2 y3 y4 y5 y6 y7 y8
                    obtain ⟨y0, y1, y2, y3, y4, y5, y6, y7, y8⟩ := (HP.out _ HR.out).c9'
                    go_wp2_with fail
                    refine (refGrants C _ _ (HP.out _ HR.out).2).mono ?_
                    rintro e w5 ⟨rfl, k5⟩
                    rw [R1.out]
                    replace HR := Lib.hid (HR.out.trans k5)
                    clear k5 y0 y1 y2 y3 y4 y5 y6 y7 y8
                    obtain ⟨y0, y1, y2, y3, y4, y5, y6, y7, y8⟩ := (HP.out _ HR.out).c9'
                    go_wp2_with fail
                    go_meet
                    exact ⟨congrArg Value.bool EN.out, HR.out⟩
                  · skip
                    by_cases t8 : ¬ WinsOk C.wins C.major C.parts.length
                    · skip
                      have EN := Lib.hid (show true = !decide (HeadP C) from by rw [decide_eq_false (fun h : HeadP C => by obtain ⟨h0, h1, h2, h3, h4, h5, h6, h7, h8, h9⟩ := h; first | omega | contradiction)]; rfl)
                      have R0 := Lib.hid (decide_eq_true (Decidable.not_not.1 t6))
                      have R1 := Lib.hid (decide_eq_true (Decidable.not_not.1 t7))
                      have R2 := Lib.hid (decide_eq_false t8)
                      have NP := Lib.hid (show C.parts.length ≤ 4 by omega)
                      have ND := Lib.hid (show C.devs.length ≤ 4 by omega)
                      have FB := Lib.hid (show 1 ≤ C.frames ∧ C.frames ≤ 64 by omega)
                      clear t0 t1 t2 t3 t4 t5 t6 t7 t8
                      go_wp2_with fail
                      refine (refFrames C _ _ (HP.out _ HR.out).2 NP.out ND.out FB.out.1 FB.out.2).mono ?_
                      rintro e w5 ⟨rfl, k5⟩
                      rw [R0.out]
                      replace HR := Lib.hid (HR.out.trans k5)
                      clear k5 y0 y1 y2 y3 y4 y5 y6 y7 y8
                      obtain ⟨y0, y1, y2, y3, y4, y5, y6, y7, y8⟩ := (HP.out _ HR.out).c9'
                      go_wp2_with fail
                      refine (refGrants C _ _ (HP.out _ HR.out).2).mono ?_
                      rintro e w5 ⟨rfl, k5⟩
                      rw [R1.out]
                      replace HR := Lib.hid (HR.out.trans k5)
                      clear k5 y0 y1 y2 y3 y4 y5 y6 y7 y8
                      obtain ⟨y0, y1, y2, y3, y4, y5, y6, y7, y8⟩ := (HP.out _ HR.out).c9'
                      go_wp2_with fail
                      refine (refWins _ C.wins C.major C.parts.length _ (HP.out _ HR.out).2.2.2.1 HDL.out).mono ?_
                      rintro e w5 ⟨rfl, k5⟩
                      rw [R2.out]
                      replace HR := Lib.hid (HR.out.trans k5)
                      clear k5 y0 y1 y2 y3 y4 y5 y6 y7 y8
                      obtain ⟨y0, y1, y2, y3, y4, y5, y6, y7, y8⟩ := (HP.out _ HR.out).c9'
                      go_wp2_with fail
                      go_meet
                      exact ⟨congrArg Value.bool EN.out, HR.out⟩
                    · skip
                      by_cases t9 : ¬ ExtOk C.parts C.sectors
                      · skip
                        have EN := Lib.hid (show true = !decide (HeadP C) from by rw [decide_eq_false (fun h : HeadP C => by obtain ⟨h0, h1, h2, h3, h4, h5, h6, h7, h8, h9⟩ := h; first | omega | contradiction)]; rfl)
                        have R0 := Lib.hid (decide_eq_true (Decidable.not_not.1 t6))
                        have R1 := Lib.hid (decide_eq_true (Decidable.not_not.1 t7))
                        have R2 := Lib.hid (decide_eq_true (Decidable.not_not.1 t8))
                        have R3 := Lib.hid (decide_eq_false t9)
                        have NP := Lib.hid (show C.parts.length ≤ 4 by omega)
                        have ND := Lib.hid (show C.devs.length ≤ 4 by omega)
                        have FB := Lib.hid (show 1 ≤ C.frames ∧ C.frames ≤ 64 by omega)
                        clear t0 t1 t2 t3 t4 t5 t6 t7 t8 t9
                        go_wp2_with fail
                        refine (refFrames C _ _ (HP.out _ HR.out).2 NP.out ND.out FB.out.1 FB.out.2).mono ?_
                        rintro e w5 ⟨rfl, k5⟩
                        rw [R0.out]
                        replace HR := Lib.hid (HR.out.trans k5)
                        clear k5 y0 y1 y2 y3 y4 y5 y6 y7 y8
                        obtain ⟨y0, y1, y2, y3, y4, y5, y6, y7, y8⟩ := (HP.out _ HR.out).c9'
                        go_wp2_with fail
                        refine (refGrants C _ _ (HP.out _ HR.out).2).mono ?_
                        rintro e w5 ⟨rfl, k5⟩
                        rw [R1.out]
                        replace HR := Lib.hid (HR.out.trans k5)
                        clear k5 y0 y1 y2 y3 y4 y5 y6 y7 y8
                        obtain ⟨y0, y1, y2, y3, y4, y5, y6, y7, y8⟩ := (HP.out _ HR.out).c9'
                        go_wp2_with fail
                        refine (refWins _ C.wins C.major C.parts.length _ (HP.out _ HR.out).2.2.2.1 HDL.out).mono ?_
                        rintro e w5 ⟨rfl, k5⟩
                        rw [R2.out]
                        replace HR := Lib.hid (HR.out.trans k5)
                        clear k5 y0 y1 y2 y3 y4 y5 y6 y7 y8
                        obtain ⟨y0, y1, y2, y3, y4, y5, y6, y7, y8⟩ := (HP.out _ HR.out).c9'
                        go_wp2_with fail
                        refine (refExt _ C.parts C.sectors _ (HP.out _ HR.out).2.1).mono ?_
                        rintro e w5 ⟨rfl, k5⟩
                        rw [R3.out]
                        replace HR := Lib.hid (HR.out.trans k5)
                        clear k5 y0 y1 y2 y3 y4 y5 y6 y7 y8
                        obtain ⟨y0, y1, y2, y3, y4, y5, y6, y7, y8⟩ := (HP.out _ HR.out).c9'
                        go_wp2_with fail
                        go_meet
                        exact ⟨congrArg Value.bool EN.out, HR.out⟩
                      · skip
                        have EN := Lib.hid (show false = !decide (HeadP C) from by rw [decide_eq_true (show HeadP C from ⟨by omega, by omega, by omega, by omega, by omega, by omega, Decidable.not_not.1 t6, Decidable.not_not.1 t7, Decidable.not_not.1 t8, Decidable.not_not.1 t9⟩)]; rfl)
                        have R0 := Lib.hid (decide_eq_true (Decidable.not_not.1 t6))
                        have R1 := Lib.hid (decide_eq_true (Decidable.not_not.1 t7))
                        have R2 := Lib.hid (decide_eq_true (Decidable.not_not.1 t8))
                        have R3 := Lib.hid (decide_eq_true (Decidable.not_not.1 t9))
                        have NP := Lib.hid (show C.parts.length ≤ 4 by omega)
                        have ND := Lib.hid (show C.devs.length ≤ 4 by omega)
                        have FB := Lib.hid (show 1 ≤ C.frames ∧ C.frames ≤ 64 by omega)
                        clear t0 t1 t2 t3 t4 t5 t6 t7 t8 t9
                        go_wp2_with fail
                        refine (refFrames C _ _ (HP.out _ HR.out).2 NP.out ND.out FB.out.1 FB.out.2).mono ?_
                        rintro e w5 ⟨rfl, k5⟩
                        rw [R0.out]
                        replace HR := Lib.hid (HR.out.trans k5)
                        clear k5 y0 y1 y2 y3 y4 y5 y6 y7 y8
                        obtain ⟨y0, y1, y2, y3, y4, y5, y6, y7, y8⟩ := (HP.out _ HR.out).c9'
                        go_wp2_with fail
                        refine (refGrants C _ _ (HP.out _ HR.out).2).mono ?_
                        rintro e w5 ⟨rfl, k5⟩
                        rw [R1.out]
                        replace HR := Lib.hid (HR.out.trans k5)
                        clear k5 y0 y1 y2 y3 y4 y5 y6 y7 y8
                        obtain ⟨y0, y1, y2, y3, y4, y5, y6, y7, y8⟩ := (HP.out _ HR.out).c9'
                        go_wp2_with fail
                        refine (refWins _ C.wins C.major C.parts.length _ (HP.out _ HR.out).2.2.2.1 HDL.out).mono ?_
                        rintro e w5 ⟨rfl, k5⟩
                        rw [R2.out]
                        replace HR := Lib.hid (HR.out.trans k5)
                        clear k5 y0 y1 y2 y3 y4 y5 y6 y7 y8
                        obtain ⟨y0, y1, y2, y3, y4, y5, y6, y7, y8⟩ := (HP.out _ HR.out).c9'
                        go_wp2_with fail
                        refine (refExt _ C.parts C.sectors _ (HP.out _ HR.out).2.1).mono ?_
                        rintro e w5 ⟨rfl, k5⟩
                        rw [R3.out]
                        replace HR := Lib.hid (HR.out.trans k5)
                        clear k5 y0 y1 y2 y3 y4 y5 y6 y7 y8
                        obtain ⟨y0, y1, y2, y3, y4, y5, y6, y7, y8⟩ := (HP.out _ HR.out).c9'
                        go_wp2_with fail
                        go_meet
                        exact ⟨congrArg Value.bool EN.out, HR.out⟩
  case rest =>
    clear HR y0 y1 y2 y3 y4 y5 y6 y7 y8
    obtain ⟨rfl, hC0⟩ := hcut
    have HC := Lib.hid hC0; clear hC0
    by_cases hh : HeadP C
    · rw [decide_eq_true hh, Bool.not_true]
      have HD := Lib.hid hh; clear hh
      go_wp2_with fail
      go_loopw [4] (fun s4 wr => ∃ i : Nat, i ≤ C.parts.length ∧ s4 = .int .i64 i ∧ (∀ k (h : k < C.parts.length), k < i → OwnW C k ∧ LabP C.parts[k].lv C.parts[k].cats) ∧ Chg (fun _ => False) W0 wr) (fun s4 _ => (C.parts.length - intOf s4).toNat)
      case atStart => exact ⟨0, by omega, rfl, by intro k h hk; omega, HC.out⟩
      case round =>
        clear HC
        obtain ⟨i, hi, rfl, hall, hC⟩ := hrel
        have i0 : (0 : Int) ≤ i := by omega
        have HALL := Lib.hid hall; clear hall
        have HC := Lib.hid hC; clear hC
        by_cases hlt : i < C.parts.length
        · have i1 : (i : Int) < C.parts.length := by omega
          obtain ⟨w0, hw0⟩ : ∃ W, W = wr := ⟨_, rfl⟩
          rw [← hw0] at HC
          go_wp2_with fail
          go_loopw [5, 6] (fun s5 s6 wr => ∃ (j : Nat) (own : Bool), j ≤ C.wins.length ∧ s6 = .int .i64 j ∧ s5 = .bool own ∧ (own = true ↔ ∃ x ∈ C.wins.take j, x.part = i) ∧ Chg (fun _ => False) w0 wr) (fun s5 s6 _ => (C.wins.length - intOf s6).toNat)
          case atStart => exact ⟨0, false, by omega, rfl, rfl, by simp, by rw [hw0]; exact Chg.refl _ _⟩
          case round =>
            clear hw0
            obtain ⟨j, own, hj, rfl, rfl, hown, hD⟩ := hrel
            have j0 : (0 : Int) ≤ j := by omega
            have HOWN := Lib.hid hown; clear hown
            have HDD := Lib.hid hD
            have HC2 := Lib.hid (HC.out.trans hD)
            clear hD
            obtain ⟨y0, y1, y2, y3, y4, y5, y6, y7, y8⟩ := (HP.out _ HC2.out).c9'
            by_cases hjl : j < C.wins.length
            · have j1 : (j : Int) < C.wins.length := by omega
              obtain ⟨_, A', c', hv, hel⟩ := (HP.out wr HC2.out).2.2.2.1
              injection hv with e1 e2 e3
              subst e1 e3
              obtain ⟨g, o, rfl, a0, _⟩ := hel j hjl
              clear hel e2
              have hstep : ∀ own' : Bool, (own' = true ↔ own = true ∨ C.wins[j].part = i) → (own' = true ↔ ∃ x ∈ C.wins.take (j + 1), x.part = i) := fun own' ho => by
                rw [ho, HOWN.out, List.take_succ_eq_append_getElem hjl]
                constructor
                · rintro (⟨x, hx, hc⟩ | hc)
                  · exact ⟨x, List.mem_append_left _ hx, hc⟩
                  · exact ⟨_, List.mem_append_right _ (List.mem_singleton.2 rfl), hc⟩
                · rintro ⟨x, hx, hc⟩
                  rcases List.mem_append.1 hx with h' | h'
                  · exact .inl ⟨x, h', hc⟩
                  · simp at h'; subst h'; exact .inr hc
              have HST := Lib.hid hstep; clear hstep
              cases own with
              | true =>
                clear a0
                go_wp2_with fail
                go_roundw
                case rel => exact ⟨j + 1, true, by omega, by go_num, rfl, HST.out true (by simp), HDD.out⟩
                case measure => simp [intOf]; omega
              | false =>
                by_cases hp : C.wins[j].part = i
                · have hb : (C.wins[j].part == (i : Int)) = true := by simpa using hp
                  have HST2 := Lib.hid (HST.out true (by simp [hp]))
                  clear hp
                  go_wp2_with fail
                  go_roundw
                  case rel => exact ⟨j + 1, true, by omega, by go_num, rfl, HST2.out, HDD.out⟩
                  case measure => simp [intOf]; omega
                · have hb : (C.wins[j].part == (i : Int)) = false := by simpa using hp
                  have HST2 := Lib.hid (HST.out false (by simp [hp]))
                  clear hp
                  go_wp2_with fail
                  go_roundw
                  case rel => exact ⟨j + 1, false, by omega, by go_num, rfl, HST2.out, HDD.out⟩
                  case measure => simp [intOf]; omega
            · obtain rfl : j = C.wins.length := by omega
              have hOW : own = true ↔ OwnW C i := by rw [HOWN.out, List.take_length]; rfl
              clear HOWN HDD
              cases own with
              | false =>
                have HN := Lib.hid (decide_eq_false (fun h : MayP C => by have := hOW.2 (h.1.1 i hlt).2.2; cases this))
                clear hOW
                go_wp2_with fail
                go_ret
                exact ⟨retB HN.out.symm, HA.out.trans HC2.out⟩
              | true =>
                have HOW := Lib.hid (hOW.1 rfl)
                clear hOW
                obtain ⟨_, A', c', hv, hel⟩ := (HP.out wr HC2.out).2.1
                injection hv with e1 e2 e3
                subst e1 e3
                obtain ⟨g, o, F, rfl, a0, a1, _⟩ := hel i hlt
                clear hel e2
                by_cases hl : LabP C.parts[i].lv C.parts[i].cats
                · have RL := Lib.hid (decide_eq_true hl)
                  have HAL2 : Hid (∀ k (h : k < C.parts.length), k < i + 1 → OwnW C k ∧ LabP C.parts[k].lv C.parts[k].cats) := fun k hk hki => by
                    by_cases e : k = i
                    · subst e; exact ⟨HOW.out, hl⟩
                    · exact HALL.out k hk (by omega)
                  clear hl
                  go_wp2_with fail
                  refine (refLabel C.parts[i].lv C.parts[i].cats _).mono ?_
                  rintro e w5 ⟨rfl, k5⟩
                  rw [RL.out]
                  have HC3 := Lib.hid (HC2.out.trans k5)
                  clear k5 y0 y1 y2 y3 y4 y5 y6 y7 y8 a0 a1
                  go_wp2_with fail
                  go_roundw
                  case rel => exact ⟨i + 1, by omega, by go_num, HAL2.out, HC3.out⟩
                  case measure => simp [intOf]; omega
                · have RL := Lib.hid (decide_eq_false hl)
                  have HN := Lib.hid (decide_eq_false (fun h : MayP C => hl (h.1.1 i hlt).1))
                  clear hl
                  go_wp2_with fail
                  refine (refLabel C.parts[i].lv C.parts[i].cats _).mono ?_
                  rintro e w5 ⟨rfl, k5⟩
                  rw [RL.out]
                  have HC3 := Lib.hid (HC2.out.trans k5)
                  clear k5 y0 y1 y2 y3 y4 y5 y6 y7 y8 a0 a1
                  go_wp2_with fail
                  go_ret
                  exact ⟨retB HN.out.symm, HA.out.trans HC3.out⟩
        · obtain rfl : i = C.parts.length := by omega
          have HPL := Lib.hid (show ∀ k (h : k < C.parts.length), OwnW C k ∧ LabP C.parts[k].lv C.parts[k].cats from fun k hk => HALL.out k hk hk)
          clear HALL
          obtain ⟨y0, y1, y2, y3, y4, y5, y6, y7, y8⟩ := (HP.out _ HC.out).c9'
          by_cases t0 : ¬ 0 ≤ C.quota
          · skip
            have d0 : decide (0 ≤ C.quota) = false := by simp; omega
            have HN := Lib.hid (decide_eq_false (fun h : MayP C => by have := h.2.2.2.2.2.2; omega))
            clear t0
            go_wp2_with fail
            go_ret
            exact ⟨retB HN.out.symm, HA.out.trans HC.out⟩
          · skip
            by_cases t1 : ¬ C.quota ≤ 64
            · skip
              have d0 : decide (0 ≤ C.quota) = true := by simp; omega
              have d1 : decide (C.quota ≤ 64) = false := by simp; omega
              have HN := Lib.hid (decide_eq_false (fun h : MayP C => by have := h.2.2.2.2.2.2; omega))
              clear t0 t1
              go_wp2_with fail
              go_ret
              exact ⟨retB HN.out.symm, HA.out.trans HC.out⟩
            · skip
              by_cases t2 : ¬ 1 ≤ C.quiet
              · skip
                have d0 : decide (0 ≤ C.quota) = true := by simp; omega
                have d1 : decide (C.quota ≤ 64) = true := by simp; omega
                have d2 : decide (1 ≤ C.quiet) = false := by simp; omega
                have HN := Lib.hid (decide_eq_false (fun h : MayP C => by have := h.2.2.2.2.2.2; omega))
                clear t0 t1 t2
                go_wp2_with fail
                go_ret
                exact ⟨retB HN.out.symm, HA.out.trans HC.out⟩
              · skip
                by_cases t3 : ¬ C.quiet ≤ 8
                · skip
                  have d0 : decide (0 ≤ C.quota) = true := by simp; omega
                  have d1 : decide (C.quota ≤ 64) = true := by simp; omega
                  have d2 : decide (1 ≤ C.quiet) = true := by simp; omega
                  have d3 : decide (C.quiet ≤ 8) = false := by simp; omega
                  have HN := Lib.hid (decide_eq_false (fun h : MayP C => by have := h.2.2.2.2.2.2; omega))
                  clear t0 t1 t2 t3
                  go_wp2_with fail
                  go_ret
                  exact ⟨retB HN.out.symm, HA.out.trans HC.out⟩
                · skip
                  have d0 : decide (0 ≤ C.quota) = true := by simp; omega
                  have d1 : decide (C.quota ≤ 64) = true := by simp; omega
                  have d2 : decide (1 ≤ C.quiet) = true := by simp; omega
                  have d3 : decide (C.quiet ≤ 8) = true := by simp; omega
                  have HN := Lib.hid (decide_eq_true (may_doc HD.out HPL.out ⟨by omega, by omega, by omega, by omega⟩))
                  clear t0 t1 t2 t3
                  go_wp2_with fail
                  go_ret
                  exact ⟨retB HN.out.symm, HA.out.trans HC.out⟩
    · rw [decide_eq_false hh]
      have HN := Lib.hid (decide_eq_false (fun h : MayP C => hh (head_of h)))
      clear hh
      go_wp2_with fail
      go_ret
      exact ⟨retB HN.out.symm, HA.out.trans HC.out⟩
end Go.Proofs.Ytncbcjjdnlmjbaa
