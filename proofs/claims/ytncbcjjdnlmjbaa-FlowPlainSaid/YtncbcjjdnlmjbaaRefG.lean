/- The document's side: may grants be? Printed by mkrefg.py. -/
import Derived.Test.YtncbcjjdnlmjbaaRefX
set_option linter.unusedSimpArgs false
set_option linter.unusedVariables false
namespace Go.Proofs.Ytncbcjjdnlmjbaa
open Go.RowKit

theorem CfP.c9' {w : World} {b : Nat} {C : Cf} {a1 a2 a3 a4 : Value} (h : CfP w b C ⟨a1, a2, a3, a4⟩) : w.cell? ⟨b, 0, none⟩ = some (.int .i64 C.frames) ∧ w.cell? ⟨b, 1, none⟩ = some a1 ∧ w.cell? ⟨b, 2, none⟩ = some a2 ∧ w.cell? ⟨b, 3, none⟩ = some (.int .i64 C.major) ∧ w.cell? ⟨b, 4, none⟩ = some a3 ∧ w.cell? ⟨b, 5, none⟩ = some a4 ∧ w.cell? ⟨b, 6, none⟩ = some (.int .i64 C.sectors) ∧ w.cell? ⟨b, 7, none⟩ = some (.int .i64 C.quota) ∧ w.cell? ⟨b, 8, none⟩ = some (.int .i64 C.quiet) :=
  ⟨h.cell 0, h.cell 1, h.cell 2, h.cell 3, h.cell 4, h.cell 5, h.cell 6, h.cell 7, h.cell 8⟩
def GrP0 (C : Cf) (o : Int) (g : Gr) : Prop := 0 ≤ o ∧ C.there g.to ∧ g.to ≠ o
instance (C : Cf) (o : Int) (g : Gr) : Decidable (GrP0 C o g) := by unfold GrP0; infer_instance
set_option maxRecDepth 100000 in
set_option maxHeartbeats 4000000 in
theorem refGrants (C : Cf) (s : Vs) (w : World) (h : s.R w C) :
    Calls Try.prog 63 #[.agg (cfc C s)] w fun e w' => e = .returned (.bool (decide (GrsOk C))) ∧ Chg (fun _ => False) w w' := by
  have hA : Chg (fun _ => False) w (w.alloc (.cells (cfc C s) 27)) := (Chg.refl _ _).alloc _
  have HP : Hid (∀ W, Chg (fun _ => False) (w.alloc (.cells (cfc C s) 27)) W → CfP W w.heap.size C s) := byVal h
  have HA := Lib.hid hA; clear hA h
  obtain ⟨A1, k1, A2, k2, A3, k3, A4, k4, rfl, m1, m2, m3, m4⟩ := (HP.out _ (Chg.refl _ _)).open
  unfold cfc at *
  go_enter Try.func63, Try.ntmps63
  go_upto_region 1 with fail
  generalize (w.alloc (.cells #[.int .i64 C.frames, .slice A1 C.parts.length k1, .slice A2 C.devs.length k2, .int .i64 C.major, .slice A3 C.wins.length k3, .slice A4 C.grants.length k4, .int .i64 C.sectors, .int .i64 C.quota, .int .i64 C.quiet] 27)) = W0 at *
  generalize w.heap.size = b at *
  have C0 := Lib.hid (Chg.refl (fun _ => False) W0)
  go_wp2_with fail
  go_loopw [3] (fun s3 wr => ∃ i : Nat, i ≤ C.grants.length ∧ s3 = .int .i64 i ∧ (∀ k (h : k < C.grants.length), k < i → GrP C k C.grants[k]) ∧ Chg (fun _ => False) W0 wr) (fun s3 _ => (C.grants.length - intOf s3).toNat)
  case atStart => exact ⟨0, by omega, rfl, by intro k h hk; omega, C0.out⟩
  case round =>
    clear C0
    obtain ⟨i, hi, rfl, hall, hC⟩ := hrel
    have i0 : (0 : Int) ≤ i := by omega
    have HALL := Lib.hid hall; clear hall
    have HC := Lib.hid hC; clear hC
    obtain ⟨y0, y1, y2, y3, y4, y5, y6, y7, y8⟩ := (HP.out wr HC.out).c9'
    by_cases hlt : i < C.grants.length
    · have i1 : (i : Int) < C.grants.length := by omega
      obtain ⟨_, A', c', hv, hel⟩ := (HP.out wr HC.out).2.2.2.2
      injection hv with e1 e2 e3
      subst e1 e3
      obtain ⟨g, o, rfl, a0, a1, a2⟩ := hel i hlt
      clear hel e2
      obtain ⟨X, hX⟩ : ∃ X, X = C.grants[i] := ⟨_, rfl⟩
      have HX := Lib.hid hX
      rw [← hX] at a0 a1 a2
      clear hX
      go_upto_region 5 with fail
      obtain ⟨W1, hW1⟩ : ∃ W, W = wr.alloc (.cells #[.int .i64 X.frame, .int .i64 X.to, .bool X.write] 44) := ⟨_, rfl⟩
      have hbk := blk_new wr (.cells #[.int .i64 X.frame, .int .i64 X.to, .bool X.write] 44)
      have hC1 : Chg (fun _ => False) wr W1 := by rw [hW1]; exact (Chg.refl _ _).alloc _
      rw [← hW1] at hbk
      rw [← hW1]
      have HC1 := Lib.hid (HC.out.trans hC1)
      have HBK : Hid (∀ W, Chg (fun _ => False) W1 W → W.cell? ⟨wr.heap.size, 0, none⟩ = some (.int .i64 X.frame) ∧ W.cell? ⟨wr.heap.size, 1, none⟩ = some (.int .i64 X.to)) := fun W hW => ⟨blk_cell (hW.at hbk id) 0, blk_cell (hW.at hbk id) 1⟩
      generalize wr.heap.size = bg at *
      clear hbk hC1 hW1 HC y0 y1 y2 y3 y4 y5 y6 y7 y8 a0 a1 a2
      obtain ⟨y0, y1, y2, y3, y4, y5, y6, y7, y8⟩ := (HP.out W1 HC1.out).c9'
      obtain ⟨x0, x1⟩ := HBK.out W1 (Chg.refl _ _)
      go_wp2_with fail
      refine (refOwner X.frame C _ _ (HP.out W1 HC1.out).2).mono ?_
      rintro e w2 ⟨rfl, k2⟩
      have HC2 := Lib.hid (HC1.out.trans k2)
      clear y0 y1 y2 y3 y4 y5 y6 y7 y8 x0 x1
      obtain ⟨y0, y1, y2, y3, y4, y5, y6, y7, y8⟩ := (HP.out w2 HC2.out).c9'
      obtain ⟨x0, x1⟩ := HBK.out w2 k2
      have HBK2 : Hid (∀ W, Chg (fun _ => False) w2 W → W.cell? ⟨bg, 0, none⟩ = some (.int .i64 X.frame) ∧ W.cell? ⟨bg, 1, none⟩ = some (.int .i64 X.to)) := fun W hW => HBK.out W (k2.trans hW)
      clear k2 HBK HC1
      obtain ⟨O, hO⟩ : ∃ O, O = C.own X.frame := ⟨_, rfl⟩
      have HO := Lib.hid hO
      rw [← hO]
      clear hO
      go_upto_region 6 with fail
      go_cut [43] (fun s wx => s = .bool (!decide (GrP0 C O X)) ∧ wx = w2)
      case first =>
        by_cases t0 : O < 0
        · skip
          have d0_0 : decide (O < 0) = true := by first | (simpa using t0) | (simp; omega)
          have EN := Lib.hid (show true = !decide (GrP0 C O X) from by rw [decide_eq_false (fun h : GrP0 C O X => by unfold GrP0 Cf.there at h; omega)]; rfl)
          clear t0
          go_wp2_with fail
          go_meet
          exact ⟨congrArg Value.bool EN.out, rfl⟩
        · skip
          have d0_0 : decide (O < 0) = false := by first | (simpa using t0) | (simp; omega)
          by_cases t1 : X.to < 0
          · skip
            have d1_0 : decide (X.to < 0) = true := by first | (simpa using t1) | (simp; omega)
            have EN := Lib.hid (show true = !decide (GrP0 C O X) from by rw [decide_eq_false (fun h : GrP0 C O X => by unfold GrP0 Cf.there at h; omega)]; rfl)
            clear t0 t1
            go_wp2_with fail
            go_meet
            exact ⟨congrArg Value.bool EN.out, rfl⟩
          · skip
            have d1_0 : decide (X.to < 0) = false := by first | (simpa using t1) | (simp; omega)
            by_cases t2 : (C.parts.length : Int) ≤ X.to
            · skip
              have d2_0 : decide ((C.parts.length : Int) ≤ X.to) = true := by first | (simpa using t2) | (simp; omega)
              have EN := Lib.hid (show true = !decide (GrP0 C O X) from by rw [decide_eq_false (fun h : GrP0 C O X => by unfold GrP0 Cf.there at h; omega)]; rfl)
              clear t0 t1 t2
              go_wp2_with fail
              go_meet
              exact ⟨congrArg Value.bool EN.out, rfl⟩
            · skip
              have d2_0 : decide ((C.parts.length : Int) ≤ X.to) = false := by first | (simpa using t2) | (simp; omega)
              by_cases t3 : X.to = O
              · skip
                have d3_0 : (X.to == O) = true := by first | (simpa using t3) | (simp; omega)
                have EN := Lib.hid (show true = !decide (GrP0 C O X) from by rw [decide_eq_false (fun h : GrP0 C O X => by unfold GrP0 Cf.there at h; omega)]; rfl)
                clear t0 t1 t2 t3
                go_wp2_with fail
                go_meet
                exact ⟨congrArg Value.bool EN.out, rfl⟩
              · skip
                have d3_0 : (X.to == O) = false := by first | (simpa using t3) | (simp; omega)
                have EN := Lib.hid (show false = !decide (GrP0 C O X) from by rw [decide_eq_true (show GrP0 C O X from by unfold GrP0 Cf.there; omega)]; rfl)
                clear t0 t1 t2 t3
                go_wp2_with fail
                go_meet
                exact ⟨congrArg Value.bool EN.out, rfl⟩
      case rest =>
        obtain ⟨rfl, e0⟩ := hcut
        subst e0
        clear y0 y1 y2 y3 y4 y5 y6 y7 y8 x0 x1
        by_cases hw : GrP0 C O X
        · rw [decide_eq_true hw]
          have HW := Lib.hid hw; clear hw
          go_wp2_with fail
          go_loopw [6] (fun s6 wr => ∃ j : Nat, j ≤ i ∧ s6 = .int .i64 j ∧ (∀ k (h : k < C.grants.length), k < j → ¬ (C.grants[k].frame = X.frame ∧ C.grants[k].to = X.to)) ∧ Chg (fun _ => False) wc wr) (fun s6 _ => (i - intOf s6).toNat)
          case atStart => exact ⟨0, by omega, rfl, by intro k h hk; omega, Chg.refl _ _⟩
          case round =>
            obtain ⟨j, hj, rfl, hno, hD⟩ := hrel
            have j0 : (0 : Int) ≤ j := by omega
            have HNO := Lib.hid hno; clear hno
            have HC3 := Lib.hid (HC2.out.trans hD)
            have HD := Lib.hid hD
            obtain ⟨x0, x1⟩ := HBK2.out wr hD
            clear hD
            by_cases hjl : j < i
            · have j1 : (j : Int) < i := by omega
              have j2 : (j : Int) < C.grants.length := by omega
              have hjg : j < C.grants.length := by omega
              have y5 := (HP.out wr HC3.out).cell 5
              replace y5 : wr.cell? ⟨b, 5, none⟩ = some (.slice (some ⟨g, o, none⟩) C.grants.length k4) := y5
              obtain ⟨_, A', c', hv, hel⟩ := (HP.out wr HC3.out).2.2.2.2
              injection hv with e1 e2 e3
              subst e1 e3
              obtain ⟨g', o', e4, a0, a1, a2⟩ := hel j hjg
              injection e4 with e4; injection e4 with e4 e5
              subst e4 e5
              clear hel e2 a2
              by_cases hf : C.grants[j].frame = X.frame
              · have hfb : (C.grants[j].frame == X.frame) = true := by simpa using hf
                by_cases ht : C.grants[j].to = X.to
                · have htb : (C.grants[j].to == X.to) = true := by simpa using ht
                  have HN := Lib.hid (decide_eq_false (fun h : GrsOk C => (h i hlt).2.2.2 j hjg hjl (by rw [← HX.out]; exact ⟨hf, ht⟩)))
                  clear hf ht
                  go_upto_region 11 with fail
                  go_quiet (fail)
                  go_wp2_with fail
                  go_ret
                  exact ⟨retB HN.out.symm, HA.out.trans (HC3.out.drewN _)⟩
                · have htb : (C.grants[j].to == X.to) = false := by simpa using ht
                  have HN2 : Hid (∀ k (h : k < C.grants.length), k < j + 1 → ¬ (C.grants[k].frame = X.frame ∧ C.grants[k].to = X.to)) := fun k hk hkj => by
                    by_cases e : k = j
                    · subst e; exact fun h => ht h.2
                    · exact HNO.out k hk (by omega)
                  clear hf ht
                  go_upto_region 11 with fail
                  go_quiet (fail)
                  go_wp2_with fail
                  go_roundw
                  case rel => exact ⟨j + 1, by omega, by go_num, HN2.out, HD.out.drewN _⟩
                  case measure => simp [intOf]; omega
              · have hfb : (C.grants[j].frame == X.frame) = false := by simpa using hf
                have HN2 : Hid (∀ k (h : k < C.grants.length), k < j + 1 → ¬ (C.grants[k].frame = X.frame ∧ C.grants[k].to = X.to)) := fun k hk hkj => by
                  by_cases e : k = j
                  · subst e; exact fun h => hf h.1
                  · exact HNO.out k hk (by omega)
                clear hf
                go_upto_region 11 with fail
                go_quiet (fail)
                go_wp2_with fail
                go_roundw
                case rel => exact ⟨j + 1, by omega, by go_num, HN2.out, HD.out.drewN _⟩
                case measure => simp [intOf]; omega
            · obtain rfl : j = i := by omega
              have HAL2 : Hid (∀ k (h : k < C.grants.length), k < j + 1 → GrP C k C.grants[k]) := fun k hk hki => by
                by_cases e : k = j
                · subst e
                  have hgp := HW.out
                  unfold GrP0 at hgp
                  rw [HO.out, HX.out] at hgp
                  exact ⟨hgp.1, hgp.2.1, hgp.2.2, fun q hq hqk => by have := HNO.out q hq hqk; rw [HX.out] at this; exact this⟩
                · exact HALL.out k hk (by omega)
              clear x0 x1
              go_wp2_with fail
              go_roundw
              case rel => exact ⟨j + 1, by omega, by go_num, HAL2.out, HC3.out⟩
              case measure => simp [intOf]; omega
        · rw [decide_eq_false hw]
          have HN := Lib.hid (decide_eq_false (fun h : GrsOk C => hw (by have := h i hlt; unfold GrP0; rw [HO.out, HX.out]; exact ⟨this.1, this.2.1, this.2.2.1⟩)))
          clear hw
          go_wp2_with fail
          go_ret
          exact ⟨retB HN.out.symm, HA.out.trans HC2.out⟩
    · obtain rfl : i = C.grants.length := by omega
      have HN := Lib.hid (decide_eq_true (show GrsOk C from fun k hk => HALL.out k hk hk))
      go_wp2_with fail
      go_ret
      exact ⟨retB HN.out.symm, HA.out.trans HC.out⟩
end Go.Proofs.Ytncbcjjdnlmjbaa
