/- Configs: may grants be? -/
import Derived.Test.YtncbcjjdnlmjbaaMapG
import Derived.Deep.RegionHeld3
import Derived.Deep.DeepCutAuto
import Derived.Deep.CutBlock
set_option linter.unusedSimpArgs false
set_option linter.unusedVariables false
namespace Go.Proofs.Ytncbcjjdnlmjbaa
open Go.RowKit

set_option maxRecDepth 100000 in
set_option maxHeartbeats 4000000 in
theorem cGrants (b : Nat) (C : Cf) (s : Vs) (w : World) (h : CfP w b C s) :
    Calls Try.prog 117 #[.pointer (some ⟨b, 0, none⟩)] w fun e w' => e = .returned (.bool (decide (GrsOk C))) ∧ Chg (fun _ => False) w w' := by
  have HP : Hid (∀ wr, Chg (fun _ => False) w wr → CfP wr b C s) := fun wr hC => h.keepN hC
  obtain ⟨A1, k1, A2, k2, A3, k3, A4, k4, rfl, m1, m2, m3, m4⟩ := h.open
  have CA : Hid (∀ wr, Chg (fun _ => False) w wr → wr.cell? ⟨b, 5, none⟩ = some (.slice A4 C.grants.length k4)) := fun wr hC => (h.keepN hC).cell 5
  have c5 := CA.out (w.alloc (.map #[] 0)) ((Chg.refl _ _).alloc _)
  have hmk := run_makeMap (P := Try.prog) 214 w
  clear h
  go_enter Try.func117, Try.ntmps117
  go_wp2_with fail
  clear hmk
  go_loopw [14] (fun s wr => ∃ (j : Nat) (M : List (Int × Int)), j ≤ C.grants.length ∧ s = .int .i64 j ∧ GMapAt wr w.heap.size M ∧ (∀ q, q ∈ M ↔ ∃ k, ∃ h : k < C.grants.length, k < j ∧ q = (C.grants[k].frame, C.grants[k].to)) ∧ (∀ k (hk : k < C.grants.length), k < j → GrP C k C.grants[k]) ∧ Chg (fun _ => False) w wr) (fun s _ => C.grants.length - (intOf s).toNat)
  case atStart => exact ⟨0, [], by omega, rfl, ⟨#[], 0, blk_new _ _, rfl⟩, by simp, by intro k hk h; omega, (Chg.refl _ _).alloc _⟩
  case round =>
    clear c5
    obtain ⟨j, M, hj, rfl, hM, hMem, hall, hC⟩ := hrel
    have j0 : (0 : Int) ≤ j := by omega
    by_cases hlt : j < C.grants.length
    · have j1 : (j : Int) < C.grants.length := by omega
      obtain ⟨_, A', c', hv, hel⟩ := (HP.out wr hC).2.2.2.2
      injection hv with e1 e2 e3
      subst e1 e3
      obtain ⟨g, o, rfl, a0, a1, a2⟩ := hel j hlt
      clear hel
      have hp2 : Hid (GrP C j C.grants[j] ↔ (0 ≤ C.own C.grants[j].frame ∧ C.there C.grants[j].to ∧ C.grants[j].to ≠ C.own C.grants[j].frame ∧ (C.grants[j].frame, C.grants[j].to) ∉ M)) := by
        unfold GrP
        refine ⟨fun h => ⟨h.1, h.2.1, h.2.2.1, fun hin => ?_⟩, fun h => ⟨h.1, h.2.1, h.2.2.1, fun k hk hkj e => h.2.2.2 ((hMem _).2 ⟨k, hk, hkj, by rw [e.1, e.2]⟩)⟩⟩
        obtain ⟨k, hk, hkj, e⟩ := (hMem _).1 hin
        injection e with e1 e2
        exact h.2.2.2 k hk hkj ⟨e1.symm, e2.symm⟩
      have hnx : Hid (∀ M' : List (Int × Int), (∀ q, q ∈ M' ↔ q = (C.grants[j].frame, C.grants[j].to) ∨ q ∈ M) → ∀ q, q ∈ M' ↔ ∃ k, ∃ h : k < C.grants.length, k < j + 1 ∧ q = (C.grants[k].frame, C.grants[k].to)) := fun M' h q => by
        rw [h, hMem]
        constructor
        · rintro (rfl | ⟨k, hk, hkj, rfl⟩)
          · exact ⟨j, hlt, by omega, rfl⟩
          · exact ⟨k, hk, by omega, rfl⟩
        · rintro ⟨k, hk, hkj, rfl⟩
          by_cases e : k = j
          · subst e; exact .inl rfl
          · exact .inr ⟨k, hk, by omega, rfl⟩
      have HALL := Lib.hid hall
      have HM := Lib.hid hM
      have HC := Lib.hid hC
      clear hM hMem hall hC
      generalize C.grants[j].frame = fr at *
      generalize C.grants[j].to = gto at *
      generalize C.grants[j].write = wri at *
      have hA : Chg (fun _ => False) wr (wr.alloc (.cells #[.int .i64 fr, .int .i64 gto, .bool wri] 44)) := (Chg.refl _ _).alloc _
      have hb := blk_new wr (.cells #[.int .i64 fr, .int .i64 gto, .bool wri] 44)
      have HS : Hid (∀ W, Chg (fun _ => False) (wr.alloc (.cells #[.int .i64 fr, .int .i64 gto, .bool wri] 44)) W → W.cell? ⟨wr.heap.size, 0, none⟩ = some (.int .i64 fr) ∧ W.cell? ⟨wr.heap.size, 1, none⟩ = some (.int .i64 gto)) := fun W hW => ⟨blk_cell (hW.at hb id) 0, blk_cell (hW.at hb id) 1⟩
      have HCW := Lib.hid (HC.out.trans hA)
      have HR := Lib.hid (Chg.refl (fun _ => False) (wr.alloc (.cells #[.int .i64 fr, .int .i64 gto, .bool wri] 44)))
      clear hA hb
      have HOW : Hid (∀ W, Chg (fun _ => False) w W → Calls Try.prog 162 #[.pointer (some ⟨b, 0, none⟩), .int .i64 fr] W fun e w' => e = .returned (.int .i64 (C.own fr)) ∧ Chg (fun _ => False) W w') := fun W hW => ownerOf b fr C _ W (HP.out W hW)
      obtain ⟨d0, d1⟩ := HS.out _ HR.out
      go_upto_region 5 with fail
      go_cut [6, 7] (fun s6 s7 wx => ∃ kb, s6 = .int .i64 (C.own fr) ∧ s7 = .pointer (some ⟨kb, 0, none⟩) ∧ kb ≠ wr.heap.size ∧ wx.cell? ⟨kb, 0, none⟩ = some (.int .i64 fr) ∧ wx.cell? ⟨kb, 1, none⟩ = some (.int .i64 gto) ∧ wx.cell? ⟨kb, 2, none⟩ = some (.bool false) ∧ Chg (fun _ => False) (wr.alloc (.cells #[.int .i64 fr, .int .i64 gto, .bool wri] 44)) wx)
      case first =>
        go_region_held3 (fun W => W.cell? ⟨wr.heap.size, 0, none⟩ = some (.int .i64 fr) ∧ W.cell? ⟨wr.heap.size, 1, none⟩ = some (.int .i64 gto)) (first | exact ⟨d0, d1⟩ | exact HS.out _ HR.out.drew | exact HS.out _ (HR.out.drew.alloc _) | exact HS.out _ (HR.out.alloc _) | exact HS.out _ (HR.out.alloc _).drew | exact HS.out _ H6 | exact HS.out _ (H6.alloc _) | exact HS.out _ (((H6.setCell (fun h => by simp at h) _).setCell (fun h => by simp at h) _).setCell (fun h => by simp at h) _) | exact HS.out _ H6.drew | exact HS.out _ (H6.drew.alloc _)) (first
          | (go_at_call 162; (with_reducible refine (HOW.out _ HCW.out.drew).mono ?_); rintro e w6 ⟨rfl, k6⟩; have H6 := HR.out.drew.trans k6; have HQ := Lib.hid (HCW.out.drew.trans k6))
          | (go_at_call 162; (with_reducible refine (HOW.out _ (HCW.out.drew.alloc _)).mono ?_); rintro e w6 ⟨rfl, k6⟩; have H6 := (HR.out.drew.alloc _).trans k6; have HQ := Lib.hid ((HCW.out.drew.alloc _).trans k6))
          | (go_at_call 162; (with_reducible refine (HOW.out _ (HCW.out.alloc _).drew).mono ?_); rintro e w6 ⟨rfl, k6⟩; have H6 := (HR.out.alloc _).drew.trans k6; have hkb := k6.at (blk_new2 wr _ _) id; have z0 := blk_cell hkb 0; have z1 := blk_cell hkb 1; have z2 := blk_cell hkb 2; have f0 := blk_free hkb 0; have f1 := blk_free hkb 1; have f2 := blk_free hkb 2; have HQ := Lib.hid ((HCW.out.alloc _).drew.trans k6))
          | (go_at_call 162; trace_state; fail))
        all_goals (go_wp2_with fail; go_meet)
        · refine ⟨_, rfl, rfl, ?_, ?_, ?_, ?_, H6.alloc _⟩
          · have := H6.size; simp at this; omega
          · exact blk_cell (blk_new _ _) 0
          · exact blk_cell (blk_new _ _) 1
          · exact blk_cell (blk_new _ _) 2
        · have b1 := blk_set hkb 0 (.int .i64 fr)
          have b2 := blk_set b1 1 (.int .i64 gto)
          have b3 := blk_set b2 2 (.bool false)
          exact ⟨_, rfl, rfl, by omega, blk_cell b3 0, blk_cell b3 1, blk_cell b3 2, (((H6.setCell (fun h => by simp at h) _).setCell (fun h => by simp at h) _).setCell (fun h => by simp at h) _)⟩
      case rest =>
        obtain ⟨kb, rfl, rfl, hkne, q0, q1, q2, hQ⟩ := hcut
        have HQ : Hid (Chg (fun _ => False) w wc) := HCW.out.trans hQ
        have hM1 : GMapAt wc w.heap.size M := HM.out.keep (S := fun _ => False) (((Chg.refl _ _).alloc _).trans hQ) id
        have d1 := (HS.out wc hQ).2
        have hlook := gLook hM1 (fr, gto)
        have hT := cThere b gto C _ wc (HP.out wc HQ.out)
        obtain ⟨W', M', hrun, hM', hmem', hCm⟩ := gPut hM1 (fr, gto)
        dsimp only [gKey] at hlook hrun
        have hnext : (∀ q, q ∈ M' ↔ ∃ k, ∃ h : k < C.grants.length, k < j + 1 ∧ q = (C.grants[k].frame, C.grants[k].to)) ∧ Chg (fun _ => False) w W' :=
          ⟨hnx.out M' hmem', HQ.out.trans' hCm (fun k hk e => by omega)⟩
        have HN := Lib.hid hnext; clear hnext hCm hmem' hM1
        have HM2 := Lib.hid hM'; clear hM'
        have HT := Lib.hid hT; clear hT
        clear hQ HM hkne HOW HS HR HC HCW d0 a0 a1 a2
        by_cases h0 : 0 ≤ C.own fr
        · have b0 : decide (C.own fr < 0) = false := decide_eq_false (by omega)
          by_cases ht : C.there gto
          · rw [decide_eq_true ht] at HT
            by_cases hne : gto = C.own fr
            · have b2 : (gto == C.own fr) = true := by simpa using hne
              have HNO : Hid (¬ GrsOk C) := fun h => (hp2.out.1 (h j hlt)).2.2.1 hne
              clear ht hp2 HALL hne hlook hrun hnx
              go_wp2_with fail
              refine HT.out.mono ?_
              rintro e w7 ⟨rfl, rfl⟩
              go_wp2_with fail
              go_ret
              exact ⟨retB (decide_eq_false HNO.out).symm, HQ.out⟩
            · have b2 : (gto == C.own fr) = false := by simpa using hne
              by_cases hin : (fr, gto) ∈ M
              · rw [decide_eq_true hin] at hlook
                have HNO : Hid (¬ GrsOk C) := fun h => (hp2.out.1 (h j hlt)).2.2.2 hin
                clear ht hp2 HALL hne hrun hin hnx
                go_wp2_with fail
                refine HT.out.mono ?_
                rintro e w7 ⟨rfl, rfl⟩
                go_wp2_with fail
                go_ret
                exact ⟨retB (decide_eq_false HNO.out).symm, HQ.out⟩
              · rw [decide_eq_false hin] at hlook
                have HOK : Hid (∀ k (hk : k < C.grants.length), k < j + 1 → GrP C k C.grants[k]) := fun k hk hkj => by
                  by_cases e : k = j
                  · subst e; exact hp2.out.2 ⟨h0, ht, hne, hin⟩
                  · exact HALL.out k hk (by omega)
                clear ht hp2 HALL hne hin hnx
                go_wp2_with fail
                refine HT.out.mono ?_
                rintro e w7 ⟨rfl, rfl⟩
                go_wp2_with fail
                go_roundw
                case rel => exact ⟨j + 1, M', by omega, by go_num, HM2.out, HN.out.1, HOK.out, HN.out.2⟩
                case measure => simp [intOf]; omega
          · rw [decide_eq_false ht] at HT
            have HNO : Hid (¬ GrsOk C) := fun h => ht (hp2.out.1 (h j hlt)).2.1
            clear ht hp2 HALL hlook hrun hnx
            go_wp2_with fail
            refine HT.out.mono ?_
            rintro e w7 ⟨rfl, rfl⟩
            go_wp2_with fail
            go_ret
            exact ⟨retB (decide_eq_false HNO.out).symm, HQ.out⟩
        · have b0 : decide (C.own fr < 0) = true := decide_eq_true (by omega)
          have HNO : Hid (¬ GrsOk C) := fun h => h0 (hp2.out.1 (h j hlt)).1
          clear hp2 HALL hlook hrun hnx
          go_wp2_with fail
          go_ret
          exact ⟨retB (decide_eq_false HNO.out).symm, HQ.out⟩
    · obtain rfl : j = C.grants.length := by omega
      have HOK : Hid (GrsOk C) := fun k hk => hall k hk hk
      have HC := Lib.hid hC; clear hC hall hlt hj hMem hM
      go_wp2_with fail
      go_ret
      exact ⟨retB (decide_eq_true HOK.out).symm, HC.out⟩
end Go.Proofs.Ytncbcjjdnlmjbaa
