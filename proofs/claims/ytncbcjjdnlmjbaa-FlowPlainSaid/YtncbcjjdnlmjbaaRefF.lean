/- The document's side: are all frames of a config there, and unlike? Printed by mkreff.py. -/
import Derived.Test.YtncbcjjdnlmjbaaRefG
import Derived.Test.YtncbcjjdnlmjbaaCfgT
import Derived.Test.YtncbcjjdnlmjbaaAppRow0
set_option linter.unusedSimpArgs false
set_option linter.unusedVariables false
namespace Go.Proofs.Ytncbcjjdnlmjbaa
open Go.RowKit

theorem RdN.rowc {w : World} {A : Option Addr} {n c : Nat} {L : List Int} (h : RdN w (.slice A n c) L) : RowC w A (L.flatMap icell) := by
  obtain ⟨_, A', c', e, h⟩ := h
  injection e with e1 e2 e3
  subst e1 e3
  intro j u hu
  have hj : j < L.length := by
    rcases Nat.lt_or_ge j L.length with h' | h'
    · exact h'
    · rw [List.getElem?_eq_none (by rw [flat_len icell 1 (fun _ => rfl)]; omega)] at hu; cases hu
  rw [icells L j hj] at hu
  injection hu with hu; subst hu
  obtain ⟨g, o, e, hc⟩ := h j hj
  exact ⟨g, o, e, hc⟩
theorem onceL_app (n : Int) : ∀ (L S : List Int) (f : Int), onceL n S (L ++ [f]) = (onceL n S L).bind (fun S' => if 0 ≤ f ∧ f < n ∧ f ∉ S' then some (f :: S') else none)
  | [], S, f => by simp [onceL]
  | x :: L, S, f => by
    simp only [List.cons_append, onceL]
    split
    · exact onceL_app n L _ f
    · rfl
theorem onceL_none (n : Int) : ∀ (L M S : List Int), onceL n S L = none → onceL n S (L ++ M) = none
  | [], M, S, h => by simp [onceL] at h
  | x :: L, M, S, h => by
    simp only [List.cons_append, onceL] at h ⊢
    split
    · rename_i hx; rw [if_pos hx] at h; exact onceL_none n L M _ h
    · rfl
def PrOk (p : Prt) : Prop := 1 ≤ p.fr.length ∧ p.fr.length ≤ 64
instance (p : Prt) : Decidable (PrOk p) := by unfold PrOk; infer_instance
def FrDoc (C : Cf) : Prop := (∀ i (h : i < C.parts.length), PrOk C.parts[i]) ∧ (∀ i (h : i < C.devs.length), DevOk C C.devs[i]) ∧ (onceL C.frames [] C.allFr).isSome
instance (C : Cf) : Decidable (FrDoc C) := by unfold FrDoc; infer_instance
theorem Try.infoInt : (Try.prog.info? 3).map (fun i => (i.zero, i.size, i.bytes)) = some (some (.int .i64 0), 1, 8) := by kernel_rfl
def flP (L : List Prt) : List Int := L.flatMap (·.fr)
def flD (L : List Dv) : List Int := L.flatMap (·.pool)
theorem flP_succ (L : List Prt) (i : Nat) (h : i < L.length) : flP (L.take (i + 1)) = flP (L.take i) ++ L[i].fr := by
  unfold flP; rw [List.take_succ_eq_append_getElem h, List.flatMap_append]; simp
theorem flD_succ (L : List Dv) (i : Nat) (h : i < L.length) : flD (L.take (i + 1)) = flD (L.take i) ++ L[i].pool := by
  unfold flD; rw [List.take_succ_eq_append_getElem h, List.flatMap_append]; simp
/-- One frame behind others. -/
theorem once_step (n : Int) (L : List Int) (i : Nat) (hi : i < L.length) (S : List Int) (gg : Nat → Bool) (hS : onceL n [] (L.take i) = some S) (hg : ∀ j : Nat, gg j = decide ((j : Int) ∈ S)) (f : Nat) (hf : L[i] = (f : Int)) (hn : (f : Int) < n) (hu : gg f = false) :
    ∃ S', onceL n [] (L.take (i + 1)) = some S' ∧ ∀ j : Nat, upd gg f true j = decide ((j : Int) ∈ S') := by
  have hnot : (f : Int) ∉ S := by rw [hg] at hu; exact of_decide_eq_false hu
  refine ⟨(f : Int) :: S, ?_, fun j => ?_⟩
  · rw [List.take_succ_eq_append_getElem hi, onceL_app, hS, hf]
    simp only [Option.bind_some]
    rw [if_pos ⟨by omega, hn, hnot⟩]
  · unfold upd
    by_cases e : j = f
    · subst e; rw [if_pos rfl]; exact (decide_eq_true (List.mem_cons_self)).symm
    · rw [if_neg e, hg]
      exact decide_eq_decide.2 ⟨fun h => List.mem_cons_of_mem _ h, fun h => by
        rcases List.mem_cons.1 h with h | h
        · omega
        · exact h⟩
theorem once_stop (n : Int) (L : List Int) (i : Nat) (hi : i < L.length) (S : List Int) (hS : onceL n [] (L.take i) = some S) (hbad : ¬ (0 ≤ L[i] ∧ L[i] < n ∧ L[i] ∉ S)) : ¬ (onceL n [] L).isSome := by
  have h1 : onceL n [] (L.take (i + 1)) = none := by
    rw [List.take_succ_eq_append_getElem hi, onceL_app, hS]
    simp only [Option.bind_some]
    rw [if_neg hbad]
  have h2 := onceL_none n _ (L.drop (i + 1)) [] h1
  rw [List.take_append_drop] at h2
  rw [h2]; simp
set_option maxRecDepth 100000 in
set_option maxHeartbeats 4000000 in
theorem refFrames (C : Cf) (s : Vs) (w : World) (h : s.R w C) (np : C.parts.length ≤ 4) (nd : C.devs.length ≤ 4) (f0 : 1 ≤ C.frames) (f1 : C.frames ≤ 64) :
    Calls Try.prog 62 #[.agg (cfc C s)] w fun e w' => e = .returned (.bool (decide (FrDoc C))) ∧ Chg (fun _ => False) w w' := by
  obtain ⟨q0, hi0, hz0, hz1, hz2⟩ := info_parts Try.infoInt
  have hA : Chg (fun _ => False) w (w.alloc (.cells (cfc C s) 27)) := (Chg.refl _ _).alloc _
  have HP : Hid (∀ W, Chg (fun _ => False) (w.alloc (.cells (cfc C s) 27)) W → CfP W w.heap.size C s) := byVal h
  have HA := Lib.hid hA; clear hA h
  obtain ⟨A1, k1, A2, k2, A3, k3, A4, k4, rfl, m1, m2, m3, m4⟩ := (HP.out _ (Chg.refl _ _)).open
  unfold cfc at *
  go_enter Try.func62, Try.ntmps62
  go_upto_region 2 with fail
  refine wp_abs (fun W => ArrC bcell 1 W (w.heap.size + 1) 170 64 (fun _ => false) ∧ (∀ W', Chg (fun _ => False) W W' → CfP W' w.heap.size C ⟨.slice A1 C.parts.length k1, .slice A2 C.devs.length k2, .slice A3 C.wins.length k3, .slice A4 C.grants.length k4⟩) ∧ Chg (fun _ => False) w W ∧ w.heap.size + 2 = W.heap.size) ?_ ?_
  · exact ⟨arrB_zero (blk_new2 w _ _), fun W' hW => HP.out _ (((Chg.refl _ _).alloc _).trans hW), HA.out.alloc _, by simp⟩
  clear HA HP
  rintro W0 ⟨hz, hh, hA, hsz⟩
  have HP := Lib.hid hh
  have HZ := Lib.hid hz
  have HA := Lib.hid hA
  have HB0 := Lib.hid (Nat.le_refl W0.heap.size)
  have HQ := Lib.hid hsz
  obtain ⟨B0, hB0⟩ : ∃ B0, B0 = W0.heap.size := ⟨_, rfl⟩
  have HB : Hid (B0 = W0.heap.size) := hB0
  replace HB0 : Hid (W0.heap.size ≤ B0) := by rw [hB0]; exact Nat.le_refl _
  clear hh hz hA hsz hB0
  generalize hb : w.heap.size = b at *
  have HBW := Lib.hid hb; clear hb
  have hC0 := Chg.refl (fun _ => False) W0
  have HC := Lib.hid hC0; clear hC0
  have hO0 := OwnC.nil (cells := icell) (C := 1) (e := 3) W0 B0
  have HO0 := Lib.hid hO0; clear hO0
  go_wp2_with fail
  go_loopw [4, 5] (fun s4 s5 wr => ∃ i : Nat, i ≤ C.parts.length ∧ s5 = .int .i64 i ∧ OwnC icell 1 3 wr B0 s4 (flP (C.parts.take i)) ∧ (flP (C.parts.take i)).length ≤ 64 * i ∧ (∀ k (h : k < C.parts.length), k < i → PrOk C.parts[k]) ∧ Chg (fun _ => False) W0 wr) (fun s4 s5 _ => (C.parts.length - intOf s5).toNat)
  case atStart => exact ⟨0, by omega, rfl, by simpa [flP] using HO0.out, by simp [flP], by intro k h hk; omega, HC.out⟩
  case round =>
    clear HC HO0
    obtain ⟨i, hi, rfl, how, hlen, hall, hC⟩ := hrel
    have i0 : (0 : Int) ≤ i := by omega
    have HALL := Lib.hid hall; clear hall
    have HC := Lib.hid hC; clear hC
    obtain ⟨y0, y1, y2, y3, y4, y5, y6, y7, y8⟩ := (HP.out wr HC.out).c9'
    by_cases hlt : i < C.parts.length
    · have i1 : (i : Int) < C.parts.length := by omega
      obtain ⟨_, A', c', hv, hel⟩ := (HP.out wr HC.out).2.1
      injection hv with e1 e2 e3
      subst e1 e3
      obtain ⟨g, o, F, rfl, _, _, a2, _, _, hF⟩ := hel i hlt
      clear hel e2
      obtain ⟨hfm, FA, fc, rfl⟩ := hF.form
      have hsr := hF.rowc
      have HSRC := Lib.hid hsr; clear hsr hF
      have hfm' : (C.parts[i].fr.length : Int) ≤ 9223372036854775807 := by unfold maxLen at hfm; omega
      by_cases hpr : PrOk C.parts[i]
      · have hpr' := hpr
        unfold PrOk at hpr'
        have t0 : decide ((C.parts[i].fr.length : Int) < 1) = false := decide_eq_false (by omega)
        have t1 : decide (64 < (C.parts[i].fr.length : Int)) = false := decide_eq_false (by omega)
        have T0 : decide (C.parts[i].fr.length < 1) = false := decide_eq_false (by omega)
        obtain ⟨AA, kk, rfl⟩ := how.slice
        have hLT : ∀ k, Value.ownBlock (.slice AA (flP (C.parts.take i)).length kk) = some k → B0 ≤ k := fun k hk => (own_lt how hk).1
        have HLT := Lib.hid hLT; clear hLT
        have HOW := Lib.hid how; clear how
        have HFL := Lib.hid (flP_succ C.parts i hlt)
        have HLEN : Hid ((flP (C.parts.take (i + 1))).length ≤ 64 * (i + 1)) := by show _ ≤ _; rw [flP_succ C.parts i hlt, List.length_append]; omega
        have HAL2 : Hid (∀ k (h : k < C.parts.length), k < i + 1 → PrOk C.parts[k]) := fun k hk hki => by
          by_cases e : k = i
          · subst e; exact hpr
          · exact HALL.out k hk (by omega)
        have HB1 : Hid ((flP (C.parts.take i)).length + C.parts[i].fr.length ≤ maxLen) := by unfold Hid maxLen; omega
        have HB2 : Hid (((flP (C.parts.take i)).length + C.parts[i].fr.length) * 8 ≤ 140737488355328) := by unfold Hid; omega
        have HB3 : Hid (B0 ≤ wr.heap.size) := by have := HC.out.size; have := HB.out; unfold Hid; omega
        generalize hX : C.parts[i].fr = X at *
        clear hX
        generalize hL : flP (C.parts.take i) = LL at *
        clear hL hlen hpr hpr' hfm
        go_wp2_with
          (at_builtin
           refine wpList_append_row _ rfl _ _ 38 rfl B0 3 q0 (.int .i64 0) 1 8 Try.underlying38 hi0 hz0 hz1 hz2 rfl (by decide) (.slice AA LL.length kk) LL.length (LL.flatMap icell) rfl HOW.out (FA) X.length _ (X.flatMap icell) rfl (by rw [flat_len icell 1 (fun _ => rfl)]) HSRC.out (by intro u hu; obtain ⟨x, _, hx⟩ := List.mem_flatMap.1 hu; simp [icell] at hx; subst hx; rfl) HB1.out HB2.out HB3.out ?_
           intro v5 w5 hown5 hgr hat5
           have hf : OwnC icell 1 3 w5 B0 v5 (LL ++ X) ∧ Chg (fun _ => False) W0 w5 := by
             refine ⟨by simpa [OwnC, List.flatMap_append] using hown5, ?_⟩
             exact Chg.grown HC.out hgr (fun k hk hlt => by have := HLT.out k hk; have := HB0.out; omega)
           have HF := Lib.hid hf; clear hf hown5 hgr hat5)
        go_wp2_with fail
        go_roundw
        case rel => exact ⟨i + 1, by omega, by go_num, by rw [HFL.out]; exact HF.out.1, HLEN.out, HAL2.out, HF.out.2⟩
        case measure => simp [intOf]; omega
      · have HN := Lib.hid (decide_eq_false (fun h : FrDoc C => hpr (h.1 i hlt)))
        unfold PrOk at hpr
        by_cases t : C.parts[i].fr.length < 1
        · have t0 : decide ((C.parts[i].fr.length : Int) < 1) = true := decide_eq_true (by omega)
          have T0 : decide (C.parts[i].fr.length < 1) = true := decide_eq_true (by omega)
          clear hpr
          go_wp2_with fail
          go_ret
          exact ⟨retB HN.out.symm, HA.out.trans HC.out⟩
        · have t0 : decide ((C.parts[i].fr.length : Int) < 1) = false := decide_eq_false (by omega)
          have t1 : decide (64 < (C.parts[i].fr.length : Int)) = true := decide_eq_true (by omega)
          have T0 : decide (C.parts[i].fr.length < 1) = false := decide_eq_false (by omega)
          have T1 : decide (64 < C.parts[i].fr.length) = true := decide_eq_true (by omega)
          clear hpr
          go_wp2_with fail
          go_ret
          exact ⟨retB HN.out.symm, HA.out.trans HC.out⟩
    · obtain rfl : i = C.parts.length := by omega
      rw [List.take_length] at how hlen
      have HOK := Lib.hid (show ∀ k (h : k < C.parts.length), PrOk C.parts[k] from fun k hk => HALL.out k hk hk)
      clear HALL
      have HLP : Hid ((flP C.parts).length ≤ 256) := by unfold Hid; omega
      generalize hPP : flP C.parts = PP at *
      have HPP := Lib.hid hPP; clear hPP hlen y0 y1 y2 y3 y4 y5 y6 y7 y8
      obtain ⟨AA0, kk0, rfl⟩ := how.slice
      have HOW0 := Lib.hid how; clear how
      obtain ⟨y0, y1, y2, y3, y4, y5, y6, y7, y8⟩ := (HP.out wr HC.out).c9'
      go_wp2_with fail
      clear y0 y1 y2 y3 y4 y5 y6 y7 y8
      go_loopw [4, 6] (fun s4 s6 wr => ∃ i : Nat, i ≤ C.devs.length ∧ s6 = .int .i64 i ∧ OwnC icell 1 3 wr B0 s4 (PP ++ flD (C.devs.take i)) ∧ (flD (C.devs.take i)).length ≤ 5 * i ∧ (∀ k (h : k < C.devs.length), k < i → DevOk C C.devs[k]) ∧ Chg (fun _ => False) W0 wr) (fun s4 s6 _ => (C.devs.length - intOf s6).toNat)
      case atStart => exact ⟨0, by omega, rfl, by simpa [flD] using HOW0.out, by simp [flD], by intro k h hk; omega, HC.out⟩
      case round =>
        clear HC HOW0
        obtain ⟨i, hi, rfl, how, hlen, hall, hC⟩ := hrel
        have i0 : (0 : Int) ≤ i := by omega
        have HALL := Lib.hid hall; clear hall
        have HC := Lib.hid hC; clear hC
        obtain ⟨y0, y1, y2, y3, y4, y5, y6, y7, y8⟩ := (HP.out wr HC.out).c9'
        by_cases hlt : i < C.devs.length
        · have i1 : (i : Int) < C.devs.length := by omega
          obtain ⟨_, A', c', hv, hel⟩ := (HP.out wr HC.out).2.2.1
          injection hv with e1 e2 e3
          subst e1 e3
          obtain ⟨g, o, F, rfl, a1, a2, hF⟩ := hel i hlt
          clear hel e2
          obtain ⟨hfm, FA, fc, rfl⟩ := hF.form
          have hfm' : (C.devs[i].pool.length : Int) ≤ 9223372036854775807 := by unfold maxLen at hfm; omega
          obtain ⟨D, hD⟩ : ∃ D, D = C.devs[i] := ⟨_, rfl⟩
          have HD := Lib.hid hD
          rw [← hD] at a1 a2 hF hfm'
          clear hfm
          obtain ⟨Wb, hWb⟩ : ∃ W, W = wr.alloc (.cells #[.int .i64 D.part, .slice FA D.pool.length fc] 42) := ⟨_, rfl⟩
          have hCb : Chg (fun _ => False) wr Wb := by rw [hWb]; exact (Chg.refl _ _).alloc _
          have hsr := (hF.keepN hCb).rowc
          have HSRC := Lib.hid hsr; clear hsr hF
          replace how := how.keep hCb (fun _ _ => id)
          go_upto_region 13 with fail
          rw [← hD, ← hWb]
          have hbx := blk_new wr (.cells #[.int .i64 D.part, .slice FA D.pool.length fc] 42)
          rw [← hWb] at hbx
          have HCb := Lib.hid (HC.out.trans hCb)
          clear y0 y1 y2 y3 y4 y5 y6 y7 y8 a1 a2 hD hWb HC hCb
          obtain ⟨y0, y1, y2, y3, y4, y5, y6, y7, y8⟩ := (HP.out Wb HCb.out).c9'
          have x0 := blk_cell hbx 0
          have x1 := blk_cell hbx 1
          simp only [List.getElem?_toArray, List.getElem?_cons_zero, List.getElem?_cons_succ] at x0 x1
          generalize wr.heap.size = bd at *
          clear hbx
          go_cut [76] (fun s wx => s = .bool (!decide (DevOk C D)) ∧ wx = Wb)
          case first =>
            clear how hlen
            by_cases t0 : D.part < 0
            · skip
              have d0_0 : decide (D.part < 0) = true := by first | (simpa using t0) | (simp; omega)
              have EN := Lib.hid (show true = !decide (DevOk C D) from by rw [decide_eq_false (fun h : DevOk C D => by unfold DevOk Cf.there at h; omega)]; rfl)
              clear t0
              go_wp2_with fail
              go_meet
              exact ⟨congrArg Value.bool EN.out, rfl⟩
            · skip
              have d0_0 : decide (D.part < 0) = false := by first | (simpa using t0) | (simp; omega)
              by_cases t1 : (C.parts.length : Int) ≤ D.part
              · skip
                have d1_0 : decide ((C.parts.length : Int) ≤ D.part) = true := by first | (simpa using t1) | (simp; omega)
                have EN := Lib.hid (show true = !decide (DevOk C D) from by rw [decide_eq_false (fun h : DevOk C D => by unfold DevOk Cf.there at h; omega)]; rfl)
                clear t0 t1
                go_wp2_with fail
                go_meet
                exact ⟨congrArg Value.bool EN.out, rfl⟩
              · skip
                have d1_0 : decide ((C.parts.length : Int) ≤ D.part) = false := by first | (simpa using t1) | (simp; omega)
                by_cases t2 : D.pool.length < 2
                · skip
                  have d2_0 : decide (D.pool.length < 2) = true := by first | (simpa using t2) | (simp; omega)
                  have d2_1 : decide ((D.pool.length : Int) < 2) = true := by first | (simpa using t2) | (simp; omega)
                  have EN := Lib.hid (show true = !decide (DevOk C D) from by rw [decide_eq_false (fun h : DevOk C D => by unfold DevOk Cf.there at h; omega)]; rfl)
                  clear t0 t1 t2
                  go_wp2_with fail
                  go_meet
                  exact ⟨congrArg Value.bool EN.out, rfl⟩
                · skip
                  have d2_0 : decide (D.pool.length < 2) = false := by first | (simpa using t2) | (simp; omega)
                  have d2_1 : decide ((D.pool.length : Int) < 2) = false := by first | (simpa using t2) | (simp; omega)
                  by_cases t3 : 5 < D.pool.length
                  · skip
                    have d3_0 : decide (5 < D.pool.length) = true := by first | (simpa using t3) | (simp; omega)
                    have d3_1 : decide (5 < (D.pool.length : Int)) = true := by first | (simpa using t3) | (simp; omega)
                    have EN := Lib.hid (show true = !decide (DevOk C D) from by rw [decide_eq_false (fun h : DevOk C D => by unfold DevOk Cf.there at h; omega)]; rfl)
                    clear t0 t1 t2 t3
                    go_wp2_with fail
                    go_meet
                    exact ⟨congrArg Value.bool EN.out, rfl⟩
                  · skip
                    have d3_0 : decide (5 < D.pool.length) = false := by first | (simpa using t3) | (simp; omega)
                    have d3_1 : decide (5 < (D.pool.length : Int)) = false := by first | (simpa using t3) | (simp; omega)
                    have EN := Lib.hid (show false = !decide (DevOk C D) from by rw [decide_eq_true (show DevOk C D from by unfold DevOk Cf.there; omega)]; rfl)
                    clear t0 t1 t2 t3
                    go_wp2_with fail
                    go_meet
                    exact ⟨congrArg Value.bool EN.out, rfl⟩
          case rest =>
            obtain ⟨rfl, e0⟩ := hcut
            subst e0
            by_cases hw : DevOk C D
            · rw [decide_eq_true hw]
              have hpl : D.pool.length ≤ 5 := hw.2.2
              have HAL2 : Hid (∀ k (h : k < C.devs.length), k < i + 1 → DevOk C C.devs[k]) := fun k hk hki => by
                by_cases e : k = i
                · subst e; rw [← HD.out]; exact hw
                · exact HALL.out k hk (by omega)
              clear hw
              obtain ⟨AA, kk, rfl⟩ := how.slice
              have hLT : ∀ k, Value.ownBlock (.slice AA (PP ++ flD (C.devs.take i)).length kk) = some k → B0 ≤ k := fun k hk => (own_lt how hk).1
              have HLT := Lib.hid hLT; clear hLT
              have HOW := Lib.hid how; clear how
              have HFL : Hid (PP ++ flD (C.devs.take (i + 1)) = PP ++ flD (C.devs.take i) ++ D.pool) := by unfold Hid; rw [flD_succ C.devs i hlt, ← HD.out, List.append_assoc]
              have HLEN : Hid ((flD (C.devs.take (i + 1))).length ≤ 5 * (i + 1)) := by show _ ≤ _; rw [flD_succ C.devs i hlt, ← HD.out, List.length_append]; omega
              have HB1 : Hid ((PP ++ flD (C.devs.take i)).length + D.pool.length ≤ maxLen) := by have := HLP.out; unfold Hid maxLen; rw [List.length_append]; omega
              have HB2 : Hid (((PP ++ flD (C.devs.take i)).length + D.pool.length) * 8 ≤ 140737488355328) := by have := HLP.out; unfold Hid; rw [List.length_append]; omega
              have HB3 : Hid (B0 ≤ wc.heap.size) := by have := HCb.out.size; have := HB.out; unfold Hid; omega
              have HC := HCb
              clear HCb hlen
              generalize hX : D.pool = X at *
              clear hX
              generalize hL : PP ++ flD (C.devs.take i) = LL at *
              clear hL
              go_wp2_with
                (at_builtin
                 refine wpList_append_row _ rfl _ _ 38 rfl B0 3 q0 (.int .i64 0) 1 8 Try.underlying38 hi0 hz0 hz1 hz2 rfl (by decide) (.slice AA LL.length kk) LL.length (LL.flatMap icell) rfl HOW.out (FA) X.length _ (X.flatMap icell) rfl (by rw [flat_len icell 1 (fun _ => rfl)]) HSRC.out (by intro u hu; obtain ⟨x, _, hx⟩ := List.mem_flatMap.1 hu; simp [icell] at hx; subst hx; rfl) HB1.out HB2.out HB3.out ?_
                 intro v5 w5 hown5 hgr hat5
                 have hf : OwnC icell 1 3 w5 B0 v5 (LL ++ X) ∧ Chg (fun _ => False) W0 w5 := by
                   refine ⟨by simpa [OwnC, List.flatMap_append] using hown5, ?_⟩
                   exact Chg.grown HC.out hgr (fun k hk hlt => by have := HLT.out k hk; have := HB0.out; omega)
                 have HF := Lib.hid hf; clear hf hown5 hgr hat5)
              go_wp2_with fail
              go_roundw
              case rel => exact ⟨i + 1, by omega, by go_num, by rw [HFL.out]; exact HF.out.1, HLEN.out, HAL2.out, HF.out.2⟩
              case measure => simp [intOf]; omega
            · rw [decide_eq_false hw]
              have HN := Lib.hid (decide_eq_false (fun h : FrDoc C => hw (by rw [HD.out]; exact h.2.1 i hlt)))
              clear hw
              go_wp2_with fail
              go_ret
              exact ⟨retB HN.out.symm, HA.out.trans HCb.out⟩
        · obtain rfl : i = C.devs.length := by omega
          rw [List.take_length] at how hlen
          have HOD := Lib.hid (show ∀ k (h : k < C.devs.length), DevOk C C.devs[k] from fun k hk => HALL.out k hk hk)
          clear HALL
          have HALLF : Hid (PP ++ flD C.devs = C.allFr) := by unfold Hid Cf.allFr flD; rw [← HPP.out]; rfl
          rw [HALLF.out] at how
          have HLA : Hid (C.allFr.length ≤ 300) := by have := HLP.out; rw [← HALLF.out]; unfold Hid; rw [List.length_append]; omega
          clear hlen HALLF HPP HLP
          obtain ⟨AA, kk, rfl⟩ := how.slice
          have hla : (C.allFr.length : Int) ≤ 300 := by have := HLA.out; omega
          have HOW := Lib.hid how; clear how
          have hnq : ∀ k, Value.ownBlock (.slice AA C.allFr.length kk) = some k → k ≠ b + 1 := fun k hk e => by have := (own_lt HOW.out hk).1; have := HB.out; have := HQ.out; omega
          have HNQ := Lib.hid hnq; clear hnq
          have HZ1 : Hid (ArrC bcell 1 wr (b + 1) 170 64 (fun _ => false)) := HZ.out.keep HC.out id
          have hcb : wr.heap[b]? = some (.cells (cfc C ⟨.slice A1 C.parts.length k1, .slice A2 C.devs.length k2, .slice A3 C.wins.length k3, .slice A4 C.grants.length k4⟩) 27 (0, 0)) := (HP.out wr HC.out).1
          have HCB := Lib.hid hcb; clear hcb
          have HAC := Lib.hid (HA.out.trans HC.out)
          have HOWq : Hid (∀ W, Chg (fun k => k = b + 1) wr W → OwnC icell 1 3 W B0 (.slice AA C.allFr.length kk) C.allFr) := fun W hW => HOW.out.keep hW (fun k hk e => HNQ.out k hk e)
          have HCBq : Hid (∀ W, Chg (fun k => k = b + 1) wr W → W.cell? ⟨b, 0, none⟩ = some (.int .i64 C.frames)) := fun W hW => blk_cell (hW.at HCB.out (by omega)) 0
          clear HC HP HOW HCB HNQ
          go_wp2_with fail
          clear y0 y1 y2 y3 y4 y5 y6 y7 y8
          go_loopw [8] (fun s8 w3 => ∃ (i : Nat) (S : List Int) (gg : Nat → Bool), i ≤ C.allFr.length ∧ s8 = .int .i64 i ∧ ArrC bcell 1 w3 (b + 1) 170 64 gg ∧ onceL C.frames [] (C.allFr.take i) = some S ∧ (∀ j : Nat, gg j = decide ((j : Int) ∈ S)) ∧ Chg (fun k => k = b + 1) wr w3 ∧ Chg (fun _ => False) w w3) (fun s8 _ => (C.allFr.length - intOf s8).toNat)
          case atStart => exact ⟨0, [], _, by omega, rfl, HZ1.out, by simp [onceL], fun j => by simp, Chg.refl _ _, HAC.out⟩
          case round =>
            clear HZ1 HAC
            obtain ⟨i, S, gg, hi, rfl, hz, hS, hgg, hD, hC⟩ := hrel
            have i0 : (0 : Int) ≤ i := by omega
            by_cases hil : i < C.allFr.length
            · have i1 : (i : Int) < C.allFr.length := by omega
              have how := HOWq.out wr hD
              obtain ⟨g, cap, hv, _⟩ := how.form (by omega)
              injection hv with e1 e2 e3
              subst e1 e3
              have c0 : wr.cell? ⟨g, i, none⟩ = some (.int .i64 C.allFr[i]) := by have := how.cell (fun _ => rfl) hil (j := 0) (by omega); simpa [icell] using this
              have x0 := HCBq.out wr hD
              clear how e2
              obtain ⟨f, hf⟩ : ∃ f, f = C.allFr[i] := ⟨_, rfl⟩
              have HF := Lib.hid hf
              rw [← hf] at c0
              clear hf
              have HS := Lib.hid hS; clear hS
              have HG := Lib.hid hgg; clear hgg
              have HD := Lib.hid hD; clear hD
              have HC := Lib.hid hC; clear hC
              by_cases h0 : f < 0
              · have HN := Lib.hid (decide_eq_false (fun h : FrDoc C => once_stop C.frames C.allFr i hil S HS.out (by rw [← HF.out]; omega) h.2.2))
                have d0 : decide (f < 0) = true := decide_eq_true h0
                go_upto_region 19 with fail
                go_quiet (fail)
                go_wp2_with fail
                go_ret
                exact ⟨retB HN.out.symm, HC.out.drewN _⟩
              · have d0 : decide (f < 0) = false := decide_eq_false h0
                by_cases h1 : C.frames ≤ f
                · have HN := Lib.hid (decide_eq_false (fun h : FrDoc C => once_stop C.frames C.allFr i hil S HS.out (by rw [← HF.out]; omega) h.2.2))
                  have d1 : decide (C.frames ≤ f) = true := decide_eq_true h1
                  go_upto_region 19 with fail
                  go_quiet (fail)
                  go_wp2_with fail
                  go_ret
                  exact ⟨retB HN.out.symm, HC.out.drewN _⟩
                · have d1 : decide (C.frames ≤ f) = false := decide_eq_false h1
                  obtain ⟨m, rfl⟩ := Int.eq_ofNat_of_zero_le (show 0 ≤ f by omega)
                  have m1 : (m : Int) < 64 := by omega
                  have m0 : (0 : Int) ≤ m := by omega
                  have u0 : wr.cell? ⟨b + 1, m, none⟩ = some (.bool (gg m)) := by have := hz.cell (k := m) (by omega) (j := 0) (by omega); simpa [bcell] using this
                  cases hu : gg m with
                  | true =>
                    rw [hu] at u0
                    have HN := Lib.hid (decide_eq_false (fun h : FrDoc C => once_stop C.frames C.allFr i hil S HS.out (by rw [← HF.out]; have := HG.out m; rw [hu] at this; have := of_decide_eq_true this.symm; intro h; exact h.2.2 this) h.2.2))
                    clear hu
                    go_upto_region 19 with fail
                    go_quiet (fail)
                    go_wp2_with fail
                    go_ret
                    exact ⟨retB HN.out.symm, HC.out.drewN _⟩
                  | false =>
                    rw [hu] at u0
                    obtain ⟨S', hS', hG'⟩ := once_step C.frames C.allFr i hil S gg HS.out HG.out m HF.out.symm (by omega) hu
                    have HS' := Lib.hid hS'
                    have HG' := Lib.hid hG'
                    clear hS' hG' hu
                    have hnext : ∀ n, ArrC bcell 1 ((wr.drewN n).setCell ⟨b + 1, m, none⟩ (.bool true)) (b + 1) 170 64 (upd gg m true) := fun n => by
                      have hz2 := (hz.keep (S := fun _ => False) ((Chg.refl _ wr).drewN n) id).set (k := m) (by omega) true rfl
                      have e : (wr.drewN n).setCells (b + 1) (m * 1) (bcell true) = (wr.drewN n).setCell ⟨b + 1, m, none⟩ (.bool true) := by rw [Nat.mul_one]; rfl
                      rw [e] at hz2; exact hz2
                    have hfz := hz.free m
                    have hlz := hz.lt
                    have HNX := Lib.hid hnext
                    have HCN : Hid (∀ n, Chg (fun _ => False) w ((wr.drewN n).setCell ⟨b + 1, m, none⟩ (.bool true))) := fun n => (HC.out.drewN n).trans' ((Chg.refl (fun k => k = b + 1) _).set1 _) (fun k hk e => by have := HBW.out; omega)
                    clear hnext hz
                    go_upto_region 19 with fail
                    go_quiet (fail)
                    obtain ⟨W2, hW2⟩ : ∃ W, W = wr.drewN nq := ⟨_, rfl⟩
                    have q0' : W2.cell? ⟨g, i, none⟩ = some (.int .i64 m) := by rw [hW2]; exact c0
                    have q1' : W2.cell? ⟨b + 1, m, none⟩ = some (.bool false) := by rw [hW2]; exact u0
                    have q2' : W2.frozen? ⟨b + 1, m, none⟩ = false := by rw [hW2]; exact hfz
                    have q3' : b + 1 < W2.heap.size := by rw [hW2]; exact hlz
                    have HNX2 := Lib.hid (HNX.out nq)
                    have HCN2 := Lib.hid (HCN.out nq)
                    have HDN2 := Lib.hid ((HD.out.drewN nq).set1 (i := m) (.bool true))
                    rw [← hW2] at HNX2 HCN2 HDN2
                    rw [← hW2]
                    clear hW2 HNX HCN HD c0 u0 hfz hlz
                    go_wp2_with fail
                    go_roundw
                    case rel => exact ⟨i + 1, S', _, by omega, by go_num, HNX2.out, HS'.out, HG'.out, HDN2.out, HCN2.out⟩
                    case measure => simp [intOf]; omega
            · obtain rfl : i = C.allFr.length := by omega
              rw [List.take_length] at hS
              have HN := Lib.hid (decide_eq_true (show FrDoc C from ⟨HOK.out, HOD.out, by rw [hS]; rfl⟩))
              have HC := Lib.hid hC
              clear hS hgg hD hC hz
              go_wp2_with fail
              go_ret
              exact ⟨retB HN.out.symm, HC.out⟩
end Go.Proofs.Ytncbcjjdnlmjbaa
