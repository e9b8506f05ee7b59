/- The document's side of a purge: owners, call, Purge. Printed by mkrpurg.py. -/
import Derived.Test.YtncbcjjdnlmjbaaRAsg
import Derived.Test.YtncbcjjdnlmjbaaRFlow
import Derived.Test.YtncbcjjdnlmjbaaPurg4
set_option linter.unusedSimpArgs false
set_option linter.unusedVariables false
namespace Go.Proofs.Ytncbcjjdnlmjbaa
open Go.RowKit

theorem RAsgAt.blks {w : World} {a r : Nat} {q np : Int} {A : AL} (h : RAsgAt w a r q np A) : (∃ cs, w.heap[a]? = some (.cells cs 191 (0, 0))) ∧ ∃ cs, w.heap[r]? = some (.cells cs 188 (0, 0)) := by
  obtain ⟨H, ⟨cap, h1, h2⟩, _⟩ := h
  refine ⟨⟨_, h1⟩, ?_⟩
  rcases h2.2 with ⟨hv, _⟩ | ⟨g, cap', cur, hv, _, hg, _⟩
  · cases hv
  · injection hv with e1; injection e1 with e1; injection e1 with e1
    subst e1; exact ⟨_, hg⟩
theorem RAsgAt.row {w w' : World} {a r : Nat} {q np : Int} {A : AL} (h : RAsgAt w a r q np A) {base2 : Nat} {vo : Value} {PP : List St} (ho : OwnC stcell 7 59 w base2 vo PP) (hC : Chg (fun k => some k = vo.ownBlock) w w') : RAsgAt w' a r q np A := by
  obtain ⟨⟨ca, ha⟩, cr, hr⟩ := h.blks
  exact h.keep hC (fun e => own_ne ho ha (by decide) e.symm) (fun e => own_ne ho hr (by decide) e.symm)
theorem RAsgAt.far {w w' : World} {a r : Nat} {q np : Int} {A : AL} (h : RAsgAt w a r q np A) {base2 : Nat} {vo : Value} {PP : List St} (ho : OwnC stcell 7 59 w base2 vo PP) (hC : Chg (fun k => k = r) w w') : OwnC stcell 7 59 w' base2 vo PP := by
  obtain ⟨_, cr, hr⟩ := h.blks
  refine ho.keep hC (fun k hk e => ?_)
  subst e
  exact own_ne ho hr (by decide) hk
theorem RAsgAt.farT {w w' : World} {a r : Nat} {q np : Int} {A : AL} (h : RAsgAt w a r q np A) {k : Nat} {cs : Array Value} {t : TypeId} {fr : Nat × Nat} (hk : w.heap[k]? = some (.cells cs t fr)) (h1 : t ≠ 191) (h2 : t ≠ 188) (hC : Chg (fun j => j = k) w w') : RAsgAt w' a r q np A := by
  have ne : ∀ {j : Nat} {ca : Array Value} {ta : TypeId} {fa : Nat × Nat}, w.heap[j]? = some (.cells ca ta fa) → t ≠ ta → ¬ j = k := by
    rintro j ca ta fa hj ht rfl
    rw [hk] at hj; injection hj with hj; injection hj with _ h2; exact ht h2
  obtain ⟨⟨ca, ha⟩, cr, hr⟩ := h.blks
  exact h.keep hC (ne ha h1) (ne hr h2)
theorem flow_pfl (C : Cf) (pn : Nat) (hm : MayP C) (hp : C.there pn) : (fun x => flowB C x pn) = pfl (toL C pn) := by
  funext x
  unfold flowB pfl
  rw [decide_eq_true hm, decide_eq_true hp]
  by_cases h0 : 0 ≤ x
  · obtain ⟨n, rfl⟩ := Int.eq_ofNat_of_zero_le h0
    by_cases h1 : n < C.parts.length
    · have e1 : C.there n := ⟨h0, by omega⟩
      rw [decide_eq_true e1, decide_eq_true h0]
      unfold toL
      simp [h1]
    · have e1 : ¬ C.there n := fun h => h1 (by have := h.2; omega)
      rw [decide_eq_false e1, decide_eq_true h0]
      unfold toL
      simp [h1]
  · have e1 : ¬ C.there x := fun h => h0 h.1
    rw [decide_eq_false e1, decide_eq_false h0]
    simp
set_option maxRecDepth 100000 in
theorem rCall (k : Int) (w : World) : Calls Try.prog 79 #[.int .i64 k] w fun e w' => e = .returned (.bool (decide (callP k))) ∧ w = w' := by
  by_cases h0 : 5 ≤ k
  · by_cases h1 : k ≤ 16
    · rw [decide_eq_true (show callP k from ⟨h0, h1⟩)]
      have d0 : decide (5 ≤ k) = true := decide_eq_true h0
      have d1 : decide (k ≤ 16) = true := decide_eq_true h1
      go_enter Try.func79, Try.ntmps79
      go_wp2_with fail
      go_ret
      exact ⟨rfl, rfl⟩
    · rw [decide_eq_false (show ¬ callP k from fun h => h1 h.2)]
      have d0 : decide (5 ≤ k) = true := decide_eq_true h0
      have d1 : decide (k ≤ 16) = false := decide_eq_false h1
      go_enter Try.func79, Try.ntmps79
      go_wp2_with fail
      go_ret
      exact ⟨rfl, rfl⟩
  · rw [decide_eq_false (show ¬ callP k from fun h => h0 h.1)]
    have d0 : decide (5 ≤ k) = false := decide_eq_false h0
    go_enter Try.func79, Try.ntmps79
    go_wp2_with fail
    go_ret
    exact ⟨rfl, rfl⟩
def ROwnersPost (C : Cf) (w : World) (e : Ending) (w' : World) : Prop := ∃ a r, e = .returned (.pointer (some ⟨a, 0, none⟩)) ∧ RAsgAt w' a r C.quiet C.parts.length (asgOf C) ∧ w.heap.size ≤ a ∧ w.heap.size ≤ r ∧ Chg (fun _ => False) w w'
set_option maxRecDepth 100000 in
set_option maxHeartbeats 4000000 in
theorem rOwners (C : Cf) (s : Vs) (w : World) (h : s.R w C) (hm : MayP C) :
    Calls Try.prog 78 #[.agg (cfc C s)] w (ROwnersPost C w) := by
  obtain ⟨i0', ii, iz0, iz1, iz2⟩ := info_parts Try.infoInt
  have HD := hm.2.1
  have hn : C.devs.length ≤ 4 := HD.2.2
  have hl := hm.1.2.2
  have HNM : Hid (1 ≤ C.quiet ∧ C.quiet ≤ 8 ∧ 1 ≤ (C.parts.length : Int) ∧ (C.parts.length : Int) ≤ 4 ∧ 1 ≤ (ownersL C).length ∧ (ownersL C).length ≤ 4 ∧ ∀ x ∈ ownersL C, 0 ≤ x ∧ x < C.parts.length) := by
    refine ⟨hm.2.2.2.2.2.2.2.2.1, hm.2.2.2.2.2.2.2.2.2, by have := hm.1.2.1; omega, by omega, by unfold ownersL; simp; exact HD.2.1, by unfold ownersL; simp; omega, fun x hx => ?_⟩
    obtain ⟨d, hd, rfl⟩ := List.mem_map.1 hx
    obtain ⟨i, hi, rfl⟩ := List.mem_iff_getElem.1 hd
    exact (HD.1 i hi).1
  have HML := Lib.hid (show (ownersL C).length ≤ maxLen by unfold ownersL maxLen; simp; omega)
  have HA := Lib.hid ((Chg.refl (fun _ => False) w).alloc (.cells (cfc C s) 27))
  have HP : Hid (∀ W, Chg (fun _ => False) (w.alloc (.cells (cfc C s) 27)) W → CfP W w.heap.size C s) := byVal h
  clear h hm HD
  obtain ⟨A1, k1, A2, k2, A3, k3, A4, k4, rfl, m1, m2, m3, m4⟩ := (HP.out _ (Chg.refl _ _)).open
  unfold cfc at *
  have hl4 : (C.devs.length : Int) ≤ 4 := by omega
  go_enter Try.func78, Try.ntmps78
  go_upto_region 1 with fail
  generalize hWW : (w.alloc (.cells #[.int .i64 C.frames, .slice A1 C.parts.length k1, .slice A2 C.devs.length k2, .int .i64 C.major, .slice A3 C.wins.length k3, .slice A4 C.grants.length k4, .int .i64 C.sectors, .int .i64 C.quota, .int .i64 C.quiet] 27)) = W0 at *
  have HWS : Hid (w.heap.size < W0.heap.size) := by rw [← hWW]; simp [Hid]
  clear hWW
  generalize hbw : w.heap.size = b at *
  have HBW := Lib.hid hbw; clear hbw
  have HO0 := Lib.hid (OwnC.nil (cells := icell) (C := 1) (e := 3) W0 b)
  go_wp2_with fail
  go_loopw [3, 4] (fun s3 s11 wr => ∃ i : Nat, i ≤ C.devs.length ∧ s11 = .int .i64 i ∧ OwnC icell 1 3 wr b s3 ((ownersL C).take i) ∧ (∀ k, s3.ownBlock = some k → W0.heap.size ≤ k) ∧ Chg (fun _ => False) W0 wr) (fun s3 s11 _ => (C.devs.length - intOf s11).toNat)
  case atStart => exact ⟨0, by omega, rfl, HO0.out, (fun k hk => by cases hk), Chg.refl _ _⟩
  case round =>
    clear HO0
    obtain ⟨i, hi, rfl, ho, hob, hC⟩ := hrel
    have i0 : (0 : Int) ≤ i := by omega
    have hml : ((ownersL C).take i).length = i := by simp [ownersL]; omega
    obtain ⟨BB, kk, rfl⟩ := ho.slice
    have c2 : wr.cell? ⟨b, 2, none⟩ = some (.slice A2 C.devs.length k2) := (HP.out _ hC).cell 2
    by_cases hlt : i < C.devs.length
    · have i1 : (i : Int) < C.devs.length := by omega
      obtain ⟨_, A', c', hv, hel⟩ := (HP.out wr hC).2.2.1
      injection hv with e1 e2 e3
      subst e1 e3
      obtain ⟨g, o, F, rfl, a0, a1, hF⟩ := hel i hlt
      obtain ⟨hfm, FA, fc, rfl⟩ := hF.form
      clear hel hF hfm a1
      have HTK : Hid ((ownersL C).take (i + 1) = (ownersL C).take i ++ [C.devs[i].part]) := by
        unfold Hid ownersL; rw [List.take_succ_eq_append_getElem (by simpa using hlt)]; simp
      generalize hLL : (ownersL C).take i = LL at *
      generalize C.devs[i].part = X at *
      clear hLL
      have HO1 := Lib.hid ho
      have HBK : Hid (∀ o, OwnC icell 1 3 (wr.alloc o) b (.slice BB LL.length kk) LL) := fun o => HO1.out.keep ((Chg.refl (fun _ => False) _).alloc o) (fun _ _ => id)
      have HN := Lib.hid (rowc_blk (blk_new wr (.cells #[.int .i64 X] 3)))
      have HM := Lib.hid (show LL.length + 1 ≤ maxLen by unfold maxLen; omega)
      have HY := Lib.hid (show (LL.length + 1) * 8 ≤ 140737488355328 by omega)
      have HBS : Hid (∀ o, b ≤ (wr.alloc o).heap.size) := fun o => by have := hC.size; have := HWS.out; simp; omega
      have HML' := Lib.hid hml; clear hml ho
      have HC := Lib.hid hC; clear hC
      have HOB := Lib.hid hob; clear hob
      go_wp2_with (at_builtin; refine wpList_append_row _ rfl _ _ 38 rfl b 3 i0' (.int .i64 0) 1 8 Try.underlying38 ii iz0 iz1 iz2 rfl (by decide) (.slice BB LL.length kk) LL.length (LL.flatMap icell) rfl (HBK.out _) (some ⟨wr.heap.size, 0, none⟩) 1 1 [.int .i64 X] rfl rfl HN.out (by intro u hu; simp at hu; subst hu; rfl) HM.out HY.out (HBS.out _) ?_)
      intro v5 w5 hown5 hgr hat5
      have hO5 : OwnC icell 1 3 w5 b v5 (LL ++ [X]) := by simpa [OwnC, icell] using hown5
      have hC5 : Chg (fun k => some k = Value.ownBlock (.slice BB LL.length kk)) wr w5 := Chg.grown ((Chg.refl _ _).alloc _) hgr (fun k hk _ => hk.symm)
      have HC5 : Hid (Chg (fun _ => False) W0 w5) := HC.out.trans' hC5 (fun k hk e => by have := HOB.out k e.symm; omega)
      have HOB5 : Hid (∀ k, v5.ownBlock = some k → W0.heap.size ≤ k) := fun k hk => by
        rcases hat5 with h | h
        · exact HOB.out k (h.symm.trans hk)
        · rw [h] at hk; injection hk with hk; have := HC.out.size; omega
      have HO5 := Lib.hid hO5
      clear hO5 hC5 hown5 hgr hat5 HBK HO1 HC HN HM HY HBS c2 a0
      go_wp2_with fail
      go_roundw
      case rel => exact ⟨i + 1, by omega, by go_num, by rw [HTK.out]; exact HO5.out, HOB5.out, HC5.out⟩
      case measure => simp [intOf]; omega
    · obtain rfl : i = C.devs.length := by omega
      have hE : (ownersL C).take C.devs.length = ownersL C := by unfold ownersL; exact List.take_of_length_le (by simp)
      rw [hE] at ho ⊢
      have HRD := Lib.hid (rdn_own ho HML.out)
      have HC := Lib.hid hC
      have y1 : wr.cell? ⟨b, 1, none⟩ = some (.slice A1 C.parts.length k1) := (HP.out _ hC).cell 1
      have y8 : wr.cell? ⟨b, 8, none⟩ = some (.int .i64 C.quiet) := (HP.out _ hC).cell 8
      clear ho hC hml hob
      go_wp2_with fail
      refine (rasNew _ C.quiet C.parts.length (ownersL C) _ HRD.out HNM.out.1 HNM.out.2.1 HNM.out.2.2.1 HNM.out.2.2.2.1 HNM.out.2.2.2.2.1 HNM.out.2.2.2.2.2.1 HNM.out.2.2.2.2.2.2).mono ?_
      rintro e w7 ⟨ta, tr, rfl, hA7, hta, htr, k7⟩
      have HA7 : Hid (RAsgAt w7 ta tr C.quiet C.parts.length (asgOf C)) := hA7
      have HC7 := Lib.hid (HC.out.trans k7)
      have HS7 : Hid (b ≤ ta ∧ b ≤ tr) := by have := HC.out.size; have := HWS.out; exact ⟨by omega, by omega⟩
      clear hA7 hta htr k7 y1 y8
      go_wp2_with fail
      go_ret
      exact ⟨_, _, rfl, HA7.out, by rw [HBW.out]; exact HS7.out.1, by rw [HBW.out]; exact HS7.out.2, HA.out.trans HC7.out⟩
set_option maxRecDepth 100000 in
set_option maxHeartbeats 8000000 in
theorem refPurge (p : Int) (C : Cf) (s : Vs) (sv : Value) (L : List St) (w : World) (h : s.R w C) (hd : C.wfD) (hL : RdS w sv L) (hML : L.length * 64 ≤ 140737488355328) :
    Calls Try.prog 35 #[.agg (cfc C s), sv, .int .i64 p] w (PurgePost C p L w) := by
  have HA := Lib.hid ((Chg.refl (fun _ => False) w).alloc (.cells (cfc C s) 27))
  have HP : Hid (∀ W, Chg (fun _ => False) (w.alloc (.cells (cfc C s) 27)) W → CfP W w.heap.size C s) := byVal h
  obtain ⟨hSm, SA, sc, rfl⟩ := hL.len
  unfold maxLen at hSm
  have HS := Lib.hid (hL.keepN ((Chg.refl (fun _ => False) w).alloc (.cells (cfc C s) 27)))
  have HLM := Lib.hid hML; clear hML
  have HDL := Lib.hid hd
  clear h hL hd
  obtain ⟨A1, k1, A2, k2, A3, k3, A4, k4, rfl, m1, m2, m3, m4⟩ := (HP.out _ (Chg.refl _ _)).open
  unfold cfc at *
  go_enter Try.func35, Try.ntmps35
  go_upto_region 1 with fail
  generalize hWW : (w.alloc (.cells #[.int .i64 C.frames, .slice A1 C.parts.length k1, .slice A2 C.devs.length k2, .int .i64 C.major, .slice A3 C.wins.length k3, .slice A4 C.grants.length k4, .int .i64 C.sectors, .int .i64 C.quota, .int .i64 C.quiet] 27)) = W0 at *
  have HWS : Hid (w.heap.size < W0.heap.size) := by rw [← hWW]; simp [Hid]
  clear hWW
  generalize hbw : w.heap.size = b at *
  have HBW := Lib.hid hbw; clear hbw
  obtain ⟨y0, y1, y2, y3, y4, y5, y6, y7, y8⟩ := (HP.out _ (Chg.refl _ _)).c9'
  by_cases t0 : ¬ MayP C
  · have EP := Lib.hid (show ¬ (MayP C ∧ C.there p) from fun h => t0 h.1)
    have R0 := Lib.hid (decide_eq_false t0)
    clear t0
    go_wp2_with fail
    refine (refMay C _ _ (HP.out _ (Chg.refl _ _)).2 HDL.out).mono ?_
    rintro e w5 ⟨rfl, k5⟩
    rw [R0.out]
    have HR := Lib.hid k5
    clear k5 y0 y1 y2 y3 y4 y5 y6 y7 y8
    go_wp2_with fail
    go_ret2
    unfold PurgePost
    rw [if_neg EP.out]
    exact ⟨rfl, HA.out.trans HR.out⟩
  · have hm : MayP C := Decidable.not_not.1 t0
    clear t0
    have R0 := Lib.hid (decide_eq_true hm)
    by_cases t1 : 0 ≤ p
    · have d1 : decide (p < 0) = false := decide_eq_false (by omega)
      by_cases t2 : p < C.parts.length
      · have d2 : decide ((C.parts.length : Int) ≤ p) = false := decide_eq_false (by omega)
        have hp : C.there p := ⟨t1, t2⟩
        obtain ⟨pn, rfl⟩ := Int.eq_ofNat_of_zero_le t1
        have d2n : decide (C.parts.length ≤ pn) = false := decide_eq_false (by omega)
        have EP := Lib.hid (show MayP C ∧ C.there pn from ⟨hm, hp⟩)
        have HFP := Lib.hid (flow_pfl C pn hm hp)
        have HQ : Hid (1 ≤ C.quiet ∧ C.quiet ≤ 8) := ⟨hm.2.2.2.2.2.2.2.2.1, hm.2.2.2.2.2.2.2.2.2⟩
        have HMY := Lib.hid hm
        have HAOK : Hid (AOk (asgOf C)) := by
          refine ⟨by unfold asgOf ownersL; simp; exact hm.2.1.2.2, fun x hx => ?_⟩
          obtain ⟨y, _, rfl⟩ := List.mem_map.1 hx
          exact ⟨Int.le_refl 0, by show (0 : Int) ≤ 8; omega⟩
        clear hm hp t1 t2
        go_wp2_with fail
        refine (refMay C _ _ (HP.out _ (Chg.refl _ _)).2 HDL.out).mono ?_
        rintro e w5 ⟨rfl, k5⟩
        rw [R0.out]
        have HC5 := Lib.hid k5
        clear k5 y0 y1 y2 y3 y4 y5 y6 y7 y8
        obtain ⟨y0, y1, y2, y3, y4, y5, y6, y7, y8⟩ := (HP.out _ HC5.out).c9'
        go_wp2_with fail
        refine (rOwners C _ _ (HP.out _ HC5.out).2 HMY.out).mono ?_
        rintro e w6 ⟨ta, tr, rfl, hA6, hta, htr, k6⟩
        have HT6 := Lib.hid hA6
        have HC6 := Lib.hid (HC5.out.trans k6)
        have HTR : Hid (W0.heap.size ≤ tr ∧ W0.heap.size ≤ ta) := by have := HC5.out.size; exact ⟨by omega, by omega⟩
        clear hA6 hta htr k6 y0 y1 y2 y3 y4 y5 y6 y7 y8 HC5 d1 d2 d2n
        have HPC := HP
        have HO0 := Lib.hid (OwnC.nil (cells := stcell) (C := 7) (e := 59) w6 b)
        go_wp2_with fail
        go_loopw [9, 10, 11] (fun s9 s10 s11 wr => ∃ (j : Nat) (v : Value) (A : AL) (tk : Int), j ≤ L.length ∧ s11 = .int .i64 j ∧ s10 = v ∧ s9 = .int .i64 tk ∧ OwnC stcell 7 59 wr b v (purgeL (fun x => flowB C x pn) C.quiet C.parts.length (asgOf C, 0) (L.take j)) ∧ RAsgAt wr ta tr C.quiet C.parts.length A ∧ (A, tk) = runA C.quiet C.parts.length (asgOf C, 0) (L.take j) ∧ AOk A ∧ (0 ≤ tk ∧ ∀ k, v.ownBlock = some k → W0.heap.size ≤ k) ∧ Chg (fun _ => False) W0 wr) (fun _ _ s11 _ => L.length - (intOf s11).toNat)
        case atStart => exact ⟨0, _, _, _, by omega, rfl, rfl, rfl, HO0.out, HT6.out, rfl, HAOK.out, ⟨by omega, (fun k hk => by cases hk)⟩, HC6.out⟩
        case round =>
          clear HO0 HT6 HAOK HC6
          obtain ⟨j, v, A, tk, hj, rfl, rfl, rfl, ho, hpu, hrun, hok, ⟨htk, hob⟩, hC⟩ := hrel
          have j0 : (0 : Int) ≤ j := by omega
          obtain ⟨OB, ok, rfl⟩ := ho.slice
          by_cases hlt : j < L.length
          · have j1 : (j : Int) < L.length := by omega
            have HPN : Hid ((purgeL (fun x => flowB C x pn) C.quiet C.parts.length (asgOf C, 0) (L.take j)).length = j) := by unfold Hid; rw [purgeL_length]; simp; omega
            obtain ⟨g, o, rfl, a0, a1, a2, a3, a4, a5, a6⟩ := (HS.out.keepN hC).at7 hlt
            have htl := List.take_succ_eq_append_getElem hlt
            obtain ⟨X, hX⟩ : ∃ X, X = L[j] := ⟨_, rfl⟩
            rw [← hX] at a0 a1 a2 a3 a4 a5 a6 htl
            clear hX
            have HPL : Hid (purgeL (fun x => flowB C x pn) C.quiet C.parts.length (asgOf C, 0) (L.take (j + 1)) = purgeL (fun x => flowB C x pn) C.quiet C.parts.length (asgOf C, 0) (L.take j) ++ [if keepP (fun x => flowB C x pn) A X then X else St.zero]) := by
              unfold Hid; rw [htl, purgeL_append, ← hrun]; rfl
            have HRN : Hid ((stepA C.quiet C.parts.length A tk X, stepT tk X) = runA C.quiet C.parts.length (asgOf C, 0) (L.take (j + 1))) := by
              unfold Hid; rw [htl, runA_append, ← hrun]; rfl
            have HOK := Lib.hid hok
            have HOK2 := Lib.hid (hok.step (by have := HQ.out; omega) HQ.out.2 tk X (np := C.parts.length))
            have HTK2' : Hid (0 ≤ stepT tk X) := by unfold Hid stepT; split <;> omega
            generalize purgeL (fun x => flowB C x pn) C.quiet C.parts.length (asgOf C, 0) (L.take j) = PP at *
            clear htl hrun
            obtain ⟨sb, hsb⟩ : ∃ sb, sb = wr.heap.size := ⟨_, rfl⟩
            obtain ⟨W1, hW1⟩ : ∃ W, W = wr.alloc (.cells #[.int .i64 X.kind, .int .i64 X.part, .int .i64 X.dev, .int .i64 X.a, .int .i64 X.b, .int .i64 X.c, .string X.data] 59) := ⟨_, rfl⟩
            have hA : Chg (fun _ => False) wr W1 := by rw [hW1]; exact (Chg.refl _ _).alloc _
            have HB1 : Hid (W1.heap[sb]? = some (.cells (stcell X).toArray 59 (0, 0))) := by rw [hW1, hsb]; exact blk_new wr _
            have HO1 : Hid (OwnC stcell 7 59 W1 b (.slice OB PP.length ok) PP) := ho.keep hA (fun _ _ => id)
            have HT1 := Lib.hid (hpu.keepN hA)
            have HC1 : Hid (Chg (fun _ => False) W0 W1) := hC.trans hA
            have HG : Hid (tr < sb ∧ b < sb) := ⟨by rw [hsb]; exact hpu.lt.2, by rw [hsb]; have := HWS.out; have := hC.size; omega⟩
            have HOL : Hid (∀ k, Value.ownBlock (.slice OB PP.length ok) = some k → k < sb ∧ W0.heap.size ≤ k) := fun k hk => ⟨by rw [hsb]; exact (own_lt ho hk).2, hob k hk⟩
            have HB0 : Hid (W0.heap.size ≤ sb) := by rw [hsb]; exact hC.size
            clear ho hpu hC hok hA hob
            go_upto_region 10 with fail
            rw [← hW1]
            rw [← hsb]
            clear hW1 hsb a0 a1 a2 a3 a4 a5 a6
            go_upto_block 2 with fail
            go_cut [9, 13] (fun s9 s13 wx => s9 = .int .i64 (stepT tk X) ∧ s13 = .bool (keepP (fun x => flowB C x pn) A X) ∧ RAsgAt wx ta tr C.quiet C.parts.length (stepA C.quiet C.parts.length A tk X) ∧ Chg (fun k => k = tr) W1 wx)
            case first =>
              have HB0c := HB1
              by_cases hc : callP X.kind
              · have KC := Lib.hid (decide_eq_true hc)
                have HF : Hid (∀ W, Chg (fun _ => False) W1 W → Value.int .i64 tk = .int .i64 (stepT tk X) ∧ Value.bool (flowB C X.part pn) = .bool (keepP (fun x => flowB C x pn) A X) ∧ RAsgAt W ta tr C.quiet C.parts.length (stepA C.quiet C.parts.length A tk X) ∧ Chg (fun k => k = tr) W1 W) := fun W hW => by
                  have n1 : ¬ (X.kind = 1 ∧ tk < 1048575) := fun h => by have := hc.1; omega
                  have n2 : ¬ X.kind = 2 := fun h => by have := hc.1; omega
                  unfold stepT keepP stepA
                  rw [if_neg n1, if_neg n1, if_neg n2, if_pos hc]
                  exact ⟨rfl, rfl, HT1.out.keepN hW, hW.mono (fun _ _ h => h.elim)⟩
                clear hc
                have z0 := blk_cell HB1.out 0
                have z1 := blk_cell HB1.out 1
                simp only [stcell, List.getElem?_toArray, List.getElem?_cons_zero, List.getElem?_cons_succ] at z0 z1
                obtain ⟨y0, y1, y2, y3, y4, y5, y6, y7, y8⟩ := (HPC.out _ HC1.out).c9'
                go_wp2_with fail
                refine (rCall X.kind _).mono ?_
                rintro e w5 ⟨rfl, rfl⟩
                rw [KC.out]
                go_wp2_with fail
                refine (refFlows _ _ C _ _ (HPC.out _ HC1.out).2 HDL.out).mono ?_
                rintro e w8 ⟨rfl, k8⟩
                have HR1 := Lib.hid k8
                clear k8 z0 z1 y0 y1 y2 y3 y4 y5 y6 y7 y8
                go_wp2_with fail
                go_meet
                exact HF.out _ HR1.out
              · have KC := Lib.hid (decide_eq_false hc)
                by_cases h34 : X.kind = 3 ∨ X.kind = 4
                · have HF : Hid (∀ W, Chg (fun _ => False) W1 W → Value.int .i64 tk = .int .i64 (stepT tk X) ∧ Value.bool (flowB C (ownA A X.dev) pn) = .bool (keepP (fun x => flowB C x pn) A X) ∧ RAsgAt W ta tr C.quiet C.parts.length (stepA C.quiet C.parts.length A tk X) ∧ Chg (fun k => k = tr) W1 W) := fun W hW => by
                    have n1 : ¬ (X.kind = 1 ∧ tk < 1048575) := fun h => by omega
                    have n2 : ¬ X.kind = 2 := fun h => by omega
                    unfold stepT keepP stepA
                    rw [if_neg n1, if_neg n1, if_neg n2, if_neg hc, if_pos h34]
                    exact ⟨rfl, rfl, HT1.out.keepN hW, hW.mono (fun _ _ h => h.elim)⟩
                  have HR1 := Lib.hid (Chg.refl (fun _ => False) W1)
                  clear hc
                  by_cases h3 : X.kind = 3
                  · have e3 : (X.kind == 3) = true := by simpa using h3
                    clear h34 h3
                    have z0 := blk_cell HB1.out 0
                    simp only [stcell, List.getElem?_toArray, List.getElem?_cons_zero, List.getElem?_cons_succ] at z0
                    go_wp2_with fail
                    refine (rCall X.kind _).mono ?_
                    rintro e w5 ⟨rfl, rfl⟩
                    rw [KC.out]
                    go_wp2_with fail
                    go_upto_region 14 with fail
                    clear z0
                    refine wp_region_held_drew (S := fun W => Chg (fun _ => False) W1 W) (by kernel_rfl) ((Chg.refl _ _).drew) (fun hHeld => ?_)
                    replace HR1 : Hid (Chg (fun _ => False) W1 _) := hHeld
                    refine wpAnyH_take (i := 0) (oi := ({ dst := some 58, op := Go.Op.load 27 (Go.Operand.tmp 3), type := 27, pos := "ref.go:401", after := #[], guard := none } : Oper)) (v := ?_) rfl (by kernel_rfl) (by kernel_rfl) (by kernel_rfl) (fun _ _ _ h => h) (Or.inl ⟨by rfl, ?_⟩) (by assumption) ?_
                    rotate_left
                    · (intro w hSw; (try dsimp only at hSw); obtain ⟨y0, y1, y2, y3, y4, y5, y6, y7, y8⟩ := (HPC.out _ (HC1.out.trans hSw)).c9'; have z2 := blk_cell (hSw.at HB1.out id) 2; simp only [stcell, List.getElem?_toArray, List.getElem?_cons_zero, List.getElem?_cons_succ] at z2;  go_simp; try with_reducible rfl)
                    try simp only [Act.put, List.setIfInBounds_toArray, List.set_cons_zero, List.set_cons_succ]
                    refine wpAnyH_take (i := 1) (oi := ({ dst := some 59, op := Go.Op.move (Go.Operand.tmp 8), type := 137, pos := "ref.go:401", after := #[], guard := none } : Oper)) (v := ?_) rfl (by kernel_rfl) (by kernel_rfl) (by kernel_rfl) (fun _ _ _ h => h) (Or.inl ⟨by rfl, ?_⟩) (by assumption) ?_
                    rotate_left
                    · (intro w hSw; (try dsimp only at hSw); obtain ⟨y0, y1, y2, y3, y4, y5, y6, y7, y8⟩ := (HPC.out _ (HC1.out.trans hSw)).c9'; have z2 := blk_cell (hSw.at HB1.out id) 2; simp only [stcell, List.getElem?_toArray, List.getElem?_cons_zero, List.getElem?_cons_succ] at z2;  go_simp; try with_reducible rfl)
                    try simp only [Act.put, List.setIfInBounds_toArray, List.set_cons_zero, List.set_cons_succ]
                    refine wpAnyH_take (i := 2) (oi := ({ dst := some 60, op := Go.Op.fieldAddr 59 (Go.Operand.tmp 12) 2, type := 0, pos := "ref.go:401", after := #[], guard := none } : Oper)) (v := ?_) rfl (by kernel_rfl) (by kernel_rfl) (by kernel_rfl) (fun _ _ _ h => h) (Or.inl ⟨by rfl, ?_⟩) (by assumption) ?_
                    rotate_left
                    · (intro w hSw; (try dsimp only at hSw); obtain ⟨y0, y1, y2, y3, y4, y5, y6, y7, y8⟩ := (HPC.out _ (HC1.out.trans hSw)).c9'; have z2 := blk_cell (hSw.at HB1.out id) 2; simp only [stcell, List.getElem?_toArray, List.getElem?_cons_zero, List.getElem?_cons_succ] at z2;  go_simp; try with_reducible rfl)
                    try simp only [Act.put, List.setIfInBounds_toArray, List.set_cons_zero, List.set_cons_succ]
                    refine wpAnyH_take (i := 3) (oi := ({ dst := some 61, op := Go.Op.load 3 (Go.Operand.tmp 60), type := 3, pos := "ref.go:401", after := #[{ on := 2, ground := Go.Ground.data }], guard := none } : Oper)) (v := ?_) rfl (by kernel_rfl) (by kernel_rfl) (by kernel_rfl) (fun _ _ _ h => h) (Or.inl ⟨by rfl, ?_⟩) (by assumption) ?_
                    rotate_left
                    · (intro w hSw; (try dsimp only at hSw); obtain ⟨y0, y1, y2, y3, y4, y5, y6, y7, y8⟩ := (HPC.out _ (HC1.out.trans hSw)).c9'; have z2 := blk_cell (hSw.at HB1.out id) 2; simp only [stcell, List.getElem?_toArray, List.getElem?_cons_zero, List.getElem?_cons_succ] at z2;  go_simp; try with_reducible rfl)
                    try simp only [Act.put, List.setIfInBounds_toArray, List.set_cons_zero, List.set_cons_succ]
                    refine wpAnyH_take (i := 5) (oi := ({ dst := some 63, op := Go.Op.move (Go.Operand.tmp 2), type := 3, pos := "ref.go:401", after := #[], guard := none } : Oper)) (v := ?_) rfl (by kernel_rfl) (by kernel_rfl) (by kernel_rfl) (fun _ _ _ h => h) (Or.inl ⟨by rfl, ?_⟩) (by assumption) ?_
                    rotate_left
                    · (intro w hSw; (try dsimp only at hSw); obtain ⟨y0, y1, y2, y3, y4, y5, y6, y7, y8⟩ := (HPC.out _ (HC1.out.trans hSw)).c9'; have z2 := blk_cell (hSw.at HB1.out id) 2; simp only [stcell, List.getElem?_toArray, List.getElem?_cons_zero, List.getElem?_cons_succ] at z2;  go_simp; try with_reducible rfl)
                    try simp only [Act.put, List.setIfInBounds_toArray, List.set_cons_zero, List.set_cons_succ]
                    refine wpAnyH_ready (rs := [4]) (by kernel_rfl) (List.cons_ne_nil _ _) ?_
                    refine AllReadyH.cons (o := ({ dst := some 62, op := Go.Op.call { callee := Go.Callee.value (Go.Operand.func 80), args := #[Go.Operand.tmp 59, Go.Operand.tmp 61], argTypes := #[137, 3] }, type := 3, pos := "ref.go:401", after := #[{ on := 1, ground := Go.Ground.data }, { on := 3, ground := Go.Ground.data }], guard := none } : Oper)) rfl (fun K hK => ?_) AllReadyH.nil
                    refine Eq.mpr (if_pos (by rfl)) ?_
                    go_simp
                    (go_at_call 80; refine (rasOwner ta tr C.quiet C.parts.length A X.dev _ (HT1.out.keepN HR1.out)).mono ?_; rintro e w6 ⟨rfl, rfl⟩)
                    refine hK.out _ _ (HR1.out) (fun hHeld => ?_)
                    clear hK K
                    try simp only [Act.put, List.setIfInBounds_toArray, List.set_cons_zero, List.set_cons_succ]
                    refine wpAnyH_ready (rs := [6]) (by kernel_rfl) (List.cons_ne_nil _ _) ?_
                    refine AllReadyH.cons (o := ({ dst := some 64, op := Go.Op.call { callee := Go.Callee.value (Go.Operand.func 38), args := #[Go.Operand.tmp 58, Go.Operand.tmp 62, Go.Operand.tmp 63], argTypes := #[27, 3, 3] }, type := 4, pos := "ref.go:401", after := #[{ on := 0, ground := Go.Ground.data }, { on := 4, ground := Go.Ground.data }, { on := 5, ground := Go.Ground.data }, { on := 4, ground := Go.Ground.chain }], guard := none } : Oper)) rfl (fun K hK => ?_) AllReadyH.nil
                    refine Eq.mpr (if_pos (by rfl)) ?_
                    go_simp
                    (go_at_call 38; refine (refFlows _ _ C _ _ (HPC.out _ (HC1.out.trans HR1.out)).2 HDL.out).mono ?_; rintro e w8 ⟨rfl, k8⟩; replace HR1 := Lib.hid (HR1.out.trans k8); clear k8)
                    refine hK.out _ _ (HR1.out) (fun hHeld => ?_)
                    clear hK K
                    try simp only [Act.put, List.setIfInBounds_toArray, List.set_cons_zero, List.set_cons_succ]
                    refine wpAnyH_take (i := 7) (oi := ({ dst := some 13, op := Go.Op.assign (Go.Operand.tmp 64), type := 4, pos := "ref.go:401", after := #[{ on := 6, ground := Go.Ground.data }, { on := 6, ground := Go.Ground.chain }, { on := 0, ground := Go.Ground.phase }, { on := 1, ground := Go.Ground.phase }, { on := 2, ground := Go.Ground.phase }, { on := 3, ground := Go.Ground.phase }, { on := 4, ground := Go.Ground.phase }, { on := 5, ground := Go.Ground.phase }, { on := 6, ground := Go.Ground.phase }], guard := none } : Oper)) (v := ?_) rfl (by kernel_rfl) (by kernel_rfl) (by kernel_rfl) (fun _ _ _ h => h) (Or.inl ⟨by rfl, ?_⟩) (by assumption) ?_
                    rotate_left
                    · (intro w hSw; (try dsimp only at hSw); obtain ⟨y0, y1, y2, y3, y4, y5, y6, y7, y8⟩ := (HPC.out _ (HC1.out.trans hSw)).c9'; have z2 := blk_cell (hSw.at HB1.out id) 2; simp only [stcell, List.getElem?_toArray, List.getElem?_cons_zero, List.getElem?_cons_succ] at z2;  go_simp; try with_reducible rfl)
                    try simp only [Act.put, List.setIfInBounds_toArray, List.set_cons_zero, List.set_cons_succ]
                    refine wpAnyH_done (by kernel_rfl) ?_ _
                    go_wp2_with fail
                    go_meet
                    exact HF.out _ HR1.out
                  · have e3 : (X.kind == 3) = false := by simpa using h3
                    have e4 : (X.kind == 4) = true := by simpa using h34.resolve_left h3
                    clear h34 h3
                    have z0 := blk_cell HB1.out 0
                    simp only [stcell, List.getElem?_toArray, List.getElem?_cons_zero, List.getElem?_cons_succ] at z0
                    go_wp2_with fail
                    refine (rCall X.kind _).mono ?_
                    rintro e w5 ⟨rfl, rfl⟩
                    rw [KC.out]
                    go_wp2_with fail
                    go_upto_region 14 with fail
                    clear z0
                    refine wp_region_held_drew (S := fun W => Chg (fun _ => False) W1 W) (by kernel_rfl) ((Chg.refl _ _).drew) (fun hHeld => ?_)
                    replace HR1 : Hid (Chg (fun _ => False) W1 _) := hHeld
                    refine wpAnyH_take (i := 0) (oi := ({ dst := some 58, op := Go.Op.load 27 (Go.Operand.tmp 3), type := 27, pos := "ref.go:401", after := #[], guard := none } : Oper)) (v := ?_) rfl (by kernel_rfl) (by kernel_rfl) (by kernel_rfl) (fun _ _ _ h => h) (Or.inl ⟨by rfl, ?_⟩) (by assumption) ?_
                    rotate_left
                    · (intro w hSw; (try dsimp only at hSw); obtain ⟨y0, y1, y2, y3, y4, y5, y6, y7, y8⟩ := (HPC.out _ (HC1.out.trans hSw)).c9'; have z2 := blk_cell (hSw.at HB1.out id) 2; simp only [stcell, List.getElem?_toArray, List.getElem?_cons_zero, List.getElem?_cons_succ] at z2;  go_simp; try with_reducible rfl)
                    try simp only [Act.put, List.setIfInBounds_toArray, List.set_cons_zero, List.set_cons_succ]
                    refine wpAnyH_take (i := 1) (oi := ({ dst := some 59, op := Go.Op.move (Go.Operand.tmp 8), type := 137, pos := "ref.go:401", after := #[], guard := none } : Oper)) (v := ?_) rfl (by kernel_rfl) (by kernel_rfl) (by kernel_rfl) (fun _ _ _ h => h) (Or.inl ⟨by rfl, ?_⟩) (by assumption) ?_
                    rotate_left
                    · (intro w hSw; (try dsimp only at hSw); obtain ⟨y0, y1, y2, y3, y4, y5, y6, y7, y8⟩ := (HPC.out _ (HC1.out.trans hSw)).c9'; have z2 := blk_cell (hSw.at HB1.out id) 2; simp only [stcell, List.getElem?_toArray, List.getElem?_cons_zero, List.getElem?_cons_succ] at z2;  go_simp; try with_reducible rfl)
                    try simp only [Act.put, List.setIfInBounds_toArray, List.set_cons_zero, List.set_cons_succ]
                    refine wpAnyH_take (i := 2) (oi := ({ dst := some 60, op := Go.Op.fieldAddr 59 (Go.Operand.tmp 12) 2, type := 0, pos := "ref.go:401", after := #[], guard := none } : Oper)) (v := ?_) rfl (by kernel_rfl) (by kernel_rfl) (by kernel_rfl) (fun _ _ _ h => h) (Or.inl ⟨by rfl, ?_⟩) (by assumption) ?_
                    rotate_left
                    · (intro w hSw; (try dsimp only at hSw); obtain ⟨y0, y1, y2, y3, y4, y5, y6, y7, y8⟩ := (HPC.out _ (HC1.out.trans hSw)).c9'; have z2 := blk_cell (hSw.at HB1.out id) 2; simp only [stcell, List.getElem?_toArray, List.getElem?_cons_zero, List.getElem?_cons_succ] at z2;  go_simp; try with_reducible rfl)
                    try simp only [Act.put, List.setIfInBounds_toArray, List.set_cons_zero, List.set_cons_succ]
                    refine wpAnyH_take (i := 3) (oi := ({ dst := some 61, op := Go.Op.load 3 (Go.Operand.tmp 60), type := 3, pos := "ref.go:401", after := #[{ on := 2, ground := Go.Ground.data }], guard := none } : Oper)) (v := ?_) rfl (by kernel_rfl) (by kernel_rfl) (by kernel_rfl) (fun _ _ _ h => h) (Or.inl ⟨by rfl, ?_⟩) (by assumption) ?_
                    rotate_left
                    · (intro w hSw; (try dsimp only at hSw); obtain ⟨y0, y1, y2, y3, y4, y5, y6, y7, y8⟩ := (HPC.out _ (HC1.out.trans hSw)).c9'; have z2 := blk_cell (hSw.at HB1.out id) 2; simp only [stcell, List.getElem?_toArray, List.getElem?_cons_zero, List.getElem?_cons_succ] at z2;  go_simp; try with_reducible rfl)
                    try simp only [Act.put, List.setIfInBounds_toArray, List.set_cons_zero, List.set_cons_succ]
                    refine wpAnyH_take (i := 5) (oi := ({ dst := some 63, op := Go.Op.move (Go.Operand.tmp 2), type := 3, pos := "ref.go:401", after := #[], guard := none } : Oper)) (v := ?_) rfl (by kernel_rfl) (by kernel_rfl) (by kernel_rfl) (fun _ _ _ h => h) (Or.inl ⟨by rfl, ?_⟩) (by assumption) ?_
                    rotate_left
                    · (intro w hSw; (try dsimp only at hSw); obtain ⟨y0, y1, y2, y3, y4, y5, y6, y7, y8⟩ := (HPC.out _ (HC1.out.trans hSw)).c9'; have z2 := blk_cell (hSw.at HB1.out id) 2; simp only [stcell, List.getElem?_toArray, List.getElem?_cons_zero, List.getElem?_cons_succ] at z2;  go_simp; try with_reducible rfl)
                    try simp only [Act.put, List.setIfInBounds_toArray, List.set_cons_zero, List.set_cons_succ]
                    refine wpAnyH_ready (rs := [4]) (by kernel_rfl) (List.cons_ne_nil _ _) ?_
                    refine AllReadyH.cons (o := ({ dst := some 62, op := Go.Op.call { callee := Go.Callee.value (Go.Operand.func 80), args := #[Go.Operand.tmp 59, Go.Operand.tmp 61], argTypes := #[137, 3] }, type := 3, pos := "ref.go:401", after := #[{ on := 1, ground := Go.Ground.data }, { on := 3, ground := Go.Ground.data }], guard := none } : Oper)) rfl (fun K hK => ?_) AllReadyH.nil
                    refine Eq.mpr (if_pos (by rfl)) ?_
                    go_simp
                    (go_at_call 80; refine (rasOwner ta tr C.quiet C.parts.length A X.dev _ (HT1.out.keepN HR1.out)).mono ?_; rintro e w6 ⟨rfl, rfl⟩)
                    refine hK.out _ _ (HR1.out) (fun hHeld => ?_)
                    clear hK K
                    try simp only [Act.put, List.setIfInBounds_toArray, List.set_cons_zero, List.set_cons_succ]
                    refine wpAnyH_ready (rs := [6]) (by kernel_rfl) (List.cons_ne_nil _ _) ?_
                    refine AllReadyH.cons (o := ({ dst := some 64, op := Go.Op.call { callee := Go.Callee.value (Go.Operand.func 38), args := #[Go.Operand.tmp 58, Go.Operand.tmp 62, Go.Operand.tmp 63], argTypes := #[27, 3, 3] }, type := 4, pos := "ref.go:401", after := #[{ on := 0, ground := Go.Ground.data }, { on := 4, ground := Go.Ground.data }, { on := 5, ground := Go.Ground.data }, { on := 4, ground := Go.Ground.chain }], guard := none } : Oper)) rfl (fun K hK => ?_) AllReadyH.nil
                    refine Eq.mpr (if_pos (by rfl)) ?_
                    go_simp
                    (go_at_call 38; refine (refFlows _ _ C _ _ (HPC.out _ (HC1.out.trans HR1.out)).2 HDL.out).mono ?_; rintro e w8 ⟨rfl, k8⟩; replace HR1 := Lib.hid (HR1.out.trans k8); clear k8)
                    refine hK.out _ _ (HR1.out) (fun hHeld => ?_)
                    clear hK K
                    try simp only [Act.put, List.setIfInBounds_toArray, List.set_cons_zero, List.set_cons_succ]
                    refine wpAnyH_take (i := 7) (oi := ({ dst := some 13, op := Go.Op.assign (Go.Operand.tmp 64), type := 4, pos := "ref.go:401", after := #[{ on := 6, ground := Go.Ground.data }, { on := 6, ground := Go.Ground.chain }, { on := 0, ground := Go.Ground.phase }, { on := 1, ground := Go.Ground.phase }, { on := 2, ground := Go.Ground.phase }, { on := 3, ground := Go.Ground.phase }, { on := 4, ground := Go.Ground.phase }, { on := 5, ground := Go.Ground.phase }, { on := 6, ground := Go.Ground.phase }], guard := none } : Oper)) (v := ?_) rfl (by kernel_rfl) (by kernel_rfl) (by kernel_rfl) (fun _ _ _ h => h) (Or.inl ⟨by rfl, ?_⟩) (by assumption) ?_
                    rotate_left
                    · (intro w hSw; (try dsimp only at hSw); obtain ⟨y0, y1, y2, y3, y4, y5, y6, y7, y8⟩ := (HPC.out _ (HC1.out.trans hSw)).c9'; have z2 := blk_cell (hSw.at HB1.out id) 2; simp only [stcell, List.getElem?_toArray, List.getElem?_cons_zero, List.getElem?_cons_succ] at z2;  go_simp; try with_reducible rfl)
                    try simp only [Act.put, List.setIfInBounds_toArray, List.set_cons_zero, List.set_cons_succ]
                    refine wpAnyH_done (by kernel_rfl) ?_ _
                    go_wp2_with fail
                    go_meet
                    exact HF.out _ HR1.out
                · have e3 : (X.kind == 3) = false := by simpa using fun h => h34 (.inl h)
                  have e4 : (X.kind == 4) = false := by simpa using fun h => h34 (.inr h)
                  have HKP : Hid (keepP (fun x => flowB C x pn) A X = true) := by unfold Hid keepP; rw [if_neg hc, if_neg h34]
                  by_cases h2 : X.kind = 2
                  · have e2 : (X.kind == 2) = true := by simpa using h2
                    have HMV := Lib.hid (rasMove ta tr C.quiet C.parts.length A X.dev X.a W1 HT1.out HQ.out.1)
                    have HF : Hid (∀ W, RAsgAt W ta tr C.quiet C.parts.length (mvA C.quiet C.parts.length A X.dev X.a) → Chg (fun k => k = tr) W1 W → Value.int .i64 tk = .int .i64 (stepT tk X) ∧ Value.bool true = .bool (keepP (fun x => flowB C x pn) A X) ∧ RAsgAt W ta tr C.quiet C.parts.length (stepA C.quiet C.parts.length A tk X) ∧ Chg (fun k => k = tr) W1 W) := fun W hA hW => by
                      have n1 : ¬ (X.kind = 1 ∧ tk < 1048575) := fun h => by omega
                      rw [HKP.out]
                      unfold stepT stepA
                      rw [if_neg n1, if_pos h2]
                      exact ⟨rfl, rfl, hA, hW⟩
                    clear hc h34 h2
                    have z0 := blk_cell HB1.out 0
                    have z2 := blk_cell HB1.out 2
                    have z3 := blk_cell HB1.out 3
                    simp only [stcell, List.getElem?_toArray, List.getElem?_cons_zero, List.getElem?_cons_succ] at z0 z2 z3
                    go_wp2_with fail
                    refine (rCall X.kind _).mono ?_
                    rintro e w5 ⟨rfl, rfl⟩
                    rw [KC.out]
                    go_wp2_with fail
                    refine HMV.out.mono ?_
                    rintro e w8 ⟨rfl, hA8, hC8⟩
                    have HFF := Lib.hid (HF.out w8 hA8 hC8)
                    clear hA8 hC8 z0 z2 z3
                    go_wp2_with fail
                    go_meet
                    exact HFF.out
                  · have e2 : (X.kind == 2) = false := by simpa using h2
                    by_cases h1 : X.kind = 1
                    · have e1 : (X.kind == 1) = true := by simpa using h1
                      by_cases hq : tk < 1048575
                      · have e5 : decide (tk < 1048575) = true := decide_eq_true hq
                        have hwr : wrap64 (tk + 1) = tk + 1 := by unfold wrap64; omega
                        have HTK := Lib.hid (rasTick ta tr C.quiet C.parts.length A W1 HT1.out HOK.out)
                        have HF : Hid (∀ W, RAsgAt W ta tr C.quiet C.parts.length (tickA A) → Chg (fun k => k = tr) W1 W → Value.int .i64 (tk + 1) = .int .i64 (stepT tk X) ∧ Value.bool true = .bool (keepP (fun x => flowB C x pn) A X) ∧ RAsgAt W ta tr C.quiet C.parts.length (stepA C.quiet C.parts.length A tk X) ∧ Chg (fun k => k = tr) W1 W) := fun W hA hW => by
                          rw [HKP.out]
                          unfold stepT stepA
                          rw [if_pos ⟨h1, hq⟩, if_neg h2, if_pos ⟨h1, hq⟩]
                          exact ⟨rfl, rfl, hA, hW⟩
                        clear hc h34 h2 h1 hq
                        have z0 := blk_cell HB1.out 0
                        simp only [stcell, List.getElem?_toArray, List.getElem?_cons_zero, List.getElem?_cons_succ] at z0
                        go_wp2_with fail
                        refine (rCall X.kind _).mono ?_
                        rintro e w5 ⟨rfl, rfl⟩
                        rw [KC.out]
                        go_wp2_with fail
                        refine HTK.out.mono ?_
                        rintro e w8 ⟨tv, rfl, _, hA8, hC8⟩
                        have HFF := Lib.hid (HF.out w8 hA8 hC8)
                        clear hA8 hC8 z0
                        go_wp2_with fail
                        go_meet
                        exact HFF.out
                      · have e5 : decide (tk < 1048575) = false := decide_eq_false hq
                        have HF : Hid (Value.int .i64 tk = .int .i64 (stepT tk X) ∧ Value.bool true = .bool (keepP (fun x => flowB C x pn) A X) ∧ RAsgAt W1 ta tr C.quiet C.parts.length (stepA C.quiet C.parts.length A tk X) ∧ Chg (fun k => k = tr) W1 W1) := by
                          rw [HKP.out]
                          unfold stepT stepA
                          rw [if_neg (fun h => hq h.2), if_neg h2, if_neg (fun h => hq h.2)]
                          exact ⟨rfl, rfl, HT1.out, Chg.refl _ _⟩
                        clear hc h34 h2 h1 hq
                        have z0 := blk_cell HB1.out 0
                        simp only [stcell, List.getElem?_toArray, List.getElem?_cons_zero, List.getElem?_cons_succ] at z0
                        go_wp2_with fail
                        refine (rCall X.kind _).mono ?_
                        rintro e w5 ⟨rfl, rfl⟩
                        rw [KC.out]
                        go_wp2_with fail
                        go_meet
                        exact HF.out
                    · have e1 : (X.kind == 1) = false := by simpa using h1
                      have HF : Hid (Value.int .i64 tk = .int .i64 (stepT tk X) ∧ Value.bool true = .bool (keepP (fun x => flowB C x pn) A X) ∧ RAsgAt W1 ta tr C.quiet C.parts.length (stepA C.quiet C.parts.length A tk X) ∧ Chg (fun k => k = tr) W1 W1) := by
                        rw [HKP.out]
                        unfold stepT stepA
                        rw [if_neg (fun h => h1 h.1), if_neg h2, if_neg (fun h => h1 h.1)]
                        exact ⟨rfl, rfl, HT1.out, Chg.refl _ _⟩
                      clear hc h34 h2 h1
                      have z0 := blk_cell HB1.out 0
                      simp only [stcell, List.getElem?_toArray, List.getElem?_cons_zero, List.getElem?_cons_succ] at z0
                      go_wp2_with fail
                      refine (rCall X.kind _).mono ?_
                      rintro e w5 ⟨rfl, rfl⟩
                      rw [KC.out]
                      go_wp2_with fail
                      go_meet
                      exact HF.out
            case rest =>
              obtain ⟨rfl, rfl, hpu2, hC2⟩ := hcut
              have HB2 : Hid (wc.heap[sb]? = some (.cells (stcell X).toArray 59 (0, 0))) := hC2.at HB1.out (fun e => by have := HG.out.1; omega)
              have HO2 : Hid (OwnC stcell 7 59 wc b (.slice OB PP.length ok) PP) := HT1.out.far HO1.out hC2
              have HC2 : Hid (Chg (fun _ => False) W0 wc) := HC1.out.trans' hC2 (fun k hk e => by have := HTR.out.1; omega)
              have HG2 : Hid (sb ≤ wc.heap.size) := by have h1 := lt_of_heap HB2.out; exact Nat.le_of_lt h1
              have HPU2 := Lib.hid hpu2
              clear hpu2 hC2 HB1 HO1 HT1 HC1 HOK
              obtain ⟨w2, hw2⟩ : ∃ W, W = wc := ⟨_, rfl⟩
              rw [← hw2] at HB2 HO2 HC2 HG2 HPU2
              rw [← hw2]
              clear hw2
              by_cases hk : keepP (fun x => flowB C x pn) A X = true
              · rw [hk, if_pos rfl] at HPL
                rw [hk]
                clear hk
                obtain ⟨y0, y1, y2, y3, y4, y5, y6⟩ := X
                obtain ⟨W3, hW3⟩ : ∃ W, W = w2 := ⟨_, rfl⟩
                rw [← hW3] at HO2 HPU2 HC2 HG2 HB2
                rw [← hW3]
                clear hW3
                have z0 := blk_cell HB2.out 0
                have z1 := blk_cell HB2.out 1
                have z2 := blk_cell HB2.out 2
                have z3 := blk_cell HB2.out 3
                have z4 := blk_cell HB2.out 4
                have z5 := blk_cell HB2.out 5
                have z6 := blk_cell HB2.out 6
                simp only [stcell, List.getElem?_toArray, List.getElem?_cons_zero, List.getElem?_cons_succ] at z0 z1 z2 z3 z4 z5 z6
                have HO3 := HO2
                have HPU3 := HPU2
                have HC3 := HC2
                have HG3 : Hid (b ≤ W3.heap.size) := by have := HG.out.2; have := HG2.out; unfold Hid; omega
                clear HO2 HPU2 HC2 HB2
                obtain ⟨s0', si, sz0, sz1, sz2⟩ := info_parts Try.infoStep
                have HBK : Hid (∀ o, OwnC stcell 7 59 (W3.alloc o) b (.slice OB PP.length ok) PP) := fun o => HO3.out.keep ((Chg.refl (fun _ => False) _).alloc o) (fun _ _ => id)
                have HN := Lib.hid (rowc_blk (blk_new W3 (.cells #[.int .i64 y0, .int .i64 y1, .int .i64 y2, .int .i64 y3, .int .i64 y4, .int .i64 y5, .string y6] 59)))
                have HM := Lib.hid (show PP.length + 1 ≤ maxLen by have := HPN.out; unfold maxLen; omega)
                have HY := Lib.hid (show (PP.length + 1) * 64 ≤ 140737488355328 by have := HPN.out; have := HLM.out; omega)
                have HBS : Hid (∀ o, b ≤ (W3.alloc o).heap.size) := fun o => by have := HG3.out; simp; omega
                go_wp2_with (at_builtin; refine wpList_append_row _ rfl _ _ 49 rfl b 59 s0' (.agg #[.int .i64 0, .int .i64 0, .int .i64 0, .int .i64 0, .int .i64 0, .int .i64 0, .string ByteArray.empty]) 7 64 Try.underlying49 si sz0 sz1 sz2 rfl (by decide) (.slice OB PP.length ok) PP.length (PP.flatMap stcell) rfl (HBK.out _) (some ⟨W3.heap.size, 0, none⟩) 1 1 [.int .i64 y0, .int .i64 y1, .int .i64 y2, .int .i64 y3, .int .i64 y4, .int .i64 y5, .string y6] rfl rfl HN.out (by simp [Value.oneCell']) HM.out HY.out (HBS.out _) ?_)
                intro v5 w5 hown5 hgr hat5
                have hO5 : OwnC stcell 7 59 w5 b v5 (PP ++ [⟨y0, y1, y2, y3, y4, y5, y6⟩]) := by simpa [OwnC, stcell] using hown5
                have hC5 : Chg (fun k => some k = Value.ownBlock (.slice OB PP.length ok)) W3 w5 := Chg.grown ((Chg.refl _ _).alloc _) hgr (fun k hk _ => hk.symm)
                have HPU5 : Hid (RAsgAt w5 ta tr C.quiet C.parts.length (stepA C.quiet C.parts.length A tk ⟨y0, y1, y2, y3, y4, y5, y6⟩)) := HPU3.out.row HO3.out hC5
                have HC5 : Hid (Chg (fun _ => False) W0 w5) := HC3.out.trans' hC5 (fun k hk e => by have := (HOL.out k e.symm).2; omega)
                have HOB5 : Hid (∀ k, v5.ownBlock = some k → W0.heap.size ≤ k) := fun k hk => by
                  rcases hat5 with h | h
                  · exact (HOL.out k (h.symm.trans hk)).2
                  · rw [h] at hk; injection hk with hk; have := HC3.out.size; omega
                have HO5 := Lib.hid hO5
                clear hO5 hC5 hown5 hgr hat5 HBK HN HM HY HBS HO3 HPU3 HC3 z0 z1 z2 z3 z4 z5 z6
                go_wp2_with fail
                go_roundw
                case rel => exact ⟨j + 1, _, _, _, by omega, by go_num, rfl, rfl, by rw [HPL.out]; exact HO5.out, HPU5.out, HRN.out, HOK2.out, ⟨HTK2'.out, HOB5.out⟩, HC5.out⟩
                case measure => simp [intOf]; omega
              · have hkf : keepP (fun x => flowB C x pn) A X = false := by simpa using hk
                rw [hkf, if_neg (by decide)] at HPL
                rw [hkf]
                clear hk hkf
                have zl := lt_of_heap HB2.out
                have z0 := blk_cell HB2.out 0
                have z1 := blk_cell HB2.out 1
                have z2 := blk_cell HB2.out 2
                have z3 := blk_cell HB2.out 3
                have z4 := blk_cell HB2.out 4
                have z5 := blk_cell HB2.out 5
                have z6 := blk_cell HB2.out 6
                simp only [stcell, List.getElem?_toArray, List.getElem?_cons_zero, List.getElem?_cons_succ] at z0 z1 z2 z3 z4 z5 z6
                have f0 := blk_free HB2.out 0
                have f1 := blk_free HB2.out 1
                have f2 := blk_free HB2.out 2
                have f3 := blk_free HB2.out 3
                have f4 := blk_free HB2.out 4
                have f5 := blk_free HB2.out 5
                have f6 := blk_free HB2.out 6
                go_upto_region 22 with fail
                have hS3 : Chg (fun k => k = sb) w2 (((((((w2.setCell ⟨sb, 0, none⟩ (.int .i64 0)).setCell ⟨sb, 1, none⟩ (.int .i64 0)).setCell ⟨sb, 2, none⟩ (.int .i64 0)).setCell ⟨sb, 3, none⟩ (.int .i64 0)).setCell ⟨sb, 4, none⟩ (.int .i64 0)).setCell ⟨sb, 5, none⟩ (.int .i64 0)).setCell ⟨sb, 6, none⟩ (.string ByteArray.empty)) := (((((((Chg.refl _ _).set1 _).set1 _).set1 _).set1 _).set1 _).set1 _).set1 _
                have hB3 := blk_set (blk_set (blk_set (blk_set (blk_set (blk_set (blk_set HB2.out 0 (.int .i64 0)) 1 (.int .i64 0)) 2 (.int .i64 0)) 3 (.int .i64 0)) 4 (.int .i64 0)) 5 (.int .i64 0)) 6 (.string ByteArray.empty)
                obtain ⟨W3, hW3⟩ : ∃ W, W = (((((((w2.setCell ⟨sb, 0, none⟩ (.int .i64 0)).setCell ⟨sb, 1, none⟩ (.int .i64 0)).setCell ⟨sb, 2, none⟩ (.int .i64 0)).setCell ⟨sb, 3, none⟩ (.int .i64 0)).setCell ⟨sb, 4, none⟩ (.int .i64 0)).setCell ⟨sb, 5, none⟩ (.int .i64 0)).setCell ⟨sb, 6, none⟩ (.string ByteArray.empty)) := ⟨_, rfl⟩
                change Code.wp _ _ _ _ (((((((w2.setCell ⟨sb, 0, none⟩ (.int .i64 0)).setCell ⟨sb, 1, none⟩ (.int .i64 0)).setCell ⟨sb, 2, none⟩ (.int .i64 0)).setCell ⟨sb, 3, none⟩ (.int .i64 0)).setCell ⟨sb, 4, none⟩ (.int .i64 0)).setCell ⟨sb, 5, none⟩ (.int .i64 0)).setCell ⟨sb, 6, none⟩ (.string ByteArray.empty))
                rw [← hW3] at hS3 hB3 ⊢
                clear hW3 zl z0 z1 z2 z3 z4 z5 z6 f0 f1 f2 f3 f4 f5 f6
                have z0 := blk_cell hB3 0
                have z1 := blk_cell hB3 1
                have z2 := blk_cell hB3 2
                have z3 := blk_cell hB3 3
                have z4 := blk_cell hB3 4
                have z5 := blk_cell hB3 5
                have z6 := blk_cell hB3 6
                simp [stcell] at z0 z1 z2 z3 z4 z5 z6
                have HO3 : Hid (OwnC stcell 7 59 W3 b (.slice OB PP.length ok) PP) := HO2.out.keep hS3 (fun k hk e => by have := (HOL.out k hk).1; omega)
                have HPU3 := Lib.hid (HPU2.out.farT HB2.out (by decide) (by decide) hS3)
                have HC3 : Hid (Chg (fun _ => False) W0 W3) := HC2.out.trans' hS3 (fun k hk e => by have := HB0.out; omega)
                have HG3 : Hid (b ≤ W3.heap.size) := by have := HG.out.2; have := HG2.out; have := hS3.size; unfold Hid; omega
                clear HO2 HPU2 HC2 HB2 hS3 hB3
                obtain ⟨s0', si, sz0, sz1, sz2⟩ := info_parts Try.infoStep
                have HBK : Hid (∀ o, OwnC stcell 7 59 (W3.alloc o) b (.slice OB PP.length ok) PP) := fun o => HO3.out.keep ((Chg.refl (fun _ => False) _).alloc o) (fun _ _ => id)
                have HN := Lib.hid (rowc_blk (blk_new W3 (.cells #[.int .i64 0, .int .i64 0, .int .i64 0, .int .i64 0, .int .i64 0, .int .i64 0, .string ByteArray.empty] 59)))
                have HM := Lib.hid (show PP.length + 1 ≤ maxLen by have := HPN.out; unfold maxLen; omega)
                have HY := Lib.hid (show (PP.length + 1) * 64 ≤ 140737488355328 by have := HPN.out; have := HLM.out; omega)
                have HBS : Hid (∀ o, b ≤ (W3.alloc o).heap.size) := fun o => by have := HG3.out; simp; omega
                go_wp2_with (at_builtin; refine wpList_append_row _ rfl _ _ 49 rfl b 59 s0' (.agg #[.int .i64 0, .int .i64 0, .int .i64 0, .int .i64 0, .int .i64 0, .int .i64 0, .string ByteArray.empty]) 7 64 Try.underlying49 si sz0 sz1 sz2 rfl (by decide) (.slice OB PP.length ok) PP.length (PP.flatMap stcell) rfl (HBK.out _) (some ⟨W3.heap.size, 0, none⟩) 1 1 [.int .i64 0, .int .i64 0, .int .i64 0, .int .i64 0, .int .i64 0, .int .i64 0, .string ByteArray.empty] rfl rfl HN.out (by simp [Value.oneCell']) HM.out HY.out (HBS.out _) ?_)
                intro v5 w5 hown5 hgr hat5
                have hO5 : OwnC stcell 7 59 w5 b v5 (PP ++ [⟨0, 0, 0, 0, 0, 0, ByteArray.empty⟩]) := by simpa [OwnC, stcell] using hown5
                have hC5 : Chg (fun k => some k = Value.ownBlock (.slice OB PP.length ok)) W3 w5 := Chg.grown ((Chg.refl _ _).alloc _) hgr (fun k hk _ => hk.symm)
                have HPU5 : Hid (RAsgAt w5 ta tr C.quiet C.parts.length (stepA C.quiet C.parts.length A tk X)) := HPU3.out.row HO3.out hC5
                have HC5 : Hid (Chg (fun _ => False) W0 w5) := HC3.out.trans' hC5 (fun k hk e => by have := (HOL.out k e.symm).2; omega)
                have HOB5 : Hid (∀ k, v5.ownBlock = some k → W0.heap.size ≤ k) := fun k hk => by
                  rcases hat5 with h | h
                  · exact (HOL.out k (h.symm.trans hk)).2
                  · rw [h] at hk; injection hk with hk; have := HC3.out.size; omega
                have HO5 := Lib.hid hO5
                clear hO5 hC5 hown5 hgr hat5 HBK HN HM HY HBS HO3 HPU3 HC3 z0 z1 z2 z3 z4 z5 z6
                go_wp2_with fail
                go_roundw
                case rel => exact ⟨j + 1, _, _, _, by omega, by go_num, rfl, rfl, by rw [HPL.out]; exact HO5.out, HPU5.out, HRN.out, HOK2.out, ⟨HTK2'.out, HOB5.out⟩, HC5.out⟩
                case measure => simp [intOf]; omega
          · obtain rfl : j = L.length := by omega
            have hE : purgeL (fun x => flowB C x pn) C.quiet C.parts.length (asgOf C, 0) (L.take L.length) = purgeL (fun x => flowB C x pn) C.quiet C.parts.length (asgOf C, 0) L := by rw [List.take_length]
            have HO : Hid (OwnC stcell 7 59 wr b (.slice OB (purgeL (fun x => flowB C x pn) C.quiet C.parts.length (asgOf C, 0) (L.take L.length)).length ok) (purgeC C pn L)) := by unfold Hid purgeC; rw [← HFP.out, ← hE]; exact ho
            clear ho hpu hrun hok htk hE hob
            have HC := Lib.hid hC; clear hC
            go_wp2_with fail
            go_ret2
            unfold PurgePost
            rw [if_pos EP.out]
            exact ⟨_, rfl, by rw [HBW.out]; exact HO.out, HA.out.trans HC.out⟩
      · have d2 : decide ((C.parts.length : Int) ≤ p) = true := decide_eq_true (by omega)
        have EP := Lib.hid (show ¬ (MayP C ∧ C.there p) from fun h => t2 h.2.2)
        clear hm t1 t2
        go_wp2_with fail
        refine (refMay C _ _ (HP.out _ (Chg.refl _ _)).2 HDL.out).mono ?_
        rintro e w5 ⟨rfl, k5⟩
        rw [R0.out]
        have HR := Lib.hid k5
        clear k5 y0 y1 y2 y3 y4 y5 y6 y7 y8
        obtain ⟨y0, y1, y2, y3, y4, y5, y6, y7, y8⟩ := (HP.out _ HR.out).c9'
        go_wp2_with fail
        go_ret2
        unfold PurgePost
        rw [if_neg EP.out]
        exact ⟨rfl, HA.out.trans HR.out⟩
    · have d1 : decide (p < 0) = true := decide_eq_true (by omega)
      have EP := Lib.hid (show ¬ (MayP C ∧ C.there p) from fun h => t1 h.2.1)
      clear hm t1
      go_wp2_with fail
      refine (refMay C _ _ (HP.out _ (Chg.refl _ _)).2 HDL.out).mono ?_
      rintro e w5 ⟨rfl, k5⟩
      rw [R0.out]
      have HR := Lib.hid k5
      clear k5 y0 y1 y2 y3 y4 y5 y6 y7 y8
      obtain ⟨y0, y1, y2, y3, y4, y5, y6, y7, y8⟩ := (HP.out _ HR.out).c9'
      go_wp2_with fail
      go_ret2
      unfold PurgePost
      rw [if_neg EP.out]
      exact ⟨rfl, HA.out.trans HR.out⟩
end Go.Proofs.Ytncbcjjdnlmjbaa
