/- A config copied: CopyConfig. Printed by mkcopy3.py. -/
import Derived.Test.YtncbcjjdnlmjbaaCopy
set_option linter.unusedSimpArgs false
set_option linter.unusedVariables false
namespace Go.Proofs.Ytncbcjjdnlmjbaa
open Go.RowKit

theorem OwnC.down {α : Type} {cells : α → List Value} {C e : Nat} {w : World} {base base' : Nat} {v : Value} {L : List α} (h : OwnC cells C e w base v L) (hb : base' ≤ base) : OwnC cells C e w base' v L := by
  obtain ⟨h1, h2⟩ := h
  refine ⟨h1, ?_⟩
  rcases h2 with h2 | ⟨g, cap, cur, hv, hg, hh, r⟩
  · exact .inl h2
  · exact .inr ⟨g, cap, cur, hv, Nat.le_trans hb hg, hh, r⟩
theorem OwnPs.down {w : World} {base base' : Nat} {v : Value} {L : List Prt} (h : OwnPs w base v L) (hb : base' ≤ base) : OwnPs w base' v L := by
  obtain ⟨M, h1, h2, h3⟩ := h; exact ⟨M, h1, h2.down hb, fun x hx => (h3 x hx).down hb⟩
/-- A store into a block of another type. -/
theorem OwnC.far {α : Type} {cells : α → List Value} {C e : Nat} {w w' : World} {base : Nat} {v : Value} {L : List α} (h : OwnC cells C e w base v L) {b : Nat} {cs : Array Value} {t : TypeId} {fr : Nat × Nat} (hb : w.heap[b]? = some (.cells cs t fr)) (ht : t ≠ e) (hC : Chg (fun k => k = b) w w') : OwnC cells C e w' base v L :=
  h.keep hC (fun k hk e => own_ne h hb ht (by rw [hk, e]))
theorem OwnPs.far {w w' : World} {base : Nat} {v : Value} {L : List Prt} (h : OwnPs w base v L) {b : Nat} {cs : Array Value} {t : TypeId} {fr : Nat × Nat} (hb : w.heap[b]? = some (.cells cs t fr)) (ht : t ≠ 40) (ht' : t ≠ 3) (hC : Chg (fun k => k = b) w w') : OwnPs w' base v L := by
  obtain ⟨M, h1, h2, h3⟩ := h; exact ⟨M, h1, h2.far hb ht hC, fun x hx => (h3 x hx).far hb ht' hC⟩
theorem OwnDs.far {w w' : World} {base : Nat} {v : Value} {L : List Dv} (h : OwnDs w base v L) {b : Nat} {cs : Array Value} {t : TypeId} {fr : Nat × Nat} (hb : w.heap[b]? = some (.cells cs t fr)) (ht : t ≠ 42) (ht' : t ≠ 3) (hC : Chg (fun k => k = b) w w') : OwnDs w' base v L := by
  obtain ⟨M, h1, h2, h3⟩ := h; exact ⟨M, h1, h2.far hb ht hC, fun x hx => (h3 x hx).far hb ht' hC⟩
theorem setCells9 (w : World) (b : Nat) (a0 a1 a2 a3 a4 a5 a6 a7 a8 : Value) : w.setCells b 0 [a0, a1, a2, a3, a4, a5, a6, a7, a8] = (((((((((w.setCell ⟨b, 0, none⟩ a0).setCell ⟨b, 1, none⟩ a1).setCell ⟨b, 2, none⟩ a2).setCell ⟨b, 3, none⟩ a3).setCell ⟨b, 4, none⟩ a4).setCell ⟨b, 5, none⟩ a5).setCell ⟨b, 6, none⟩ a6).setCell ⟨b, 7, none⟩ a7).setCell ⟨b, 8, none⟩ a8) := rfl
theorem wl9 (z0 z1 z2 z3 z4 z5 z6 z7 z8 a0 a1 a2 a3 a4 a5 a6 a7 a8 : Value) : wl #[z0, z1, z2, z3, z4, z5, z6, z7, z8] 0 [a0, a1, a2, a3, a4, a5, a6, a7, a8] = #[a0, a1, a2, a3, a4, a5, a6, a7, a8] := by simp [wl]
def CopyCfgPost (C : Cf) (w : World) (e : Ending) (w' : World) : Prop := ∃ s, e = .returned (.agg (cfc C s)) ∧ OwnCf w' w.heap.size C s ∧ Chg (fun _ => False) w w'
set_option maxRecDepth 100000 in
set_option maxHeartbeats 4000000 in
theorem copyConfig (C : Cf) (s : Vs) (w : World) (h : s.R w C) (hb : CfB C) :
    Calls Try.prog 22 #[.agg (cfc C s)] w (CopyCfgPost C w) := by
  obtain ⟨i0, ii, iz0, iz1, iz2⟩ := info_parts Try.infoInt
  obtain ⟨d0, di, dz0, dz1, dz2⟩ := info_parts Try.infoDev
  obtain ⟨n0, ni, nz0, nz1, nz2⟩ := info_parts Try.infoWin
  obtain ⟨g0, gi, gz0, gz1, gz2⟩ := info_parts Try.infoGrt
  have HR : Hid (∀ W, Chg (fun _ => False) w W → s.R W C) := fun W hW => h.keepN hW
  have HB := Lib.hid hb; clear hb
  obtain ⟨A1, k1, A2, k2, A3, k3, A4, k4, rfl, m1, m2, m3, m4⟩ := (byVal h _ (Chg.refl _ _)).open
  clear h
  unfold cfc at *
  go_enter Try.func22, Try.ntmps22
  go_upto_region 1 with fail
  refine wp_abs (fun W => W.heap[w.heap.size]? = some (.cells #[.int .i64 C.frames, (.slice A1 C.parts.length k1), (.slice A2 C.devs.length k2), .int .i64 C.major, (.slice A3 C.wins.length k3), (.slice A4 C.grants.length k4), .int .i64 C.sectors, .int .i64 C.quota, .int .i64 C.quiet] 27 (0, 0)) ∧ W.heap[w.heap.size + 1]? = some (.cells #[.int .i64 0, .slice none 0 0, .slice none 0 0, .int .i64 0, .slice none 0 0, .slice none 0 0, .int .i64 0, .int .i64 0, .int .i64 0] 27 (0, 0)) ∧ Chg (fun _ => False) w W) ?_ ?_
  · exact ⟨((Chg.refl (fun _ => False) _).alloc _).at (blk_new w _) id, blk_new2 w _ _, ((Chg.refl _ _).alloc _).alloc _⟩
  rintro W0 ⟨hcb, hzb, hC⟩
  have y0 := blk_cell hcb 0
  have y1 := blk_cell hcb 1
  have y2 := blk_cell hcb 2
  have y3 := blk_cell hcb 3
  have y4 := blk_cell hcb 4
  have y5 := blk_cell hcb 5
  have y6 := blk_cell hcb 6
  have y7 := blk_cell hcb 7
  have y8 := blk_cell hcb 8
  simp only [List.getElem?_toArray, List.getElem?_cons_zero, List.getElem?_cons_succ] at y0 y1 y2 y3 y4 y5 y6 y7 y8
  have HCB := Lib.hid hcb; clear hcb
  have HZB := Lib.hid hzb; clear hzb
  have HC := Lib.hid hC; clear hC
  have HCP := Lib.hid (copyParts _ C.parts W0 (HR.out _ HC.out).1 HB.out.ps HB.out.fr)
  go_wp2_with fail
  refine HCP.out.mono ?_
  rintro e w1 ⟨vps, rfl, hops, hC1⟩
  clear HCP y0 y1 y2 y3 y4 y5 y6 y7 y8
  have hcb := hC1.at HCB.out id
  have hzb := hC1.at HZB.out id
  have y0 := blk_cell hcb 0
  have y1 := blk_cell hcb 1
  have y2 := blk_cell hcb 2
  have y3 := blk_cell hcb 3
  have y4 := blk_cell hcb 4
  have y5 := blk_cell hcb 5
  have y6 := blk_cell hcb 6
  have y7 := blk_cell hcb 7
  have y8 := blk_cell hcb 8
  simp only [List.getElem?_toArray, List.getElem?_cons_zero, List.getElem?_cons_succ] at y0 y1 y2 y3 y4 y5 y6 y7 y8
  have yf := blk_free hcb 1
  have yf2 := blk_free hcb 2
  have yl := lt_of_heap hcb
  have HO := Lib.hid (hops.down HC.out.size)
  obtain ⟨M0, hM0, hM1, _⟩ := hops
  obtain ⟨P1, q1, hv⟩ := hM1.slice
  have hml : M0.length = C.parts.length := by rw [← hM0]; simp
  rw [hml] at hv
  subst hv
  replace HCB := Lib.hid hcb
  replace HZB := Lib.hid hzb
  replace HC := Lib.hid (HC.out.trans hC1)
  clear hcb hzb hC1 hM0 hM1 hml
  go_upto_region 4 with fail
  refine wp_abs (fun W => W.heap[w.heap.size]? = some (.cells #[.int .i64 C.frames, (.slice P1 C.parts.length q1), (.slice none 0 0), .int .i64 C.major, (.slice A3 C.wins.length k3), (.slice A4 C.grants.length k4), .int .i64 C.sectors, .int .i64 C.quota, .int .i64 C.quiet] 27 (0, 0)) ∧ W.heap[w.heap.size + 1]? = some (.cells #[.int .i64 0, .slice none 0 0, .slice none 0 0, .int .i64 0, .slice none 0 0, .slice none 0 0, .int .i64 0, .int .i64 0, .int .i64 0] 27 (0, 0)) ∧ OwnPs W w.heap.size (.slice P1 C.parts.length q1) C.parts ∧ Chg (fun _ => False) w W) ?_ ?_
  · have hS : ∀ u u', Chg (fun k => k = w.heap.size) w1 ((w1.setCell ⟨w.heap.size, 1, none⟩ u).setCell ⟨w.heap.size, 2, none⟩ u') := fun u u' => ((Chg.refl _ _).set1 _).set1 _
    exact ⟨blk_set (blk_set HCB.out 1 _) 2 _, (hS _ _).at HZB.out (by omega), HO.out.far HCB.out (by decide) (by decide) (hS _ _), HC.out.trans' (hS _ _) (fun k hk e => by omega)⟩
  clear HCB HZB HO HC y0 y1 y2 y3 y4 y5 y6 y7 y8 yf yf2 yl
  rintro W4 ⟨hcb, hzb, hops, hC⟩
  have HCB := Lib.hid hcb; clear hcb
  have HZB := Lib.hid hzb; clear hzb
  have HO := Lib.hid hops; clear hops
  have HC := Lib.hid hC; clear hC
  have HO0 := Lib.hid (OwnC.nil (cells := dvc) (C := 2) (e := 42) W4 w.heap.size)
  go_wp2_with fail
  go_loopw [4] (fun s4 wr => ∃ (i : Nat) (vds : Value), i ≤ C.devs.length ∧ s4 = .int .i64 i ∧ wr.heap[w.heap.size]? = some (.cells #[.int .i64 C.frames, (.slice P1 C.parts.length q1), vds, .int .i64 C.major, (.slice A3 C.wins.length k3), (.slice A4 C.grants.length k4), .int .i64 C.sectors, .int .i64 C.quota, .int .i64 C.quiet] 27 (0, 0)) ∧ wr.heap[w.heap.size + 1]? = some (.cells #[.int .i64 0, .slice none 0 0, .slice none 0 0, .int .i64 0, .slice none 0 0, .slice none 0 0, .int .i64 0, .int .i64 0, .int .i64 0] 27 (0, 0)) ∧ OwnPs wr w.heap.size (.slice P1 C.parts.length q1) C.parts ∧ OwnDs wr w.heap.size vds (C.devs.take i) ∧ Chg (fun _ => False) w wr) (fun s4 _ => (C.devs.length - intOf s4).toNat)
  case atStart => exact ⟨0, _, by omega, rfl, HCB.out, HZB.out, HO.out, ⟨[], rfl, HO0.out, by simp⟩, HC.out⟩
  case round =>
    clear HCB HZB HO HC HO0
    obtain ⟨i, vds, hi, rfl, hcb, hzb, hops, hods, hC⟩ := hrel
    have i0' : (0 : Int) ≤ i := by omega
    have HC := Lib.hid hC; clear hC
    have HCB := Lib.hid hcb; clear hcb
    have HZB := Lib.hid hzb; clear hzb
    have HO := Lib.hid hops; clear hops
    by_cases hlt : i < C.devs.length
    · have i1 : (i : Int) < C.devs.length := by omega
      obtain ⟨_, A', c', hv, hel⟩ := (HR.out wr HC.out).2.1
      injection hv with e1 e2 e3
      subst e1 e3
      obtain ⟨g, o, F, rfl, a0, a1, hF⟩ := hel i hlt
      clear hel e2
      obtain ⟨hfm, FA, fc, rfl⟩ := hF.form
      obtain ⟨X, hX⟩ : ∃ X, X = C.devs[i] := ⟨_, rfl⟩
      have HX := Lib.hid hX
      have hfl : X.pool.length * 8 ≤ 140737488351232 := by rw [hX]; exact HB.out.po _ (List.getElem_mem hlt)
      rw [← hX] at a0 a1 hF
      have HTK : Hid (C.devs.take (i + 1) = C.devs.take i ++ [X]) := by unfold Hid; rw [List.take_succ_eq_append_getElem hlt, hX]
      clear hX hfm
      have hC2 : Chg (fun _ => False) wr ((wr.alloc (.cells #[.int .i64 X.part, .slice FA X.pool.length fc] 42)).alloc (.cells #[] 3)) := ((Chg.refl _ _).alloc _).alloc _
      have hsrc := (hF.keepN hC2).rowc
      have HSRC := Lib.hid hsrc; clear hsrc hF hC2
      have hemp : ((wr.alloc (.cells #[.int .i64 X.part, .slice FA X.pool.length fc] 42)).alloc (.cells #[] 3)).ownsRow w.heap.size 3 1 (.slice (some ⟨wr.heap.size + 1, 0, none⟩) 0 0) 0 [] := by have := own_empty (wr.alloc (.cells #[.int .i64 X.part, .slice FA X.pool.length fc] 42)) 3 1 w.heap.size (by have := HC.out.size; simp; omega); simpa using this
      have HEMP := Lib.hid hemp; clear hemp
      have HOD := Lib.hid hods; clear hods
      have HM := Lib.hid (show 0 + X.pool.length ≤ maxLen by unfold maxLen; omega)
      have HBS := Lib.hid (show w.heap.size ≤ ((wr.alloc (.cells #[.int .i64 X.part, .slice FA X.pool.length fc] 42)).alloc (.cells #[] 3)).heap.size by have := HC.out.size; simp; omega)
      have HL0 := Lib.hid (flat_len icell 1 (fun _ => rfl) X.pool)
      go_wp2_with (at_builtin; refine wpList_append_row _ rfl _ _ 38 rfl w.heap.size 3 i0 (.int .i64 0) 1 8 Try.underlying38 ii iz0 iz1 iz2 rfl (by decide) (.slice (some ⟨wr.heap.size + 1, 0, none⟩) 0 0) 0 [] rfl HEMP.out FA X.pool.length fc (X.pool.flatMap icell) rfl HL0.out HSRC.out (one_icell _) HM.out (by omega) HBS.out ?_)
      intro v5 w5 hown5 hgr hat5
      have hO5 : OwnC icell 1 3 w5 w.heap.size v5 X.pool := by simpa [OwnC] using hown5
      have hCg : Chg (fun k => k = wr.heap.size + 1) ((wr.alloc (.cells #[.int .i64 X.part, .slice FA X.pool.length fc] 42)).alloc (.cells #[] 3)) w5 := Chg.grown (Chg.refl _ _) hgr (fun k hk _ => by injection hk with hk; exact hk.symm)
      have hbox := hCg.at (blk_alloc (blk_new wr (.cells #[.int .i64 X.part, .slice FA X.pool.length fc] 42)) (.cells #[] 3)) (by omega)
      have hC5 : Chg (fun k => k = wr.heap.size + 1) wr w5 := ((((Chg.refl _ _).alloc (.cells #[.int .i64 X.part, .slice FA X.pool.length fc] 42)).alloc (.cells #[] 3))).trans hCg
      obtain ⟨A5, c5, hv5⟩ := hO5.slice
      subst hv5
      have z0 := blk_cell hbox 0
      have z1 := blk_cell hbox 1
      have zf := blk_free hbox 1
      have zl := lt_of_heap hbox
      simp only [List.getElem?_toArray, List.getElem?_cons_zero, List.getElem?_cons_succ] at z0 z1
      have HBX := Lib.hid hbox; clear hbox
      have HO5 := Lib.hid hO5; clear hO5
      have HC5 := Lib.hid hC5; clear hC5 hCg hown5 hgr hat5 HEMP HSRC HL0 HM HBS a0 a1
      go_upto_region 9 with fail
      have hne : ∀ k, Value.ownBlock (.slice A5 X.pool.length c5) = some k → k ≠ wr.heap.size := fun k hk => by rintro rfl; exact own_ne HO5.out HBX.out (by decide) hk
      refine wp_abs (fun W => W.heap[wr.heap.size]? = some (.cells #[.int .i64 X.part, .slice A5 X.pool.length c5] 42 (0, 0)) ∧ OwnC icell 1 3 W w.heap.size (.slice A5 X.pool.length c5) X.pool ∧ Chg (fun k => wr.heap.size ≤ k) wr W) ?_ ?_
      · exact ⟨blk_set HBX.out 1 _, HO5.out.keep ((Chg.refl (fun k => k = wr.heap.size) _).set1 _) (fun k hk e => hne k hk e), (HC5.out.mono (fun k _ e => by omega)).trans' ((Chg.refl (fun k => k = wr.heap.size) _).set1 _) (fun k _ e => by omega)⟩
      clear HO5 HC5 HBX z0 z1 zf zl hne
      rintro W6 ⟨hbx, hO6, hC6⟩
      have z0 := blk_cell hbx 0
      have z1 := blk_cell hbx 1
      simp only [List.getElem?_toArray, List.getElem?_cons_zero, List.getElem?_cons_succ] at z0 z1
      have hcb6 := hC6.at HCB.out (by have := lt_of_heap HCB.out; omega)
      have hzb6 := hC6.at HZB.out (by have := lt_of_heap HZB.out; omega)
      have HO6P := Lib.hid (HO.out.keep hC6 (fun k h1 h2 e => by omega))
      obtain ⟨M, hM1, hM2, hM3⟩ := HOD.out.keep hC6 (fun k h1 h2 e => by omega)
      obtain ⟨B5, d5, hv⟩ := hM2.slice
      subst hv
      have y0 := blk_cell hcb6 0
      have y1 := blk_cell hcb6 1
      have y2 := blk_cell hcb6 2
      have y3 := blk_cell hcb6 3
      have y4 := blk_cell hcb6 4
      have y5 := blk_cell hcb6 5
      have y6 := blk_cell hcb6 6
      have y7 := blk_cell hcb6 7
      have y8 := blk_cell hcb6 8
      simp only [List.getElem?_toArray, List.getElem?_cons_zero, List.getElem?_cons_succ] at y0 y1 y2 y3 y4 y5 y6 y7 y8
      have HCB6 := Lib.hid hcb6; clear hcb6
      have HZB6 := Lib.hid hzb6; clear hzb6
      have hml : M.length = i := by have := congrArg List.length hM1; simp at this; omega
      have HBK : Hid (∀ o, OwnC dvc 2 42 (W6.alloc o) w.heap.size (.slice B5 M.length d5) M) := fun o => hM2.keep ((Chg.refl (fun _ => False) _).alloc o) (fun _ _ => id)
      have HLT : Hid (∀ k, Value.ownBlock (.slice B5 M.length d5) = some k → w.heap.size ≤ k) := fun k hk => (own_lt hM2 hk).1
      have HN := Lib.hid (rowc_blk (blk_new W6 (.cells #[.int .i64 X.part, .slice A5 X.pool.length c5] 42)))
      have HM1 := Lib.hid hM1; clear hM1 hM2 hbx
      have HM3 := Lib.hid hM3; clear hM3
      have HO6 := Lib.hid hO6; clear hO6
      have HC6 : Hid (Chg (fun _ => False) w W6) := HC.out.trans' hC6 (fun k hk e => by have := HC.out.size; omega)
      have HM63 := Lib.hid (show M.length + 1 ≤ maxLen by have := HB.out.ds; unfold reachBytes at this; unfold maxLen; omega)
      have HMBY := Lib.hid (show (M.length + 1) * 32 ≤ 140737488355328 by have := HB.out.ds; unfold reachBytes at this; omega)
      clear hml hC6
      have HBS : Hid (∀ o, w.heap.size ≤ (W6.alloc o).heap.size) := fun o => by have := HC6.out.size; simp; omega
      clear HO HCB HZB
      go_wp2_with (at_builtin; refine wpList_append_row _ rfl _ _ 23 rfl w.heap.size 42 d0 (.agg #[.int .i64 0, .slice none 0 0]) 2 32 Try.underlying23 di dz0 dz1 dz2 rfl (by decide) (.slice B5 M.length d5) M.length (M.flatMap dvc) rfl (HBK.out _) (some ⟨W6.heap.size, 0, none⟩) 1 1 [.int .i64 X.part, .slice A5 X.pool.length c5] rfl rfl HN.out (by intro u hu; simp at hu; rcases hu with rfl | rfl <;> rfl) HM63.out HMBY.out (HBS.out _) ?_)
      intro v7 w7 hown7 hgr hat7
      have hC7 : Chg (fun k => some k = Value.ownBlock (.slice B5 M.length d5)) W6 w7 := Chg.grown ((Chg.refl _ _).alloc _) hgr (fun k hk _ => hk.symm)
      have hM7 : OwnC dvc 2 42 w7 w.heap.size v7 (M ++ [(X, .slice A5 X.pool.length c5)]) := by simpa [OwnC, dvc] using hown7
      have hty : ∀ b cs t fr, W6.heap[b]? = some (.cells cs t fr) → t ≠ 42 → ¬ some b = Value.ownBlock (.slice B5 M.length d5) := fun b cs t fr hb ht e => by
        exact own_ne (HBK.out (.cells #[] 3)) (blk_alloc hb _) ht e.symm
      have hne7 : ∀ {u : Value} {L : List Int}, OwnC icell 1 3 W6 w.heap.size u L → OwnC icell 1 3 w7 w.heap.size u L := fun {u L} ho => ho.keep hC7 (fun k hk e => by
        rcases ho.2 with ⟨hv, _⟩ | ⟨g, cap, cur, hv, _, hg, _⟩
        · rw [hv] at hk; cases hk
        · rw [hv] at hk; injection hk with hk
          subst hk
          exact hty _ _ _ _ hg (by decide) e)
      have hcb7 := hC7.at HCB6.out (hty _ _ _ _ HCB6.out (by decide))
      have hzb7 := hC7.at HZB6.out (hty _ _ _ _ HZB6.out (by decide))
      have hps7 : OwnPs w7 w.heap.size (.slice P1 C.parts.length q1) C.parts := by
        obtain ⟨N, n1, n2, n3⟩ := HO6P.out
        refine ⟨N, n1, n2.keep hC7 (fun k hk e => ?_), fun x hx => hne7 (n3 x hx)⟩
        rcases n2.2 with ⟨hv, _⟩ | ⟨g, cap, cur, hv, _, hg, _⟩
        · rw [hv] at hk; cases hk
        · rw [hv] at hk; injection hk with hk
          subst hk
          exact hty _ _ _ _ hg (by decide) e
      obtain ⟨B7, d7, hv7⟩ := hM7.slice
      rw [List.length_append, List.length_singleton] at hv7
      have HF7 : Hid (OwnDs w7 w.heap.size v7 (C.devs.take (i + 1))) := by
        unfold Hid; rw [HTK.out]
        exact OwnDs.snoc HM1.out hM7 (fun y hy => hne7 (HM3.out y hy)) (hne7 HO6.out)
      have HC7 : Hid (Chg (fun _ => False) w w7) := HC6.out.trans' hC7 (fun k hk e => by have := HLT.out k e.symm; omega)
      subst hv7
      clear y0 y1 y2 y3 y4 y5 y6 y7 y8 z0 z1
      have y0 := blk_cell hcb7 0
      have y1 := blk_cell hcb7 1
      have y2 := blk_cell hcb7 2
      have y3 := blk_cell hcb7 3
      have y4 := blk_cell hcb7 4
      have y5 := blk_cell hcb7 5
      have y6 := blk_cell hcb7 6
      have y7 := blk_cell hcb7 7
      have y8 := blk_cell hcb7 8
      simp only [List.getElem?_toArray, List.getElem?_cons_zero, List.getElem?_cons_succ] at y0 y1 y2 y3 y4 y5 y6 y7 y8
      have yf := blk_free hcb7 2
      have yl := lt_of_heap hcb7
      have HCB7 := Lib.hid hcb7; clear hcb7
      have HZB7 := Lib.hid hzb7; clear hzb7
      have HP7 := Lib.hid hps7; clear hps7
      have HFIN : Hid (∀ u, Chg (fun k => k = w.heap.size) w7 (w7.setCell ⟨w.heap.size, 2, none⟩ u)) := fun u => (Chg.refl _ _).set1 _
      clear hC7 hM7 hne7 hown7 hgr hat7 hty HBK HLT HM1 HM3 HO6 HC6 HN HBS HM63 HMBY HCB6 HZB6 HO6P HOD HC
      go_wp2_with fail
      go_roundw
      case rel => exact ⟨i + 1, _, by omega, by go_num, blk_set HCB7.out 2 _, (HFIN.out _).at HZB7.out (by omega), HP7.out.far HCB7.out (by decide) (by decide) (HFIN.out _), HF7.out.far HCB7.out (by decide) (by decide) (HFIN.out _), HC7.out.trans' (HFIN.out _) (fun k hk e => by omega)⟩
      case measure => simp [intOf]; omega
    · obtain rfl : i = C.devs.length := by omega
      rw [List.take_length] at hods
      have HOD := Lib.hid hods; clear hods
      obtain ⟨M, hM1, hM2, _⟩ := HOD.out
      obtain ⟨B5, d5, hv⟩ := hM2.slice
      have hml : M.length = C.devs.length := by rw [← hM1]; simp
      rw [hml] at hv
      subst hv
      clear hM1 hM2 hml
      have hcb := HCB.out
      have y0 := blk_cell hcb 0
      have y1 := blk_cell hcb 1
      have y2 := blk_cell hcb 2
      have y3 := blk_cell hcb 3
      have y4 := blk_cell hcb 4
      have y5 := blk_cell hcb 5
      have y6 := blk_cell hcb 6
      have y7 := blk_cell hcb 7
      have y8 := blk_cell hcb 8
      simp only [List.getElem?_toArray, List.getElem?_cons_zero, List.getElem?_cons_succ] at y0 y1 y2 y3 y4 y5 y6 y7 y8
      clear hcb
      obtain ⟨wq, hwq⟩ : ∃ W, W = wr := ⟨_, rfl⟩
      subst hwq
      have yl0 := lt_of_heap HCB.out
      have hemp : (wq.alloc (.cells #[] 119)).ownsRow w.heap.size 119 4 (.slice (some ⟨wq.heap.size, 0, none⟩) 0 0) 0 [] := own_empty wq 119 4 w.heap.size HC.out.size
      have HEMP := Lib.hid hemp; clear hemp
      have HSRC := Lib.hid (((HR.out _ HC.out).2.2.1.keepN ((Chg.refl _ _).alloc (.cells #[] 119))).rowc)
      have HL0 := Lib.hid (flat_len wnc 4 wnc_len C.wins)
      have HM := Lib.hid (show 0 + C.wins.length ≤ maxLen by have := HB.out.ws; unfold reachBytes at this; unfold maxLen; omega)
      have HY := Lib.hid (show (0 + C.wins.length) * 32 ≤ 140737488355328 by have := HB.out.ws; unfold reachBytes at this; omega)
      have HBS := Lib.hid (show w.heap.size ≤ (wq.alloc (.cells #[] 119)).heap.size by have := HC.out.size; simp; omega)
      go_wp2_with (at_builtin; refine wpList_append_row _ rfl _ _ 24 rfl w.heap.size 119 n0 (.agg #[.int .i64 0, .int .i64 0, .int .i64 0, .int .i64 0]) 4 32 Try.underlying24 ni nz0 nz1 nz2 rfl (by decide) (.slice (some ⟨wq.heap.size, 0, none⟩) 0 0) 0 [] rfl HEMP.out A3 C.wins.length k3 (C.wins.flatMap wnc) rfl HL0.out HSRC.out (one_wnc _) HM.out HY.out HBS.out ?_)
      intro v5 w5 hown5 hgr hat5
      have hO5 : OwnC wnc 4 119 w5 w.heap.size v5 C.wins := by simpa [OwnC] using hown5
      have hCg : Chg (fun k => k = wq.heap.size) (wq.alloc (.cells #[] 119)) w5 := Chg.grown (Chg.refl _ _) hgr (fun k hk _ => by injection hk with hk; exact hk.symm)
      have hC5 : Chg (fun k => wq.heap.size ≤ k) wq w5 := (((Chg.refl _ wq).alloc (.cells #[] 119)).trans hCg).mono (fun k _ e => Nat.le_of_eq e.symm)
      obtain ⟨A5, c5, hv5⟩ := hO5.slice
      subst hv5
      have hcb5 := hC5.at HCB.out (by have := lt_of_heap HCB.out; omega)
      have hzb5 := hC5.at HZB.out (by have := lt_of_heap HZB.out; omega)
      clear y0 y1 y2 y3 y4 y5 y6 y7 y8 yl0
      have y0 := blk_cell hcb5 0
      have y1 := blk_cell hcb5 1
      have y2 := blk_cell hcb5 2
      have y3 := blk_cell hcb5 3
      have y4 := blk_cell hcb5 4
      have y5 := blk_cell hcb5 5
      have y6 := blk_cell hcb5 6
      have y7 := blk_cell hcb5 7
      have y8 := blk_cell hcb5 8
      simp only [List.getElem?_toArray, List.getElem?_cons_zero, List.getElem?_cons_succ] at y0 y1 y2 y3 y4 y5 y6 y7 y8
      have yf := blk_free hcb5 4
      have yl := lt_of_heap hcb5
      have HO5 := Lib.hid hO5; clear hO5
      have HCB5 := Lib.hid hcb5; clear hcb5
      have HZB5 := Lib.hid hzb5; clear hzb5
      have HC5 := Lib.hid hC5; clear hC5 hCg hown5 hgr hat5 HEMP HSRC HL0 HM HBS HY
      go_upto_region 11 with fail
      refine wp_abs (fun W => W.heap[w.heap.size]? = some (.cells #[.int .i64 C.frames, (.slice P1 C.parts.length q1), (.slice B5 C.devs.length d5), .int .i64 C.major, (.slice A5 C.wins.length c5), (.slice A4 C.grants.length k4), .int .i64 C.sectors, .int .i64 C.quota, .int .i64 C.quiet] 27 (0, 0)) ∧ W.heap[w.heap.size + 1]? = some (.cells #[.int .i64 0, .slice none 0 0, .slice none 0 0, .int .i64 0, .slice none 0 0, .slice none 0 0, .int .i64 0, .int .i64 0, .int .i64 0] 27 (0, 0)) ∧ OwnPs W w.heap.size (.slice P1 C.parts.length q1) C.parts ∧ OwnDs W w.heap.size (.slice B5 C.devs.length d5) C.devs ∧ OwnC wnc 4 119 W w.heap.size (.slice A5 C.wins.length c5) C.wins ∧ Chg (fun _ => False) w W) ?_ ?_
      · have hS : ∀ u, Chg (fun k => k = w.heap.size) w5 (w5.setCell ⟨w.heap.size, 4, none⟩ u) := fun u => (Chg.refl _ _).set1 _
        exact ⟨blk_set HCB5.out 4 _, (hS _).at HZB5.out (by omega), (HO.out.keep HC5.out (fun k _ h2 e => by omega)).far HCB5.out (by decide) (by decide) (hS _), (HOD.out.keep HC5.out (fun k _ h2 e => by omega)).far HCB5.out (by decide) (by decide) (hS _), HO5.out.far HCB5.out (by decide) (hS _), (HC.out.trans' HC5.out (fun k hk e => by have := HC.out.size; omega)).trans' (hS _) (fun k hk e => by omega)⟩
      clear HCB HZB HO HOD HC y0 y1 y2 y3 y4 y5 y6 y7 y8 yf yl HO5 HCB5 HZB5 HC5
      rintro W9 ⟨hcb, hzb, hops, hods, hws, hC⟩
      obtain ⟨wq, hwq⟩ : ∃ W, W = W9 := ⟨_, rfl⟩
      subst hwq
      generalize hA5 : A5 = AW at *
      generalize hc5 : c5 = cW at *
      clear hA5 hc5
      have HCB := Lib.hid hcb
      have HZB := Lib.hid hzb; clear hzb
      have HO := Lib.hid hops; clear hops
      have HOD := Lib.hid hods; clear hods
      have HOW := Lib.hid hws; clear hws
      have HC := Lib.hid hC; clear hC
      have y0 := blk_cell hcb 0
      have y1 := blk_cell hcb 1
      have y2 := blk_cell hcb 2
      have y3 := blk_cell hcb 3
      have y4 := blk_cell hcb 4
      have y5 := blk_cell hcb 5
      have y6 := blk_cell hcb 6
      have y7 := blk_cell hcb 7
      have y8 := blk_cell hcb 8
      simp only [List.getElem?_toArray, List.getElem?_cons_zero, List.getElem?_cons_succ] at y0 y1 y2 y3 y4 y5 y6 y7 y8
      clear hcb
      have yl0 := lt_of_heap HCB.out
      have hemp : (wq.alloc (.cells #[] 44)).ownsRow w.heap.size 44 3 (.slice (some ⟨wq.heap.size, 0, none⟩) 0 0) 0 [] := own_empty wq 44 3 w.heap.size HC.out.size
      have HEMP := Lib.hid hemp; clear hemp
      have HSRC := Lib.hid (((HR.out _ HC.out).2.2.2.keepN ((Chg.refl _ _).alloc (.cells #[] 44))).rowc)
      have HL0 := Lib.hid (flat_len gtc 3 gtc_len C.grants)
      have HM := Lib.hid (show 0 + C.grants.length ≤ maxLen by have := HB.out.gs; unfold reachBytes at this; unfold maxLen; omega)
      have HY := Lib.hid (show (0 + C.grants.length) * 24 ≤ 140737488355328 by have := HB.out.gs; unfold reachBytes at this; omega)
      have HBS := Lib.hid (show w.heap.size ≤ (wq.alloc (.cells #[] 44)).heap.size by have := HC.out.size; simp; omega)
      go_wp2_with (at_builtin; refine wpList_append_row _ rfl _ _ 25 rfl w.heap.size 44 g0 (.agg #[.int .i64 0, .int .i64 0, .bool false]) 3 24 Try.underlying25 gi gz0 gz1 gz2 rfl (by decide) (.slice (some ⟨wq.heap.size, 0, none⟩) 0 0) 0 [] rfl HEMP.out A4 C.grants.length k4 (C.grants.flatMap gtc) rfl HL0.out HSRC.out (one_gtc _) HM.out HY.out HBS.out ?_)
      intro v5 w5 hown5 hgr hat5
      have hO5 : OwnC gtc 3 44 w5 w.heap.size v5 C.grants := by simpa [OwnC] using hown5
      have hCg : Chg (fun k => k = wq.heap.size) (wq.alloc (.cells #[] 44)) w5 := Chg.grown (Chg.refl _ _) hgr (fun k hk _ => by injection hk with hk; exact hk.symm)
      have hC5 : Chg (fun k => wq.heap.size ≤ k) wq w5 := (((Chg.refl _ wq).alloc (.cells #[] 44)).trans hCg).mono (fun k _ e => Nat.le_of_eq e.symm)
      obtain ⟨A5, c5, hv5⟩ := hO5.slice
      subst hv5
      have hcb5 := hC5.at HCB.out (by have := lt_of_heap HCB.out; omega)
      have hzb5 := hC5.at HZB.out (by have := lt_of_heap HZB.out; omega)
      clear y0 y1 y2 y3 y4 y5 y6 y7 y8 yl0
      have y0 := blk_cell hcb5 0
      have y1 := blk_cell hcb5 1
      have y2 := blk_cell hcb5 2
      have y3 := blk_cell hcb5 3
      have y4 := blk_cell hcb5 4
      have y5 := blk_cell hcb5 5
      have y6 := blk_cell hcb5 6
      have y7 := blk_cell hcb5 7
      have y8 := blk_cell hcb5 8
      simp only [List.getElem?_toArray, List.getElem?_cons_zero, List.getElem?_cons_succ] at y0 y1 y2 y3 y4 y5 y6 y7 y8
      have yf := blk_free hcb5 5
      have yl := lt_of_heap hcb5
      have HO5 := Lib.hid hO5; clear hO5
      have HCB5 := Lib.hid hcb5; clear hcb5
      have HZB5 := Lib.hid hzb5; clear hzb5
      have HC5 := Lib.hid hC5; clear hC5 hCg hown5 hgr hat5 HEMP HSRC HL0 HM HBS HY
      go_upto_region 12 with fail
      refine wp_abs (fun W => W.heap[w.heap.size]? = some (.cells #[.int .i64 C.frames, (.slice P1 C.parts.length q1), (.slice B5 C.devs.length d5), .int .i64 C.major, (.slice AW C.wins.length cW), (.slice A5 C.grants.length c5), .int .i64 C.sectors, .int .i64 C.quota, .int .i64 C.quiet] 27 (0, 0)) ∧ W.heap[w.heap.size + 1]? = some (.cells #[.int .i64 0, .slice none 0 0, .slice none 0 0, .int .i64 0, .slice none 0 0, .slice none 0 0, .int .i64 0, .int .i64 0, .int .i64 0] 27 (0, 0)) ∧ OwnCf W w.heap.size C ⟨.slice P1 C.parts.length q1, .slice B5 C.devs.length d5, .slice AW C.wins.length cW, .slice A5 C.grants.length c5⟩ ∧ Chg (fun _ => False) w W) ?_ ?_
      · have hS : ∀ u, Chg (fun k => k = w.heap.size) w5 (w5.setCell ⟨w.heap.size, 5, none⟩ u) := fun u => (Chg.refl _ _).set1 _
        exact ⟨blk_set HCB5.out 5 _, (hS _).at HZB5.out (by omega), ⟨(HO.out.keep HC5.out (fun k _ h2 e => by omega)).far HCB5.out (by decide) (by decide) (hS _), (HOD.out.keep HC5.out (fun k _ h2 e => by omega)).far HCB5.out (by decide) (by decide) (hS _), (HOW.out.keepB HC5.out (fun k _ h2 e => by omega)).far HCB5.out (by decide) (hS _), HO5.out.far HCB5.out (by decide) (hS _)⟩, (HC.out.trans' HC5.out (fun k hk e => by have := HC.out.size; omega)).trans' (hS _) (fun k hk e => by omega)⟩
      clear HCB HZB HO HOD HC HOW y0 y1 y2 y3 y4 y5 y6 y7 y8 yf yl HO5 HCB5 HZB5 HC5
      rintro W12 ⟨hcb, hzb, hof, hC⟩
      have y0 := blk_cell hcb 0
      have y1 := blk_cell hcb 1
      have y2 := blk_cell hcb 2
      have y3 := blk_cell hcb 3
      have y4 := blk_cell hcb 4
      have y5 := blk_cell hcb 5
      have y6 := blk_cell hcb 6
      have y7 := blk_cell hcb 7
      have y8 := blk_cell hcb 8
      simp only [List.getElem?_toArray, List.getElem?_cons_zero, List.getElem?_cons_succ] at y0 y1 y2 y3 y4 y5 y6 y7 y8
      have z0 := blk_cell hzb 0
      have z1 := blk_cell hzb 1
      have z2 := blk_cell hzb 2
      have z3 := blk_cell hzb 3
      have z4 := blk_cell hzb 4
      have z5 := blk_cell hzb 5
      have z6 := blk_cell hzb 6
      have z7 := blk_cell hzb 7
      have z8 := blk_cell hzb 8
      simp only [List.getElem?_toArray, List.getElem?_cons_zero, List.getElem?_cons_succ] at z0 z1 z2 z3 z4 z5 z6 z7 z8
      have zf0 := blk_free hzb 0
      have zf1 := blk_free hzb 1
      have zf2 := blk_free hzb 2
      have zf3 := blk_free hzb 3
      have zf4 := blk_free hzb 4
      have zf5 := blk_free hzb 5
      have zf6 := blk_free hzb 6
      have zf7 := blk_free hzb 7
      have zf8 := blk_free hzb 8
      have zl := lt_of_heap hzb
      have HCB := Lib.hid hcb; clear hcb
      have HZB := Lib.hid hzb; clear hzb
      have HOF := Lib.hid hof; clear hof
      have HC := Lib.hid hC; clear hC
      go_wp2_with fail
      clear y0 y1 y2 y3 y4 y5 y6 y7 y8 z0 z1 z2 z3 z4 z5 z6 z7 z8 zf0 zf1 zf2 zf3 zf4 zf5 zf6 zf7 zf8 zl
      obtain ⟨W13, hW13⟩ : ∃ W, W = (((((((((W12.setCell ⟨w.heap.size + 1, 0, none⟩ (.int .i64 C.frames)).setCell ⟨w.heap.size + 1, 1, none⟩ (.slice P1 C.parts.length q1)).setCell ⟨w.heap.size + 1, 2, none⟩ (.slice B5 C.devs.length d5)).setCell ⟨w.heap.size + 1, 3, none⟩ (.int .i64 C.major)).setCell ⟨w.heap.size + 1, 4, none⟩ (.slice AW C.wins.length cW)).setCell ⟨w.heap.size + 1, 5, none⟩ (.slice A5 C.grants.length c5)).setCell ⟨w.heap.size + 1, 6, none⟩ (.int .i64 C.sectors)).setCell ⟨w.heap.size + 1, 7, none⟩ (.int .i64 C.quota)).setCell ⟨w.heap.size + 1, 8, none⟩ (.int .i64 C.quiet)) := ⟨_, rfl⟩
      rw [← hW13]
      have hW14 := hW13.trans (setCells9 _ _ _ _ _ _ _ _ _ _ _).symm
      have hb2 := blk_setCells [.int .i64 C.frames, .slice P1 C.parts.length q1, .slice B5 C.devs.length d5, .int .i64 C.major, .slice AW C.wins.length cW, .slice A5 C.grants.length c5, .int .i64 C.sectors, .int .i64 C.quota, .int .i64 C.quiet] HZB.out 0
      have hS : Chg (fun k => k = w.heap.size + 1) W12 W13 := by rw [hW14]; exact Chg.setCells _ (Chg.refl _ _) 0
      rw [← hW14, wl9] at hb2
      have r0 : W13.cell? ⟨w.heap.size + 1, 0, none⟩ = some (.int .i64 C.frames) := blk_cell hb2 0
      have r1 : W13.cell? ⟨w.heap.size + 1, 1, none⟩ = some (.slice P1 C.parts.length q1) := blk_cell hb2 1
      have r2 : W13.cell? ⟨w.heap.size + 1, 2, none⟩ = some (.slice B5 C.devs.length d5) := blk_cell hb2 2
      have r3 : W13.cell? ⟨w.heap.size + 1, 3, none⟩ = some (.int .i64 C.major) := blk_cell hb2 3
      have r4 : W13.cell? ⟨w.heap.size + 1, 4, none⟩ = some (.slice AW C.wins.length cW) := blk_cell hb2 4
      have r5 : W13.cell? ⟨w.heap.size + 1, 5, none⟩ = some (.slice A5 C.grants.length c5) := blk_cell hb2 5
      have r6 : W13.cell? ⟨w.heap.size + 1, 6, none⟩ = some (.int .i64 C.sectors) := blk_cell hb2 6
      have r7 : W13.cell? ⟨w.heap.size + 1, 7, none⟩ = some (.int .i64 C.quota) := blk_cell hb2 7
      have r8 : W13.cell? ⟨w.heap.size + 1, 8, none⟩ = some (.int .i64 C.quiet) := blk_cell hb2 8
      have HFIN : Hid (OwnCf W13 w.heap.size C ⟨.slice P1 C.parts.length q1, .slice B5 C.devs.length d5, .slice AW C.wins.length cW, .slice A5 C.grants.length c5⟩ ∧ Chg (fun _ => False) w W13) :=
        ⟨⟨HOF.out.ps.far HZB.out (by decide) (by decide) hS, HOF.out.ds.far HZB.out (by decide) (by decide) hS, HOF.out.ws.far HZB.out (by decide) hS, HOF.out.gs.far HZB.out (by decide) hS⟩, HC.out.trans' hS (fun k hk e => by omega)⟩
      clear hW13 hW14 hb2 hS
      refine bodyPost_ret (v := .agg (cfc C ⟨.slice P1 C.parts.length q1, .slice B5 C.devs.length d5, .slice AW C.wins.length cW, .slice A5 C.grants.length c5⟩)) (by simp [results, Try.results22, go_sem, cfc, r0, r1, r2, r3, r4, r5, r6, r7, r8]) rfl ?_
      exact ⟨_, rfl, HFIN.out.1, HFIN.out.2⟩
end Go.Proofs.Ytncbcjjdnlmjbaa
