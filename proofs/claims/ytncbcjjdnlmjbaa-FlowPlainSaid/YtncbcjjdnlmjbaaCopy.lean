/- A config copied: the walks of CopyParts and CopyConfig. Printed by mkcopy2.py. -/
import Derived.Test.YtncbcjjdnlmjbaaCfO
set_option linter.unusedSimpArgs false
set_option linter.unusedVariables false
namespace Go.Proofs.Ytncbcjjdnlmjbaa
open Go.RowKit

theorem Try.infoPart : (Try.prog.info? 40).map (fun i => (i.zero, i.size, i.bytes)) = some (some (.agg #[.int .i64 0, .int .i64 0, .slice none 0 0, .int .i64 0, .int .i64 0]), 5, 56) := by kernel_rfl
theorem Try.infoDev : (Try.prog.info? 42).map (fun i => (i.zero, i.size, i.bytes)) = some (some (.agg #[.int .i64 0, .slice none 0 0]), 2, 32) := by kernel_rfl
theorem Try.infoWin : (Try.prog.info? 119).map (fun i => (i.zero, i.size, i.bytes)) = some (some (.agg #[.int .i64 0, .int .i64 0, .int .i64 0, .int .i64 0]), 4, 32) := by kernel_rfl
theorem Try.infoGrt : (Try.prog.info? 44).map (fun i => (i.zero, i.size, i.bytes)) = some (some (.agg #[.int .i64 0, .int .i64 0, .bool false]), 3, 24) := by kernel_rfl
def CopyPartsPost (L : List Prt) (w : World) (e : Ending) (w' : World) : Prop := ∃ v, e = .returned v ∧ OwnPs w' w.heap.size v L ∧ Chg (fun _ => False) w w'
theorem OwnPs.snoc {w : World} {base : Nat} {v : Value} {L : List Prt} {x : Prt} {M : List (Prt × Value)} {F : Value} (h1 : M.map (·.1) = L) (h2 : OwnC prc 5 40 w base v (M ++ [(x, F)])) (h3 : ∀ y ∈ M, OwnC icell 1 3 w base y.2 y.1.fr) (h4 : OwnC icell 1 3 w base F x.fr) : OwnPs w base v (L ++ [x]) :=
  ⟨M ++ [(x, F)], by simp [h1], h2, fun y hy => by
    rcases List.mem_append.1 hy with h | h
    · exact h3 y h
    · simp at h; subst h; exact h4⟩
theorem OwnDs.snoc {w : World} {base : Nat} {v : Value} {L : List Dv} {x : Dv} {M : List (Dv × Value)} {F : Value} (h1 : M.map (·.1) = L) (h2 : OwnC dvc 2 42 w base v (M ++ [(x, F)])) (h3 : ∀ y ∈ M, OwnC icell 1 3 w base y.2 y.1.pool) (h4 : OwnC icell 1 3 w base F x.pool) : OwnDs w base v (L ++ [x]) :=
  ⟨M ++ [(x, F)], by simp [h1], h2, fun y hy => by
    rcases List.mem_append.1 hy with h | h
    · exact h3 y h
    · simp at h; subst h; exact h4⟩
set_option maxRecDepth 100000 in
set_option maxHeartbeats 4000000 in
theorem copyParts (v : Value) (L : List Prt) (w : World) (h : RdP w v L) (hb : L.length * 56 ≤ 140737488351232) (hf : ∀ p ∈ L, p.fr.length * 8 ≤ 140737488351232) :
    Calls Try.prog 60 #[v] w (CopyPartsPost L w) := by
  obtain ⟨i0, ii, iz0, iz1, iz2⟩ := info_parts Try.infoInt
  obtain ⟨p0, pi, pz0, pz1, pz2⟩ := info_parts Try.infoPart
  have hR : Hid (∀ W, Chg (fun _ => False) w W → RdP W v L) := fun W hW => h.keepN hW
  obtain ⟨hm, AA, cc, rfl, _⟩ := h
  have hl : (L.length : Int) ≤ 9223372036854775807 := by unfold maxLen at hm; omega
  have HF := Lib.hid hf; clear hf
  have HB := Lib.hid hb; clear hb hm
  have hO0 := OwnC.nil (cells := prc) (C := 5) (e := 40) w w.heap.size
  have HO0 := Lib.hid hO0; clear hO0
  go_enter Try.func60, Try.ntmps60
  go_wp2_with fail
  go_loopw [3, 4] (fun s3 s4 wr => ∃ i : Nat, i ≤ L.length ∧ s4 = .int .i64 i ∧ OwnPs wr w.heap.size s3 (L.take i) ∧ Chg (fun _ => False) w wr) (fun s3 s4 _ => (L.length - intOf s4).toNat)
  case atStart => exact ⟨0, by omega, rfl, ⟨[], rfl, HO0.out, by simp⟩, Chg.refl _ _⟩
  case round =>
    clear HO0
    obtain ⟨i, hi, rfl, ho, hC⟩ := hrel
    have i0' : (0 : Int) ≤ i := by omega
    have HC := Lib.hid hC; clear hC
    by_cases hlt : i < L.length
    · have i1 : (i : Int) < L.length := by omega
      obtain ⟨_, A', c', hv, hel⟩ := hR.out wr HC.out
      injection hv with e1 e2 e3
      subst e1 e3
      obtain ⟨g, o, F, rfl, a0, a1, a2, a3, a4, hF⟩ := hel i hlt
      clear hel e2
      obtain ⟨hfm, FA, fc, rfl⟩ := hF.form
      obtain ⟨X, hX⟩ : ∃ X, X = L[i] := ⟨_, rfl⟩
      have HX := Lib.hid hX
      have hfl : X.fr.length * 8 ≤ 140737488351232 := by rw [hX]; exact HF.out _ (List.getElem_mem hlt)
      rw [← hX] at a0 a1 a2 a3 a4 hF
      have HTK : Hid (L.take (i + 1) = L.take i ++ [X]) := by unfold Hid; rw [List.take_succ_eq_append_getElem hlt, hX]
      clear hX hfm
      have hC2 : Chg (fun _ => False) wr ((wr.alloc (.cells #[.int .i64 X.lv, .int .i64 X.cats, .slice FA X.fr.length fc, .int .i64 X.first, .int .i64 X.count] 40)).alloc (.cells #[] 3)) := ((Chg.refl _ _).alloc _).alloc _
      have hsrc := (hF.keepN hC2).rowc
      have HSRC := Lib.hid hsrc; clear hsrc hF
      have hemp : ((wr.alloc (.cells #[.int .i64 X.lv, .int .i64 X.cats, .slice FA X.fr.length fc, .int .i64 X.first, .int .i64 X.count] 40)).alloc (.cells #[] 3)).ownsRow w.heap.size 3 1 (.slice (some ⟨wr.heap.size + 1, 0, none⟩) 0 0) 0 [] := by have := own_empty (wr.alloc (.cells #[.int .i64 X.lv, .int .i64 X.cats, .slice FA X.fr.length fc, .int .i64 X.first, .int .i64 X.count] 40)) 3 1 w.heap.size (by have := HC.out.size; simp; omega); simpa using this
      have HEMP := Lib.hid hemp; clear hemp
      have HOP := Lib.hid ho; clear ho
      have hx63 : 0 + X.fr.length ≤ maxLen := by unfold maxLen; omega
      have HM := Lib.hid hx63; clear hx63
      have hbs : w.heap.size ≤ ((wr.alloc (.cells #[.int .i64 X.lv, .int .i64 X.cats, .slice FA X.fr.length fc, .int .i64 X.first, .int .i64 X.count] 40)).alloc (.cells #[] 3)).heap.size := by have := HC.out.size; simp; omega
      have HBS := Lib.hid hbs; clear hbs
      have hl0 : (X.fr.flatMap icell).length = X.fr.length * 1 := flat_len icell 1 (fun _ => rfl) _
      have HL0 := Lib.hid hl0; clear hl0
      go_wp2_with (at_builtin; refine wpList_append_row _ rfl _ _ 38 rfl w.heap.size 3 i0 (.int .i64 0) 1 8 Try.underlying38 ii iz0 iz1 iz2 rfl (by decide) (.slice (some ⟨wr.heap.size + 1, 0, none⟩) 0 0) 0 [] rfl HEMP.out FA X.fr.length fc (X.fr.flatMap icell) rfl HL0.out HSRC.out (one_icell _) HM.out (by omega) HBS.out ?_)
      intro v5 w5 hown5 hgr hat5
      have hO5 : OwnC icell 1 3 w5 w.heap.size v5 X.fr := by simpa [OwnC] using hown5
      have hCg : Chg (fun k => k = wr.heap.size + 1) ((wr.alloc (.cells #[.int .i64 X.lv, .int .i64 X.cats, .slice FA X.fr.length fc, .int .i64 X.first, .int .i64 X.count] 40)).alloc (.cells #[] 3)) w5 := Chg.grown (Chg.refl _ _) hgr (fun k hk _ => by injection hk with hk; exact hk.symm)
      have hbox := hCg.at (blk_alloc (blk_new wr (.cells #[.int .i64 X.lv, .int .i64 X.cats, .slice FA X.fr.length fc, .int .i64 X.first, .int .i64 X.count] 40)) (.cells #[] 3)) (by omega)
      have hC5 : Chg (fun k => k = wr.heap.size + 1) wr w5 := ((((Chg.refl _ _).alloc (.cells #[.int .i64 X.lv, .int .i64 X.cats, .slice FA X.fr.length fc, .int .i64 X.first, .int .i64 X.count] 40)).alloc (.cells #[] 3))).trans hCg
      obtain ⟨A5, c5, hv5⟩ := hO5.slice
      subst hv5
      have z0 := blk_cell hbox 0
      have z1 := blk_cell hbox 1
      have z2 := blk_cell hbox 2
      have z3 := blk_cell hbox 3
      have z4 := blk_cell hbox 4
      have zf := blk_free hbox 2
      have zl := lt_of_heap hbox
      simp only [List.getElem?_toArray, List.getElem?_cons_zero, List.getElem?_cons_succ] at z0 z1 z2 z3 z4
      have HBX := Lib.hid hbox; clear hbox
      have HO5 := Lib.hid hO5; clear hO5
      have HC5 := Lib.hid hC5; clear hC5 hCg hown5 hgr hat5 HEMP HSRC HL0 HM HBS a0 a1 a2 a3 a4
      go_upto_region 7 with fail
      have hne : ∀ k, Value.ownBlock (.slice A5 X.fr.length c5) = some k → k ≠ wr.heap.size := fun k hk => by rintro rfl; exact own_ne HO5.out HBX.out (by decide) hk
      refine wp_abs (fun W => W.heap[wr.heap.size]? = some (.cells #[.int .i64 X.lv, .int .i64 X.cats, .slice A5 X.fr.length c5, .int .i64 X.first, .int .i64 X.count] 40 (0, 0)) ∧ OwnC icell 1 3 W w.heap.size (.slice A5 X.fr.length c5) X.fr ∧ Chg (fun k => wr.heap.size ≤ k) wr W) ?_ ?_
      · exact ⟨blk_set HBX.out 2 _, HO5.out.keep ((Chg.refl (fun k => k = wr.heap.size) _).set1 _) (fun k hk e => hne k hk e), (HC5.out.mono (fun k _ e => by omega)).trans' ((Chg.refl (fun k => k = wr.heap.size) _).set1 _) (fun k _ e => by omega)⟩
      clear HO5 HC5 HBX z0 z1 z2 z3 z4 zf zl hne
      rintro W6 ⟨hbx, hO6, hC6⟩
      have z0 := blk_cell hbx 0
      have z1 := blk_cell hbx 1
      have z2 := blk_cell hbx 2
      have z3 := blk_cell hbx 3
      have z4 := blk_cell hbx 4
      simp only [List.getElem?_toArray, List.getElem?_cons_zero, List.getElem?_cons_succ] at z0 z1 z2 z3 z4
      obtain ⟨M, hM1, hM2, hM3⟩ := HOP.out.keep hC6 (fun k h1 h2 e => by omega)
      obtain ⟨B5, d5, hv⟩ := hM2.slice
      subst hv
      have hml : M.length = i := by have := congrArg List.length hM1; simp at this; omega
      have hBK : ∀ o, OwnC prc 5 40 (W6.alloc o) w.heap.size (.slice B5 M.length d5) M := fun o => hM2.keep ((Chg.refl (fun _ => False) _).alloc o) (fun _ _ => id)
      have hLT : ∀ k, Value.ownBlock (.slice B5 M.length d5) = some k → w.heap.size ≤ k := fun k hk => (own_lt hM2 hk).1
      have hnews := rowc_blk (blk_new W6 (.cells #[.int .i64 X.lv, .int .i64 X.cats, .slice A5 X.fr.length c5, .int .i64 X.first, .int .i64 X.count] 40))
      have HN := Lib.hid hnews; clear hnews
      have HBK := Lib.hid hBK; clear hBK
      have HLT := Lib.hid hLT; clear hLT
      have HM1 := Lib.hid hM1; clear hM1 hM2 hbx
      have HM3 := Lib.hid hM3; clear hM3
      have HO6 := Lib.hid hO6; clear hO6
      have HC6 : Hid (Chg (fun _ => False) w W6) := HC.out.trans' hC6 (fun k hk e => by have := HC.out.size; omega)
      have h63 : M.length + 1 ≤ maxLen := by have := HB.out; unfold maxLen; omega
      have hby : (M.length + 1) * 56 ≤ 140737488355328 := by have := HB.out; omega
      have HM63 := Lib.hid h63; clear h63
      have HMBY := Lib.hid hby; clear hby
      have HML := Lib.hid hml; clear hml hC6
      have hbs : ∀ o, w.heap.size ≤ (W6.alloc o).heap.size := fun o => by have := HC6.out.size; simp; omega
      have HBS := Lib.hid hbs; clear hbs
      go_wp2_with (at_builtin; refine wpList_append_row _ rfl _ _ 22 rfl w.heap.size 40 p0 (.agg #[.int .i64 0, .int .i64 0, .slice none 0 0, .int .i64 0, .int .i64 0]) 5 56 Try.underlying22 pi pz0 pz1 pz2 rfl (by decide) (.slice B5 M.length d5) M.length (M.flatMap prc) rfl (HBK.out _) (some ⟨W6.heap.size, 0, none⟩) 1 1 [.int .i64 X.lv, .int .i64 X.cats, .slice A5 X.fr.length c5, .int .i64 X.first, .int .i64 X.count] rfl rfl HN.out (by intro u hu; simp at hu; rcases hu with rfl | rfl | rfl | rfl | rfl <;> rfl) HM63.out HMBY.out (HBS.out _) ?_)
      intro v7 w7 hown7 hgr hat7
      have hC7 : Chg (fun k => some k = Value.ownBlock (.slice B5 M.length d5)) W6 w7 := Chg.grown ((Chg.refl _ _).alloc _) hgr (fun k hk _ => hk.symm)
      have hM7 : OwnC prc 5 40 w7 w.heap.size v7 (M ++ [(X, .slice A5 X.fr.length c5)]) := by simpa [OwnC, prc] using hown7
      have hne7 : ∀ {u : Value} {L : List Int}, OwnC icell 1 3 W6 w.heap.size u L → OwnC icell 1 3 w7 w.heap.size u L := fun {u L} ho => ho.keep hC7 (fun k hk e => by
        have hb0 := HBK.out (.cells #[] 3)
        rcases hb0.2 with ⟨hv, _⟩ | ⟨g, cap, cur, hv, _, hg, _⟩
        · rw [hv] at e; cases e
        · rw [hv] at e
          injection e with e
          have h1 := own_ne (ho.keep ((Chg.refl (fun _ => False) W6).alloc (.cells #[] 3)) (fun _ _ => id)) hg (by decide)
          exact h1 (by rw [hk, e]))
      have HF7 : Hid (OwnPs w7 w.heap.size v7 (L.take (i + 1)) ∧ Chg (fun _ => False) w w7) := by
        refine ⟨?_, HC6.out.trans' hC7 (fun k hk e => by have := HLT.out k e.symm; omega)⟩
        rw [HTK.out]
        exact OwnPs.snoc HM1.out hM7 (fun y hy => hne7 (HM3.out y hy)) (hne7 HO6.out)
      clear hC7 hM7 hne7 hown7 hgr hat7 HBK HLT HM1 HM3 HO6 HC6 HN z0 z1 z2 z3 z4 HBS HM63 HMBY
      go_wp2_with fail
      go_roundw
      case rel => exact ⟨i + 1, by omega, by go_num, HF7.out.1, HF7.out.2⟩
      case measure => simp [intOf]; omega
    · obtain rfl : i = L.length := by omega
      rw [List.take_length] at ho
      have HO := Lib.hid ho; clear ho
      go_wp2_with fail
      go_ret
      exact ⟨_, rfl, HO.out, HC.out⟩
end Go.Proofs.Ytncbcjjdnlmjbaa
