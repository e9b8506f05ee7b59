/- Found entries: New, find, Get, Drop, DropAll. Printed by mktlbb.py. -/
import Derived.Test.YtnallfehffhaeaaTlbA
import Derived.Test.YtnallfehffhaeaaAnyE
set_option linter.unusedSimpArgs false
set_option linter.unusedVariables false
namespace Go.Proofs.Ytnallfehffhaeaa
open Go.RowKit

/-- Block t is a Tlb of the lines v, n of them. -/
def TlbV (w : World) (t : Nat) (v : Value) (nf : Int) (n : Nat) : Prop := w.heap[t]? = some (.cells #[.int .i64 16, v] 115 (0, 0)) ∧ LinesAt w v nf n ∧ n ≤ 16
def TlbAt (w : World) (t : Nat) (nf : Int) (F : Nat → Prop) : Prop := ∃ v n, TlbV w t v nf n ∧ ∀ k, F k ↔ k = t ∨ v.ownBlock = some k
section
variable {w w' : World} {t : Nat} {v : Value} {nf : Int} {n : Nat} {F : Nat → Prop}
theorem TlbV.ne (h : TlbV w t v nf n) : v.ownBlock ≠ some t := by
  obtain ⟨h1, h2, _⟩ := h
  rcases h2 with ⟨rfl, _⟩ | ⟨g, o, c, cs, rfl, h3, _⟩
  · intro e; cases e
  · intro e; injection e with e; subst e
    rw [h1] at h3; injection h3 with h3; injection h3 with _ h4; exact absurd h4 (by decide)
theorem TlbV.lt (h : TlbV w t v nf n) : t < w.heap.size ∧ ∀ k, v.ownBlock = some k → k < w.heap.size := ⟨lt_of_heap h.1, h.2.1.lt⟩
theorem TlbV.keep {X : Nat → Prop} (h : TlbV w t v nf n) (hC : Chg X w w') (h1 : ¬ X t) (h2 : ∀ k, v.ownBlock = some k → ¬ X k) : TlbV w' t v nf n := ⟨hC.at h.1 h1, h.2.1.keep hC h2, h.2.2⟩
theorem TlbV.keepN (h : TlbV w t v nf n) (hC : Chg (fun _ => False) w w') : TlbV w' t v nf n := h.keep hC id (fun _ _ => id)
theorem TlbAt.keep {X : Nat → Prop} (h : TlbAt w t nf F) (hC : Chg X w w') (hX : ∀ k, F k → ¬ X k) : TlbAt w' t nf F := by
  obtain ⟨v, n, h1, h2⟩ := h
  exact ⟨v, n, h1.keep hC (hX t ((h2 t).2 (.inl rfl))) (fun k hk => hX k ((h2 k).2 (.inr hk))), h2⟩
theorem TlbAt.keepN (h : TlbAt w t nf F) (hC : Chg (fun _ => False) w w') : TlbAt w' t nf F := h.keep hC (fun _ _ => id)
theorem TlbAt.lt (h : TlbAt w t nf F) : ∀ k, F k → k < w.heap.size := by
  obtain ⟨v, n, h1, h2⟩ := h
  intro k hk
  rcases (h2 k).1 hk with rfl | hk
  · exact h1.lt.1
  · exact h1.lt.2 k hk
end
def TNewPost (nf : Int) (w : World) (e : Ending) (w' : World) : Prop := ∃ t F, e = .returned (.tuple #[.pointer (some ⟨t, 0, none⟩), .int .i64 0]) ∧ TlbAt w' t nf F ∧ (∀ k, F k → w.heap.size ≤ k) ∧ Chg (fun _ => False) w w'
set_option maxRecDepth 100000 in
theorem tNew (nf : Int) (w : World) : Calls Try.prog 42 #[.int .i64 16] w (TNewPost nf w) := by
  have hb := blk_new w (.cells #[.int .i64 16, .slice none 0 0] 115)
  have HC := Lib.hid ((Chg.refl (fun _ => False) w).alloc (.cells #[.int .i64 16, .slice none 0 0] 115))
  have HB := Lib.hid hb; clear hb
  go_enter Try.func42, Try.ntmps42
  go_wp2_with fail
  go_ret2
  exact ⟨_, fun k => k = w.heap.size ∨ Value.ownBlock (.slice none 0 0) = some k, rfl, ⟨_, 0, ⟨HB.out, .inl ⟨rfl, rfl⟩, by omega⟩, fun _ => Iff.rfl⟩, (fun k hk => by rcases hk with rfl | hk; exact Nat.le_refl _; cases hk), HC.out⟩
set_option maxRecDepth 100000 in
set_option maxHeartbeats 1000000 in
theorem tFind (t : Nat) (d p : Int) (v : Value) (nf : Int) (n : Nat) (w : World) (h : TlbV w t v nf n) : Calls Try.prog 77 #[.pointer (some ⟨t, 0, none⟩), .int .i64 d, .int .i64 p] w (LIdxPost n w) := by
  have hA : Chg (fun _ => False) w ((w.alloc (.cells #[.int .i64 d] 3)).alloc (.cells #[.int .i64 p] 3)) := ((Chg.refl _ _).alloc _).alloc _
  have hv := h.keepN hA
  have c1 := blk_cell h.1 1
  have h17 : n ≤ 17 := by have := h.2.2; omega
  have hb1 : ((w.alloc (.cells #[.int .i64 d] 3)).alloc (.cells #[.int .i64 p] 3)).heap[w.heap.size]? = some (.cells #[.int .i64 d] 3 (0, 0)) := blk_alloc (blk_new w _) _
  have hb2 : ((w.alloc (.cells #[.int .i64 d] 3)).alloc (.cells #[.int .i64 p] 3)).heap[w.heap.size + 1]? = some (.cells #[.int .i64 p] 3 (0, 0)) := blk_new2 w _ _
  have HIX := Lib.hid (tfIndex w.heap.size (w.heap.size + 1) d p v nf n _ hv.2.1 h17 (blk_cell hb1 0) (blk_cell hb2 0))
  have HA := Lib.hid hA; clear hA
  have l0 := h.lt.1
  simp only [List.getElem?_toArray, List.getElem?_cons_zero, List.getElem?_cons_succ] at c1
  clear h hv hb1 hb2 h17
  go_enter Try.func77, Try.ntmps77
  go_wp2_with fail
  refine HIX.out.mono ?_
  rintro e w1 ⟨hcase, hC⟩
  have HC := Lib.hid (HA.out.trans hC); clear hC HIX
  rcases hcase with rfl | ⟨i, hi, rfl⟩
  · go_wp2_with fail
    go_ret
    exact ⟨.inl rfl, HC.out⟩
  · go_wp2_with fail
    go_ret
    exact ⟨.inr ⟨i, hi, rfl⟩, HC.out⟩
def TGetPost (nf : Int) (w : World) (e : Ending) (w' : World) : Prop := ∃ f q b, e = .returned (.tuple #[.agg #[.int .i64 f, .int .i64 q], .bool b]) ∧ (b = true → goodE nf f q) ∧ Chg (fun _ => False) w w'
set_option maxRecDepth 100000 in
set_option maxHeartbeats 2000000 in
theorem tGet (t : Nat) (d p : Int) (nf : Int) (F : Nat → Prop) (w : World) (h : TlbAt w t nf F) : Calls Try.prog 63 #[.pointer (some ⟨t, 0, none⟩), .int .i64 d, .int .i64 p] w (TGetPost nf w) := by
  obtain ⟨v, n, h, _⟩ := h
  obtain ⟨W0, hW0⟩ : ∃ W, W = w.alloc (.cells #[.int .i64 0, .int .i64 0] 29) := ⟨_, rfl⟩
  obtain ⟨sb, hsb⟩ : ∃ b, b = w.heap.size := ⟨_, rfl⟩
  have hA : Chg (fun _ => False) w W0 := by rw [hW0]; exact (Chg.refl _ _).alloc _
  have hB : W0.heap[sb]? = some (.cells #[.int .i64 0, .int .i64 0] 29 (0, 0)) := by rw [hW0, hsb]; exact blk_new w _
  have hv := h.keepN hA
  have HF := Lib.hid (tFind t d p v nf n W0 hv)
  have HV : Hid (∀ W, Chg (fun _ => False) W0 W → TlbV W t v nf n) := fun W hW => hv.keepN hW
  have HB : Hid (∀ W, Chg (fun _ => False) W0 W → W.heap[sb]? = some (.cells #[.int .i64 0, .int .i64 0] 29 (0, 0))) := fun W hW => hW.at hB id
  have HA := Lib.hid hA
  have HSB : Hid (sb = w.heap.size) := hsb
  obtain ⟨A, c, rfl⟩ := hv.2.1.form
  clear h hv hA hB
  go_enter Try.func63, Try.ntmps63
  go_upto_region 1 with fail
  rw [← hW0]
  try rw [← hsb]
  clear hW0 hsb
  go_wp2_with fail
  refine HF.out.mono ?_
  rintro e w1 ⟨hcase, hC⟩
  rcases hcase with rfl | ⟨i, hi, rfl⟩
  · have z0 := blk_cell (HB.out w1 hC) 0
    have z1 := blk_cell (HB.out w1 hC) 1
    have f0 := blk_free (HB.out w1 hC) 0
    have f1 := blk_free (HB.out w1 hC) 1
    have sl := lt_of_heap (HB.out w1 hC)
    simp only [List.getElem?_toArray, List.getElem?_cons_zero, List.getElem?_cons_succ] at z0 z1
    have HC := Lib.hid (HA.out.trans hC); clear hC
    go_wp2_with fail
    refine bodyPost_ret (v := .tuple #[.agg #[.int .i64 0, .int .i64 0], .bool false]) (by simp [results, Try.results63, go_sem, z0, z1, f0, f1, sl]) rfl ?_
    exact ⟨0, 0, false, rfl, (fun h => by cases h), (HC.out.trans' ((Chg.refl (fun k => k = sb) _).set1 _) (fun k hk e => by have := HSB.out; omega)).trans' ((Chg.refl (fun k => k = sb) _).set1 _) (fun k hk e => by have := HSB.out; omega)⟩
  · have hn0 : 0 < n := by omega
    have hv1 := HV.out w1 hC
    obtain ⟨g, o, c', cs, hv, hb, hs, hnc, hcm, hl⟩ := hv1.2.1.some_ hn0
    injection hv with e1 e2 e3
    subst e1 e3
    obtain ⟨d', p', f', q', a0, a1, a2, a3, hg⟩ := lnC_cells hb (hl i hi)
    have c1 := blk_cell hv1.1 1
    have i0 : (0 : Int) ≤ i := by omega
    have i1 : (i : Int) < n := by omega
    have n16 : (n : Int) ≤ 16 := by have := hv1.2.2; omega
    have z0 := blk_cell (HB.out w1 hC) 0
    have z1 := blk_cell (HB.out w1 hC) 1
    have f0 := blk_free (HB.out w1 hC) 0
    have f1 := blk_free (HB.out w1 hC) 1
    have sl := lt_of_heap (HB.out w1 hC)
    simp only [List.getElem?_toArray, List.getElem?_cons_zero, List.getElem?_cons_succ] at z0 z1 c1
    have HC := Lib.hid (HA.out.trans hC); clear hC
    have HG := Lib.hid hg
    clear hg hb hs hl hcm hv1 a0 a1
    go_wp2_with fail
    refine bodyPost_ret (v := .tuple #[.agg #[.int .i64 f', .int .i64 q'], .bool true]) (by simp [results, Try.results63, go_sem, z0, z1, f0, f1, sl]) rfl ?_
    exact ⟨f', q', true, rfl, fun _ => HG.out, (HC.out.trans' ((Chg.refl (fun k => k = sb) _).set1 _) (fun k hk e => by have := HSB.out; omega)).trans' ((Chg.refl (fun k => k = sb) _).set1 _) (fun k hk e => by have := HSB.out; omega)⟩
def TDropPost (t : Nat) (v : Value) (nf : Int) (n : Nat) (w : World) (e : Ending) (w' : World) : Prop := ∃ x v' m, e = .returned (.int .i64 x) ∧ TlbV w' t v' nf m ∧ v'.ownBlock = v.ownBlock ∧ Chg (fun k => k = t ∨ v.ownBlock = some k) w w'
set_option maxRecDepth 100000 in
set_option maxHeartbeats 2000000 in
theorem tdDropV (t : Nat) (b1 b2 : Nat) (x y : Int) (v : Value) (nf : Int) (n : Nat) (w : World) (h : TlbV w t v nf n) (hb1 : w.cell? ⟨b1, 0, none⟩ = some (.int .i64 x)) (nb1 : v.ownBlock ≠ some b1) (hb2 : w.cell? ⟨b2, 0, none⟩ = some (.int .i64 y)) (nb2 : v.ownBlock ≠ some b2) :
    Calls Try.prog 58 #[.pointer (some ⟨t, 0, none⟩), .func (.func 59) #[] #[.pointer (some ⟨b1, 0, none⟩), .pointer (some ⟨b2, 0, none⟩)]] w (TDropPost t v nf n w) := by
  have HD := Lib.hid (tdDel b1 b2 x y v nf n w h.2.1 (by have := h.2.2; omega) hb1 nb1 hb2 nb2)
  have HV := Lib.hid h
  obtain ⟨A, c, rfl⟩ := h.2.1.form
  have c1 := blk_cell h.1 1
  have f1 := blk_free h.1 1
  have tl := h.lt.1
  have n16 : (n : Int) ≤ 16 := by have := h.2.2; omega
  simp only [List.getElem?_toArray, List.getElem?_cons_zero, List.getElem?_cons_succ] at c1
  clear h hb1 nb1 hb2 nb2
  go_enter Try.func58, Try.ntmps58
  go_wp2_with fail
  refine HD.out.mono ?_
  rintro e w1 ⟨v', m, rfl, hl, hm, hob, hC⟩
  have hnt : ¬ some t = Value.ownBlock (.slice A n c) := fun e => HV.out.ne e.symm
  have hb1 := hC.at HV.out.1 hnt
  obtain ⟨A', c', rfl⟩ := hl.form
  clear c1 f1 tl
  have c1 := blk_cell hb1 1
  have f1 := blk_free hb1 1
  have tl := lt_of_heap hb1
  simp only [List.getElem?_toArray, List.getElem?_cons_zero, List.getElem?_cons_succ] at c1
  have hS : Chg (fun k => k = t) w1 (w1.setCell ⟨t, 1, none⟩ (.slice A' m c')) := (Chg.refl _ _).set1 _
  have HOUT : Hid (TDropPost t (.slice A n c) nf n w (.returned (.int .i64 ((n : Int) - m))) (w1.setCell ⟨t, 1, none⟩ (.slice A' m c'))) :=
    ⟨_, _, m, rfl, ⟨blk_set hb1 1 _, hl.keep hS (fun k hk e => HV.out.ne (by rw [← hob, hk, e])), by have := HV.out.2.2; omega⟩, hob, (hC.mono (fun k _ e => .inr e.symm)).trans (hS.mono (fun k _ e => .inl e))⟩
  have m16 : (m : Int) ≤ 16 := by omega
  have hwr : wrap64 ((n : Int) - m) = (n : Int) - m := by unfold wrap64; omega
  clear hC hl hS hob hb1 hnt HV
  go_wp2_with fail
  go_ret
  exact HOUT.out
set_option maxRecDepth 100000 in
set_option maxHeartbeats 2000000 in
theorem taDropV (t : Nat) (b1 : Nat) (x : Int) (v : Value) (nf : Int) (n : Nat) (w : World) (h : TlbV w t v nf n) (hb1 : w.cell? ⟨b1, 0, none⟩ = some (.int .i64 x)) (nb1 : v.ownBlock ≠ some b1) :
    Calls Try.prog 58 #[.pointer (some ⟨t, 0, none⟩), .func (.func 68) #[] #[.pointer (some ⟨b1, 0, none⟩)]] w (TDropPost t v nf n w) := by
  have HD := Lib.hid (taDel b1 x v nf n w h.2.1 (by have := h.2.2; omega) hb1 nb1)
  have HV := Lib.hid h
  obtain ⟨A, c, rfl⟩ := h.2.1.form
  have c1 := blk_cell h.1 1
  have f1 := blk_free h.1 1
  have tl := h.lt.1
  have n16 : (n : Int) ≤ 16 := by have := h.2.2; omega
  simp only [List.getElem?_toArray, List.getElem?_cons_zero, List.getElem?_cons_succ] at c1
  clear h hb1 nb1
  go_enter Try.func58, Try.ntmps58
  go_wp2_with fail
  refine HD.out.mono ?_
  rintro e w1 ⟨v', m, rfl, hl, hm, hob, hC⟩
  have hnt : ¬ some t = Value.ownBlock (.slice A n c) := fun e => HV.out.ne e.symm
  have hb1 := hC.at HV.out.1 hnt
  obtain ⟨A', c', rfl⟩ := hl.form
  clear c1 f1 tl
  have c1 := blk_cell hb1 1
  have f1 := blk_free hb1 1
  have tl := lt_of_heap hb1
  simp only [List.getElem?_toArray, List.getElem?_cons_zero, List.getElem?_cons_succ] at c1
  have hS : Chg (fun k => k = t) w1 (w1.setCell ⟨t, 1, none⟩ (.slice A' m c')) := (Chg.refl _ _).set1 _
  have HOUT : Hid (TDropPost t (.slice A n c) nf n w (.returned (.int .i64 ((n : Int) - m))) (w1.setCell ⟨t, 1, none⟩ (.slice A' m c'))) :=
    ⟨_, _, m, rfl, ⟨blk_set hb1 1 _, hl.keep hS (fun k hk e => HV.out.ne (by rw [← hob, hk, e])), by have := HV.out.2.2; omega⟩, hob, (hC.mono (fun k _ e => .inr e.symm)).trans (hS.mono (fun k _ e => .inl e))⟩
  have m16 : (m : Int) ≤ 16 := by omega
  have hwr : wrap64 ((n : Int) - m) = (n : Int) - m := by unfold wrap64; omega
  clear hC hl hS hob hb1 hnt HV
  go_wp2_with fail
  go_ret
  exact HOUT.out
def TDropAllPost (t : Nat) (nf : Int) (F : Nat → Prop) (w : World) (e : Ending) (w' : World) : Prop := (∃ x, e = .returned x) ∧ TlbAt w' t nf F ∧ Chg F w w'
set_option maxRecDepth 100000 in
set_option maxHeartbeats 2000000 in
theorem tDropAll (t : Nat) (d : Int) (nf : Int) (F : Nat → Prop) (w : World) (h : TlbAt w t nf F) : Calls Try.prog 45 #[.pointer (some ⟨t, 0, none⟩), .int .i64 d] w (TDropAllPost t nf F w) := by
  obtain ⟨v, n, h, hF⟩ := h
  have hA : Chg (fun _ => False) w (w.alloc (.cells #[.int .i64 d] 3)) := (Chg.refl _ _).alloc _
  have HD := Lib.hid (taDropV t w.heap.size d v nf n _ (h.keepN hA) (blk_cell (blk_new w _) 0) (fun e => by have := h.lt.2 _ e; omega))
  have HA := Lib.hid hA
  have HF := Lib.hid hF
  clear h hA hF
  go_enter Try.func45, Try.ntmps45
  go_wp2_with fail
  refine HD.out.mono ?_
  rintro e w1 ⟨x, v', m, rfl, hv, hob, hC⟩
  have HOUT : Hid (TlbAt w1 t nf F ∧ Chg F w w1) := ⟨⟨v', m, hv, fun k => by rw [hob]; exact HF.out k⟩, (HA.out.toF F).trans (hC.mono (fun k _ e => (HF.out k).2 e))⟩
  clear hv hC
  go_wp2_with fail
  go_ret
  exact ⟨⟨_, rfl⟩, HOUT.out.1, HOUT.out.2⟩
set_option maxRecDepth 100000 in
set_option maxHeartbeats 2000000 in
theorem tDrop (t : Nat) (d p : Int) (nf : Int) (F : Nat → Prop) (w : World) (h : TlbAt w t nf F) : Calls Try.prog 32 #[.pointer (some ⟨t, 0, none⟩), .int .i64 d, .int .i64 p] w (TDropAllPost t nf F w) := by
  obtain ⟨v, n, h, hF⟩ := h
  have hA : Chg (fun _ => False) w ((w.alloc (.cells #[.int .i64 d] 3)).alloc (.cells #[.int .i64 p] 3)) := ((Chg.refl _ _).alloc _).alloc _
  have HD := Lib.hid (tdDropV t w.heap.size (w.heap.size + 1) d p v nf n _ (h.keepN hA) (blk_cell (blk_alloc (blk_new w _) _) 0) (fun e => by have := h.lt.2 _ e; omega) (blk_cell (blk_new2 w _ _) 0) (fun e => by have := h.lt.2 _ e; omega))
  have HA := Lib.hid hA
  have HF := Lib.hid hF
  clear h hA hF
  go_enter Try.func32, Try.ntmps32
  go_wp2_with fail
  refine HD.out.mono ?_
  rintro e w1 ⟨x, v', m, rfl, hv, hob, hC⟩
  have HOUT : Hid (TlbAt w1 t nf F ∧ Chg F w w1) := ⟨⟨v', m, hv, fun k => by rw [hob]; exact HF.out k⟩, (HA.out.toF F).trans (hC.mono (fun k _ e => (HF.out k).2 e))⟩
  clear hv hC
  go_wp2_with fail
  go_ret
  exact ⟨⟨_, rfl⟩, HOUT.out.1, HOUT.out.2⟩
end Go.Proofs.Ytnallfehffhaeaa
