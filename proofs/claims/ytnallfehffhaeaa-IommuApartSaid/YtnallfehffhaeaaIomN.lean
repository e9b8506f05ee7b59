/- The Iommu's New where it may. Printed by mkiom10.py. -/
import Derived.Test.YtnallfehffhaeaaTk
import Derived.Test.YtnallfehffhaeaaIomM
import Derived.Test.YtnallfehffhaeaaAnyE
import Derived.Test.YtnallfehffhaeaaIomO
set_option linter.unusedSimpArgs false
set_option linter.unusedVariables false
namespace Go.Proofs.Ytnallfehffhaeaa
open Go.RowKit

theorem Try.infoInts : (Try.prog.info? 22).map (fun i => (i.zero, i.size, i.bytes)) = some (some (.slice none 0 0), 1, 24) := by kernel_rfl
theorem clearB_app (bs : List UInt8) (fs gs : List Int) : clearB bs (fs ++ gs) = clearB (clearB bs fs) gs := by unfold clearB; rw [List.foldl_append]
def NewPost (p r : Nat) (bs : List UInt8) (L : Pls) (nf : Int) (w : World) (e : Ending) (w' : World) : Prop := ∃ x F, e = .returned (.tuple #[.pointer (some ⟨x, 0, none⟩), .int .i64 0]) ∧ IomAt w' x p L nf F ∧ (∀ k, F k → w.heap.size ≤ k) ∧ MemAt w' 93 p r (clearB bs L.flatten) ∧ Chg (fun k => k = r) w w'
section
variable {wr w6 w5 : World} {x p t r : Nat} {L1 : Pls} {nf : Int} {v : Value} {P F : Nat → Prop} {bs : List UInt8}
theorem OwnC.typ {α : Type} {cells : α → List Value} {C e : Nat} {w : World} {b : Nat} {v : Value} {L : List α} (h : OwnC cells C e w b v L) {k : Nat} (hk : v.ownBlock = some k) : ∃ cs, w.heap[k]? = some (.cells cs e (0, 0)) := by
  rcases h.2 with ⟨hv, _⟩ | ⟨g, cap', cur, hv, _, hg, _⟩
  · rw [hv] at hk; cases hk
  · rw [hv] at hk; simp only [Value.ownBlock, Option.some.injEq] at hk; subst hk; exact ⟨_, hg⟩
/-- A pool is pushed. -/
theorem IomV.push (hI : IomV wr x p t L1 nf v P F) {M : List (List Int × Value)} (hm1 : M.map (·.1) = L1) (hm2 : OwnC poc 1 22 wr 0 v M) (hm3 : ∀ y ∈ M, OwnC icell 1 3 wr 0 y.2 y.1)
    (hm4 : ∀ k, P k ↔ v.ownBlock = some k ∨ ∃ y, y ∈ M ∧ y.2.ownBlock = some k) {o : Obj} {cv v5 : Value} {Pi : List Int} (K6 : Chg (fun _ => False) wr w6) (ho6 : OwnC icell 1 3 w6 wr.drew.heap.size cv Pi)
    (hgr : (w6.alloc o).grownBy w5 v.ownBlock) (hO5 : OwnC poc 1 22 w5 0 v5 (M ++ [(Pi, cv)])) (hat : v5.ownBlock = v.ownBlock ∨ v5.ownBlock = some (w6.alloc o).heap.size) (hok : PlsOk nf (L1 ++ [Pi])) (hM : MemAt wr 93 p r bs) :
    ∃ P', IomV (w5.setCell ⟨x, 1, none⟩ v5) x p t (L1 ++ [Pi]) nf v5 P' F ∧ (∀ k, P' k → P k ∨ wr.heap.size ≤ k) ∧ MemAt (w5.setCell ⟨x, 1, none⟩ v5) 93 p r bs ∧ Chg (fun k => k = x ∨ P k) wr (w5.setCell ⟨x, 1, none⟩ v5) := by
  have hC5 : Chg (fun k => some k = v.ownBlock) wr w5 := Chg.grown ((K6.toF _).alloc o) hgr (fun k hk _ => hk.symm)
  have hx5 := hC5.at hI.blk (fun e => own_ne hm2 hI.blk (by decide) e.symm)
  have hC56 : Chg (fun k => k = x) w5 (w5.setCell ⟨x, 1, none⟩ v5) := (Chg.refl _ _).set1 _
  have hC6 : Chg (fun k => some k = v.ownBlock ∨ k = x) wr (w5.setCell ⟨x, 1, none⟩ v5) := (hC5.mono (fun _ _ h => .inl h)).setCell (p := ⟨x, 1, none⟩) (fun _ => .inr rfl) v5
  have far : ∀ {k : Nat} {cs : Array Value} {tt : TypeId} {fr : Nat × Nat}, wr.heap[k]? = some (.cells cs tt fr) → tt ≠ 22 → tt ≠ 76 → ¬ (some k = v.ownBlock ∨ k = x) := fun hk h1 h2 hh => by
    rcases hh with e | e
    · exact own_ne hm2 hk h1 e.symm
    · subst e; exact blk_unl hI.blk hk h2.symm
  have hsz : w6.heap.size ≤ w5.heap.size := Nat.le_trans (by simp) hgr.size
  refine ⟨fun k => v5.ownBlock = some k ∨ ∃ y, y ∈ M ++ [(Pi, cv)] ∧ y.2.ownBlock = some k, ⟨?_, ⟨M ++ [(Pi, cv)], by rw [List.map_append, hm1]; rfl, ?_, ?_, fun k => Iff.rfl⟩, ?_, hok⟩, ?_, ?_, ?_⟩
  · exact blk_set hx5 1 v5
  · exact hO5.keep hC56 (fun k hk e => by subst e; exact own_ne hO5 hx5 (by decide) hk)
  · intro y hy
    rcases List.mem_append.1 hy with hy | hy
    · refine (hm3 y hy).keep hC6 (fun k hk => ?_)
      obtain ⟨cs, h⟩ := (hm3 y hy).typ hk
      exact far h (by decide) (by decide)
    · obtain rfl : y = (Pi, cv) := by simpa using hy
      have h0 : OwnC icell 1 3 w6 0 cv Pi := ⟨ho6.1, ho6.2.imp id (fun ⟨g, cap, cur, hv, hg, r⟩ => ⟨g, cap, cur, hv, Nat.zero_le _, r⟩)⟩
      refine (h0.keep (S := fun k => some k = v.ownBlock) (Chg.grown ((Chg.refl _ w6).alloc o) hgr (fun k hk _ => hk.symm)) (fun k hk e => ?_)).keep hC56 (fun k hk e => ?_)
      · have h1 := (own_lt ho6 hk).1
        have h2 := (own_lt hm2 e.symm).2
        have h3 : wr.drew.heap.size = wr.heap.size := rfl
        omega
      · subst e
        have h1 := (own_lt ho6 hk).1
        have h2 := lt_of_heap hI.blk
        have h3 : wr.drew.heap.size = wr.heap.size := rfl
        omega
  · refine hI.tlb.keep hC6 (fun k hk => ?_)
    obtain ⟨cs, tt, h1, h2⟩ := hI.tlb.typ k hk
    rcases h2 with rfl | rfl <;> exact far h1 (by decide) (by decide)
  · intro k hk
    rcases hk with hk | ⟨y, hy, hk⟩
    · rcases hat with e | e
      · exact .inl ((hm4 k).2 (.inl (e ▸ hk)))
      · right
        rw [e] at hk
        injection hk with hk
        have h1 := K6.size
        simp at hk
        omega
    · rcases List.mem_append.1 hy with hy | hy
      · exact .inl ((hm4 k).2 (.inr ⟨y, hy, hk⟩))
      · obtain rfl : y = (Pi, cv) := by simpa using hy
        exact .inr (own_lt ho6 hk).1
  · exact ⟨hC6.at hM.1 (far hM.1 (by decide) (by decide)), hC6.at hM.2 (far hM.2 (by decide) (by decide))⟩
  · exact hC6.mono (fun k _ h => by
      rcases h with h | h
      · exact .inr ((hm4 k).2 (.inl h.symm))
      · exact .inl h)
end
set_option maxRecDepth 100000 in
set_option maxHeartbeats 8000000 in
theorem iNew_yes (p r : Nat) (bs : List UInt8) (v : Value) (L : Pls) (nf : Int) (w : World) (hM : MemAt w 93 p r bs) (hl : bs.length ≤ 4096) (hnf : nf = (bs.length : Int) / 64) (h : RdLL w v L) (hn : PoolsP bs L) :
    Calls Try.prog 16 #[.pointer (some ⟨p, 0, none⟩), v] w (NewPost p r bs L nf w) := by
  have HP := Lib.hid (pMay p r bs v L w hM hl h)
  have HN := Lib.hid hn
  have HOK := Lib.hid (hn.ok hl hnf)
  have HR := Lib.hid h
  have HM := Lib.hid hM
  have HLN := Lib.hid hl
  have l4 : (L.length : Int) ≤ 4 := by have := hn.2.2.2.1; omega
  obtain ⟨A, c, rfl⟩ : ∃ A c, v = .slice A L.length c := by obtain ⟨_, A, c, h, _⟩ := h; exact ⟨A, c, h⟩
  clear hM hl h hn hnf
  go_enter Try.func16, Try.ntmps16
  go_wp2_with fail
  refine HP.out.mono ?_
  rintro e w1 ⟨⟨b, rfl, hb⟩, hC⟩
  have HC := Lib.hid hC
  obtain rfl : b = true := hb.2 HN.out
  clear hb hC HP
  go_wp2_with fail
  refine (tNew nf w1).mono ?_
  rintro e w2 ⟨t, F, rfl, hT, hF, hC2⟩
  have HT := Lib.hid hT; have HF := Lib.hid hF; have HC2 := Lib.hid (HC.out.trans hC2)
  clear hT hF hC2
  go_upto_region 7 with fail
  obtain ⟨x, hx⟩ : ∃ z, z = w2.heap.size := ⟨_, rfl⟩
  obtain ⟨W0, hW0⟩ : ∃ W, W = w2.alloc (.cells #[.pointer (some ⟨p, 0, none⟩), .slice none 0 0, .pointer (some ⟨t, 0, none⟩)] 76) := ⟨_, rfl⟩
  rw [← hW0, ← hx]
  have hA : Chg (fun _ => False) w2 W0 := by rw [hW0]; exact (Chg.refl _ _).alloc _
  have hB : W0.heap[x]? = some (.cells #[.pointer (some ⟨p, 0, none⟩), .slice none 0 0, .pointer (some ⟨t, 0, none⟩)] 76 (0, 0)) := by rw [hW0, hx]; exact blk_new w2 _
  have HI0 : Hid (IomV W0 x p t (L.take 0) nf (.slice none 0 0) (fun _ => False) F) := ⟨hB, ⟨[], rfl, OwnC.nil _ _, (fun x h => by cases h), fun k => ⟨False.elim, fun h => by rcases h with h | ⟨y, hy, _⟩; cases h; cases hy⟩⟩, HT.out.keepN hA, HOK.out 0⟩
  have HC0 := Lib.hid (HC2.out.trans hA)
  have HFN : Hid (∀ k, F k → w.heap.size ≤ k) := fun k hk => Nat.le_trans HC.out.size (HF.out k hk)
  have HXN : Hid (w.heap.size ≤ x) := by rw [hx]; exact HC2.out.size
  clear hW0 hx hA hB HT HF
  go_wp2_with fail
  go_loopw [29] (fun s wr => ∃ (i : Nat) (v' : Value) (P : Nat → Prop), i ≤ L.length ∧ s = .int .i64 i ∧ IomV wr x p t (L.take i) nf v' P F ∧ (∀ k, P k → w.heap.size ≤ k) ∧ MemAt wr 93 p r (clearB bs (L.take i).flatten) ∧ Chg (fun k => k = r) w wr) (fun s _ => L.length - (intOf s).toNat)
  case atStart => exact ⟨0, _, _, by omega, rfl, HI0.out, (fun k h => h.elim), HM.out.keepD HC0.out, HC0.out.toF _⟩
  case round =>
    obtain ⟨i, v', P, hi, rfl, hI, hP, hM, hC⟩ := hrel
    have i0 : (0 : Int) ≤ i := by omega
    by_cases hlt : i < L.length
    · obtain ⟨M, hm1, hm2, hm3, hm4⟩ := hI.pools
      obtain ⟨BB, kk, hv⟩ := hm2.slice
      have hml : M.length = i := by have := congrArg List.length hm1; simpa [Nat.min_eq_left hi] using this
      rw [hml] at hv
      subst hv
      have i1 : (i : Int) < L.length := by omega
      have hRw : RdLL wr (.slice A L.length c) L := (HR.out.keepM HM.out hC)
      obtain ⟨_, A', c', hvv, hel⟩ := hRw
      injection hvv with e1 e2 e3
      subst e1 e3
      obtain ⟨g, o, F0, hA, hc0, hF0⟩ := hel i hlt
      subst hA
      have hgi : L.getD i [] = L[i] := by rw [List.getD_eq_getElem?_getD, List.getElem?_eq_getElem hlt]; rfl
      rw [← hgi] at hF0
      obtain ⟨Pi, hPi⟩ : ∃ P, P = L.getD i [] := ⟨_, rfl⟩
      have HPI := Lib.hid hPi
      have HRI := Lib.hid (hPi ▸ hF0)
      have HOK1 := HOK.out L.length
      rw [List.take_length] at HOK1
      have HPL : Hid (Pi.length ≤ 4096) := by have := (HOK1.2.1 Pi (by rw [hPi, hgi]; exact List.getElem_mem hlt)).2.1; exact Nat.le_trans this (by decide)
      have HXB : Hid (∀ W, Chg (fun k => some k = Value.ownBlock (.slice BB i kk)) wr W → W.heap[x]? = some (.cells #[.pointer (some ⟨p, 0, none⟩), .slice BB i kk, .pointer (some ⟨t, 0, none⟩)] 76 (0, 0))) := fun W hW => hW.at hI.blk (fun e => own_ne hm2 hI.blk (by decide) e.symm)
      have HX1 : Hid (∀ W, Chg (fun k => some k = Value.ownBlock (.slice BB i kk)) wr W → W.cell? ⟨x, 1, none⟩ = some (.slice BB i kk)) := fun W hW => blk_cell (HXB.out W hW) 1
      have HOL := Lib.hid hm2
      obtain ⟨b0, bi, bz0, bz1, bz2⟩ := info_parts Try.infoInts
      have HMX := Lib.hid (show M.length + 1 ≤ maxLen by unfold maxLen; omega)
      have HY := Lib.hid (show (M.length + 1) * 24 ≤ 140737488355328 by omega)
      have HONE : Hid (∀ W b u, OwnC icell 1 3 W b u Pi → u.oneCell' = true) := fun W b u h => by obtain ⟨A, c, rfl⟩ := h.slice; rfl
      clear hPi hgi hF0
      go_wp2_with fail
      go_upto_region 10 with fail
      refine wp_region_E (S := fun W => Chg (fun k => some k = Value.ownBlock (.slice BB i kk)) wr W) 11 (by kernel_rfl) ((Chg.refl _ _).drew) (fun hHeld => ?_)
      refine tkE 0 (y := by intro w hSw; go_simp; try with_reducible rfl) (h := ?_)
      refine tkE 1 (y := by intro w hSw; go_simp; try with_reducible rfl) (h := ?_)
      refine tkE 2 (y := by intro w hSw; go_simp; try with_reducible rfl) (h := ?_)
      refine tkE 3 (y := by intro w hSw; go_simp; try with_reducible rfl) (h := ?_)
      refine tkE 4 (y := by intro w hSw; have y := HX1.out _ hSw; go_simp; try with_reducible rfl) (h := ?_)
      refine tkE 5 (y := by intro w hSw; go_simp; try with_reducible rfl) (h := ?_)
      refine cE 6 (y := fun K hK => ?_)
      go_simp
      (go_at_call 43; refine (nClone _ Pi _ (HRI.out.keepN (Chg.refl _ _).drew) HPL.out).mono ?_; rintro e w6 ⟨cv, rfl, ho6, k6⟩; obtain ⟨A6, c6, hcv⟩ := ho6.slice; subst hcv; have HO6 := Lib.hid ho6; clear ho6; have K6 := Lib.hid ((Chg.refl (fun _ => False) wr).drew.trans k6); clear k6; have HBK : Hid (∀ o, OwnC poc 1 22 (w6.alloc o) 0 (.slice BB i kk) M) := fun o => HOL.out.keep (K6.out.alloc o) (fun _ _ => id); have HN := Lib.hid (rowc_blk (blk_new w6 (.cells #[.slice A6 Pi.length c6] 22))))
      refine hK.out _ _ (fun _ => (K6.out.mono (fun _ _ h => h.elim))) (fun hHeld => ?_)
      clear hK K
      try simp only [Act.put, List.setIfInBounds_toArray, List.set_cons_zero, List.set_cons_succ]
      replace hHeld := hHeld (by decide)
      refine cE 7 (y := fun K hK => ?_)
      go_simp
      skip
      refine hK.out _ _ (fun _ => (hHeld.alloc _)) (fun hHeld => ?_)
      clear hK K
      try simp only [Act.put, List.setIfInBounds_toArray, List.set_cons_zero, List.set_cons_succ]
      replace hHeld := hHeld (by decide)
      refine cE 8 (y := fun K hK => ?_)
      skip
      (refine wp_append_row _ _ _ 53 rfl 0 22 b0 (.slice none 0 0) 1 24 Try.underlying53 bi bz0 bz1 bz2 rfl (by decide) (.slice BB i kk) M.length (M.flatMap poc) rfl (HBK.out _) (some ⟨w6.heap.size, 0, none⟩) 1 1 [.slice A6 Pi.length c6] rfl rfl HN.out (by intro u hu; simp at hu; subst hu; exact HONE.out _ _ _ HO6.out) HMX.out HY.out (Nat.zero_le _) ?_; intro v5 w5 hown5 hgr hat5)
      refine hK.out _ _ (fun _ => (Chg.grown hHeld hgr (fun k hk _ => hk.symm))) (fun hHeld => ?_)
      clear hK K
      try simp only [Act.put, List.setIfInBounds_toArray, List.set_cons_zero, List.set_cons_succ]
      replace hHeld := hHeld (by decide)
      have hO5 : OwnC poc 1 22 w5 0 v5 (M ++ [(Pi, .slice A6 Pi.length c6)]) := by simpa [OwnC, poc] using hown5
      obtain ⟨B5, k5, hv5⟩ := hO5.slice
      subst hv5
      refine cE 9 (y := fun K hK => ?_)
      go_simp
      skip
      refine hK.out _ _ (fun _ => hHeld) (fun hHeld => ?_)
      clear hK K
      try simp only [Act.put, List.setIfInBounds_toArray, List.set_cons_zero, List.set_cons_succ]
      replace hHeld := hHeld (by decide)
      refine cE 10 (y := fun K hK => ?_)
      go_simp
      skip
      refine hK.out _ _ (fun _ => hHeld) (fun hHeld => ?_)
      clear hK K
      try simp only [Act.put, List.setIfInBounds_toArray, List.set_cons_zero, List.set_cons_succ]
      replace hHeld := hHeld (by decide)
      have HK5 := Lib.hid hHeld; have hcb5 := HXB.out _ hHeld; have y := blk_cell hcb5 1; have yf := blk_free hcb5 1; have yl := lt_of_heap hcb5; simp only [List.getElem?_toArray, List.getElem?_cons_succ, List.getElem?_cons_zero] at y
      refine cE 11 (y := fun K hK => ?_)
      go_simp
      skip
      refine hK.out _ _ (fun hne => absurd rfl hne) (fun _ => ?_)
      clear hK K
      try simp only [Act.put, List.setIfInBounds_toArray, List.set_cons_zero, List.set_cons_succ]
      refine dnE ?_
      have ht1 : L.take (i + 1) = L.take i ++ [Pi] := by rw [List.take_add_one, List.getElem?_eq_getElem hlt, HPI.out, List.getD_eq_getElem?_getD, List.getElem?_eq_getElem hlt]; rfl
      have hfl : (L.take (i + 1)).flatten = (L.take i).flatten ++ Pi := by rw [ht1, List.flatten_append]; simp
      have hpo : poolOf (L.take (i + 1)) i = Pi := by
        unfold poolOf
        rw [ht1, Int.toNat_natCast, List.getD_eq_getElem?_getD, List.getElem?_append_right (by rw [List.length_take]; omega), show i - (L.take i).length = 0 by rw [List.length_take]; omega]
        rfl
      obtain ⟨P', q1, q2, q3, q4⟩ := IomV.push hI hm1 hm2 hm3 hm4 K6.out HO6.out hgr hO5 hat5 (ht1 ▸ HOK.out (i + 1)) hM
      rw [← ht1] at q1
      have hml5 : (M ++ [(Pi, Value.slice A6 Pi.length c6)]).length = i + 1 := by simp [hml]
      rw [hml5] at q1 q3 q4
      obtain ⟨W6, hW6⟩ : ∃ W, W = w5.setCell ⟨x, 1, none⟩ (.slice B5 (i + 1) k5) := ⟨_, rfl⟩
      rw [← hW6] at q1 q3 q4
      have hd : devIn (L.take (i + 1)) i := ⟨by omega, by rw [List.length_take]; omega⟩
      have HCL := Lib.hid (iClear_yes x p t r _ nf _ P' F _ i W6 q1 q3 (by rw [clearB_len]; exact HLN.out) hd)
      rw [hpo, ← clearB_app, ← hfl] at HCL
      have HP2 : Hid (∀ k, P' k → w.heap.size ≤ k) := fun k hk => by
        rcases q2 k hk with h | h
        · exact hP k h
        · exact Nat.le_trans hC.size h
      have HC6 : Hid (Chg (fun k => k = r) w W6) := hC.trans' q4 (fun k hk h => by
        rcases h with rfl | h
        · have := HXN.out; omega
        · have := hP k h; omega)
      have HW6 := Lib.hid hW6
      clear hI hP hM hC hm1 hm2 hm3 hm4 hml hml5 q1 q2 q3 q4 hW6 ht1 hfl hpo hd HRI hel hc0 hgr hown5 hat5 hO5 hcb5 yf yl y
      go_wp2_with fail
      rw [← HW6.out]
      refine HCL.out.mono ?_
      rintro e w8 ⟨rfl, hI8, hM8, hC8⟩
      have HI8 := Lib.hid hI8; have HM8 := Lib.hid hM8
      have HC8 : Hid (Chg (fun k => k = r) w w8) := HC6.out.trans' hC8 (fun k hk h => by
        rcases h with h | h
        · exact h
        · have := HFN.out k h; omega)
      clear hI8 hM8 hC8 HCL
      go_wp2_with fail
      go_roundw
      case rel => exact ⟨i + 1, _, P', by omega, by go_num, HI8.out, HP2.out, HM8.out, HC8.out⟩
      case measure => simp [intOf]; omega
    · obtain rfl : i = L.length := by omega
      rw [List.take_of_length_le (Nat.le_refl _)] at hI hM
      have HX : Hid (NewPost p r bs L nf w (.returned (.tuple #[.pointer (some ⟨x, 0, none⟩), .int .i64 0])) wr) := ⟨x, _, rfl, ⟨t, v', P, F, hI, fun k => Iff.rfl⟩, (fun k hk => by rcases hk with rfl | hk | hk; exact HXN.out; exact hP k hk; exact HFN.out k hk), hM, hC⟩
      clear hI hP hM hC
      go_wp2_with fail
      go_ret2
      exact HX.out
end Go.Proofs.Ytnallfehffhaeaa
