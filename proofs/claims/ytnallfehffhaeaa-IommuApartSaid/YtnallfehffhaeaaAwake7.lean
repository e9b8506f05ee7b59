/- Chapter 7: what every program answers that is one. -/
import Derived.Test.YtnallfehffhaeaaSet7
set_option linter.unusedSimpArgs false
set_option linter.unusedVariables false
namespace Go.Proofs.Ytnallfehffhaeaa
open Go.RowKit

/-! ### Plain: any pools -/
section
variable {bs : List UInt8} {L : Pls} {d rt : Int} {rest : List Int} {S : List Nat} {E : Nat → Int × Int}
theorem DT.mapL (h : DT bs rt rest S E) (hp : poolOf L d = rt :: rest) (hd : devIn L d) {p : Nat} (hq : p < 256) {f q : Int} (h0 : 1 ≤ q) (h3 : q ≤ 3) (hf : frameP bs f) :
    match slotS S rest.length p with
    | some S' => ∃ b, (if MapP L bs d p f q then (mapM bs (poolOf L d) p f q).2 else bs) = b ∧ (if MapP L bs d p f q then (mapM bs (poolOf L d) p f q).1 else 700) = 0 ∧ DT b rt rest S' (upd E p (f, q)) ∧ FarW (rt :: rest) bs b
    | none => (if MapP L bs d p f q then (mapM bs (poolOf L d) p f q).2 else bs) = bs ∧ (if MapP L bs d p f q then (mapM bs (poolOf L d) p f q).1 else 700) = 701 := by
  have hm : MapP L bs d p f q := ⟨hd, by unfold pageP; omega, by have := h.b64; unfold frameP at hf; unfold mayE; omega, by omega, hf⟩
  have := h.map hq (e := (f, q)) hm.2.2.1 hm.2.2.2.1 hf
  rw [if_pos hm, if_pos hm, hp]
  cases hs : slotS S rest.length p with
  | none => rw [hs] at this; simp only at this ⊢; rw [this]; exact ⟨rfl, rfl⟩
  | some S' =>
    rw [hs] at this
    obtain ⟨h1, h2, h4⟩ := this
    exact ⟨_, rfl, h1, h2, h4⟩
theorem DT.unmapL (h : DT bs rt rest S E) (hr : rootOf L d = rt) (hd : devIn L d) {p : Nat} (hp : p < 256) :
    if (E p).2 = 0 then (if devIn L d ∧ pageP p then (unmapM bs (rootOf L d) p).2 else bs) = bs ∧ (if devIn L d ∧ pageP p then (unmapM bs (rootOf L d) p).1 else 700) = 702
    else ∃ b, (if devIn L d ∧ pageP p then (unmapM bs (rootOf L d) p).2 else bs) = b ∧ (if devIn L d ∧ pageP p then (unmapM bs (rootOf L d) p).1 else 700) = 0 ∧ DT b rt rest S (upd E p (0, 0)) ∧ FarW (rt :: rest) bs b := by
  have hd : devIn L d ∧ pageP p := ⟨hd, by unfold pageP; omega⟩
  rw [if_pos hd, if_pos hd, hr]
  have := h.unmap hp
  by_cases h0 : (E p).2 = 0
  · rw [if_pos h0] at this ⊢; rw [this]; exact ⟨rfl, rfl⟩
  · rw [if_neg h0] at this ⊢
    obtain ⟨h1, h2, h4⟩ := this
    exact ⟨_, rfl, h1, h2, h4⟩
/-- A run within one page of a table. -/
theorem DT.trans1 (h : DT bs rt rest S E) (hr : rootOf L d = rt) {b n : Int} {wri : Bool} (ht : TransP L d b n) (hb : b % 64 + n ≤ 64) :
    transQ bs L d b n wri = if (E (b / 64).toNat).2 = 0 then ([], 702) else if bits .and .i64 (E (b / 64).toNat).2 (if wri then 2 else 1) = 0 then ([], 703) else ([((E (b / 64).toNat).1, b % 64, n)], 0) := by
  have h1 := ht.2.2.2.1
  have h2 := ht.2.2.2.2
  have hw := h.walk (p := (b / 64).toNat) (by have := ht.2.1; omega)
  rw [show (((b / 64).toNat : Nat) : Int) = b / 64 by omega] at hw
  unfold transQ
  rw [if_pos ht, hr, Go.Proofs.Ytnallfehffhaeaa.trans1 ht.2.1 hb, hw]
  by_cases h0 : (E (b / 64).toNat).2 = 0
  · simp only [if_pos h0]; rfl
  · simp only [if_neg h0, ne_eq, not_true_eq_false, if_false]
end
theorem io_next {w wr w' : World} {F F' : Nat → Prop} (hC : Chg (fun _ => False) w wr) (hF : ∀ k, F k → w.heap.size ≤ k) (hF' : ∀ k, F' k → F k ∨ wr.heap.size ≤ k) (hC' : Chg F wr w') : Chg (fun _ => False) w w' ∧ ∀ k, F' k → w.heap.size ≤ k :=
  ⟨hC.trans' hC' (fun k hk h => absurd (hF k h) (by omega)), fun k hk => (hF' k hk).elim (hF k) (fun h => Nat.le_trans hC.size h)⟩
/-- A row of pieces beside an Iommu. -/
def PcR (w : World) (F : Nat → Prop) (o : Value) (L : List (Int × Int × Int)) : Prop := RdC pcI w o L ∧ ∀ k, o.ownBlock = some k → ¬ F k ∧ k < w.heap.size
theorem io_row {w w' : World} {F F' : Nat → Prop} {o : Value} {L : List (Int × Int × Int)} (h : PcR w F o L) (hF' : ∀ k, F' k → F k ∨ w.heap.size ≤ k) (hC' : Chg F w w') : PcR w' F' o L :=
  ⟨h.1.keep hC' (fun k hk => (h.2 k hk).1), fun k hk => ⟨fun hf => (hF' k hf).elim (h.2 k hk).1 (fun hle => by have := (h.2 k hk).2; omega), Nat.lt_of_lt_of_le (h.2 k hk).2 hC'.size⟩⟩
theorem io_rowN {w' : World} {x p b : Nat} {L : Pls} {bs : List UInt8} {F' : Nat → Prop} {o : Value} {ps : List (Int × Int × Int)} (hO : OwnC pcI 3 41 w' b o ps) (hI : IoM w' x p L bs F') (hN : ∀ k, o.ownBlock = some k → ¬ F' k) : PcR w' F' o ps :=
  ⟨RdC.own hO pcI_len, fun k hk => ⟨hN k hk, (own_lt hO hk).2⟩⟩
def PL8 : Pls := [[0, 1], [2, 3]]
theorem awake8 {b0 : List UInt8} (hb : b0 = clearB (List.replicate (8 * 64) 0) PL8.flatten) : ∃ b1 b2 b3,
    ((if MapP PL8 b0 1 17 6 3 then (mapM b0 (poolOf PL8 1) 17 6 3).2 else b0) = b1 ∧ (if MapP PL8 b0 1 17 6 3 then (mapM b0 (poolOf PL8 1) 17 6 3).1 else 700) = 0) ∧
    ((if MapP PL8 b1 1 33 6 3 then (mapM b1 (poolOf PL8 1) 33 6 3).2 else b1) = b1 ∧ (if MapP PL8 b1 1 33 6 3 then (mapM b1 (poolOf PL8 1) 33 6 3).1 else 700) = 701) ∧
    ((if MapP PL8 b1 1 18 7 1 then (mapM b1 (poolOf PL8 1) 18 7 1).2 else b1) = b2 ∧ (if MapP PL8 b1 1 18 7 1 then (mapM b1 (poolOf PL8 1) 18 7 1).1 else 700) = 0) ∧
    transQ b2 PL8 1 1148 10 false = ([(6, 60, 4), (7, 0, 6)], 0) ∧ transQ b2 PL8 1 1148 10 true = ([], 703) ∧ transQ b2 PL8 0 0 1 false = ([], 702) ∧
    ((if devIn PL8 1 ∧ pageP 17 then (unmapM b2 (rootOf PL8 1) 17).2 else b2) = b3 ∧ (if devIn PL8 1 ∧ pageP 17 then (unmapM b2 (rootOf PL8 1) 17).1 else 700) = 0) ∧
    transQ b3 PL8 1 1088 1 false = ([], 702) ∧
    ((if devIn PL8 1 ∧ pageP 17 then (unmapM b3 (rootOf PL8 1) 17).2 else b3) = b3 ∧ (if devIn PL8 1 ∧ pageP 17 then (unmapM b3 (rootOf PL8 1) 17).1 else 700) = 702) := by
  have hl : (List.replicate (8 * 64) (0 : UInt8)).length = 512 := List.length_replicate
  have hl0 : b0.length = 512 := by rw [hb, clearB_len, hl]
  have fr : ∀ {bs : List UInt8}, bs.length = 512 → ∀ {f : Int}, 0 ≤ f → f < 8 → frameP bs f := by intro bs h f a b; unfold frameP; rw [h]; omega
  have D : DT b0 2 [3] [] E00 := by
    have e : PL8.flatten = [0, 1] ++ [2, 3] := rfl
    rw [hb, e, clearB_app]
    exact DT.clear (by decide) (fun f hm => fr (by rw [clearB_len, hl]) (by simp at hm; omega) (by simp at hm; omega)) (by rw [clearB_len, hl]; omega)
  have D' : DT b0 0 [1] [] E00 := by
    have e : PL8.flatten = [0, 1] ++ [2, 3] := rfl
    rw [hb, e, clearB_app]
    exact (DT.clear (by decide) (fun f hm => fr hl (by simp at hm; omega) (by simp at hm; omega)) (by omega)).farW (clearB_far (fun f hm => fr (by rw [clearB_len, hl]) (by simp at hm; omega) (by simp at hm; omega))) (by decide)
  have hp : poolOf PL8 1 = [2, 3] := rfl
  have hr : rootOf PL8 1 = 2 := rfl
  obtain ⟨b1, h1, c1, D1, f1⟩ := D.mapL (p := 17) (f := 6) (q := 3) hp (by decide) (by decide) (by decide) (by decide) (fr hl0 (by decide) (by decide))
  have hl1 := f1.1.trans hl0
  have h2 := D1.mapL (p := 33) (f := 6) (q := 3) hp (by decide) (by decide) (by decide) (by decide) (fr hl1 (by decide) (by decide))
  obtain ⟨b2, h3, c3, D2, f2⟩ := D1.mapL (p := 18) (f := 7) (q := 1) hp (by decide) (by decide) (by decide) (by decide) (fr hl1 (by decide) (by decide))
  have h4 := D2.unmapL (p := 17) hr (by decide) (by decide)
  rw [if_neg (by decide)] at h4
  obtain ⟨b3, h5, c5, D3, f3⟩ := h4
  have h6 := D3.unmapL (p := 17) hr (by decide) (by decide)
  rw [if_pos (by decide)] at h6
  have w17 := D2.walk (p := 17) (by decide)
  have w18 := D2.walk (p := 18) (by decide)
  rw [if_neg (by decide)] at w17 w18
  refine ⟨b1, b2, b3, ⟨h1, c1⟩, h2, ⟨h3, c3⟩, ?_, ?_, ?_, ⟨h5, c5⟩, ?_, h6⟩
  · unfold transQ
    rw [if_pos (by decide), hr]
    show transM b2 2 1 (254 + 1 + 1) 1148 10 [] = _
    rw [transM, if_pos (by decide), show (1148 : Int) / 64 = ((17 : Nat) : Int) by decide, w17, if_neg (by decide), if_neg (by decide)]
    show transM b2 2 1 (254 + 1) 1152 6 [(6, 60, 4)] = _
    rw [transM, if_pos (by decide), show (1152 : Int) / 64 = ((18 : Nat) : Int) by decide, w18, if_neg (by decide), if_neg (by decide)]
    exact transM_end _ _ _ _ _ _ _ (by decide)
  · unfold transQ
    rw [if_pos (by decide), hr]
    show transM b2 2 2 (254 + 1 + 1) 1148 10 [] = _
    rw [transM, if_pos (by decide), show (1148 : Int) / 64 = ((17 : Nat) : Int) by decide, w17, if_neg (by decide), if_neg (by decide)]
    show transM b2 2 2 (254 + 1) 1152 6 [(6, 60, 4)] = _
    rw [transM, if_pos (by decide), show (1152 : Int) / 64 = ((18 : Nat) : Int) by decide, w18, if_neg (by decide), if_pos (by decide)]
  · rw [((D'.farW f1 (by decide)).farW f2 (by decide)).trans1 rfl (by decide) (by decide), if_pos (by decide)]
  · rw [D3.trans1 hr (by decide) (by decide), if_pos (by decide)]
set_option maxRecDepth 100000 in
set_option maxHeartbeats 4000000 in
theorem awake7 (w : World) : Calls Try.prog 9 #[] w fun e w' => e = .returned (.bool true) ∧ Chg (fun _ => False) w w' := by
  have hl : (List.replicate (8 * 64) (0 : UInt8)).length = 512 := List.length_replicate
  have fr : ∀ {bs : List UInt8}, bs.length = 512 → ∀ {f : Int}, 0 ≤ f → f < 8 → frameP bs f := by intro bs h f a b; unfold frameP; rw [h]; omega
  have HPP : Hid (PoolsP (List.replicate (8 * 64) 0) PL8) := ⟨fun f hf => fr hl (by simp [PL8] at hf; omega) (by simp [PL8] at hf; omega), by decide, by decide, by decide, by decide⟩
  have HPN : Hid (∀ bs, ¬ PoolsP bs [[0, 1], [1, 3]]) := fun bs h => absurd h.2.1 (by decide)
  obtain ⟨b0, hb0⟩ : ∃ b, b = clearB (List.replicate (8 * 64) 0) PL8.flatten := ⟨_, rfl⟩
  obtain ⟨b1, b2, b3, ⟨x1, y1⟩, ⟨x2, y2⟩, ⟨x3, y3⟩, t1, t2, t3, ⟨x4, y4⟩, t4, ⟨x5, y5⟩⟩ := awake8 hb0
  have X1 := Lib.hid x1; have Y1 := Lib.hid y1; have X2 := Lib.hid x2; have Y2 := Lib.hid y2; have X3 := Lib.hid x3; have Y3 := Lib.hid y3; have X4 := Lib.hid x4; have Y4 := Lib.hid y4; have X5 := Lib.hid x5; have Y5 := Lib.hid y5
  have T1 := Lib.hid t1; have T2 := Lib.hid t2; have T3 := Lib.hid t3; have T4 := Lib.hid t4
  have HB0 := Lib.hid hb0
  have HL0 := Lib.hid (show b0.length ≤ 4096 by rw [hb0, clearB_len, hl]; decide)
  clear x1 y1 x2 y2 x3 y3 x4 y4 x5 y5 t1 t2 t3 t4 hb0 hl fr
  go_enter Try.func9, Try.ntmps9
  go_wp2_with fail
  refine (mnew37_ok 8 w (by omega) (by omega)).mono ?_
  rintro e w1 ⟨rfl, hM, hs, hC⟩
  have HM := Lib.hid hM; have HC := Lib.hid hC; have HS := Lib.hid hs
  clear hM hC hs
  go_wp2_with fail
  obtain ⟨W, hW⟩ : ∃ W, W = ((w1.alloc (.cells #[.int .i64 0, .int .i64 1] 3)).alloc (.cells #[.int .i64 2, .int .i64 3] 3)).alloc (.cells #[.slice (some ⟨w1.heap.size, 0, none⟩) 2 2, .slice (some ⟨w1.heap.size + 1, 0, none⟩) 2 2] 22) := ⟨_, rfl⟩
  rw [← hW]
  have hA : Chg (fun _ => False) w1 W := by rw [hW]; exact (((Chg.refl _ _).alloc _).alloc _).alloc _
  have hR : RdLL W (.slice (some ⟨w1.heap.size + 2, 0, none⟩) 2 2) PL8 :=
    RdLL.mk2 (by rw [hW]; exact blk_new3 _ _ _ _) (RdN.blk (by rw [hW]; exact blk_alloc (blk_alloc (blk_new _ _) _) _) rfl (by decide) _) (RdN.blk (by rw [hW]; exact blk_alloc (blk_new2 _ _ _) _) rfl (by decide) _) _
  refine (ioNew (HM.out.keepD hA) (by rw [List.length_replicate]; decide) hR HPP.out).mono ?_
  rintro e w2 ⟨x, F, rfl, hI, hF, hC2⟩
  rw [← HB0.out] at hI
  have HI := Lib.hid hI
  have HF : Hid (∀ k, F k → w.heap.size ≤ k) := fun k hk => by
    have h1 := HC.out.size; have h2 := hA.size
    rcases hF k hk with h | h | h <;> omega
  have HC2 : Hid (Chg (fun _ => False) w w2) := (HC.out.trans hA).trans' hC2 (fun k hk h => by omega)
  clear hI hF hC2 hR hA hW HM HC
  go_wp2_with fail
  obtain ⟨W, hW⟩ : ∃ W, W = ((w2.alloc (.cells #[.int .i64 0, .int .i64 1] 3)).alloc (.cells #[.int .i64 1, .int .i64 3] 3)).alloc (.cells #[.slice (some ⟨w2.heap.size, 0, none⟩) 2 2, .slice (some ⟨w2.heap.size + 1, 0, none⟩) 2 2] 22) := ⟨_, rfl⟩
  rw [← hW]
  have hA : Chg (fun _ => False) w2 W := by rw [hW]; exact (((Chg.refl _ _).alloc _).alloc _).alloc _
  have hR : RdLL W (.slice (some ⟨w2.heap.size + 2, 0, none⟩) 2 2) [[0, 1], [1, 3]] :=
    RdLL.mk2 (by rw [hW]; exact blk_new3 _ _ _ _) (RdN.blk (by rw [hW]; exact blk_alloc (blk_alloc (blk_new _ _) _) _) rfl (by decide) _) (RdN.blk (by rw [hW]; exact blk_alloc (blk_new2 _ _ _) _) rfl (by decide) _) _
  have hIW := HI.out.keepN hA
  obtain ⟨r, hMW, _⟩ := hIW.mem
  refine (iNew_no _ r b0 _ _ W hMW HL0.out hR (HPN.out b0)).mono ?_
  rintro e w3 ⟨rfl, hC3⟩
  have HI3 := Lib.hid (hIW.keepN hC3)
  have HC3 := Lib.hid ((HC2.out.trans hA).trans hC3)
  clear hIW hMW hC3 hR hA hW HI HC2
  go_wp2_with fail
  refine (iNew_nil _ _).mono ?_
  rintro e w4 ⟨rfl, rfl⟩
  obtain ⟨W, hW⟩ : ∃ W, W = (w3.alloc (.cells #[.int .i64 0, .int .i64 1] 3)).alloc (.cells #[.slice (some ⟨w3.heap.size, 0, none⟩) 2 2] 22) := ⟨_, rfl⟩
  rw [← hW]
  have HI := Lib.hid (HI3.out.keepN (w' := W) (by rw [hW]; exact ((Chg.refl _ _).alloc _).alloc _))
  have HC := Lib.hid (HC3.out.trans (c := W) (by rw [hW]; exact ((Chg.refl _ _).alloc _).alloc _))
  clear hW HI3 HC3
  go_wp2_with fail
  refine (num16q _ _).mono ?_
  rintro e w5 ⟨rfl, rfl⟩
  go_wp2_with fail
  refine (num16q _ _).mono ?_
  rintro e w5 ⟨rfl, rfl⟩
  go_wp2_with fail
  -- CALLS
  have hm := ioMap HI.out 1 17 6 3
  rw [X1.out, Y1.out] at hm
  refine hm.mono ?_
  rintro e w6 ⟨rfl, F6, hI, hF, hC⟩
  have hq := io_next HC.out HF.out hF hC
  replace HI := Lib.hid hI; replace HC := Lib.hid hq.1; replace HF := Lib.hid hq.2
  clear hm hI hF hC hq
  go_wp2_with fail
  have hm := ioMap HI.out 1 33 6 3
  rw [X2.out, Y2.out] at hm
  refine hm.mono ?_
  rintro e w7 ⟨rfl, F7, hI, hF, hC⟩
  have hq := io_next HC.out HF.out hF hC
  replace HI := Lib.hid hI; replace HC := Lib.hid hq.1; replace HF := Lib.hid hq.2
  clear hm hI hF hC hq
  go_wp2_with fail
  have hm := ioMap HI.out 1 18 7 1
  rw [X3.out, Y3.out] at hm
  refine hm.mono ?_
  rintro e w8 ⟨rfl, F8, hI, hF, hC⟩
  have hq := io_next HC.out HF.out hF hC
  replace HI := Lib.hid hI; replace HC := Lib.hid hq.1; replace HF := Lib.hid hq.2
  clear hm hI hF hC hq
  go_wp2_with fail
  have hm := ioTrans HI.out 1 1148 10 false
  rw [T1.out] at hm
  refine hm.mono ?_
  rintro e w9 ⟨o9, rfl, hO, F9, hI, hF, hN, hC⟩
  have HRa := Lib.hid (io_rowN hO hI hN)
  obtain ⟨Aa, ca, hv⟩ := hO.slice
  subst hv
  clear hO hN
  have hq := io_next HC.out HF.out hF hC
  replace HI := Lib.hid hI; replace HC := Lib.hid hq.1; replace HF := Lib.hid hq.2
  clear hm hI hF hC hq
  go_wp2_with fail
  have hm := ioTrans HI.out 1 1148 10 true
  rw [T2.out] at hm
  refine hm.mono ?_
  rintro e w10 ⟨o10, rfl, hO, F10, hI, hF, hN, hC⟩
  obtain ⟨A10, c10, hv⟩ := hO.slice
  subst hv
  clear hO hN
  have hq := io_next HC.out HF.out hF hC
  have hra := io_row HRa.out hF hC
  replace HI := Lib.hid hI; replace HC := Lib.hid hq.1; replace HF := Lib.hid hq.2
  replace HRa := Lib.hid hra
  clear hm hI hF hC hq hra
  go_wp2_with fail
  have hm := ioTrans HI.out 0 0 1 false
  rw [T3.out] at hm
  refine hm.mono ?_
  rintro e w11 ⟨o11, rfl, hO, F11, hI, hF, hN, hC⟩
  obtain ⟨A11, c11, hv⟩ := hO.slice
  subst hv
  clear hO hN
  have hq := io_next HC.out HF.out hF hC
  have hra := io_row HRa.out hF hC
  replace HI := Lib.hid hI; replace HC := Lib.hid hq.1; replace HF := Lib.hid hq.2
  replace HRa := Lib.hid hra
  clear hm hI hF hC hq hra
  go_wp2_with fail
  have hm := ioUnmap HI.out 1 17
  rw [X4.out, Y4.out] at hm
  refine hm.mono ?_
  rintro e w12 ⟨rfl, F12, hI, hF, hC⟩
  have hq := io_next HC.out HF.out hF hC
  have hra := io_row HRa.out hF hC
  replace HI := Lib.hid hI; replace HC := Lib.hid hq.1; replace HF := Lib.hid hq.2
  replace HRa := Lib.hid hra
  clear hm hI hF hC hq hra
  go_wp2_with fail
  have hm := ioTrans HI.out 1 1088 1 false
  rw [T4.out] at hm
  refine hm.mono ?_
  rintro e w13 ⟨o13, rfl, hO, F13, hI, hF, hN, hC⟩
  obtain ⟨A13, c13, hv⟩ := hO.slice
  subst hv
  clear hO hN
  have hq := io_next HC.out HF.out hF hC
  have hra := io_row HRa.out hF hC
  replace HI := Lib.hid hI; replace HC := Lib.hid hq.1; replace HF := Lib.hid hq.2
  replace HRa := Lib.hid hra
  clear hm hI hF hC hq hra
  go_wp2_with fail
  have hm := ioUnmap HI.out 1 17
  rw [X5.out, Y5.out] at hm
  refine hm.mono ?_
  rintro e w14 ⟨rfl, F14, hI, hF, hC⟩
  have hq := io_next HC.out HF.out hF hC
  have hra := io_row HRa.out hF hC
  replace HI := Lib.hid hI; replace HC := Lib.hid hq.1; replace HF := Lib.hid hq.2
  replace HRa := Lib.hid hra
  clear hm hI hF hC hq hra
  go_wp2_with fail
  refine (num16q _ _).mono ?_
  rintro e w30 ⟨rfl, rfl⟩
  go_wp2_with fail
  refine (num16q _ _).mono ?_
  rintro e w30 ⟨rfl, rfl⟩
  go_wp2_with fail
  refine (num16q _ _).mono ?_
  rintro e w30 ⟨rfl, rfl⟩
  go_wp2_with fail
  refine (num16q _ _).mono ?_
  rintro e w30 ⟨rfl, rfl⟩
  go_wp2_with fail
  refine (num16q _ _).mono ?_
  rintro e w30 ⟨rfl, rfl⟩
  go_wp2_with fail
  refine (samePc _ _ [(6, 60, 4), (7, 0, 6)] _ (HRa.out.1.keep ((Chg.refl (fun _ => False) _).alloc _) (fun _ _ => id)) ⟨_, _, rfl, rowc_blk (blk_new _ _)⟩ (by decide)).mono ?_
  rintro e w30 ⟨rfl, hC30⟩
  have HC30 := Lib.hid ((HC.out.alloc _).trans hC30)
  clear hC30
  go_wp2_with fail
  refine (num16q _ _).mono ?_
  rintro e w30 ⟨rfl, rfl⟩
  go_wp2_with fail
  refine (num16q _ _).mono ?_
  rintro e w30 ⟨rfl, rfl⟩
  go_wp2_with fail
  refine (num16q _ _).mono ?_
  rintro e w30 ⟨rfl, rfl⟩
  go_wp2_with fail
  refine (num16q _ _).mono ?_
  rintro e w30 ⟨rfl, rfl⟩
  go_wp2_with fail
  refine (num16q _ _).mono ?_
  rintro e w30 ⟨rfl, rfl⟩
  go_wp2_with fail
  refine (num16q _ _).mono ?_
  rintro e w30 ⟨rfl, rfl⟩
  go_wp2_with fail
  go_ret
  exact ⟨rfl, HC30.out⟩
end Go.Proofs.Ytnallfehffhaeaa
