/- The Iommu's Translate. Printed by mkiom8.py. -/
import Derived.Test.YtnallfehffhaeaaIomG
import Derived.Test.YtnallfehffhaeaaAppRow0
import Derived.Deep.DeepCutAuto
import Derived.Deep.CutBlock
set_option linter.unusedSimpArgs false
set_option linter.unusedVariables false
namespace Go.Proofs.Ytnallfehffhaeaa
open Go.RowKit

/-- The pieces' cells: frame, offset, length. -/
def pcI (q : Int × Int × Int) : List Value := [.int .i64 q.1, .int .i64 q.2.1, .int .i64 q.2.2]
theorem Try.infoPiece7 : (Try.prog.info? 41).map (fun i => (i.zero, i.size, i.bytes)) = some (some (.agg #[.int .i64 0, .int .i64 0, .int .i64 0]), 3, 24) := by kernel_rfl
/-- The pieces of a device's bytes, the error. -/
def transM (bs : List UInt8) (rt wt : Int) : Nat → Int → Int → List (Int × Int × Int) → List (Int × Int × Int) × Int
  | 0, _, _, acc => (acc, 0)
  | k + 1, b, m, acc => if 0 < m then
      (if (walkE bs rt (b / 64)).2 ≠ 0 then ([], failC (walkE bs rt (b / 64)).2)
       else if bits .and .i64 (walkE bs rt (b / 64)).1.2 wt = 0 then ([], 703)
       else transM bs rt wt k (b + min m (64 - b % 64)) (m - min m (64 - b % 64)) (acc ++ [((walkE bs rt (b / 64)).1.1, b % 64, min m (64 - b % 64))]))
    else (acc, 0)
theorem transM_end (bs : List UInt8) (rt wt : Int) (k : Nat) (b m : Int) (acc) (h : m ≤ 0) : transM bs rt wt k b m acc = (acc, 0) := by
  cases k with
  | zero => rfl
  | succ k => show (if 0 < m then _ else _) = _; rw [if_neg (by omega)]
theorem failC_ne {e : Int} (h : e ≠ 0) : failC e ≠ 0 := by
  unfold failC
  split
  · decide
  · split
    · decide
    · exact h
def TransR (x p tb r : Nat) (L : Pls) (nf : Int) (v : Value) (P T : Nat → Prop) (bs : List UInt8) (w : World) (o : Value) (w' : World) : Prop := ∃ T', IomV w' x p tb L nf v P T' ∧ (∀ k, T' k → T k ∨ w.heap.size ≤ k) ∧ (∀ k, o.ownBlock = some k → ¬ T' k) ∧ MemAt w' 93 p r bs ∧ Chg T w w'
def TransPost (x p tb r : Nat) (L : Pls) (nf : Int) (v : Value) (P T : Nat → Prop) (bs : List UInt8) (ps : List (Int × Int × Int) × Int) (w : World) (e : Ending) (w' : World) : Prop := ∃ o, e = .returned (.tuple #[o, .int .i64 ps.2]) ∧ OwnC pcI 3 41 w' w.heap.size o ps.1 ∧ TransR x p tb r L nf v P T bs w o w'
set_option maxRecDepth 100000 in
set_option maxHeartbeats 8000000 in
theorem iTrans_yes (x p tb r : Nat) (L : Pls) (nf : Int) (v : Value) (P T : Nat → Prop) (bs : List UInt8) (d iova n : Int) (wri : Bool) (w : World) (h : IomV w x p tb L nf v P T) (hM : MemAt w 93 p r bs) (hl : bs.length ≤ 4096) (hnf : nf = (bs.length : Int) / 64) (hd : devIn L d) (hn1 : 1 ≤ n) (hn2 : n ≤ 256) (hi : 0 ≤ iova) (hin : iova + n ≤ 16384) :
    Calls Try.prog 14 #[.pointer (some ⟨x, 0, none⟩), .int .i64 d, .int .i64 iova, .int .i64 n, .bool wri] w (TransPost x p tb r L nf v P T bs (transM bs (rootOf L d) (if wri then 2 else 1) 256 iova n []) w) := by
  obtain ⟨q0, hi0, hz0, hz1, hz2⟩ := info_parts Try.infoPiece7
  have HT := Lib.hid (iThere x p tb L nf v P T d w h)
  rw [decide_eq_true hd] at HT
  obtain ⟨rt, hrt⟩ : ∃ z, z = rootOf L d := ⟨_, rfl⟩
  have HLK : Hid (∀ W T' page, IomV W x p tb L nf v P T' → MemAt W 93 p r bs → pageP page → Calls Try.prog 40 #[.pointer (some ⟨x, 0, none⟩), .int .i64 d, .int .i64 page] W (LookPost x p tb r L nf v P T' bs rt page W)) := fun W T' page a1 a2 a3 => by rw [hrt]; exact iLook x p tb r L nf v P T' bs d page W a1 a2 hl hnf hd a3
  rw [← hrt]
  obtain ⟨wt, hwt⟩ : ∃ z : Int, z = if wri then 2 else 1 := ⟨_, rfl⟩
  rw [← hwt]
  have HWT := Lib.hid hwt; clear hwt
  have HI := Lib.hid h
  have HMM := Lib.hid hM
  have hfn : ∀ k, T k → k < w.heap.size := fun k hk => h.tlb.lt k hk
  have HFN := Lib.hid hfn
  clear h hM hl hnf hd hrt hfn
  have b1 : decide (n < 1) = false := decide_eq_false (by omega)
  have b2 : decide (256 < n) = false := decide_eq_false (by omega)
  go_enter Try.func14, Try.ntmps14
  go_wp2_with fail
  refine HT.out.mono ?_
  rintro e w1 ⟨rfl, rfl⟩
  go_wp2_with fail
  refine (may56_yes iova n 16384 _ ⟨by omega, by omega, by omega, by omega, by omega⟩ (by omega)).mono ?_
  rintro e w1 ⟨rfl, rfl⟩
  go_upto_if 40 with fail
  go_cut [12] (fun s wx => s = .int .i64 wt ∧ wx = w)
  case first =>
    cases wri
    · go_wp2_with fail
      go_meet
      exact ⟨by rw [HWT.out]; rfl, rfl⟩
    · go_wp2_with fail
      go_meet
      exact ⟨by rw [HWT.out]; rfl, rfl⟩
  case rest =>
    obtain ⟨rfl, rfl⟩ := hcut
    clear HWT HT
    go_wp2_with fail
    go_loopw [2, 3, 13] (fun s2 s3 s13 wr => ∃ (LL : List (Int × Int × Int)) (b M : Int) (fl : Nat), s2 = .int .i64 b ∧ s3 = .int .i64 M ∧ OwnC pcI 3 41 wr wc.heap.size s13 LL ∧ transM bs rt wt 256 iova n [] = transM bs rt wt fl b M LL ∧ 0 ≤ b ∧ 0 ≤ M ∧ b + M = iova + n ∧ M ≤ fl ∧ (LL.length : Int) + M ≤ n ∧ TransR x p tb r L nf v P T bs wc s13 wr) (fun s2 s3 s13 _ => (intOf s3).toNat)
    case atStart => exact ⟨[], iova, n, 256, rfl, rfl, OwnC.nil _ _, rfl, by omega, by omega, by omega, by omega, by simp, T, HI.out, fun k hk => .inl hk, (fun k hk => by cases hk), HMM.out, Chg.refl _ _⟩
    case round =>
      obtain ⟨LL, b, M, fl, rfl, rfl, hown, heq, hb, hm, hbm, hfl, hlen, hR⟩ := hrel
      by_cases h0 : 0 < M
      · obtain ⟨T', hI, hTn, hov, hM, hC⟩ := hR
        obtain ⟨fl', rfl⟩ : ∃ z, fl = z + 1 := ⟨fl - 1, by omega⟩
        obtain ⟨AA, kk, rfl⟩ := hown.slice
        have HTR : Hid (transM bs rt wt (fl' + 1) b M LL = if (walkE bs rt (b / 64)).2 ≠ 0 then ([], failC (walkE bs rt (b / 64)).2)
          else if bits .and .i64 (walkE bs rt (b / 64)).1.2 wt = 0 then ([], 703)
          else transM bs rt wt fl' (b + min M (64 - b % 64)) (M - min M (64 - b % 64)) (LL ++ [((walkE bs rt (b / 64)).1.1, b % 64, min M (64 - b % 64))])) := by
          show (if 0 < M then _ else _) = _
          rw [if_pos h0]
        have hlc := HLK.out wr T' (b / 64) hI hM ⟨by omega, by omega⟩
        unfold LookPost at hlc
        generalize walkE bs rt (b / 64) = we at *
        have HLC := Lib.hid hlc; clear hlc
        have HEQ := Lib.hid heq; clear heq
        have HBM := Lib.hid hbm
        have hbm2 : b + M ≤ 16384 := by omega
        clear hbm
        have HIc := Lib.hid hI; have HMc := Lib.hid hM; have HTN := Lib.hid hTn; have HOV := Lib.hid hov; have HCc := Lib.hid hC; have HOWN := Lib.hid hown
        clear hI hTn hov hM hC hown
        go_wp2_with fail
        refine HLC.out.mono ?_
        rintro e w1 ⟨T2, rfl, hI2, hT2, hM2, hC2⟩
        have HI2 := Lib.hid hI2; have HT2 := Lib.hid hT2; have HM2 := Lib.hid hM2; have HC2 := Lib.hid hC2
        clear hI2 hT2 hM2 hC2 HLC
        go_upto_region 11 with fail
        obtain ⟨W2, hW2⟩ : ∃ W, W = w1.alloc (.cells #[.int .i64 we.1.1, .int .i64 we.1.2] 29) := ⟨_, rfl⟩
        have hk : Chg (fun _ => False) w1 W2 := by rw [hW2]; exact (Chg.refl _ _).alloc _
        have hB : W2.heap[w1.heap.size]? = some (.cells #[.int .i64 we.1.1, .int .i64 we.1.2] 29 (0, 0)) := by rw [hW2]; exact blk_new w1 _
        rw [← hW2]
        have hown2 := (HOWN.out.keep HC2.out (fun k hk => HOV.out k hk)).keep hk (fun _ _ => id)
        have hT3 : ∀ k, T2 k → T k ∨ wc.heap.size ≤ k := fun k hk => by
          rcases HT2.out k hk with h | h
          · exact HTN.out k h
          · exact .inr (by have := HCc.out.size; omega)
        have hC3 : Chg T wc W2 := (HCc.out.trans' HC2.out (fun k hk h => by rcases HTN.out k h with h | h; exact h; omega)).trans (hk.toF _)
        have hov3 : ∀ k, Value.ownBlock (.slice AA LL.length kk) = some k → wc.heap.size ≤ k ∧ ¬ T2 k := fun k hk => ⟨(own_lt HOWN.out hk).1, fun h => by
          rcases HT2.out k h with h | h
          · exact HOV.out k hk h
          · have := (own_lt HOWN.out hk).2; omega⟩
        have HERR : Hid (∀ code, transM bs rt wt 256 iova n [] = ([], code) → TransPost x p tb r L nf v P T bs (transM bs rt wt 256 iova n []) wc (.returned (.tuple #[.slice none 0 0, .int .i64 code])) W2) := fun code h => by
          rw [h]
          exact ⟨_, rfl, OwnC.nil _ _, T2, HI2.out.keepN hk, hT3, (fun k hk => by cases hk), HM2.out.keepD hk, hC3⟩
        have HEND : Hid (∀ w5 v5, Chg (fun k => some k = Value.ownBlock (.slice AA LL.length kk)) W2 w5 → (v5.ownBlock = Value.ownBlock (.slice AA LL.length kk) ∨ ∃ z, v5.ownBlock = some z ∧ W2.heap.size ≤ z) → TransR x p tb r L nf v P T bs wc v5 w5) := fun w5 v5 hc hat => by
          have lx := lt_of_heap HI.out.blk
          have lp := lt_of_heap HMM.out.1
          have lr := lt_of_heap HMM.out.2
          have hI5 := HI2.out.keepN hk
          have hM5 := HM2.out.keepD hk
          refine ⟨T2, hI5.keep hc (fun e => by have := (hov3 _ e.symm).1; omega) (fun k hk e => by have := HI.out.pools.lt k hk; have := (hov3 _ e.symm).1; omega) (fun k hk e => (hov3 _ e.symm).2 hk), hT3, (fun k hk h => ?_), ⟨hc.at hM5.1 (fun e => by have := (hov3 _ e.symm).1; omega), hc.at hM5.2 (fun e => by have := (hov3 _ e.symm).1; omega)⟩, hC3.trans' hc (fun k hk e => by have := (hov3 _ e.symm).1; omega)⟩
          rcases hat with h5 | ⟨z, h5, h6⟩
          · exact (hov3 k (h5.symm.trans hk)).2 h
          · rw [h5] at hk; injection hk with hk; have := hI5.tlb.lt k h; omega
        have HOW : Hid (∀ o, OwnC pcI 3 41 (W2.alloc o) wc.heap.size (.slice AA LL.length kk) LL) := fun o => hown2.keep ((Chg.refl (fun _ => False) _).alloc o) (fun _ _ => id)
        have HBB : Hid (∀ o, wc.heap.size ≤ (W2.alloc o).heap.size) := fun o => by have := hC3.size; simp; omega
        have y0 : W2.cell? ⟨w1.heap.size, 0, none⟩ = some (.int .i64 we.1.1) := blk_cell hB 0
        have y1 : W2.cell? ⟨w1.heap.size, 1, none⟩ = some (.int .i64 we.1.2) := blk_cell hB 1
        have h63 : LL.length + 1 ≤ maxLen := by unfold maxLen; omega
        have hbytes : (LL.length + 1) * 24 ≤ 140737488355328 := by omega
        generalize w1.heap.size = b8 at *
        clear hk hB hW2 hown2 hT3 hC3 hov3 HIc HMc HTN HOV HCc HOWN HI2 HT2 HM2 HC2
        by_cases e2 : we.2 = 0
        · have c2 : (failC we.2 == 0) = true := by rw [e2]; rfl
          rw [if_neg (by rw [e2]; decide)] at HTR
          by_cases e3 : bits .and .i64 we.1.2 wt = 0
          · have c3 : (bits .and .i64 we.1.2 wt == 0) = true := by simpa using e3
            rw [if_pos e3] at HTR
            have HE := Lib.hid (HERR.out 703 (HEQ.out.trans HTR.out))
            clear e2 e3
            go_wp2_with fail
            go_ret2
            exact HE.out
          · have c3 : (bits .and .i64 we.1.2 wt == 0) = false := by simpa using e3
            rw [if_neg e3] at HTR
            clear e2 e3 HERR
            by_cases hmin : M ≤ 64 - b % 64
            · have hmd : decide (64 - b % 64 < M) = false := decide_eq_false (by omega)
              have hmm : min M (64 - b % 64) = M := by omega
              have HMN := Lib.hid hmm; clear hmm
              have HST : Hid (transM bs rt wt fl' (b + M) 0 (LL ++ [(we.1.1, b % 64, M)]) = transM bs rt wt 256 iova n []) := by
                refine (HEQ.out.trans (HTR.out.trans ?_)).symm
                rw [HMN.out, Int.sub_self]
              have hnews := rowc_blk (blk_new W2 (.cells #[.int .i64 we.1.1, .int .i64 (b % 64), .int .i64 M] 41))
              have HN := Lib.hid hnews; clear hnews
              go_wp2_with
                (at_builtin
                 refine wpList_append_row _ rfl _ _ 36 rfl wc.heap.size 41 q0 (.agg #[.int .i64 0, .int .i64 0, .int .i64 0]) 3 24 Try.underlying36 hi0 hz0 hz1 hz2 rfl (by decide) (.slice AA LL.length kk) LL.length (LL.flatMap pcI) rfl (HOW.out _) (some ⟨W2.heap.size, 0, none⟩) 1 1 [.int .i64 we.1.1, .int .i64 (b % 64), .int .i64 M] rfl rfl HN.out (by simp [Value.oneCell']) h63 hbytes (HBB.out _) ?_
                 intro v5 w5 hown5 hgr hat5
                 have hf : OwnC pcI 3 41 w5 wc.heap.size v5 (LL ++ [(we.1.1, b % 64, M)]) := by simpa [OwnC, pcI] using hown5
                 have hc5 : Chg (fun k => some k = Value.ownBlock (.slice AA LL.length kk)) W2 w5 := Chg.grown ((Chg.refl _ _).alloc _) hgr (fun k hk _ => hk.symm)
                 have hrl := HEND.out w5 v5 hc5 (by rcases hat5 with h | h; exact .inl h; exact .inr ⟨_, h, by simp⟩)
                 have HF := Lib.hid hf; have HRL := Lib.hid hrl; clear hf hc5 hrl hown5 hgr hat5)
              go_wp2_with fail
              go_roundw
              case rel => exact ⟨_, _, _, fl', rfl, rfl, HF.out, HST.out.symm, by omega, by omega, by have := HBM.out; omega, by omega, by simp; omega, HRL.out⟩
              case measure => simp [intOf]; omega
            · have hmd : decide (64 - b % 64 < M) = true := decide_eq_true (by omega)
              have hmm : min M (64 - b % 64) = 64 - b % 64 := by omega
              have hmin2 : 64 - b % 64 < M := by omega
              have HMN := Lib.hid hmm; clear hmm hmin
              have HST : Hid (transM bs rt wt fl' (b + (64 - b % 64)) (M - (64 - b % 64)) (LL ++ [(we.1.1, b % 64, (64 - b % 64))]) = transM bs rt wt 256 iova n []) := by
                refine (HEQ.out.trans (HTR.out.trans ?_)).symm
                rw [HMN.out]
              have hnews := rowc_blk (blk_new W2 (.cells #[.int .i64 we.1.1, .int .i64 (b % 64), .int .i64 (64 - b % 64)] 41))
              have HN := Lib.hid hnews; clear hnews
              go_wp2_with
                (at_builtin
                 refine wpList_append_row _ rfl _ _ 36 rfl wc.heap.size 41 q0 (.agg #[.int .i64 0, .int .i64 0, .int .i64 0]) 3 24 Try.underlying36 hi0 hz0 hz1 hz2 rfl (by decide) (.slice AA LL.length kk) LL.length (LL.flatMap pcI) rfl (HOW.out _) (some ⟨W2.heap.size, 0, none⟩) 1 1 [.int .i64 we.1.1, .int .i64 (b % 64), .int .i64 (64 - b % 64)] rfl rfl HN.out (by simp [Value.oneCell']) h63 hbytes (HBB.out _) ?_
                 intro v5 w5 hown5 hgr hat5
                 have hf : OwnC pcI 3 41 w5 wc.heap.size v5 (LL ++ [(we.1.1, b % 64, (64 - b % 64))]) := by simpa [OwnC, pcI] using hown5
                 have hc5 : Chg (fun k => some k = Value.ownBlock (.slice AA LL.length kk)) W2 w5 := Chg.grown ((Chg.refl _ _).alloc _) hgr (fun k hk _ => hk.symm)
                 have hrl := HEND.out w5 v5 hc5 (by rcases hat5 with h | h; exact .inl h; exact .inr ⟨_, h, by simp⟩)
                 have HF := Lib.hid hf; have HRL := Lib.hid hrl; clear hf hc5 hrl hown5 hgr hat5)
              go_wp2_with fail
              go_roundw
              case rel => exact ⟨_, _, _, fl', rfl, rfl, HF.out, HST.out.symm, by omega, by omega, by have := HBM.out; omega, by omega, by simp; omega, HRL.out⟩
              case measure => simp [intOf]; omega
        · have c2 : (failC we.2 == 0) = false := by simpa using failC_ne e2
          rw [if_pos e2] at HTR
          have HE := Lib.hid (HERR.out _ (HEQ.out.trans HTR.out))
          clear e2
          go_wp2_with fail
          go_ret2
          exact HE.out
      · obtain rfl : M = 0 := by omega
        rw [transM_end bs rt wt fl b 0 LL (by omega)] at heq
        have HPO : Hid (TransPost x p tb r L nf v P T bs (transM bs rt wt 256 iova n []) wc (.returned (.tuple #[u13, .int .i64 0])) wr) := ⟨u13, by rw [heq], by rw [heq]; exact hown, hR⟩
        clear hown heq hR
        go_wp2_with fail
        go_ret2
        exact HPO.out
end Go.Proofs.Ytnallfehffhaeaa
