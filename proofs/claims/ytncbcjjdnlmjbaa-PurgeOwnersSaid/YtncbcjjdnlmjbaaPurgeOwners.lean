/- The law PurgeOwners: the walk. Printed by mkpown.py. -/
import Derived.Test.YtncbcjjdnlmjbaaPurgeAll
set_option linter.unusedSimpArgs false
set_option linter.unusedVariables false
namespace Go.Proofs.Ytncbcjjdnlmjbaa
open Go.RowKit

attribute [local go_sem] i64_and1 i64_and3 i64_and1023
theorem own_apart {α β : Type} {c1 : α → List Value} {c2 : β → List Value} {C1 C2 e1 e2 : Nat} {w : World} {b1 b2 : Nat} {v1 v2 : Value} {L1 : List α} {L2 : List β} (h1 : OwnC c1 C1 e1 w b1 v1 L1) (h2 : OwnC c2 C2 e2 w b2 v2 L2) (hne : e1 ≠ e2) {k : Nat} (hk1 : v1.ownBlock = some k) (hk2 : v2.ownBlock = some k) : False := by
  rcases h2.2 with ⟨hv, _⟩ | ⟨g, cap', cur, hv, _, hg, _⟩
  · rw [hv] at hk2; cases hk2
  · rw [hv] at hk2; simp only [Value.ownBlock, Option.some.injEq] at hk2; subst hk2
    exact own_ne h1 hg (Ne.symm hne) hk1
/-- What the law's own walk knows. -/
def ownerOk (o : Int) : Bool := decide (o = 2) || decide (o = 0)
structure OwInv (L : List St) (K : List Bool) (o t l : Int) : Prop where
  len : K.length = L.length
  few : L.length ≤ 40
  at_ : (runA 2 3 (asgOf cPlain, 0) L).1 = [(0, 0), (if l = 0 then o else t, l)]
  tick : 0 ≤ (runA 2 3 (asgOf cPlain, 0) L).2 ∧ (runA 2 3 (asgOf cPlain, 0) L).2 ≤ L.length
  bnd : 0 ≤ l ∧ l ≤ 2
  own : l = 0 → 0 ≤ o ∧ o < 3
  mov : 0 < l → o = -1 ∧ 0 ≤ t ∧ t < 3
  keep : purgeL (pfl (toL cPlain 2)) 2 3 (asgOf cPlain, 0) L = (L.zip K).map (fun p => if p.2 then p.1 else St.zero)
theorem OwInv.start : OwInv [] [] 2 0 0 := ⟨rfl, by simp, rfl, ⟨by decide, by decide⟩, ⟨by omega, by omega⟩, fun _ => ⟨by omega, by omega⟩, fun h => absurd h (by decide), rfl⟩
theorem zip_snoc {α β : Type} : ∀ (L : List α) (K : List β) (x : α) (k : β), K.length = L.length → (L ++ [x]).zip (K ++ [k]) = L.zip K ++ [(x, k)]
  | [], [], _, _, _ => rfl
  | [], _ :: _, _, _, h => by simp at h
  | _ :: _, [], _, _, h => by simp at h
  | a :: L, b :: K, x, k, h => by simp only [List.cons_append, List.zip_cons_cons]; rw [zip_snoc L K x k (by simpa using h)]
theorem OwInv.next {L : List St} {K : List Bool} {o t l : Int} (h : OwInv L K o t l) (hl : L.length < 40) (x : St) (k : Bool) (o' t' l' : Int)
    (hk : keepP (pfl (toL cPlain 2)) [(0, 0), (if l = 0 then o else t, l)] x = k)
    (hA : stepA 2 3 [(0, 0), (if l = 0 then o else t, l)] (runA 2 3 (asgOf cPlain, 0) L).2 x = [(0, 0), (if l' = 0 then o' else t', l')])
    (hb : 0 ≤ l' ∧ l' ≤ 2) (ho : l' = 0 → 0 ≤ o' ∧ o' < 3) (hm : 0 < l' → o' = -1 ∧ 0 ≤ t' ∧ t' < 3) : OwInv (L ++ [x]) (K ++ [k]) o' t' l' := by
  refine ⟨by simp [h.len], by simp; omega, ?_, ?_, hb, ho, hm, ?_⟩
  · rw [runA_append]; show stepA 2 3 (runA 2 3 (asgOf cPlain, 0) L).1 (runA 2 3 (asgOf cPlain, 0) L).2 x = _
    rw [h.at_]; exact hA
  · rw [runA_append]; show 0 ≤ stepT (runA 2 3 (asgOf cPlain, 0) L).2 x ∧ stepT (runA 2 3 (asgOf cPlain, 0) L).2 x ≤ _
    have := h.tick
    rw [List.length_append, List.length_singleton]
    unfold stepT; split <;> omega
  · rw [purgeL_append, h.keep, zip_snoc L K x k h.len, List.map_append]
    show _ ++ [if keepP (pfl (toL cPlain 2)) (runA 2 3 (asgOf cPlain, 0) L).1 x then x else St.zero] = _
    rw [h.at_, hk]; rfl
theorem keep_other (fl : Int → Bool) (A : AL) (x : St) (h : x.kind = 1 ∨ x.kind = 2) : keepP fl A x = true := by
  unfold keepP
  rw [if_neg (show ¬ callP x.kind from fun h' => by have := h'.1; omega), if_neg (by omega)]
theorem OwInv.tick1 {L : List St} {K : List Bool} {o t l : Int} (h : OwInv L K o t l) (hl : L.length < 40) : OwInv (L ++ [⟨1, 0, 0, 0, 0, 0, ByteArray.empty⟩]) (K ++ [true]) (if 0 < l ∧ l - 1 = 0 then t else o) t (if 0 < l then l - 1 else l) := by
  have hb := h.bnd
  refine h.next hl _ _ _ _ _ (keep_other _ _ _ (.inl rfl)) ?_ ?_ ?_ ?_
  · unfold stepA
    rw [if_neg (show ¬ (1 : Int) = 2 by decide), if_pos ⟨rfl, by have := h.tick; omega⟩]
    have h3 : l = 0 ∨ l = 1 ∨ l = 2 := by omega
    rcases h3 with rfl | rfl | rfl <;> simp [tickA, tickS]
  · split <;> omega
  · intro e
    by_cases h0 : 0 < l
    · rw [if_pos h0] at e; rw [if_pos ⟨h0, e⟩]; exact (h.mov h0).2
    · rw [if_neg (fun h => h0 h.1)]; exact h.own (by omega)
  · intro e
    by_cases h0 : 0 < l
    · rw [if_pos h0] at e; rw [if_neg (fun h => by omega)]; exact h.mov h0
    · rw [if_neg h0] at e; exact absurd e h0
theorem OwInv.mv0 {L : List St} {K : List Bool} {o t : Int} (h : OwInv L K o t 0) (hl : L.length < 40) (p : Int) (h0 : 0 ≤ p) (h1 : p < 3) : OwInv (L ++ [⟨2, 0, 1, p, 0, 0, ByteArray.empty⟩]) (K ++ [true]) (-1) p 2 := by
  refine h.next hl _ _ _ _ _ (keep_other _ _ _ (.inr rfl)) ?_ ⟨by omega, by omega⟩ (fun e => absurd e (by decide)) (fun _ => ⟨rfl, h0, h1⟩)
  unfold stepA
  rw [if_pos rfl]
  have hc : mvC 3 [(0, 0), (if (0 : Int) = 0 then o else t, 0)] 1 p = 0 := by
    unfold mvC
    rw [if_neg (fun hn => hn ⟨⟨by omega, by simp⟩, h0, h1⟩)]
    rfl
  unfold mvA
  rw [hc]
  rfl
theorem OwInv.mv1 {L : List St} {K : List Bool} {o t l : Int} (h : OwInv L K o t l) (hl : L.length < 40) (p : Int) (h0 : 0 ≤ p) (h1 : p < 3) (hl0 : ¬ l = 0) : OwInv (L ++ [⟨2, 0, 1, p, 0, 0, ByteArray.empty⟩]) (K ++ [true]) o t l := by
  have hb := h.bnd
  refine h.next hl _ _ _ _ _ (keep_other _ _ _ (.inr rfl)) ?_ hb (fun e => absurd e hl0) h.mov
  unfold stepA
  rw [if_pos rfl]
  have hc : mvC 3 [(0, 0), (if l = 0 then o else t, l)] 1 p = 1501 := by
    unfold mvC
    rw [if_neg (fun hn => hn ⟨⟨by omega, by simp⟩, h0, h1⟩)]
    show (if 0 < l then (1501 : Int) else 0) = 1501
    rw [if_pos (by omega)]
  unfold mvA
  rw [hc]
  rfl
theorem OwInv.req {L : List St} {K : List Bool} {o t l : Int} (h : OwInv L K o t l) (hl : L.length < 40) (q : Int) (hq : q = 3 ∨ q = 4) : OwInv (L ++ [⟨q, 0, 1, 5, 0, 0, ByteArray.empty⟩]) (K ++ [ownerOk o]) o t l := by
  have hb := h.bnd
  refine h.next hl _ _ _ _ _ ?_ ?_ hb h.own h.mov
  · unfold keepP
    rw [if_neg (show ¬ callP q from fun h' => by have := h'.1; omega), if_pos hq, toL_plain 2 (by omega)]
    have e : ownA [(0, 0), (if l = 0 then o else t, l)] 1 = o := by
      unfold ownA
      by_cases h0 : l = 0
      · rw [if_pos ⟨⟨by omega, by simp⟩, by show ¬ 0 < l; omega⟩]; show (if l = 0 then o else t) = o; rw [if_pos h0]
      · rw [if_neg (fun h => h.2 (by show 0 < l; omega))]; exact (h.mov (by omega)).1.symm
    show pfl _ (ownA _ 1) = _
    rw [e]
    have ho : o = -1 ∨ o = 0 ∨ o = 1 ∨ o = 2 := by
      by_cases h0 : l = 0
      · have := h.own h0; omega
      · have := h.mov (by omega); omega
    rcases ho with rfl | rfl | rfl | rfl <;> rfl
  · unfold stepA
    rw [if_neg (show ¬ q = 2 by omega), if_neg (show ¬ (q = 1 ∧ _) from fun h => by omega)]
theorem zipmap_at {L : List St} {K : List Bool} (hl : K.length = L.length) {j : Nat} (hj : j < L.length) (P : List St) (hP : P = (L.zip K).map (fun p => if p.2 then p.1 else St.zero)) : ∃ h : j < P.length, P[j] = if K[j]'(by omega) then L[j] else St.zero := by
  subst hP
  exact ⟨by simp; omega, by simp⟩
set_option maxRecDepth 100000 in
set_option maxHeartbeats 8000000 in
theorem purgeOwners_c (A : Option Addr) (c : Nat) (xs : List Int) (w : World) (hm : xs.length ≤ maxLen) (hr : RowC w A (xs.flatMap icell)) :
    Calls Try.prog 13 #[.slice A xs.length c] w fun e w' => e = .returned (.bool true) ∧ Chg (fun _ => False) w w' := by
  have HX : Hid (∀ W, Chg (fun _ => False) w W → RowC W A (xs.flatMap icell)) := fun W hW => hr.keepF hW
  have l0 : (xs.length : Int) ≤ 9223372036854775807 := by unfold maxLen at hm; omega
  clear hr hm
  go_enter Try.func13, Try.ntmps13
  go_wp2_with fail
  refine (awake23 _).mono ?_
  rintro e w0 ⟨rfl, k0⟩
  have HR0 := Lib.hid k0; clear k0
  go_wp2_with fail
  refine (plain23 _).mono ?_
  rintro e w1 ⟨rfl, hp1, k1, s1⟩
  have HP1 : Hid (∀ W, Chg (fun _ => False) w1 W → (sPlain w0.heap.size).R W cPlain) := fun W hW => (hp1.keepN hW).R
  have HR1 := Lib.hid (HR0.out.trans k1); clear k1 hp1 s1 HR0
  generalize w0.heap.size = B at *
  simp only [cfc, cPlain, sPlain]
  obtain ⟨cb, hcb⟩ : ∃ cb, cb = w1.heap.size := ⟨_, rfl⟩
  obtain ⟨W2, hW2⟩ : ∃ W, W = w1.alloc (.cells (cfc cPlain (sPlain B)) 27) := ⟨_, rfl⟩
  have q0 := blk_new w1 (.cells (cfc cPlain (sPlain B)) 27)
  have kA : Chg (fun _ => False) w1 W2 := by rw [hW2]; exact (Chg.refl _ _).alloc _
  rw [← hW2, ← hcb] at q0
  have HQ0 := Lib.hid q0
  have R1 : Hid (∀ W, Chg (fun _ => False) W2 W → (sPlain B).R W cPlain) := fun W hW => HP1.out W (kA.trans hW)
  have HR : Hid (Chg (fun _ => False) w W2) := HR1.out.trans kA
  clear HP1 HR1 kA q0
  simp only [cfc, cPlain, sPlain] at hW2
  go_upto_region 4 with fail
  rw [← hW2]
  clear hW2
  try rw [← hcb]
  clear hcb
  obtain ⟨B0, hB0⟩ : ∃ b, b = W2.heap.size := ⟨_, rfl⟩
  have HBW : Hid (B0 = W2.heap.size) := hB0
  clear hB0
  have HO1 := Lib.hid (OwnC.nil (cells := stcell) (C := 7) (e := 59) W2 B0)
  have HO2 := Lib.hid (OwnC.nil (cells := bcell) (C := 1) (e := 4) W2 B0)
  go_wp2_with fail
  go_loopw [4, 5, 6, 7, 8, 9] (fun s4 s5 s6 s7 s8 s9 wr => ∃ (i : Nat) (L : List St) (K : List Bool) (o t l : Int), i ≤ xs.length ∧ L.length = i ∧ s9 = .int .i64 i ∧ s6 = .int .i64 o ∧ s7 = .int .i64 t ∧ s8 = .int .i64 l ∧ OwnC stcell 7 59 wr B0 s4 L ∧ OwnC bcell 1 4 wr B0 s5 K ∧ OwInv L K o t l ∧ Chg (fun _ => False) W2 wr) (fun _ _ _ _ _ s9 _ => xs.length - (intOf s9).toNat)
  case atStart => exact ⟨0, _, _, _, _, _, by omega, rfl, rfl, rfl, rfl, rfl, HO1.out, HO2.out, OwInv.start, Chg.refl _ _⟩
  case round =>
    clear HO1 HO2
    obtain ⟨i, L, K, o, t, l, hi, hLi, rfl, rfl, rfl, rfl, hos, hok, hinv, hC⟩ := hrel
    have i0 : (0 : Int) ≤ i := by omega
    obtain ⟨SB, sk, rfl⟩ := hos.slice
    obtain ⟨KB, kk, rfl⟩ := hok.slice
    by_cases hlt : i < xs.length ∧ i < 40
    · have i1 : (i : Int) < xs.length := by omega
      have i2 : (i : Int) < 40 := by omega
      have d1 : decide ((i : Int) < 40) = true := decide_eq_true i2
      have d1n : decide (i < 40) = true := decide_eq_true hlt.2
      have HLL : Hid (L.length ≤ 4096) := by unfold Hid; omega
      have HLK : Hid (K.length ≤ 4096) := by unfold Hid; rw [hinv.len]; omega
      have HLi : Hid (L.length < 40) := by unfold Hid; omega
      have hml : Hid (K.length = L.length) := hinv.len
      obtain ⟨g, o', rfl, x0⟩ := HX.out wr (HR.out.trans hC) i (.int .i64 xs[i]) (by have := flat_get icell 1 (fun _ => rfl) 0 (by omega) xs i; simp at this; rw [this]; simp [hlt.1, icell])
      generalize xs[i] = X at *
      have HINV := Lib.hid hinv
      have HOS := Lib.hid hos
      have HOK := Lib.hid hok
      have HC := Lib.hid hC
      have HB0 : Hid (B0 ≤ wr.heap.size) := by have := hC.size; have := HBW.out; unfold Hid; omega
      have hb := hinv.bnd
      have HLIQ := Lib.hid hLi
      clear hos hok hC hinv hLi
      have hm4 : X % 4 = 0 ∨ X % 4 = 1 ∨ X % 4 = 2 ∨ X % 4 = 3 := by omega
      by_cases m0 : X % 4 = 0
      · have e0 : (X % 4 == 0) = true := by simpa using m0
        clear m0 hm4
        have hn := HINV.out.tick1 HLi.out
        by_cases l1 : 0 < l
        · have f1 : decide (0 < l) = true := decide_eq_true l1
          by_cases l2 : l - 1 = 0
          · have f2 : (l - 1 == 0) = true := by simpa using l2
            rw [if_pos ⟨l1, l2⟩, if_pos l1] at hn
            have HNX := Lib.hid hn
            clear hn l2
            obtain ⟨i05, ii5, iz05, iz15, iz25⟩ := info_parts Try.infoStep
            have HBK5 : Hid (∀ o, OwnC stcell 7 59 (wr.alloc o) B0 (.slice SB L.length sk) L) := fun o => HOS.out.keep ((Chg.refl (fun _ => False) _).alloc o) (fun _ _ => id)
            have HN5 := Lib.hid (rowc_blk (blk_new wr (.cells #[.int .i64 1, .int .i64 0, .int .i64 0, .int .i64 0, .int .i64 0, .int .i64 0, .string ByteArray.empty] 59)))
            have HM5 := Lib.hid (show L.length + 1 ≤ maxLen by have := HLL.out; unfold maxLen; omega)
            have HY5 := Lib.hid (show (L.length + 1) * 64 ≤ 140737488355328 by have := HLL.out; omega)
            have HBS5 : Hid (∀ o, B0 ≤ (wr.alloc o).heap.size) := fun o => by have := HB0.out; simp; omega
            go_wp2_with (at_builtin; refine wpList_append_row _ rfl _ _ 49 rfl B0 59 i05 (.agg #[.int .i64 0, .int .i64 0, .int .i64 0, .int .i64 0, .int .i64 0, .int .i64 0, .string ByteArray.empty]) 7 64 Try.underlying49 ii5 iz05 iz15 iz25 rfl (by decide) (.slice SB L.length sk) L.length (L.flatMap stcell) rfl (HBK5.out _) (some ⟨wr.heap.size, 0, none⟩) 1 1 [.int .i64 1, .int .i64 0, .int .i64 0, .int .i64 0, .int .i64 0, .int .i64 0, .string ByteArray.empty] rfl rfl HN5.out (by simp [Value.oneCell']) HM5.out HY5.out (HBS5.out _) ?_)
            intro v5 w5 hown5 hgr5 hat5
            have hO5 : OwnC stcell 7 59 w5 B0 v5 (L ++ [⟨1, 0, 0, 0, 0, 0, ByteArray.empty⟩]) := by simpa [OwnC, stcell] using hown5
            have hC5 : Chg (fun k => some k = Value.ownBlock (.slice SB L.length sk)) wr w5 := Chg.grown ((Chg.refl _ _).alloc _) hgr5 (fun k hk _ => hk.symm)
            clear hown5 hgr5 HBK5 HN5 HM5 HY5 HBS5 ii5 iz05 iz15 iz25
            obtain ⟨S5, s5, hv5⟩ := hO5.slice
            rw [List.length_append, List.length_singleton] at hv5
            subst hv5
            have HOK5 : Hid (OwnC bcell 1 4 w5 B0 (.slice KB K.length kk) K) := HOK.out.keep hC5 (fun k hk e => own_apart HOS.out HOK.out (by decide) e.symm hk)
            have HB5 : Hid (B0 ≤ w5.heap.size) := Nat.le_trans HB0.out hC5.size
            have HC5 : Hid (Chg (fun _ => False) W2 w5) := HC.out.trans' hC5 (fun k hk e => by have := (own_lt HOS.out e.symm).1; have := HBW.out; omega)
            have HO5 := Lib.hid hO5
            clear hO5 hC5 hat5 HOS HOK HC
            obtain ⟨i06, ii6, iz06, iz16, iz26⟩ := info_parts Try.info4
            have HBK6 : Hid (∀ o, OwnC bcell 1 4 (w5.alloc o) B0 (.slice KB K.length kk) K) := fun o => HOK5.out.keep ((Chg.refl (fun _ => False) _).alloc o) (fun _ _ => id)
            have HN6 := Lib.hid (rowc_blk (blk_new w5 (.cells #[.bool true] 4)))
            have HM6 := Lib.hid (show K.length + 1 ≤ maxLen by have := HLK.out; unfold maxLen; omega)
            have HY6 := Lib.hid (show (K.length + 1) * 1 ≤ 140737488355328 by have := HLK.out; omega)
            have HBS6 : Hid (∀ o, B0 ≤ (w5.alloc o).heap.size) := fun o => by have := HB5.out; simp; omega
            go_wp2_with (at_builtin; refine wpList_append_row _ rfl _ _ 64 rfl B0 4 i06 (.bool false) 1 1 Try.underlying64 ii6 iz06 iz16 iz26 rfl (by decide) (.slice KB K.length kk) K.length (K.flatMap bcell) rfl (HBK6.out _) (some ⟨w5.heap.size, 0, none⟩) 1 1 [.bool true] rfl rfl HN6.out (by simp [Value.oneCell']) HM6.out HY6.out (HBS6.out _) ?_)
            intro v6 w6 hown6 hgr6 hat6
            have hO6 : OwnC bcell 1 4 w6 B0 v6 (K ++ [true]) := by simpa [OwnC, bcell] using hown6
            have hC6 : Chg (fun k => some k = Value.ownBlock (.slice KB K.length kk)) w5 w6 := Chg.grown ((Chg.refl _ _).alloc _) hgr6 (fun k hk _ => hk.symm)
            clear hown6 hgr6 HBK6 HN6 HM6 HY6 HBS6 ii6 iz06 iz16 iz26
            obtain ⟨S6, s6, hv6⟩ := hO6.slice
            rw [List.length_append, List.length_singleton] at hv6
            subst hv6
            have HOS6 : Hid (OwnC stcell 7 59 w6 B0 (.slice S5 (L.length + 1) s5) (L ++ [⟨1, 0, 0, 0, 0, 0, ByteArray.empty⟩])) := HO5.out.keep hC6 (fun k hk e => own_apart HOK5.out HO5.out (by decide) e.symm hk)
            have HC6 : Hid (Chg (fun _ => False) W2 w6) := HC5.out.trans' hC6 (fun k hk e => by have := (own_lt HOK5.out e.symm).1; have := HBW.out; omega)
            have HO6 := Lib.hid hO6
            clear hO6 hC6 hat6 HO5 HOK5 HC5 HB5
            go_wp2_with fail
            go_roundw
            case rel => exact ⟨i + 1, _, _, _, _, _, by omega, by rw [List.length_append, List.length_singleton, HLIQ.out], by go_num, rfl, rfl, rfl, HOS6.out, HO6.out, HNX.out, HC6.out⟩
            case measure => simp [intOf]; omega
          · have f2 : (l - 1 == 0) = false := by simpa using l2
            rw [if_neg (fun h => l2 h.2), if_pos l1] at hn
            have HNX := Lib.hid hn
            clear hn l2
            obtain ⟨i05, ii5, iz05, iz15, iz25⟩ := info_parts Try.infoStep
            have HBK5 : Hid (∀ o, OwnC stcell 7 59 (wr.alloc o) B0 (.slice SB L.length sk) L) := fun o => HOS.out.keep ((Chg.refl (fun _ => False) _).alloc o) (fun _ _ => id)
            have HN5 := Lib.hid (rowc_blk (blk_new wr (.cells #[.int .i64 1, .int .i64 0, .int .i64 0, .int .i64 0, .int .i64 0, .int .i64 0, .string ByteArray.empty] 59)))
            have HM5 := Lib.hid (show L.length + 1 ≤ maxLen by have := HLL.out; unfold maxLen; omega)
            have HY5 := Lib.hid (show (L.length + 1) * 64 ≤ 140737488355328 by have := HLL.out; omega)
            have HBS5 : Hid (∀ o, B0 ≤ (wr.alloc o).heap.size) := fun o => by have := HB0.out; simp; omega
            go_wp2_with (at_builtin; refine wpList_append_row _ rfl _ _ 49 rfl B0 59 i05 (.agg #[.int .i64 0, .int .i64 0, .int .i64 0, .int .i64 0, .int .i64 0, .int .i64 0, .string ByteArray.empty]) 7 64 Try.underlying49 ii5 iz05 iz15 iz25 rfl (by decide) (.slice SB L.length sk) L.length (L.flatMap stcell) rfl (HBK5.out _) (some ⟨wr.heap.size, 0, none⟩) 1 1 [.int .i64 1, .int .i64 0, .int .i64 0, .int .i64 0, .int .i64 0, .int .i64 0, .string ByteArray.empty] rfl rfl HN5.out (by simp [Value.oneCell']) HM5.out HY5.out (HBS5.out _) ?_)
            intro v5 w5 hown5 hgr5 hat5
            have hO5 : OwnC stcell 7 59 w5 B0 v5 (L ++ [⟨1, 0, 0, 0, 0, 0, ByteArray.empty⟩]) := by simpa [OwnC, stcell] using hown5
            have hC5 : Chg (fun k => some k = Value.ownBlock (.slice SB L.length sk)) wr w5 := Chg.grown ((Chg.refl _ _).alloc _) hgr5 (fun k hk _ => hk.symm)
            clear hown5 hgr5 HBK5 HN5 HM5 HY5 HBS5 ii5 iz05 iz15 iz25
            obtain ⟨S5, s5, hv5⟩ := hO5.slice
            rw [List.length_append, List.length_singleton] at hv5
            subst hv5
            have HOK5 : Hid (OwnC bcell 1 4 w5 B0 (.slice KB K.length kk) K) := HOK.out.keep hC5 (fun k hk e => own_apart HOS.out HOK.out (by decide) e.symm hk)
            have HB5 : Hid (B0 ≤ w5.heap.size) := Nat.le_trans HB0.out hC5.size
            have HC5 : Hid (Chg (fun _ => False) W2 w5) := HC.out.trans' hC5 (fun k hk e => by have := (own_lt HOS.out e.symm).1; have := HBW.out; omega)
            have HO5 := Lib.hid hO5
            clear hO5 hC5 hat5 HOS HOK HC
            obtain ⟨i06, ii6, iz06, iz16, iz26⟩ := info_parts Try.info4
            have HBK6 : Hid (∀ o, OwnC bcell 1 4 (w5.alloc o) B0 (.slice KB K.length kk) K) := fun o => HOK5.out.keep ((Chg.refl (fun _ => False) _).alloc o) (fun _ _ => id)
            have HN6 := Lib.hid (rowc_blk (blk_new w5 (.cells #[.bool true] 4)))
            have HM6 := Lib.hid (show K.length + 1 ≤ maxLen by have := HLK.out; unfold maxLen; omega)
            have HY6 := Lib.hid (show (K.length + 1) * 1 ≤ 140737488355328 by have := HLK.out; omega)
            have HBS6 : Hid (∀ o, B0 ≤ (w5.alloc o).heap.size) := fun o => by have := HB5.out; simp; omega
            go_wp2_with (at_builtin; refine wpList_append_row _ rfl _ _ 64 rfl B0 4 i06 (.bool false) 1 1 Try.underlying64 ii6 iz06 iz16 iz26 rfl (by decide) (.slice KB K.length kk) K.length (K.flatMap bcell) rfl (HBK6.out _) (some ⟨w5.heap.size, 0, none⟩) 1 1 [.bool true] rfl rfl HN6.out (by simp [Value.oneCell']) HM6.out HY6.out (HBS6.out _) ?_)
            intro v6 w6 hown6 hgr6 hat6
            have hO6 : OwnC bcell 1 4 w6 B0 v6 (K ++ [true]) := by simpa [OwnC, bcell] using hown6
            have hC6 : Chg (fun k => some k = Value.ownBlock (.slice KB K.length kk)) w5 w6 := Chg.grown ((Chg.refl _ _).alloc _) hgr6 (fun k hk _ => hk.symm)
            clear hown6 hgr6 HBK6 HN6 HM6 HY6 HBS6 ii6 iz06 iz16 iz26
            obtain ⟨S6, s6, hv6⟩ := hO6.slice
            rw [List.length_append, List.length_singleton] at hv6
            subst hv6
            have HOS6 : Hid (OwnC stcell 7 59 w6 B0 (.slice S5 (L.length + 1) s5) (L ++ [⟨1, 0, 0, 0, 0, 0, ByteArray.empty⟩])) := HO5.out.keep hC6 (fun k hk e => own_apart HOK5.out HO5.out (by decide) e.symm hk)
            have HC6 : Hid (Chg (fun _ => False) W2 w6) := HC5.out.trans' hC6 (fun k hk e => by have := (own_lt HOK5.out e.symm).1; have := HBW.out; omega)
            have HO6 := Lib.hid hO6
            clear hO6 hC6 hat6 HO5 HOK5 HC5 HB5
            go_wp2_with fail
            go_roundw
            case rel => exact ⟨i + 1, _, _, _, _, _, by omega, by rw [List.length_append, List.length_singleton, HLIQ.out], by go_num, rfl, rfl, rfl, HOS6.out, HO6.out, HNX.out, HC6.out⟩
            case measure => simp [intOf]; omega
        · have f1 : decide (0 < l) = false := decide_eq_false l1
          rw [if_neg (fun h => l1 h.1), if_neg l1] at hn
          have HNX := Lib.hid hn
          clear hn l1
          obtain ⟨i05, ii5, iz05, iz15, iz25⟩ := info_parts Try.infoStep
          have HBK5 : Hid (∀ o, OwnC stcell 7 59 (wr.alloc o) B0 (.slice SB L.length sk) L) := fun o => HOS.out.keep ((Chg.refl (fun _ => False) _).alloc o) (fun _ _ => id)
          have HN5 := Lib.hid (rowc_blk (blk_new wr (.cells #[.int .i64 1, .int .i64 0, .int .i64 0, .int .i64 0, .int .i64 0, .int .i64 0, .string ByteArray.empty] 59)))
          have HM5 := Lib.hid (show L.length + 1 ≤ maxLen by have := HLL.out; unfold maxLen; omega)
          have HY5 := Lib.hid (show (L.length + 1) * 64 ≤ 140737488355328 by have := HLL.out; omega)
          have HBS5 : Hid (∀ o, B0 ≤ (wr.alloc o).heap.size) := fun o => by have := HB0.out; simp; omega
          go_wp2_with (at_builtin; refine wpList_append_row _ rfl _ _ 49 rfl B0 59 i05 (.agg #[.int .i64 0, .int .i64 0, .int .i64 0, .int .i64 0, .int .i64 0, .int .i64 0, .string ByteArray.empty]) 7 64 Try.underlying49 ii5 iz05 iz15 iz25 rfl (by decide) (.slice SB L.length sk) L.length (L.flatMap stcell) rfl (HBK5.out _) (some ⟨wr.heap.size, 0, none⟩) 1 1 [.int .i64 1, .int .i64 0, .int .i64 0, .int .i64 0, .int .i64 0, .int .i64 0, .string ByteArray.empty] rfl rfl HN5.out (by simp [Value.oneCell']) HM5.out HY5.out (HBS5.out _) ?_)
          intro v5 w5 hown5 hgr5 hat5
          have hO5 : OwnC stcell 7 59 w5 B0 v5 (L ++ [⟨1, 0, 0, 0, 0, 0, ByteArray.empty⟩]) := by simpa [OwnC, stcell] using hown5
          have hC5 : Chg (fun k => some k = Value.ownBlock (.slice SB L.length sk)) wr w5 := Chg.grown ((Chg.refl _ _).alloc _) hgr5 (fun k hk _ => hk.symm)
          clear hown5 hgr5 HBK5 HN5 HM5 HY5 HBS5 ii5 iz05 iz15 iz25
          obtain ⟨S5, s5, hv5⟩ := hO5.slice
          rw [List.length_append, List.length_singleton] at hv5
          subst hv5
          have HOK5 : Hid (OwnC bcell 1 4 w5 B0 (.slice KB K.length kk) K) := HOK.out.keep hC5 (fun k hk e => own_apart HOS.out HOK.out (by decide) e.symm hk)
          have HB5 : Hid (B0 ≤ w5.heap.size) := Nat.le_trans HB0.out hC5.size
          have HC5 : Hid (Chg (fun _ => False) W2 w5) := HC.out.trans' hC5 (fun k hk e => by have := (own_lt HOS.out e.symm).1; have := HBW.out; omega)
          have HO5 := Lib.hid hO5
          clear hO5 hC5 hat5 HOS HOK HC
          obtain ⟨i06, ii6, iz06, iz16, iz26⟩ := info_parts Try.info4
          have HBK6 : Hid (∀ o, OwnC bcell 1 4 (w5.alloc o) B0 (.slice KB K.length kk) K) := fun o => HOK5.out.keep ((Chg.refl (fun _ => False) _).alloc o) (fun _ _ => id)
          have HN6 := Lib.hid (rowc_blk (blk_new w5 (.cells #[.bool true] 4)))
          have HM6 := Lib.hid (show K.length + 1 ≤ maxLen by have := HLK.out; unfold maxLen; omega)
          have HY6 := Lib.hid (show (K.length + 1) * 1 ≤ 140737488355328 by have := HLK.out; omega)
          have HBS6 : Hid (∀ o, B0 ≤ (w5.alloc o).heap.size) := fun o => by have := HB5.out; simp; omega
          go_wp2_with (at_builtin; refine wpList_append_row _ rfl _ _ 64 rfl B0 4 i06 (.bool false) 1 1 Try.underlying64 ii6 iz06 iz16 iz26 rfl (by decide) (.slice KB K.length kk) K.length (K.flatMap bcell) rfl (HBK6.out _) (some ⟨w5.heap.size, 0, none⟩) 1 1 [.bool true] rfl rfl HN6.out (by simp [Value.oneCell']) HM6.out HY6.out (HBS6.out _) ?_)
          intro v6 w6 hown6 hgr6 hat6
          have hO6 : OwnC bcell 1 4 w6 B0 v6 (K ++ [true]) := by simpa [OwnC, bcell] using hown6
          have hC6 : Chg (fun k => some k = Value.ownBlock (.slice KB K.length kk)) w5 w6 := Chg.grown ((Chg.refl _ _).alloc _) hgr6 (fun k hk _ => hk.symm)
          clear hown6 hgr6 HBK6 HN6 HM6 HY6 HBS6 ii6 iz06 iz16 iz26
          obtain ⟨S6, s6, hv6⟩ := hO6.slice
          rw [List.length_append, List.length_singleton] at hv6
          subst hv6
          have HOS6 : Hid (OwnC stcell 7 59 w6 B0 (.slice S5 (L.length + 1) s5) (L ++ [⟨1, 0, 0, 0, 0, 0, ByteArray.empty⟩])) := HO5.out.keep hC6 (fun k hk e => own_apart HOK5.out HO5.out (by decide) e.symm hk)
          have HC6 : Hid (Chg (fun _ => False) W2 w6) := HC5.out.trans' hC6 (fun k hk e => by have := (own_lt HOK5.out e.symm).1; have := HBW.out; omega)
          have HO6 := Lib.hid hO6
          clear hO6 hC6 hat6 HO5 HOK5 HC5 HB5
          go_wp2_with fail
          go_roundw
          case rel => exact ⟨i + 1, _, _, _, _, _, by omega, by rw [List.length_append, List.length_singleton, HLIQ.out], by go_num, rfl, rfl, rfl, HOS6.out, HO6.out, HNX.out, HC6.out⟩
          case measure => simp [intOf]; omega
      · have e0 : (X % 4 == 0) = false := by simpa using m0
        by_cases m1 : X % 4 = 1
        · have e1 : (X % 4 == 1) = true := by simpa using m1
          have p0 : 0 ≤ X / 4 % 1024 % 3 := by omega
          have p1 : X / 4 % 1024 % 3 < 3 := by omega
          have p2 : 0 ≤ X / 4 % 1024 := by omega
          have p3 : X / 4 % 1024 ≤ 1023 := by omega
          clear m0 m1 hm4
          by_cases l1 : l = 0
          · subst l1
            have HNX := Lib.hid (HINV.out.mv0 HLi.out _ p0 p1)
            go_upto_region 22 with fail
            generalize X / 4 % 1024 % 3 = P at *
            obtain ⟨i05, ii5, iz05, iz15, iz25⟩ := info_parts Try.infoStep
            have HBK5 : Hid (∀ o, OwnC stcell 7 59 (wr.alloc o) B0 (.slice SB L.length sk) L) := fun o => HOS.out.keep ((Chg.refl (fun _ => False) _).alloc o) (fun _ _ => id)
            have HN5 := Lib.hid (rowc_blk (blk_new wr (.cells #[.int .i64 2, .int .i64 0, .int .i64 1, .int .i64 P, .int .i64 0, .int .i64 0, .string ByteArray.empty] 59)))
            have HM5 := Lib.hid (show L.length + 1 ≤ maxLen by have := HLL.out; unfold maxLen; omega)
            have HY5 := Lib.hid (show (L.length + 1) * 64 ≤ 140737488355328 by have := HLL.out; omega)
            have HBS5 : Hid (∀ o, B0 ≤ (wr.alloc o).heap.size) := fun o => by have := HB0.out; simp; omega
            go_wp2_with (at_builtin; refine wpList_append_row _ rfl _ _ 49 rfl B0 59 i05 (.agg #[.int .i64 0, .int .i64 0, .int .i64 0, .int .i64 0, .int .i64 0, .int .i64 0, .string ByteArray.empty]) 7 64 Try.underlying49 ii5 iz05 iz15 iz25 rfl (by decide) (.slice SB L.length sk) L.length (L.flatMap stcell) rfl (HBK5.out _) (some ⟨wr.heap.size, 0, none⟩) 1 1 [.int .i64 2, .int .i64 0, .int .i64 1, .int .i64 P, .int .i64 0, .int .i64 0, .string ByteArray.empty] rfl rfl HN5.out (by simp [Value.oneCell']) HM5.out HY5.out (HBS5.out _) ?_)
            intro v5 w5 hown5 hgr5 hat5
            have hO5 : OwnC stcell 7 59 w5 B0 v5 (L ++ [⟨2, 0, 1, P, 0, 0, ByteArray.empty⟩]) := by simpa [OwnC, stcell] using hown5
            have hC5 : Chg (fun k => some k = Value.ownBlock (.slice SB L.length sk)) wr w5 := Chg.grown ((Chg.refl _ _).alloc _) hgr5 (fun k hk _ => hk.symm)
            clear hown5 hgr5 HBK5 HN5 HM5 HY5 HBS5 ii5 iz05 iz15 iz25
            obtain ⟨S5, s5, hv5⟩ := hO5.slice
            rw [List.length_append, List.length_singleton] at hv5
            subst hv5
            have HOK5 : Hid (OwnC bcell 1 4 w5 B0 (.slice KB K.length kk) K) := HOK.out.keep hC5 (fun k hk e => own_apart HOS.out HOK.out (by decide) e.symm hk)
            have HB5 : Hid (B0 ≤ w5.heap.size) := Nat.le_trans HB0.out hC5.size
            have HC5 : Hid (Chg (fun _ => False) W2 w5) := HC.out.trans' hC5 (fun k hk e => by have := (own_lt HOS.out e.symm).1; have := HBW.out; omega)
            have HO5 := Lib.hid hO5
            clear hO5 hC5 hat5 HOS HOK HC
            obtain ⟨i06, ii6, iz06, iz16, iz26⟩ := info_parts Try.info4
            have HBK6 : Hid (∀ o, OwnC bcell 1 4 (w5.alloc o) B0 (.slice KB K.length kk) K) := fun o => HOK5.out.keep ((Chg.refl (fun _ => False) _).alloc o) (fun _ _ => id)
            have HN6 := Lib.hid (rowc_blk (blk_new w5 (.cells #[.bool true] 4)))
            have HM6 := Lib.hid (show K.length + 1 ≤ maxLen by have := HLK.out; unfold maxLen; omega)
            have HY6 := Lib.hid (show (K.length + 1) * 1 ≤ 140737488355328 by have := HLK.out; omega)
            have HBS6 : Hid (∀ o, B0 ≤ (w5.alloc o).heap.size) := fun o => by have := HB5.out; simp; omega
            go_wp2_with (at_builtin; refine wpList_append_row _ rfl _ _ 64 rfl B0 4 i06 (.bool false) 1 1 Try.underlying64 ii6 iz06 iz16 iz26 rfl (by decide) (.slice KB K.length kk) K.length (K.flatMap bcell) rfl (HBK6.out _) (some ⟨w5.heap.size, 0, none⟩) 1 1 [.bool true] rfl rfl HN6.out (by simp [Value.oneCell']) HM6.out HY6.out (HBS6.out _) ?_)
            intro v6 w6 hown6 hgr6 hat6
            have hO6 : OwnC bcell 1 4 w6 B0 v6 (K ++ [true]) := by simpa [OwnC, bcell] using hown6
            have hC6 : Chg (fun k => some k = Value.ownBlock (.slice KB K.length kk)) w5 w6 := Chg.grown ((Chg.refl _ _).alloc _) hgr6 (fun k hk _ => hk.symm)
            clear hown6 hgr6 HBK6 HN6 HM6 HY6 HBS6 ii6 iz06 iz16 iz26
            obtain ⟨S6, s6, hv6⟩ := hO6.slice
            rw [List.length_append, List.length_singleton] at hv6
            subst hv6
            have HOS6 : Hid (OwnC stcell 7 59 w6 B0 (.slice S5 (L.length + 1) s5) (L ++ [⟨2, 0, 1, P, 0, 0, ByteArray.empty⟩])) := HO5.out.keep hC6 (fun k hk e => own_apart HOK5.out HO5.out (by decide) e.symm hk)
            have HC6 : Hid (Chg (fun _ => False) W2 w6) := HC5.out.trans' hC6 (fun k hk e => by have := (own_lt HOK5.out e.symm).1; have := HBW.out; omega)
            have HO6 := Lib.hid hO6
            clear hO6 hC6 hat6 HO5 HOK5 HC5 HB5
            go_wp2_with fail
            go_roundw
            case rel => exact ⟨i + 1, _, _, _, _, _, by omega, by rw [List.length_append, List.length_singleton, HLIQ.out], by go_num, rfl, rfl, rfl, HOS6.out, HO6.out, HNX.out, HC6.out⟩
            case measure => simp [intOf]; omega
          · have f1 : (l == 0) = false := by simpa using l1
            have HNX := Lib.hid (HINV.out.mv1 HLi.out _ p0 p1 l1)
            go_upto_region 22 with fail
            generalize X / 4 % 1024 % 3 = P at *
            obtain ⟨i05, ii5, iz05, iz15, iz25⟩ := info_parts Try.infoStep
            have HBK5 : Hid (∀ o, OwnC stcell 7 59 (wr.alloc o) B0 (.slice SB L.length sk) L) := fun o => HOS.out.keep ((Chg.refl (fun _ => False) _).alloc o) (fun _ _ => id)
            have HN5 := Lib.hid (rowc_blk (blk_new wr (.cells #[.int .i64 2, .int .i64 0, .int .i64 1, .int .i64 P, .int .i64 0, .int .i64 0, .string ByteArray.empty] 59)))
            have HM5 := Lib.hid (show L.length + 1 ≤ maxLen by have := HLL.out; unfold maxLen; omega)
            have HY5 := Lib.hid (show (L.length + 1) * 64 ≤ 140737488355328 by have := HLL.out; omega)
            have HBS5 : Hid (∀ o, B0 ≤ (wr.alloc o).heap.size) := fun o => by have := HB0.out; simp; omega
            go_wp2_with (at_builtin; refine wpList_append_row _ rfl _ _ 49 rfl B0 59 i05 (.agg #[.int .i64 0, .int .i64 0, .int .i64 0, .int .i64 0, .int .i64 0, .int .i64 0, .string ByteArray.empty]) 7 64 Try.underlying49 ii5 iz05 iz15 iz25 rfl (by decide) (.slice SB L.length sk) L.length (L.flatMap stcell) rfl (HBK5.out _) (some ⟨wr.heap.size, 0, none⟩) 1 1 [.int .i64 2, .int .i64 0, .int .i64 1, .int .i64 P, .int .i64 0, .int .i64 0, .string ByteArray.empty] rfl rfl HN5.out (by simp [Value.oneCell']) HM5.out HY5.out (HBS5.out _) ?_)
            intro v5 w5 hown5 hgr5 hat5
            have hO5 : OwnC stcell 7 59 w5 B0 v5 (L ++ [⟨2, 0, 1, P, 0, 0, ByteArray.empty⟩]) := by simpa [OwnC, stcell] using hown5
            have hC5 : Chg (fun k => some k = Value.ownBlock (.slice SB L.length sk)) wr w5 := Chg.grown ((Chg.refl _ _).alloc _) hgr5 (fun k hk _ => hk.symm)
            clear hown5 hgr5 HBK5 HN5 HM5 HY5 HBS5 ii5 iz05 iz15 iz25
            obtain ⟨S5, s5, hv5⟩ := hO5.slice
            rw [List.length_append, List.length_singleton] at hv5
            subst hv5
            have HOK5 : Hid (OwnC bcell 1 4 w5 B0 (.slice KB K.length kk) K) := HOK.out.keep hC5 (fun k hk e => own_apart HOS.out HOK.out (by decide) e.symm hk)
            have HB5 : Hid (B0 ≤ w5.heap.size) := Nat.le_trans HB0.out hC5.size
            have HC5 : Hid (Chg (fun _ => False) W2 w5) := HC.out.trans' hC5 (fun k hk e => by have := (own_lt HOS.out e.symm).1; have := HBW.out; omega)
            have HO5 := Lib.hid hO5
            clear hO5 hC5 hat5 HOS HOK HC
            obtain ⟨i06, ii6, iz06, iz16, iz26⟩ := info_parts Try.info4
            have HBK6 : Hid (∀ o, OwnC bcell 1 4 (w5.alloc o) B0 (.slice KB K.length kk) K) := fun o => HOK5.out.keep ((Chg.refl (fun _ => False) _).alloc o) (fun _ _ => id)
            have HN6 := Lib.hid (rowc_blk (blk_new w5 (.cells #[.bool true] 4)))
            have HM6 := Lib.hid (show K.length + 1 ≤ maxLen by have := HLK.out; unfold maxLen; omega)
            have HY6 := Lib.hid (show (K.length + 1) * 1 ≤ 140737488355328 by have := HLK.out; omega)
            have HBS6 : Hid (∀ o, B0 ≤ (w5.alloc o).heap.size) := fun o => by have := HB5.out; simp; omega
            go_wp2_with (at_builtin; refine wpList_append_row _ rfl _ _ 64 rfl B0 4 i06 (.bool false) 1 1 Try.underlying64 ii6 iz06 iz16 iz26 rfl (by decide) (.slice KB K.length kk) K.length (K.flatMap bcell) rfl (HBK6.out _) (some ⟨w5.heap.size, 0, none⟩) 1 1 [.bool true] rfl rfl HN6.out (by simp [Value.oneCell']) HM6.out HY6.out (HBS6.out _) ?_)
            intro v6 w6 hown6 hgr6 hat6
            have hO6 : OwnC bcell 1 4 w6 B0 v6 (K ++ [true]) := by simpa [OwnC, bcell] using hown6
            have hC6 : Chg (fun k => some k = Value.ownBlock (.slice KB K.length kk)) w5 w6 := Chg.grown ((Chg.refl _ _).alloc _) hgr6 (fun k hk _ => hk.symm)
            clear hown6 hgr6 HBK6 HN6 HM6 HY6 HBS6 ii6 iz06 iz16 iz26
            obtain ⟨S6, s6, hv6⟩ := hO6.slice
            rw [List.length_append, List.length_singleton] at hv6
            subst hv6
            have HOS6 : Hid (OwnC stcell 7 59 w6 B0 (.slice S5 (L.length + 1) s5) (L ++ [⟨2, 0, 1, P, 0, 0, ByteArray.empty⟩])) := HO5.out.keep hC6 (fun k hk e => own_apart HOK5.out HO5.out (by decide) e.symm hk)
            have HC6 : Hid (Chg (fun _ => False) W2 w6) := HC5.out.trans' hC6 (fun k hk e => by have := (own_lt HOK5.out e.symm).1; have := HBW.out; omega)
            have HO6 := Lib.hid hO6
            clear hO6 hC6 hat6 HO5 HOK5 HC5 HB5
            go_wp2_with fail
            go_roundw
            case rel => exact ⟨i + 1, _, _, _, _, _, by omega, by rw [List.length_append, List.length_singleton, HLIQ.out], by go_num, rfl, rfl, rfl, HOS6.out, HO6.out, HNX.out, HC6.out⟩
            case measure => simp [intOf]; omega
        · have e1 : (X % 4 == 1) = false := by simpa using m1
          have p0 : 0 ≤ X / 4 % 2 := by omega
          have p1 : X / 4 % 2 ≤ 1 := by omega
          have HNX := Lib.hid (HINV.out.req HLi.out (3 + X / 4 % 2) (by omega))
          clear m0 m1 hm4
          by_cases o2 : o = 2
          · have f1 : (o == 2) = true := by simpa using o2
            have ek : ownerOk o = true := by unfold ownerOk; simp [o2]
            rw [ek] at HNX
            clear o2 ek
            obtain ⟨i05, ii5, iz05, iz15, iz25⟩ := info_parts Try.infoStep
            have HBK5 : Hid (∀ o, OwnC stcell 7 59 (wr.alloc o) B0 (.slice SB L.length sk) L) := fun o => HOS.out.keep ((Chg.refl (fun _ => False) _).alloc o) (fun _ _ => id)
            have HN5 := Lib.hid (rowc_blk (blk_new wr (.cells #[.int .i64 (3 + X / 4 % 2), .int .i64 0, .int .i64 1, .int .i64 5, .int .i64 0, .int .i64 0, .string ByteArray.empty] 59)))
            have HM5 := Lib.hid (show L.length + 1 ≤ maxLen by have := HLL.out; unfold maxLen; omega)
            have HY5 := Lib.hid (show (L.length + 1) * 64 ≤ 140737488355328 by have := HLL.out; omega)
            have HBS5 : Hid (∀ o, B0 ≤ (wr.alloc o).heap.size) := fun o => by have := HB0.out; simp; omega
            go_wp2_with (at_builtin; refine wpList_append_row _ rfl _ _ 49 rfl B0 59 i05 (.agg #[.int .i64 0, .int .i64 0, .int .i64 0, .int .i64 0, .int .i64 0, .int .i64 0, .string ByteArray.empty]) 7 64 Try.underlying49 ii5 iz05 iz15 iz25 rfl (by decide) (.slice SB L.length sk) L.length (L.flatMap stcell) rfl (HBK5.out _) (some ⟨wr.heap.size, 0, none⟩) 1 1 [.int .i64 (3 + X / 4 % 2), .int .i64 0, .int .i64 1, .int .i64 5, .int .i64 0, .int .i64 0, .string ByteArray.empty] rfl rfl HN5.out (by simp [Value.oneCell']) HM5.out HY5.out (HBS5.out _) ?_)
            intro v5 w5 hown5 hgr5 hat5
            have hO5 : OwnC stcell 7 59 w5 B0 v5 (L ++ [⟨3 + X / 4 % 2, 0, 1, 5, 0, 0, ByteArray.empty⟩]) := by simpa [OwnC, stcell] using hown5
            have hC5 : Chg (fun k => some k = Value.ownBlock (.slice SB L.length sk)) wr w5 := Chg.grown ((Chg.refl _ _).alloc _) hgr5 (fun k hk _ => hk.symm)
            clear hown5 hgr5 HBK5 HN5 HM5 HY5 HBS5 ii5 iz05 iz15 iz25
            obtain ⟨S5, s5, hv5⟩ := hO5.slice
            rw [List.length_append, List.length_singleton] at hv5
            subst hv5
            have HOK5 : Hid (OwnC bcell 1 4 w5 B0 (.slice KB K.length kk) K) := HOK.out.keep hC5 (fun k hk e => own_apart HOS.out HOK.out (by decide) e.symm hk)
            have HB5 : Hid (B0 ≤ w5.heap.size) := Nat.le_trans HB0.out hC5.size
            have HC5 : Hid (Chg (fun _ => False) W2 w5) := HC.out.trans' hC5 (fun k hk e => by have := (own_lt HOS.out e.symm).1; have := HBW.out; omega)
            have HO5 := Lib.hid hO5
            clear hO5 hC5 hat5 HOS HOK HC
            obtain ⟨i06, ii6, iz06, iz16, iz26⟩ := info_parts Try.info4
            have HBK6 : Hid (∀ o, OwnC bcell 1 4 (w5.alloc o) B0 (.slice KB K.length kk) K) := fun o => HOK5.out.keep ((Chg.refl (fun _ => False) _).alloc o) (fun _ _ => id)
            have HN6 := Lib.hid (rowc_blk (blk_new w5 (.cells #[.bool true] 4)))
            have HM6 := Lib.hid (show K.length + 1 ≤ maxLen by have := HLK.out; unfold maxLen; omega)
            have HY6 := Lib.hid (show (K.length + 1) * 1 ≤ 140737488355328 by have := HLK.out; omega)
            have HBS6 : Hid (∀ o, B0 ≤ (w5.alloc o).heap.size) := fun o => by have := HB5.out; simp; omega
            go_wp2_with (at_builtin; refine wpList_append_row _ rfl _ _ 64 rfl B0 4 i06 (.bool false) 1 1 Try.underlying64 ii6 iz06 iz16 iz26 rfl (by decide) (.slice KB K.length kk) K.length (K.flatMap bcell) rfl (HBK6.out _) (some ⟨w5.heap.size, 0, none⟩) 1 1 [.bool true] rfl rfl HN6.out (by simp [Value.oneCell']) HM6.out HY6.out (HBS6.out _) ?_)
            intro v6 w6 hown6 hgr6 hat6
            have hO6 : OwnC bcell 1 4 w6 B0 v6 (K ++ [true]) := by simpa [OwnC, bcell] using hown6
            have hC6 : Chg (fun k => some k = Value.ownBlock (.slice KB K.length kk)) w5 w6 := Chg.grown ((Chg.refl _ _).alloc _) hgr6 (fun k hk _ => hk.symm)
            clear hown6 hgr6 HBK6 HN6 HM6 HY6 HBS6 ii6 iz06 iz16 iz26
            obtain ⟨S6, s6, hv6⟩ := hO6.slice
            rw [List.length_append, List.length_singleton] at hv6
            subst hv6
            have HOS6 : Hid (OwnC stcell 7 59 w6 B0 (.slice S5 (L.length + 1) s5) (L ++ [⟨3 + X / 4 % 2, 0, 1, 5, 0, 0, ByteArray.empty⟩])) := HO5.out.keep hC6 (fun k hk e => own_apart HOK5.out HO5.out (by decide) e.symm hk)
            have HC6 : Hid (Chg (fun _ => False) W2 w6) := HC5.out.trans' hC6 (fun k hk e => by have := (own_lt HOK5.out e.symm).1; have := HBW.out; omega)
            have HO6 := Lib.hid hO6
            clear hO6 hC6 hat6 HO5 HOK5 HC5 HB5
            go_wp2_with fail
            go_roundw
            case rel => exact ⟨i + 1, _, _, _, _, _, by omega, by rw [List.length_append, List.length_singleton, HLIQ.out], by go_num, rfl, rfl, rfl, HOS6.out, HO6.out, HNX.out, HC6.out⟩
            case measure => simp [intOf]; omega
          · have f1 : (o == 2) = false := by simpa using o2
            by_cases o3 : o = 0
            · have f2 : (o == 0) = true := by simpa using o3
              have ek : ownerOk o = true := by unfold ownerOk; simp [o3]
              rw [ek] at HNX
              clear o2 o3 ek
              obtain ⟨i05, ii5, iz05, iz15, iz25⟩ := info_parts Try.infoStep
              have HBK5 : Hid (∀ o, OwnC stcell 7 59 (wr.alloc o) B0 (.slice SB L.length sk) L) := fun o => HOS.out.keep ((Chg.refl (fun _ => False) _).alloc o) (fun _ _ => id)
              have HN5 := Lib.hid (rowc_blk (blk_new wr (.cells #[.int .i64 (3 + X / 4 % 2), .int .i64 0, .int .i64 1, .int .i64 5, .int .i64 0, .int .i64 0, .string ByteArray.empty] 59)))
              have HM5 := Lib.hid (show L.length + 1 ≤ maxLen by have := HLL.out; unfold maxLen; omega)
              have HY5 := Lib.hid (show (L.length + 1) * 64 ≤ 140737488355328 by have := HLL.out; omega)
              have HBS5 : Hid (∀ o, B0 ≤ (wr.alloc o).heap.size) := fun o => by have := HB0.out; simp; omega
              go_wp2_with (at_builtin; refine wpList_append_row _ rfl _ _ 49 rfl B0 59 i05 (.agg #[.int .i64 0, .int .i64 0, .int .i64 0, .int .i64 0, .int .i64 0, .int .i64 0, .string ByteArray.empty]) 7 64 Try.underlying49 ii5 iz05 iz15 iz25 rfl (by decide) (.slice SB L.length sk) L.length (L.flatMap stcell) rfl (HBK5.out _) (some ⟨wr.heap.size, 0, none⟩) 1 1 [.int .i64 (3 + X / 4 % 2), .int .i64 0, .int .i64 1, .int .i64 5, .int .i64 0, .int .i64 0, .string ByteArray.empty] rfl rfl HN5.out (by simp [Value.oneCell']) HM5.out HY5.out (HBS5.out _) ?_)
              intro v5 w5 hown5 hgr5 hat5
              have hO5 : OwnC stcell 7 59 w5 B0 v5 (L ++ [⟨3 + X / 4 % 2, 0, 1, 5, 0, 0, ByteArray.empty⟩]) := by simpa [OwnC, stcell] using hown5
              have hC5 : Chg (fun k => some k = Value.ownBlock (.slice SB L.length sk)) wr w5 := Chg.grown ((Chg.refl _ _).alloc _) hgr5 (fun k hk _ => hk.symm)
              clear hown5 hgr5 HBK5 HN5 HM5 HY5 HBS5 ii5 iz05 iz15 iz25
              obtain ⟨S5, s5, hv5⟩ := hO5.slice
              rw [List.length_append, List.length_singleton] at hv5
              subst hv5
              have HOK5 : Hid (OwnC bcell 1 4 w5 B0 (.slice KB K.length kk) K) := HOK.out.keep hC5 (fun k hk e => own_apart HOS.out HOK.out (by decide) e.symm hk)
              have HB5 : Hid (B0 ≤ w5.heap.size) := Nat.le_trans HB0.out hC5.size
              have HC5 : Hid (Chg (fun _ => False) W2 w5) := HC.out.trans' hC5 (fun k hk e => by have := (own_lt HOS.out e.symm).1; have := HBW.out; omega)
              have HO5 := Lib.hid hO5
              clear hO5 hC5 hat5 HOS HOK HC
              obtain ⟨i06, ii6, iz06, iz16, iz26⟩ := info_parts Try.info4
              have HBK6 : Hid (∀ o, OwnC bcell 1 4 (w5.alloc o) B0 (.slice KB K.length kk) K) := fun o => HOK5.out.keep ((Chg.refl (fun _ => False) _).alloc o) (fun _ _ => id)
              have HN6 := Lib.hid (rowc_blk (blk_new w5 (.cells #[.bool true] 4)))
              have HM6 := Lib.hid (show K.length + 1 ≤ maxLen by have := HLK.out; unfold maxLen; omega)
              have HY6 := Lib.hid (show (K.length + 1) * 1 ≤ 140737488355328 by have := HLK.out; omega)
              have HBS6 : Hid (∀ o, B0 ≤ (w5.alloc o).heap.size) := fun o => by have := HB5.out; simp; omega
              go_wp2_with (at_builtin; refine wpList_append_row _ rfl _ _ 64 rfl B0 4 i06 (.bool false) 1 1 Try.underlying64 ii6 iz06 iz16 iz26 rfl (by decide) (.slice KB K.length kk) K.length (K.flatMap bcell) rfl (HBK6.out _) (some ⟨w5.heap.size, 0, none⟩) 1 1 [.bool true] rfl rfl HN6.out (by simp [Value.oneCell']) HM6.out HY6.out (HBS6.out _) ?_)
              intro v6 w6 hown6 hgr6 hat6
              have hO6 : OwnC bcell 1 4 w6 B0 v6 (K ++ [true]) := by simpa [OwnC, bcell] using hown6
              have hC6 : Chg (fun k => some k = Value.ownBlock (.slice KB K.length kk)) w5 w6 := Chg.grown ((Chg.refl _ _).alloc _) hgr6 (fun k hk _ => hk.symm)
              clear hown6 hgr6 HBK6 HN6 HM6 HY6 HBS6 ii6 iz06 iz16 iz26
              obtain ⟨S6, s6, hv6⟩ := hO6.slice
              rw [List.length_append, List.length_singleton] at hv6
              subst hv6
              have HOS6 : Hid (OwnC stcell 7 59 w6 B0 (.slice S5 (L.length + 1) s5) (L ++ [⟨3 + X / 4 % 2, 0, 1, 5, 0, 0, ByteArray.empty⟩])) := HO5.out.keep hC6 (fun k hk e => own_apart HOK5.out HO5.out (by decide) e.symm hk)
              have HC6 : Hid (Chg (fun _ => False) W2 w6) := HC5.out.trans' hC6 (fun k hk e => by have := (own_lt HOK5.out e.symm).1; have := HBW.out; omega)
              have HO6 := Lib.hid hO6
              clear hO6 hC6 hat6 HO5 HOK5 HC5 HB5
              go_wp2_with fail
              go_roundw
              case rel => exact ⟨i + 1, _, _, _, _, _, by omega, by rw [List.length_append, List.length_singleton, HLIQ.out], by go_num, rfl, rfl, rfl, HOS6.out, HO6.out, HNX.out, HC6.out⟩
              case measure => simp [intOf]; omega
            · have f2 : (o == 0) = false := by simpa using o3
              have ek : ownerOk o = false := by unfold ownerOk; simp [o2, o3]
              rw [ek] at HNX
              clear o2 o3 ek
              obtain ⟨i05, ii5, iz05, iz15, iz25⟩ := info_parts Try.infoStep
              have HBK5 : Hid (∀ o, OwnC stcell 7 59 (wr.alloc o) B0 (.slice SB L.length sk) L) := fun o => HOS.out.keep ((Chg.refl (fun _ => False) _).alloc o) (fun _ _ => id)
              have HN5 := Lib.hid (rowc_blk (blk_new wr (.cells #[.int .i64 (3 + X / 4 % 2), .int .i64 0, .int .i64 1, .int .i64 5, .int .i64 0, .int .i64 0, .string ByteArray.empty] 59)))
              have HM5 := Lib.hid (show L.length + 1 ≤ maxLen by have := HLL.out; unfold maxLen; omega)
              have HY5 := Lib.hid (show (L.length + 1) * 64 ≤ 140737488355328 by have := HLL.out; omega)
              have HBS5 : Hid (∀ o, B0 ≤ (wr.alloc o).heap.size) := fun o => by have := HB0.out; simp; omega
              go_wp2_with (at_builtin; refine wpList_append_row _ rfl _ _ 49 rfl B0 59 i05 (.agg #[.int .i64 0, .int .i64 0, .int .i64 0, .int .i64 0, .int .i64 0, .int .i64 0, .string ByteArray.empty]) 7 64 Try.underlying49 ii5 iz05 iz15 iz25 rfl (by decide) (.slice SB L.length sk) L.length (L.flatMap stcell) rfl (HBK5.out _) (some ⟨wr.heap.size, 0, none⟩) 1 1 [.int .i64 (3 + X / 4 % 2), .int .i64 0, .int .i64 1, .int .i64 5, .int .i64 0, .int .i64 0, .string ByteArray.empty] rfl rfl HN5.out (by simp [Value.oneCell']) HM5.out HY5.out (HBS5.out _) ?_)
              intro v5 w5 hown5 hgr5 hat5
              have hO5 : OwnC stcell 7 59 w5 B0 v5 (L ++ [⟨3 + X / 4 % 2, 0, 1, 5, 0, 0, ByteArray.empty⟩]) := by simpa [OwnC, stcell] using hown5
              have hC5 : Chg (fun k => some k = Value.ownBlock (.slice SB L.length sk)) wr w5 := Chg.grown ((Chg.refl _ _).alloc _) hgr5 (fun k hk _ => hk.symm)
              clear hown5 hgr5 HBK5 HN5 HM5 HY5 HBS5 ii5 iz05 iz15 iz25
              obtain ⟨S5, s5, hv5⟩ := hO5.slice
              rw [List.length_append, List.length_singleton] at hv5
              subst hv5
              have HOK5 : Hid (OwnC bcell 1 4 w5 B0 (.slice KB K.length kk) K) := HOK.out.keep hC5 (fun k hk e => own_apart HOS.out HOK.out (by decide) e.symm hk)
              have HB5 : Hid (B0 ≤ w5.heap.size) := Nat.le_trans HB0.out hC5.size
              have HC5 : Hid (Chg (fun _ => False) W2 w5) := HC.out.trans' hC5 (fun k hk e => by have := (own_lt HOS.out e.symm).1; have := HBW.out; omega)
              have HO5 := Lib.hid hO5
              clear hO5 hC5 hat5 HOS HOK HC
              obtain ⟨i06, ii6, iz06, iz16, iz26⟩ := info_parts Try.info4
              have HBK6 : Hid (∀ o, OwnC bcell 1 4 (w5.alloc o) B0 (.slice KB K.length kk) K) := fun o => HOK5.out.keep ((Chg.refl (fun _ => False) _).alloc o) (fun _ _ => id)
              have HN6 := Lib.hid (rowc_blk (blk_new w5 (.cells #[.bool false] 4)))
              have HM6 := Lib.hid (show K.length + 1 ≤ maxLen by have := HLK.out; unfold maxLen; omega)
              have HY6 := Lib.hid (show (K.length + 1) * 1 ≤ 140737488355328 by have := HLK.out; omega)
              have HBS6 : Hid (∀ o, B0 ≤ (w5.alloc o).heap.size) := fun o => by have := HB5.out; simp; omega
              go_wp2_with (at_builtin; refine wpList_append_row _ rfl _ _ 64 rfl B0 4 i06 (.bool false) 1 1 Try.underlying64 ii6 iz06 iz16 iz26 rfl (by decide) (.slice KB K.length kk) K.length (K.flatMap bcell) rfl (HBK6.out _) (some ⟨w5.heap.size, 0, none⟩) 1 1 [.bool false] rfl rfl HN6.out (by simp [Value.oneCell']) HM6.out HY6.out (HBS6.out _) ?_)
              intro v6 w6 hown6 hgr6 hat6
              have hO6 : OwnC bcell 1 4 w6 B0 v6 (K ++ [false]) := by simpa [OwnC, bcell] using hown6
              have hC6 : Chg (fun k => some k = Value.ownBlock (.slice KB K.length kk)) w5 w6 := Chg.grown ((Chg.refl _ _).alloc _) hgr6 (fun k hk _ => hk.symm)
              clear hown6 hgr6 HBK6 HN6 HM6 HY6 HBS6 ii6 iz06 iz16 iz26
              obtain ⟨S6, s6, hv6⟩ := hO6.slice
              rw [List.length_append, List.length_singleton] at hv6
              subst hv6
              have HOS6 : Hid (OwnC stcell 7 59 w6 B0 (.slice S5 (L.length + 1) s5) (L ++ [⟨3 + X / 4 % 2, 0, 1, 5, 0, 0, ByteArray.empty⟩])) := HO5.out.keep hC6 (fun k hk e => own_apart HOK5.out HO5.out (by decide) e.symm hk)
              have HC6 : Hid (Chg (fun _ => False) W2 w6) := HC5.out.trans' hC6 (fun k hk e => by have := (own_lt HOK5.out e.symm).1; have := HBW.out; omega)
              have HO6 := Lib.hid hO6
              clear hO6 hC6 hat6 HO5 HOK5 HC5 HB5
              go_wp2_with fail
              go_roundw
              case rel => exact ⟨i + 1, _, _, _, _, _, by omega, by rw [List.length_append, List.length_singleton, HLIQ.out], by go_num, rfl, rfl, rfl, HOS6.out, HO6.out, HNX.out, HC6.out⟩
              case measure => simp [intOf]; omega
    · have HLM : Hid (L.length ≤ 40) := hinv.few
      have hdone : Hid (purgeC cPlain 2 L = (L.zip K).map (fun p => if p.2 then p.1 else St.zero)) := hinv.keep
      have HKL : Hid (K.length = L.length) := hinv.len
      have hte : (decide ((i : Int) < xs.length) && decide ((i : Int) < 40)) = false := by simp; omega
      have l40 : (L.length : Int) ≤ 40 := by have := HLM.out; omega
      clear hLi
      have HX1 : Hid (∀ W, Chg (fun _ => False) wr W → RdS W (.slice SB L.length sk) L) := fun W hW => (rdStepsOf hos (by have := HLM.out; unfold maxLen; omega)).keepN hW
      have HX2 : Hid (∀ W, Chg (fun _ => False) wr W → OwnC bcell 1 4 W B0 (.slice KB K.length kk) K) := fun W hW => hok.keep hW (fun _ _ => id)
      have q0 := hC.at HQ0.out id
      have HC := Lib.hid hC
      clear hos hok hC hinv
      have y0 : wr.cell? ⟨cb, 0, none⟩ = some (.int .i64 16) := blk_cell q0 0
      have y1 : wr.cell? ⟨cb, 1, none⟩ = some (.slice (some ⟨B + 4, 0, none⟩) 3 3) := blk_cell q0 1
      have y2 : wr.cell? ⟨cb, 2, none⟩ = some (.slice (some ⟨B + 7, 0, none⟩) 2 2) := blk_cell q0 2
      have y3 : wr.cell? ⟨cb, 3, none⟩ = some (.int .i64 6) := blk_cell q0 3
      have y4 : wr.cell? ⟨cb, 4, none⟩ = some (.slice (some ⟨B + 8, 0, none⟩) 3 3) := blk_cell q0 4
      have y5 : wr.cell? ⟨cb, 5, none⟩ = some (.slice (some ⟨B + 9, 0, none⟩) 1 1) := blk_cell q0 5
      have y6 : wr.cell? ⟨cb, 6, none⟩ = some (.int .i64 10) := blk_cell q0 6
      have y7 : wr.cell? ⟨cb, 7, none⟩ = some (.int .i64 6) := blk_cell q0 7
      have y8 : wr.cell? ⟨cb, 8, none⟩ = some (.int .i64 2) := blk_cell q0 8
      clear q0
      have HTAIL : Hid True := trivial
      by_cases hA : (i : Int) < xs.length
      · have dA : decide ((i : Int) < xs.length) = true := decide_eq_true hA
        have dB : decide ((i : Int) < 40) = false := decide_eq_false (fun h => by simp at hte; omega)
        have dBn : decide (i < 40) = false := decide_eq_false (fun h => by simp at hte; omega)
        clear hte hlt
        go_wp2_with fail
        refine (vPurge 2 cPlain (sPlain B) _ L _ (R1.out _ HC.out) (HX1.out _ (Chg.refl _ _)) (by have := HLM.out; omega)).mono ?_
        rintro e w2 hpost
        clear y0 y1 y2 y3 y4 y5 y6 y7 y8
        obtain ⟨v, rfl, ho, k2⟩ := hpost.yes may_plainP (by decide)
        rw [show (2 : Int).toNat = 2 from rfl] at ho
        have hpl := purgeC_len cPlain 2 L
        have hra := rdStepsOf ho (by rw [hpl]; have := HLM.out; unfold maxLen; omega)
        obtain ⟨_, AA, ac, rfl⟩ := hra.len
        rw [hpl] at hra
        rw [hpl]
        have HRA : Hid (∀ W, Chg (fun _ => False) w2 W → RdS W (.slice AA L.length ac) (purgeC cPlain 2 L)) := fun W hW => hra.keepN hW
        have HK2 := Lib.hid k2
        clear hra ho hpl k2 hpost
        go_wp2_with fail
        refine (num16 _ _).mono ?_
        rintro e x9 ⟨rfl, rfl⟩
        go_wp2_with fail
        go_loopw [13] (fun s13 wr2 => ∃ j : Nat, j ≤ L.length ∧ s13 = .int .i64 j ∧ Chg (fun _ => False) w2 wr2) (fun s13 _ => L.length - (intOf s13).toNat)
        case atStart => exact ⟨0, by omega, rfl, Chg.refl _ _⟩
        case round =>
          obtain ⟨j, hj, rfl, hC⟩ := hrel
          have j0 : (0 : Int) ≤ j := by omega
          by_cases hlt : j < L.length
          · have j1 : (j : Int) < L.length := by omega
            obtain ⟨hpj, hat⟩ := zipmap_at HKL.out hlt _ hdone.out
            have jk : (j : Int) < K.length := by rw [HKL.out]; exact j1
            obtain ⟨g1, o1, rfl, b0, b1, b2, b3, b4, b5, b6⟩ := (HX1.out _ (HK2.out.trans hC)).at7 hlt
            obtain ⟨g2, o2, rfl, a0, a1, a2, a3, a4, a5, a6⟩ := (HRA.out _ hC).at7 hpj
            have hkc := HX2.out _ (HK2.out.trans hC)
            obtain ⟨g3, cap3, hv3, _⟩ := hkc.form (by rw [HKL.out]; omega)
            injection hv3 with e1 e2 e3
            subst e1 e3
            have c0 := hkc.cell (fun _ => rfl) (i := j) (by rw [HKL.out]; omega) (j := 0) (by omega)
            simp only [Nat.mul_one, Nat.add_zero, bcell, List.getElem?_cons_zero] at c0
            have HCC := Lib.hid hC; clear hC hkc e2
            rw [HKL.out] at jk ⊢
            generalize (purgeC cPlain 2 L)[j] = Y at *
            generalize L[j] = X at *
            generalize K[j]'(by rw [HKL.out]; omega) = kb at *
            obtain ⟨x0, x1, x2, x3, x4, x5, x6⟩ := X
            dsimp only at *
            cases kb
            · rw [if_neg (by decide)] at hat
              subst hat
              simp only [St.zero] at a0 a1 a2 a3 a4 a5 a6
              go_wp2_with fail
              go_quiet (fail)
              rename_i nq
              go_wp2_with fail
              go_roundw
              case rel => exact ⟨j + 1, by omega, by go_num, HCC.out.drewN nq⟩
              case measure => simp [intOf]; omega
            · rw [if_pos rfl] at hat
              subst hat
              dsimp only at a0 a1 a2 a3 a4 a5 a6
              go_wp2_with fail
              go_quiet (fail)
              rename_i nq
              go_wp2_with fail
              go_roundw
              case rel => exact ⟨j + 1, by omega, by go_num, HCC.out.drewN nq⟩
              case measure => simp [intOf]; omega
          · obtain rfl : j = L.length := by omega
            have HCC := Lib.hid hC; clear hC
            go_wp2_with fail
            go_ret
            exact ⟨rfl, HR.out.trans (HC.out.trans (HK2.out.trans HCC.out))⟩
      · have dA : decide ((i : Int) < xs.length) = false := decide_eq_false hA
        have dAn : decide (i < xs.length) = false := decide_eq_false (fun h => hA (by omega))
        clear hte hlt
        go_wp2_with fail
        refine (vPurge 2 cPlain (sPlain B) _ L _ (R1.out _ HC.out) (HX1.out _ (Chg.refl _ _)) (by have := HLM.out; omega)).mono ?_
        rintro e w2 hpost
        clear y0 y1 y2 y3 y4 y5 y6 y7 y8
        obtain ⟨v, rfl, ho, k2⟩ := hpost.yes may_plainP (by decide)
        rw [show (2 : Int).toNat = 2 from rfl] at ho
        have hpl := purgeC_len cPlain 2 L
        have hra := rdStepsOf ho (by rw [hpl]; have := HLM.out; unfold maxLen; omega)
        obtain ⟨_, AA, ac, rfl⟩ := hra.len
        rw [hpl] at hra
        rw [hpl]
        have HRA : Hid (∀ W, Chg (fun _ => False) w2 W → RdS W (.slice AA L.length ac) (purgeC cPlain 2 L)) := fun W hW => hra.keepN hW
        have HK2 := Lib.hid k2
        clear hra ho hpl k2 hpost
        go_wp2_with fail
        refine (num16 _ _).mono ?_
        rintro e x9 ⟨rfl, rfl⟩
        go_wp2_with fail
        go_loopw [13] (fun s13 wr2 => ∃ j : Nat, j ≤ L.length ∧ s13 = .int .i64 j ∧ Chg (fun _ => False) w2 wr2) (fun s13 _ => L.length - (intOf s13).toNat)
        case atStart => exact ⟨0, by omega, rfl, Chg.refl _ _⟩
        case round =>
          obtain ⟨j, hj, rfl, hC⟩ := hrel
          have j0 : (0 : Int) ≤ j := by omega
          by_cases hlt : j < L.length
          · have j1 : (j : Int) < L.length := by omega
            obtain ⟨hpj, hat⟩ := zipmap_at HKL.out hlt _ hdone.out
            have jk : (j : Int) < K.length := by rw [HKL.out]; exact j1
            obtain ⟨g1, o1, rfl, b0, b1, b2, b3, b4, b5, b6⟩ := (HX1.out _ (HK2.out.trans hC)).at7 hlt
            obtain ⟨g2, o2, rfl, a0, a1, a2, a3, a4, a5, a6⟩ := (HRA.out _ hC).at7 hpj
            have hkc := HX2.out _ (HK2.out.trans hC)
            obtain ⟨g3, cap3, hv3, _⟩ := hkc.form (by rw [HKL.out]; omega)
            injection hv3 with e1 e2 e3
            subst e1 e3
            have c0 := hkc.cell (fun _ => rfl) (i := j) (by rw [HKL.out]; omega) (j := 0) (by omega)
            simp only [Nat.mul_one, Nat.add_zero, bcell, List.getElem?_cons_zero] at c0
            have HCC := Lib.hid hC; clear hC hkc e2
            rw [HKL.out] at jk ⊢
            generalize (purgeC cPlain 2 L)[j] = Y at *
            generalize L[j] = X at *
            generalize K[j]'(by rw [HKL.out]; omega) = kb at *
            obtain ⟨x0, x1, x2, x3, x4, x5, x6⟩ := X
            dsimp only at *
            cases kb
            · rw [if_neg (by decide)] at hat
              subst hat
              simp only [St.zero] at a0 a1 a2 a3 a4 a5 a6
              go_wp2_with fail
              go_quiet (fail)
              rename_i nq
              go_wp2_with fail
              go_roundw
              case rel => exact ⟨j + 1, by omega, by go_num, HCC.out.drewN nq⟩
              case measure => simp [intOf]; omega
            · rw [if_pos rfl] at hat
              subst hat
              dsimp only at a0 a1 a2 a3 a4 a5 a6
              go_wp2_with fail
              go_quiet (fail)
              rename_i nq
              go_wp2_with fail
              go_roundw
              case rel => exact ⟨j + 1, by omega, by go_num, HCC.out.drewN nq⟩
              case measure => simp [intOf]; omega
          · obtain rfl : j = L.length := by omega
            have HCC := Lib.hid hC; clear hC
            go_wp2_with fail
            go_ret
            exact ⟨rfl, HR.out.trans (HC.out.trans (HK2.out.trans HCC.out))⟩
theorem purgeOwners_walk (w : World) (A : Option Addr) (c : Nat) (xs : List Int) (hm : xs.length ≤ maxLen) (hr : RowC w A (xs.flatMap icell)) (_ : ∀ x ∈ xs, True) :
    Calls Try.prog 13 #[.slice A xs.length c] w fun e w' => e = .returned (.bool true) ∧ Below w.heap.size w w' :=
  (purgeOwners_c A c xs w hm hr).mono fun e w' ⟨h1, h2⟩ => ⟨h1, h2.below (Nat.le_refl _) (fun _ h => h.elim)⟩
end Go.Proofs.Ytncbcjjdnlmjbaa
