/- Chapter 7, plain: a device's table. -/
import Derived.Test.YtnallfehffhaeaaIomH
set_option linter.unusedSimpArgs false
set_option linter.unusedVariables false
namespace Go.Proofs.Ytnallfehffhaeaa

theorem nd_getD {α : Type} {l : List α} {d : α} (h : l.Nodup) {i j : Nat} (hi : i < l.length) (hj : j < l.length) (he : l.getD i d = l.getD j d) : i = j := by
  rw [List.getD_eq_getElem?_getD, List.getD_eq_getElem?_getD, List.getElem?_eq_getElem hi, List.getElem?_eq_getElem hj] at he
  simp only [Option.getD_some] at he
  have hp := List.pairwise_iff_getElem.1 h
  rcases Nat.lt_trichotomy i j with h1 | h1 | h1
  · exact absurd he (hp i j hi hj h1)
  · exact h1
  · exact absurd he.symm (hp j i hj hi h1)
theorem getD_mem' {α : Type} {l : List α} {d : α} {i : Nat} (hi : i < l.length) : l.getD i d ∈ l := by
  rw [List.getD_eq_getElem?_getD, List.getElem?_eq_getElem hi]; exact List.getElem_mem hi
theorem mem_getD {α : Type} {l : List α} {d x : α} (h : x ∈ l) : ∃ i, i < l.length ∧ l.getD i d = x := by
  obtain ⟨i, hi, rfl⟩ := List.getElem_of_mem h
  exact ⟨i, hi, by rw [List.getD_eq_getElem?_getD, List.getElem?_eq_getElem hi]; rfl⟩
/-- A device's table: root rt, leaves rest; S: the root's words in the row in which they got a leaf; E: a page's entry. -/
structure DT (bs : List UInt8) (rt : Int) (rest : List Int) (S : List Nat) (E : Nat → Int × Int) : Prop where
  nd : (rt :: rest).Nodup
  fr : ∀ f ∈ rt :: rest, frameP bs f
  b64 : bs.length ≤ 4096
  sl : S.length ≤ rest.length
  sn : S.Nodup
  s16 : ∀ i ∈ S, i < 16
  root : ∀ j : Nat, j < S.length → wordK bs rt (S.getD j 0 : Nat) = putE (rest.getD j 0) 3
  noW : ∀ i : Nat, i < 16 → i ∉ S → wordK bs rt i = 0
  leaf : ∀ j : Nat, j < S.length → ∀ k : Nat, k < 16 → wordK bs (rest.getD j 0) k = putE (E (S.getD j 0 * 16 + k)).1 (E (S.getD j 0 * 16 + k)).2
  zero : ∀ j : Nat, S.length ≤ j → j < rest.length → ∀ k : Nat, k < 16 → wordK bs (rest.getD j 0) k = 0
  out : ∀ p : Nat, p / 16 ∉ S → E p = (0, 0)
  may : ∀ p : Nat, mayE (E p).1 (E p).2 ∧ ((E p).2 ≠ 0 → frameP bs (E p).1)
section
variable {bs bs' : List UInt8} {rt : Int} {rest : List Int} {S : List Nat} {E : Nat → Int × Int}
theorem DT.far (h : DT bs rt rest S E) (hl : bs'.length = bs.length) (hw : ∀ f ∈ rt :: rest, ∀ k : Nat, k < 16 → wordK bs' f k = wordK bs f k) : DT bs' rt rest S E where
  nd := h.nd
  fr := fun f hf => (frameP_len hl f).2 (h.fr f hf)
  b64 := by rw [hl]; exact h.b64
  sl := h.sl
  sn := h.sn
  s16 := h.s16
  root := fun j hj => by rw [hw _ (List.mem_cons_self ..) _ (h.s16 _ (getD_mem' hj))]; exact h.root j hj
  noW := fun i hi hn => by rw [hw _ (List.mem_cons_self ..) _ hi]; exact h.noW i hi hn
  leaf := fun j hj k hk => by rw [hw _ (List.mem_cons_of_mem _ (getD_mem' (Nat.lt_of_lt_of_le hj h.sl))) _ hk]; exact h.leaf j hj k hk
  zero := fun j h1 h2 k hk => by rw [hw _ (List.mem_cons_of_mem _ (getD_mem' h2)) _ hk]; exact h.zero j h1 h2 k hk
  out := h.out
  may := fun p => ⟨(h.may p).1, fun hp => (frameP_len hl _).2 ((h.may p).2 hp)⟩
theorem DT.rt_ne (h : DT bs rt rest S E) {j : Nat} (hj : j < rest.length) : rest.getD j 0 ≠ rt := fun e => by
  have := (List.nodup_cons.1 h.nd).1
  exact this (e ▸ getD_mem' hj)
theorem DT.frt (h : DT bs rt rest S E) : frameP bs rt := h.fr _ (List.mem_cons_self ..)
theorem DT.frl (h : DT bs rt rest S E) {j : Nat} (hj : j < rest.length) : frameP bs (rest.getD j 0) := h.fr _ (List.mem_cons_of_mem _ (getD_mem' hj))
theorem DT.mayl (h : DT bs rt rest S E) {j : Nat} (hj : j < rest.length) : mayE (rest.getD j 0) 3 := by
  have := h.frl hj; have := h.b64
  unfold frameP at *; unfold mayE; omega
theorem DT.inj (h : DT bs rt rest S E) {i j : Nat} (hi : i < rest.length) (hj : j < rest.length) (he : rest.getD i 0 = rest.getD j 0) : i = j := nd_getD (List.nodup_cons.1 h.nd).2 hi hj he
/-- The leaf of a root's word. -/
theorem DT.leaf_in (h : DT bs rt rest S E) {j : Nat} (hj : j < S.length) : leafI bs rt (S.getD j 0 : Nat) = (rest.getD j 0, 0) := by
  have hr := Nat.lt_of_lt_of_le hj h.sl
  have hf := h.frl hr
  unfold frameP at hf
  unfold leafI stepE
  rw [h.root j hj, getE_put (h.mayl hr)]
  simp only [show ¬ ((3 : Int) = 0) by decide, if_false, if_pos hf.2]
  rfl
theorem DT.leaf_out (h : DT bs rt rest S E) {i : Nat} (hi : i < 16) (hn : i ∉ S) : leafI bs rt i = (0, 501) := by
  unfold leafI stepE
  rw [h.noW i hi hn]
  rfl
theorem DT.leads (h : DT bs rt rest S E) {j : Nat} (hj : j < rest.length) : leadsB bs rt (rest.getD j 0) = decide (j < S.length) := by
  by_cases hs : j < S.length
  · rw [decide_eq_true hs]
    exact leadsB_yes (h.s16 _ (getD_mem' hs)) (h.leaf_in hs)
  · rw [decide_eq_false hs]
    refine leadsB_no (fun k hk he => ?_)
    by_cases hm : k ∈ S
    · obtain ⟨i, hi, rfl⟩ := mem_getD (d := 0) hm
      rw [h.leaf_in hi] at he
      injection he with he _
      have := h.inj (Nat.lt_of_lt_of_le hi h.sl) hj he
      omega
    · rw [h.leaf_out hk hm] at he
      injection he with _ he
      exact absurd he (by decide)
theorem DT.free (h : DT bs rt rest S E) : freeF bs rt rest = if S.length < rest.length then some (rest.getD S.length 0) else none := by
  by_cases hs : S.length < rest.length
  · rw [if_pos hs]
    refine freeF_at hs (fun j hj => ?_) ?_
    · rw [h.leads (by omega), decide_eq_true hj]
    · rw [h.leads hs, decide_eq_false (by omega)]
  · rw [if_neg hs]
    refine freeF_none (fun j hj => ?_)
    rw [h.leads hj, decide_eq_true (by omega)]
theorem DT.walk (h : DT bs rt rest S E) {p : Nat} (hp : p < 256) : walkE bs rt p = if (E p).2 = 0 then ((0, 0), 501) else (E p, 0) := by
  unfold walkE
  rw [if_pos ⟨by unfold pageP; omega, h.frt⟩, show (p : Int) / 16 = ((p / 16 : Nat) : Int) from rfl, show (p : Int) % 16 = ((p % 16 : Nat) : Int) from rfl]
  by_cases hm : p / 16 ∈ S
  · obtain ⟨j, hj, hjp⟩ := mem_getD (d := 0) hm
    have hl := h.leaf_in hj
    rw [hjp] at hl
    rw [hl]
    simp only [ne_eq, not_true_eq_false, if_false]
    have hw := h.leaf j hj (p % 16) (by omega)
    rw [hjp, show p / 16 * 16 + p % 16 = p by omega] at hw
    have hmay := h.may p
    unfold stepE
    rw [hw, getE_put hmay.1]
    simp only
    by_cases h0 : (E p).2 = 0
    · rw [if_pos h0, if_pos h0]
    · have := (hmay.2 h0).2
      rw [if_neg h0, if_neg h0, if_pos this]
  · rw [h.leaf_out (by omega) hm, h.out p hm]
    rfl
theorem upd_ne {α : Type} (g : Nat → α) {k j : Nat} (x : α) (h : j ≠ k) : upd g k x j = g j := if_neg h
/-- An entry of a leaf that is there is put. -/
theorem DT.put (h : DT bs rt rest S E) {j k : Nat} (hj : j < S.length) (hk : k < 16) {e : Int × Int} (he : mayE e.1 e.2) (hf : e.2 ≠ 0 → frameP bs e.1) :
    DT (putB bs (rest.getD j 0 * 64 + (k : Int) * 4) (putE e.1 e.2)) rt rest S (upd E (S.getD j 0 * 16 + k) e) ∧ putC bs (rest.getD j 0 * 64 + (k : Int) * 4) (putE e.1 e.2) = 0 ∧
    ∀ f : Int, f ∉ rt :: rest → frameP bs f → ∀ i : Nat, i < 16 → wordK (putB bs (rest.getD j 0 * 64 + (k : Int) * 4) (putE e.1 e.2)) f i = wordK bs f i := by
  have hr := Nat.lt_of_lt_of_le hj h.sl
  have hfl := h.frl hr
  have hb := putE_bound he
  have hw : ∀ (f : Int) (i : Nat), frameP bs f → i < 16 → wordK (putB bs (rest.getD j 0 * 64 + (k : Int) * 4) (putE e.1 e.2)) f i = if f = rest.getD j 0 ∧ (i : Int) = k then putE e.1 e.2 else wordK bs f i := fun f i hf hi => wordK_put hfl (by omega) hf (by omega) (by omega)
  have hl := putB_len bs (rest.getD j 0 * 64 + (k : Int) * 4) (putE e.1 e.2)
  refine ⟨?_, ?_, fun f hf hfp i hi => ?_⟩
  · exact
    { nd := h.nd
      fr := fun f hf => (frameP_len hl f).2 (h.fr f hf)
      b64 := by rw [hl]; exact h.b64
      sl := h.sl
      sn := h.sn
      s16 := h.s16
      root := fun i hi => by
        rw [hw _ _ h.frt (h.s16 _ (getD_mem' hi)), if_neg (fun c => h.rt_ne hr c.1.symm)]
        exact h.root i hi
      noW := fun i hi hn => by
        rw [hw _ _ h.frt hi, if_neg (fun c => h.rt_ne hr c.1.symm)]
        exact h.noW i hi hn
      leaf := fun i hi m hm => by
        rw [hw _ _ (h.frl (Nat.lt_of_lt_of_le hi h.sl)) hm]
        by_cases c : rest.getD i 0 = rest.getD j 0 ∧ (m : Int) = k
        · rw [if_pos c]
          obtain rfl := h.inj (Nat.lt_of_lt_of_le hi h.sl) hr c.1
          have : m = k := by omega
          subst this
          rw [upd_same]
        · rw [if_neg c, upd_ne, h.leaf i hi m hm]
          intro c2
          have e1 : S.getD i 0 = S.getD j 0 := by omega
          have e2 := nd_getD h.sn hi hj e1
          subst e2
          exact c ⟨rfl, by omega⟩
      zero := fun i h1 h2 m hm => by
        rw [hw _ _ (h.frl h2) hm, if_neg (fun c => by have := h.inj h2 hr c.1; omega)]
        exact h.zero i h1 h2 m hm
      out := fun p hp => by
        rw [upd_ne, h.out p hp]
        rintro rfl
        exact hp (by rw [show (S.getD j 0 * 16 + k) / 16 = S.getD j 0 by omega]; exact getD_mem' hj)
      may := fun p => by
        by_cases c : p = S.getD j 0 * 16 + k
        · subst c; rw [upd_same]; exact ⟨he, fun h0 => (frameP_len hl _).2 (hf h0)⟩
        · rw [upd_ne _ _ c]; exact ⟨(h.may p).1, fun h0 => (frameP_len hl _).2 ((h.may p).2 h0)⟩ }
  · unfold putC
    exact if_pos ⟨wordP_K hfl (by omega), by omega, by omega⟩
  · rw [hw f i hfp hi, if_neg]
    rintro ⟨rfl, _⟩
    exact hf (List.mem_cons_of_mem _ (getD_mem' hr))
theorem getD_app {l : List Nat} {i : Nat} {x : Nat} (h : i < l.length) : (l ++ [x]).getD i 0 = l.getD i 0 := by
  simp [List.getD_eq_getElem?_getD, List.getElem?_append, h]
theorem getD_app' {l : List Nat} {x : Nat} : (l ++ [x]).getD l.length 0 = x := by
  simp [List.getD_eq_getElem?_getD]
/-- A root's word gets the next leaf. -/
theorem DT.grow (h : DT bs rt rest S E) {i : Nat} (hi : i < 16) (hn : i ∉ S) (hs : S.length < rest.length) :
    DT (putB bs (rt * 64 + (i : Int) * 4) (putE (rest.getD S.length 0) 3)) rt rest (S ++ [i]) E ∧ putC bs (rt * 64 + (i : Int) * 4) (putE (rest.getD S.length 0) 3) = 0 ∧
    ∀ f : Int, f ∉ rt :: rest → frameP bs f → ∀ k : Nat, k < 16 → wordK (putB bs (rt * 64 + (i : Int) * 4) (putE (rest.getD S.length 0) 3)) f k = wordK bs f k := by
  have hfl := h.frt
  have hb := putE_bound (h.mayl hs)
  have hw : ∀ (f : Int) (k : Nat), frameP bs f → k < 16 → wordK (putB bs (rt * 64 + (i : Int) * 4) (putE (rest.getD S.length 0) 3)) f k = if f = rt ∧ (k : Int) = i then putE (rest.getD S.length 0) 3 else wordK bs f k := fun f k hf hk => wordK_put hfl (by omega) hf (by omega) (by omega)
  have hl := putB_len bs (rt * 64 + (i : Int) * 4) (putE (rest.getD S.length 0) 3)
  refine ⟨?_, ?_, fun f hf hfp k hk => ?_⟩
  · exact
    { nd := h.nd
      fr := fun f hf => (frameP_len hl f).2 (h.fr f hf)
      b64 := by rw [hl]; exact h.b64
      sl := by simp; omega
      sn := by
        rw [List.nodup_append]
        exact ⟨h.sn, by simp, fun a ha b hb => by simp at hb; subst hb; rintro rfl; exact hn ha⟩
      s16 := fun k hk => by
        rcases List.mem_append.1 hk with hk | hk
        · exact h.s16 k hk
        · simp at hk; omega
      root := fun k hk => by
        simp only [List.length_append, List.length_singleton] at hk
        by_cases c : k < S.length
        · have h1 := h.s16 _ (getD_mem' (d := 0) c)
          rw [getD_app c, hw _ _ h.frt h1, if_neg]
          · exact h.root k c
          · rintro ⟨_, c2⟩
            exact hn ((show S.getD k 0 = i by omega) ▸ getD_mem' c)
        · obtain rfl : k = S.length := by omega
          rw [getD_app', hw _ _ h.frt hi, if_pos ⟨rfl, rfl⟩]
      noW := fun k hk hk2 => by
        simp only [List.mem_append, List.mem_singleton, not_or] at hk2
        rw [hw _ _ h.frt hk, if_neg (fun c => hk2.2 (by omega))]
        exact h.noW k hk hk2.1
      leaf := fun k hk m hm => by
        simp only [List.length_append, List.length_singleton] at hk
        rw [hw _ _ (h.frl (by omega)) hm, if_neg (fun c => h.rt_ne (by omega) c.1)]
        by_cases c : k < S.length
        · rw [getD_app c]; exact h.leaf k c m hm
        · obtain rfl : k = S.length := by omega
          rw [getD_app', h.zero _ (Nat.le_refl _) hs m hm, h.out (i * 16 + m) (by rw [show (i * 16 + m) / 16 = i by omega]; exact hn)]
          rfl
      zero := fun k h1 h2 m hm => by
        simp only [List.length_append, List.length_singleton] at h1
        rw [hw _ _ (h.frl h2) hm, if_neg (fun c => h.rt_ne h2 c.1)]
        exact h.zero k (by omega) h2 m hm
      out := fun p hp => h.out p (fun c => hp (List.mem_append_left _ c))
      may := fun p => ⟨(h.may p).1, fun h0 => (frameP_len hl _).2 ((h.may p).2 h0)⟩ }
  · unfold putC
    exact if_pos ⟨wordP_K hfl (by omega), by omega, by omega⟩
  · rw [hw f k hfp hk, if_neg]
    rintro ⟨rfl, _⟩
    exact hf (List.mem_cons_self ..)
/-- The root's words that have a leaf, behind a page's Map. -/
def slotS (S : List Nat) (n p : Nat) : Option (List Nat) := if p / 16 ∈ S then some S else if S.length < n then some (S ++ [p / 16]) else none
def FarW (fs : List Int) (bs bs' : List UInt8) : Prop := bs'.length = bs.length ∧ ∀ f : Int, f ∉ fs → frameP bs f → ∀ k : Nat, k < 16 → wordK bs' f k = wordK bs f k
theorem FarW.refl (fs : List Int) (bs : List UInt8) : FarW fs bs bs := ⟨rfl, fun _ _ _ _ _ => rfl⟩
theorem FarW.trans {fs : List Int} {a b c : List UInt8} (h : FarW fs a b) (k : FarW fs b c) : FarW fs a c :=
  ⟨k.1.trans h.1, fun f hf hp i hi => (k.2 f hf ((frameP_len h.1 f).2 hp) i hi).trans (h.2 f hf hp i hi)⟩
theorem DT.farW (h : DT bs rt rest S E) {fs : List Int} (hw : FarW fs bs bs') (hd : ∀ f ∈ rt :: rest, f ∉ fs) : DT bs' rt rest S E := h.far hw.1 fun f hf k hk => hw.2 f (hd f hf) (h.fr f hf) k hk
theorem DT.map (h : DT bs rt rest S E) {p : Nat} (hp : p < 256) {e : Int × Int} (he : mayE e.1 e.2) (h0 : e.2 ≠ 0) (hf : frameP bs e.1) :
    match slotS S rest.length p with
    | some S' => (mapM bs (rt :: rest) p e.1 e.2).1 = 0 ∧ DT (mapM bs (rt :: rest) p e.1 e.2).2 rt rest S' (upd E p e) ∧ FarW (rt :: rest) bs (mapM bs (rt :: rest) p e.1 e.2).2
    | none => mapM bs (rt :: rest) p e.1 e.2 = (701, bs) := by
  unfold slotS mapM leafM
  simp only [List.getD_cons_zero, List.drop_succ_cons, List.drop_zero]
  rw [show (p : Int) / 16 = ((p / 16 : Nat) : Int) from rfl, show (p : Int) % 16 = ((p % 16 : Nat) : Int) from rfl]
  by_cases hm : p / 16 ∈ S
  · rw [if_pos hm]
    obtain ⟨j, hj, hjp⟩ := mem_getD (d := 0) hm
    have hl := h.leaf_in hj
    rw [hjp] at hl
    simp only [hl, if_true, ne_eq, not_true_eq_false, if_false]
    obtain ⟨a1, a2, a3⟩ := h.put hj (k := p % 16) (by omega) he (fun _ => hf)
    rw [hjp, show p / 16 * 16 + p % 16 = p by omega] at a1
    exact ⟨a2, a1, putB_len _ _ _, a3⟩
  · rw [if_neg hm]
    simp only [h.leaf_out (show p / 16 < 16 by omega) hm, show ¬ ((501 : Int) = 0) by decide, if_false, h.free]
    by_cases hs : S.length < rest.length
    · simp only [if_pos hs, ne_eq, not_true_eq_false, if_false]
      obtain ⟨b1, b2, b3⟩ := h.grow (show p / 16 < 16 by omega) hm hs
      have hb := putB_len bs (rt * 64 + ((p / 16 : Nat) : Int) * 4) (putE (rest.getD S.length 0) 3)
      simp only [b2, not_true_eq_false, if_false]
      obtain ⟨a1, a2, a3⟩ := b1.put (j := S.length) (by simp) (k := p % 16) (by omega) he (fun _ => (frameP_len hb _).2 hf)
      rw [getD_app', show p / 16 * 16 + p % 16 = p by omega] at a1
      refine ⟨a2, a1, ?_⟩
      exact FarW.trans ⟨hb, b3⟩ ⟨putB_len _ _ _, a3⟩
    · simp only [if_neg hs, ne_eq, show ¬ ((701 : Int) = 0) by decide, not_false_eq_true, if_true]
theorem DT.unmap (h : DT bs rt rest S E) {p : Nat} (hp : p < 256) :
    if (E p).2 = 0 then unmapM bs rt p = (702, bs) else (unmapM bs rt p).1 = 0 ∧ DT (unmapM bs rt p).2 rt rest S (upd E p (0, 0)) ∧ FarW (rt :: rest) bs (unmapM bs rt p).2 := by
  unfold unmapM
  rw [h.walk hp]
  by_cases h0 : (E p).2 = 0
  · simp only [if_pos h0]
    rfl
  · simp only [if_neg h0, ne_eq, not_true_eq_false, if_false]
    have hm : p / 16 ∈ S := Classical.byContradiction fun c => h0 (by rw [h.out p c])
    obtain ⟨j, hj, hjp⟩ := mem_getD (d := 0) hm
    have hl := h.leaf_in hj
    rw [hjp] at hl
    rw [show (p : Int) / 16 = ((p / 16 : Nat) : Int) from rfl, show (p : Int) % 16 = ((p % 16 : Nat) : Int) from rfl, hl]
    obtain ⟨a1, a2, a3⟩ := h.put hj (k := p % 16) (by omega) (e := (0, 0)) (by decide) (fun c => absurd rfl c)
    rw [hjp, show p / 16 * 16 + p % 16 = p by omega] at a1
    exact ⟨a2, a1, putB_len _ _ _, a3⟩
end
theorem clearB_word : ∀ (fs : List Int) {bs : List UInt8} {f : Int} {k : Nat}, (∀ g ∈ fs, frameP bs g) → frameP bs f → k < 16 → wordK (clearB bs fs) f k = if f ∈ fs then 0 else wordK bs f k
  | [], bs, f, k, _, _, _ => by simp [clearB]
  | g :: gs, bs, f, k, hg, hf, hk => by
    have hz := zeroB_len bs g
    show wordK (clearB (zeroB bs g) gs) f k = _
    rw [clearB_word gs (fun x hx => (frameP_len hz x).2 (hg x (List.mem_cons_of_mem _ hx))) ((frameP_len hz f).2 hf) hk, wordK_zero (hg g (List.mem_cons_self ..)) hf (by omega)]
    by_cases c : f ∈ gs
    · rw [if_pos c, if_pos (List.mem_cons_of_mem _ c)]
    · rw [if_neg c]
      by_cases c2 : f = g
      · subst c2; rw [if_pos rfl, if_pos (List.mem_cons_self ..)]
      · rw [if_neg c2, if_neg (by simp [c, c2])]
theorem clearB_far {bs : List UInt8} {fs : List Int} (h : ∀ g ∈ fs, frameP bs g) : FarW fs bs (clearB bs fs) :=
  ⟨clearB_len _ _, fun f hf hp k hk => by rw [clearB_word fs h hp hk, if_neg hf]⟩
/-- A table that is cleared. -/
theorem DT.clear {bs : List UInt8} {rt : Int} {rest : List Int} (hn : (rt :: rest).Nodup) (hf : ∀ f ∈ rt :: rest, frameP bs f) (hl : bs.length ≤ 4096) : DT (clearB bs (rt :: rest)) rt rest [] (fun _ => (0, 0)) where
  nd := hn
  fr := fun f h => (frameP_len (clearB_len _ _) f).2 (hf f h)
  b64 := by rw [clearB_len]; exact hl
  sl := Nat.zero_le _
  sn := List.nodup_nil
  s16 := fun i h => by cases h
  root := fun j h => absurd h (Nat.not_lt_zero _)
  noW := fun i hi _ => by rw [clearB_word _ hf (hf _ (List.mem_cons_self ..)) hi, if_pos (List.mem_cons_self ..)]
  leaf := fun j h => absurd h (Nat.not_lt_zero _)
  zero := fun j _ h k hk => by rw [clearB_word _ hf (hf _ (List.mem_cons_of_mem _ (getD_mem' h))) hk, if_pos (List.mem_cons_of_mem _ (getD_mem' h))]
  out := fun _ _ => rfl
  may := fun _ => ⟨by decide, fun h => absurd rfl h⟩
/-- Like walks, like translations. -/
theorem transM_congr {bs bs' : List UInt8} {rt rt' wt : Int} (h : ∀ p : Nat, p < 256 → walkE bs rt p = walkE bs' rt' p) : ∀ (k : Nat) (b m : Int) (acc), 0 ≤ b → b + m ≤ 16384 → transM bs rt wt k b m acc = transM bs' rt' wt k b m acc
  | 0, _, _, _, _, _ => rfl
  | k + 1, b, m, acc, h0, h1 => by
    unfold transM
    by_cases hm : 0 < m
    · have hq : walkE bs rt (b / 64) = walkE bs' rt' (b / 64) := by
        have := h (b / 64).toNat (by omega)
        rwa [show (((b / 64).toNat : Nat) : Int) = b / 64 by omega] at this
      rw [if_pos hm, if_pos hm, hq]
      have ih := transM_congr (wt := wt) h k (b + min m (64 - b % 64)) (m - min m (64 - b % 64)) (acc ++ [((walkE bs' rt' (b / 64)).1.1, b % 64, min m (64 - b % 64))]) (by omega) (by omega)
      rw [ih]
    · rw [if_neg hm, if_neg hm]
end Go.Proofs.Ytnallfehffhaeaa
