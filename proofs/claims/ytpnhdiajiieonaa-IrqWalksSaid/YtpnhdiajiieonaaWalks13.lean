/- Chapter 13: the plain table of the law IrqWalks. -/
import Derived.Test.YtpnhdiajiieonaaApart13
set_option linter.unusedSimpArgs false
set_option linter.unusedVariables false
namespace Go.Proofs.Ytpnhdiajiieonaa
open Go.RowKit

/-- Eight cells in a block. -/
def A8 (T : TypeId) (c : Nat → Value) (W : World) (q : Nat) : Prop := ∃ cs : Array Value, W.heap[q]? = some (.cells cs T (0, 0)) ∧ cs.size = 8 ∧ ∀ k, k < 8 → cs[k]? = some (c k)
section
variable {T : TypeId} {c c' : Nat → Value} {W W' : World} {q : Nat}
theorem A8.keep {X : Nat → Prop} (h : A8 T c W q) (hC : Chg X W W') (hq : ¬ X q) : A8 T c W' q := by obtain ⟨cs, h1, h2⟩ := h; exact ⟨cs, hC.at h1 hq, h2⟩
theorem A8.lt (h : A8 T c W q) : q < W.heap.size := by obtain ⟨cs, h1, _⟩ := h; exact lt_of_heap h1
theorem A8.cell (h : A8 T c W q) {k : Nat} (hk : k < 8) : W.cell? ⟨q, k, none⟩ = some (c k) := by obtain ⟨cs, h1, _, h3⟩ := h; rw [blk_cell h1]; exact h3 k hk
theorem A8.free (h : A8 T c W q) (k : Nat) : W.frozen? ⟨q, k, none⟩ = false := by obtain ⟨cs, h1, _⟩ := h; exact blk_free h1 k
theorem A8.set (h : A8 T c W q) {k : Nat} (hk : k < 8) (y : Value) (e : ∀ j, j < 8 → c' j = if j = k then y else c j) : A8 T c' (W.setCell ⟨q, k, none⟩ y) q := by
  obtain ⟨cs, h1, h2, h3⟩ := h
  refine ⟨_, blk_set h1 k y, by simpa using h2, fun j hj => ?_⟩
  rw [e j hj]
  by_cases hjk : j = k
  · subst hjk; rw [Array.getElem?_setIfInBounds_self_of_lt (by omega), if_pos rfl]
  · rw [Array.getElem?_setIfInBounds_ne (fun h => hjk h.symm), h3 j hj, if_neg hjk]
theorem A8.far (h : A8 T c W q) {p k : Nat} (hne : q ≠ p) (y : Value) : A8 T c (W.setCell ⟨p, k, none⟩ y) q := h.keep (Chg.set1 (Chg.refl (fun k => k = p) W) y) hne
end
structure Wk (f : Nat → Ent) (S : Nat → Nat → Bool) (to : Nat → Int) (off up : Nat → Bool) : Prop where
  e : ∀ v, v < 8 → to v = if (f v).is = true then (f v).part else -1
  p : ∀ v, v < 8 → (f v).is = true → (f v).part = 0 ∨ (f v).part = 1
  o : ∀ v, v < 8 → off v = (f v).masked
  s : ∀ a v, a < 2 → v < 8 → S a v = (up v && decide (to v = (a : Int)))
  z : ∀ a k, a < 2 → 8 ≤ k → k < 32 → S a k = false
  u : ∀ v, v < 8 → up v = true → (f v).is = true
section
variable {f : Nat → Ent} {S : Nat → Nat → Bool} {to : Nat → Int} {off up : Nat → Bool}
theorem Wk.yes (h : Wk f S to off up) {v : Nat} (hv : v < 8) (hi : (f v).is = true) : to v = (f v).part ∧ 0 ≤ to v ∧ entE 1 0 v f = 0 := by
  have h1 := h.e v hv
  rw [if_pos hi] at h1
  refine ⟨h1, by rcases h.p v hv hi with e | e <;> omega, ?_⟩
  unfold entE
  rw [if_pos (show inR 1 0 (v : Int) by unfold inR; omega), ix0, if_pos hi]
theorem Wk.no (h : Wk f S to off up) {v : Nat} (hv : v < 8) (hi : (f v).is = false) : to v = -1 ∧ up v = false ∧ entE 1 0 v f = 1101 := by
  have h1 := h.e v hv
  rw [hi, if_neg (by decide)] at h1
  refine ⟨h1, ?_, ?_⟩
  · cases hu : up v with
    | false => rfl
    | true => have := h.u v hv hu; rw [hi] at this; cases this
  · unfold entE
    rw [if_pos (show inR 1 0 (v : Int) by unfold inR; omega), ix0, hi, if_neg (by decide)]
theorem Wk.route (h : Wk f S to off up) {v p : Nat} (hv : v < 8) (hp : p < 2) (hk : up v = true → to v = (p : Int)) :
    routeC 1 2 0 v p = 0 ∧ Wk (routeF 1 2 0 v p f) S (upd to v p) (upd off v false) up := by
  have hq : inP 2 (p : Int) := by unfold inP; omega
  have hr : inR 1 0 (v : Int) := by unfold inR; omega
  have hs : inR 1 0 (v : Int) ∧ (0 : Int) ≤ p ∧ (p : Int) < 4 := ⟨hr, by omega, by omega⟩
  unfold routeC routeF setC setF
  rw [if_pos hq, if_pos hq, if_pos hs, if_pos hs, ix0]
  refine ⟨rfl, fun j hj => ?_, fun j hj hi => ?_, fun j hj => ?_, fun a j ha hj => ?_, h.z, fun j hj hu => ?_⟩
  · by_cases e : j = v
    · subst e; rw [upd_same, upd_same]; rfl
    · rw [upd_other _ _ e, upd_other _ _ e]; exact h.e j hj
  · by_cases e : j = v
    · subst e; rw [upd_same]; dsimp only; omega
    · rw [upd_other _ _ e] at hi ⊢; exact h.p j hj hi
  · by_cases e : j = v
    · subst e; rw [upd_same, upd_same]
    · rw [upd_other _ _ e, upd_other _ _ e]; exact h.o j hj
  · rw [h.s a j ha hj]
    by_cases e : j = v
    · subst e; rw [upd_same]
      cases hu : up j with
      | false => rfl
      | true => rw [hk hu]
    · rw [upd_other _ _ e]
  · by_cases e : j = v
    · subst e; rw [upd_same]
    · rw [upd_other _ _ e]; exact h.u j hj hu
theorem Wk.unroute (h : Wk f S to off up) {v : Nat} (hv : v < 8) (hM : MInv f) :
    Wk (unsetF 1 0 v f) (unrouteS 1 0 v f S) (upd to v (-1)) (upd off v false) (upd up v false) := by
  unfold unsetF unrouteS
  cases hi : (f v).is with
  | true =>
    rw [(h.yes hv hi).2.2, if_pos rfl, if_pos rfl, ix0]
    have hk : ∀ k, isKey 0 v k = decide (k = v) := fun k => by
      unfold isKey; rw [← Bool.decide_and, decide_eq_decide]; omega
    refine ⟨fun j hj => ?_, fun j hj hi => ?_, fun j hj => ?_, fun a j ha hj => ?_, fun a j ha h8 hj => by rw [h.z a j ha h8 hj]; rfl, fun j hj hu => ?_⟩
    · by_cases e : j = v
      · subst e; rw [upd_same, upd_same]; rfl
      · rw [upd_other _ _ e, upd_other _ _ e]; exact h.e j hj
    · by_cases e : j = v
      · subst e; rw [upd_same] at hi; cases hi
      · rw [upd_other _ _ e] at hi ⊢; exact h.p j hj hi
    · by_cases e : j = v
      · subst e; rw [upd_same, upd_same]; rfl
      · rw [upd_other _ _ e, upd_other _ _ e]; exact h.o j hj
    · rw [h.s a j ha hj, hk]
      by_cases e : j = v
      · subst e; rw [upd_same]; simp
      · rw [upd_other _ _ e, upd_other _ _ e, decide_eq_false e]; simp
    · by_cases e : j = v
      · subst e; rw [upd_same] at hu; cases hu
      · rw [upd_other _ _ e] at hu; rw [upd_other _ _ e]; exact h.u j hj hu
  | false =>
    obtain ⟨h1, h2, h3⟩ := h.no hv hi
    rw [h3, if_neg (by decide), if_neg (by decide)]
    have e1 : upd to v (-1) = to := by funext j; by_cases e : j = v; (subst e; rw [upd_same, h1]); exact upd_other _ _ e
    have e2 : upd up v false = up := by funext j; by_cases e : j = v; (subst e; rw [upd_same, h2]); exact upd_other _ _ e
    have hm : (f v).masked = false := by
      cases hm : (f v).masked with
      | false => rfl
      | true => have := hM v hm; rw [hi] at this; cases this
    have e3 : ∀ j, j < 8 → upd off v false j = off j := fun j hj => by
      by_cases e : j = v
      · subst e; rw [upd_same, h.o j hj, hm]
      · exact upd_other _ _ e
    rw [e1, e2]
    exact ⟨h.e, h.p, fun j hj => by rw [e3 j hj]; exact h.o j hj, h.s, h.z, h.u⟩
theorem Wk.mask (h : Wk f S to off up) {v : Nat} (hv : v < 8) (hM : MInv f) (b : Bool) :
    Wk (maskF 1 0 v b f) S to (upd off v (b && (f v).is)) up := by
  unfold maskF
  cases hi : (f v).is with
  | true =>
    rw [(h.yes hv hi).2.2, if_pos rfl, ix0]
    refine ⟨fun j hj => ?_, fun j hj hi => ?_, fun j hj => ?_, h.s, h.z, fun j hj hu => ?_⟩
    · by_cases e : j = v
      · subst e; rw [upd_same]; exact h.e j hj
      · rw [upd_other _ _ e]; exact h.e j hj
    · by_cases e : j = v
      · subst e; rw [upd_same] at hi ⊢; exact h.p j hj hi
      · rw [upd_other _ _ e] at hi ⊢; exact h.p j hj hi
    · by_cases e : j = v
      · subst e; rw [upd_same, upd_same]; simp
      · rw [upd_other _ _ e, upd_other _ _ e]; exact h.o j hj
    · by_cases e : j = v
      · subst e; rw [upd_same]; exact h.u j hj hu
      · rw [upd_other _ _ e]; exact h.u j hj hu
  | false =>
    obtain ⟨h1, h2, h3⟩ := h.no hv hi
    rw [h3, if_neg (by decide)]
    have hm : (f v).masked = false := by
      cases hm : (f v).masked with
      | false => rfl
      | true => have := hM v hm; rw [hi] at this; cases this
    refine ⟨h.e, h.p, fun j hj => ?_, h.s, h.z, h.u⟩
    by_cases e : j = v
    · subst e; rw [upd_same, hm]; simp
    · rw [upd_other _ _ e]; exact h.o j hj
theorem Wk.raise (h : Wk f S to off up) {v p : Nat} (hv : v < 8) (hp : p < 2) :
    uraiseC 1 2 0 v p f = (if to v = (p : Int) then 0 else 1301) ∧ Wk f (uraiseS 1 2 0 v p f S) to off (upd up v (up v || decide (to v = (p : Int)))) := by
  have hq : inP 2 (p : Int) := by unfold inP; omega
  have hc : uraiseC 1 2 0 v p f = (if to v = (p : Int) then 0 else 1301) := by
    unfold uraiseC
    cases hi : (f v).is with
    | true =>
      obtain ⟨h1, h2, h3⟩ := h.yes hv hi
      have hl : lookP 1 0 v f = to v := by unfold lookP; rw [if_pos h3, ix0, h1]
      rw [h3, hl, if_neg (show ¬ ((0 : Int) = 1100 ∨ ¬ inP 2 (p : Int)) from fun hh => hh.elim (by decide) (fun hn => hn hq))]
      by_cases e : to v = (p : Int)
      · rw [if_neg (fun hh => hh.elim (fun h0 => h0 rfl) (fun h0 => h0 e)), if_pos e]
      · rw [if_pos (.inr e), if_neg e]
    | false =>
      obtain ⟨h1, h2, h3⟩ := h.no hv hi
      rw [h3, h1, if_neg (show ¬ ((1101 : Int) = 1100 ∨ ¬ inP 2 (p : Int)) from fun hh => hh.elim (by decide) (fun hn => hn hq)), if_pos (.inl (by decide)), if_neg (by omega)]
  refine ⟨hc, ?_⟩
  unfold uraiseS
  rw [hc]
  by_cases e : to v = (p : Int)
  · rw [if_pos e, if_pos rfl, decide_eq_true e]
    have hrp : raiseP 2 p 0 (v : Int) := by unfold raiseP; omega
    have hk : keyOf 0 (v : Int) = v := by unfold keyOf; omega
    unfold raiseS
    rw [if_pos hrp, hk, Int.toNat_natCast]
    refine ⟨h.e, h.p, h.o, fun a j ha hj => ?_, fun a j ha h8 hj => ?_, fun j hj hu => ?_⟩
    · (try dsimp only); rw [h.s a j ha hj]
      by_cases ej : j = v
      · subst ej; rw [upd_same, e]
        have : decide (a = p) = decide ((p : Int) = (a : Int)) := decide_eq_decide.2 (by omega)
        rw [this]; cases up j <;> simp
      · rw [upd_other _ _ ej, decide_eq_false ej]; simp
    · (try dsimp only); rw [h.z a j ha h8 hj, decide_eq_false (show ¬ j = v by omega)]; simp
    · by_cases ej : j = v
      · subst ej
        cases hi : (f j).is with
        | true => rfl
        | false => have := (h.no hj hi).1; omega
      · rw [upd_other _ _ ej] at hu; exact h.u j hj hu
  · rw [if_neg e, if_neg (by decide), decide_eq_false e, Bool.or_false]
    have e2 : upd up v (up v) = up := by funext j; by_cases e : j = v; (subst e; rw [upd_same]); exact upd_other _ _ e
    rw [e2]; exact h
/-- Deliver's loop: below c no one waits any more that came. -/
def upC (to : Nat → Int) (off up : Nat → Bool) (p c : Nat) : Nat → Bool := fun k => up k && !(decide (k < c) && decide (to k = (p : Int)) && !off k)
theorem upC_zero (p : Nat) : upC to off up p 0 = up := by funext k; unfold upC; simp
theorem msk_masked1 (nd : Nat) (f : Nat → Ent) (k : Nat) (hk : k < 32) : msk (maskedL nd f 32) k = maskB nd f k := by
  unfold msk maskedL
  cases hm : maskB nd f k with
  | true =>
    refine decide_eq_true ?_
    rw [List.mem_map]
    exact ⟨toIq 0 k, List.mem_map.2 ⟨k, List.mem_filter.2 ⟨List.mem_range.2 hk, hm⟩, rfl⟩, rfl⟩
  | false =>
    refine decide_eq_false (fun hin => ?_)
    rw [List.mem_map] at hin
    obtain ⟨x, hx, he⟩ := hin
    obtain ⟨j, hj, rfl⟩ := List.mem_map.1 hx
    obtain ⟨h1, h2⟩ := List.mem_filter.1 hj
    have hjk : j = k := by
      unfold dv toIq at he
      simp only [Prod.mk.injEq] at he
      omega
    rw [hjk, hm] at h2; cases h2
theorem Wk.comes (h : Wk f S to off up) {p k : Nat} (hp : p < 2) (hk : k < 8) : (S p k && !msk (maskedL 1 f 32) k) = (up k && decide (to k = (p : Int)) && !off k) := by
  rw [h.s p k hp hk, msk_masked1 1 f k (by omega), h.o k hk]
  unfold maskB; rw [show decide (k < 8 * 1) = true from decide_eq_true (by omega)]; simp
theorem Wk.list (h : Wk f S to off up) {p : Nat} (hp : p < 2) (tick : Int) : tkL 2 p tick (maskedL 1 f 32) S = (takeK S (maskedL 1 f 32) p 8).map (toIq tick) := by
  unfold tkL takeL
  rw [if_pos (by omega), Int.toNat_natCast, takeK_to (c := 8) (by omega) (fun k h8 hk => h.z p k hp h8 hk)]
theorem Wk.deliver (h : Wk f S to off up) {p : Nat} (hp : p < 2) : Wk f (tkS 2 p (maskedL 1 f 32) S) to off (upC to off up p 8) := by
  unfold tkS
  rw [if_pos (by omega), Int.toNat_natCast]
  refine ⟨h.e, h.p, h.o, fun a j ha hj => ?_, fun a j ha h8 hj => by unfold takeS; rw [h.z a j ha h8 hj]; rfl, fun j hj hu => h.u j hj ?_⟩
  · unfold takeS upC
    rw [h.s a j ha hj, msk_masked1 1 f j (by omega), decide_eq_true hj]
    have hm : maskB 1 f j = off j := by unfold maskB; rw [decide_eq_true (by omega), h.o j hj]; rfl
    rw [hm]
    by_cases e : to j = (a : Int)
    · rw [e]
      have : decide ((a : Int) = (p : Int)) = decide (a = p) := decide_eq_decide.2 (by omega)
      rw [this]
      cases up j <;> cases off j <;> cases decide (a = p) <;> simp
    · rw [decide_eq_false e]; simp
  · unfold upC at hu
    cases hh : up j with
    | true => rfl
    | false => rw [hh] at hu; cases hu
end
end Go.Proofs.Ytpnhdiajiieonaa
