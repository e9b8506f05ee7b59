/- Chapter 13: one act of a unit, and two units of which one has but device 0. -/
import Derived.Test.YtpnhdiajiieonaaIrqClears
set_option linter.unusedSimpArgs false
set_option linter.unusedVariables false
namespace Go.Proofs.Ytpnhdiajiieonaa
open Go.RowKit

/-! ### One act -/
def ustC (m : Nat) (d v : Int) (f : Nat → Ent) : Int := if m ≤ 1 then routeC 2 2 d v d else if m ≤ 3 then toldC (entE 2 d v f) else if m = 4 then 0 else if m = 5 then toldC (clearC 2 d) else uraiseC 2 2 d v d f
def ustF (m : Nat) (d v : Int) (b : Bool) (f : Nat → Ent) : Nat → Ent := if m ≤ 1 then routeF 2 2 d v d f else if m = 2 then unsetF 2 d v f else if m = 3 then maskF 2 d v b f else if m = 5 then clearF 2 d f else f
def ustS (m : Nat) (d v : Int) (f : Nat → Ent) (S : Nat → Nat → Bool) : Nat → Nat → Bool := if m ≤ 1 then S else if m = 2 then unrouteS 2 d v f S else if m = 3 then S else if m = 4 then tkS 2 d (maskedL 2 f 32) S else if m = 5 then uclearS 2 d S else uraiseS 2 2 d v d f S
def ustL (m : Nat) (d tick : Int) (f : Nat → Ent) (S : Nat → Nat → Bool) : List Iq := if m = 4 then tkL 2 d tick (maskedL 2 f 32) S else []
/-- Of a's state b has what is device 0's and partition 0's. -/
structure LikeU (f g : Nat → Ent) (S T : Nat → Nat → Bool) : Prop where
  e : ∀ k, k < 8 → f k = g k
  s : ∀ k, k < 8 → S 0 k = T 0 k
  a : ∀ k, 8 ≤ k → k < 32 → S 0 k = false
  b : ∀ k, 8 ≤ k → k < 32 → T 0 k = false
  z : ∀ k, k < 32 → T 1 k = false
theorem ix0 (v : Nat) : ix 0 (v : Int) = v := by unfold ix; omega
theorem ix1 (v : Nat) : ix 1 (v : Int) = 8 + v := by unfold ix; omega
theorem entE_like {f g : Nat → Ent} (h : ∀ k, k < 8 → f k = g k) {v : Nat} (hv : v < 8) : entE 2 0 v f = entE 2 0 v g := by
  unfold entE; rw [ix0, h v hv]
theorem lookP_like {f g : Nat → Ent} (h : ∀ k, k < 8 → f k = g k) {v : Nat} (hv : v < 8) : lookP 2 0 v f = lookP 2 0 v g := by
  unfold lookP; rw [entE_like h hv, ix0, h v hv]
theorem upd_like {f g : Nat → Ent} (h : ∀ k, k < 8 → f k = g k) {v : Nat} (x y : Ent) (hx : v < 8 → x = y) : ∀ k, k < 8 → upd f v x k = upd g v y k := fun k hk => by
  by_cases e : k = v
  · subst e; rw [upd_same, upd_same, hx hk]
  · rw [upd_other _ _ e, upd_other _ _ e]; exact h k hk
theorem upd_far {f g : Nat → Ent} (h : ∀ k, k < 8 → f k = g k) {j : Nat} (hj : 8 ≤ j) (x : Ent) : ∀ k, k < 8 → upd f j x k = g k := fun k hk => by
  rw [upd_other _ _ (by omega)]; exact h k hk
theorem msk_masked (f : Nat → Ent) (k : Nat) (hk : k < 32) : msk (maskedL 2 f 32) k = maskB 2 f k := by
  unfold msk maskedL
  cases hm : maskB 2 f k with
  | true =>
    refine decide_eq_true ?_
    rw [List.mem_map]
    exact ⟨toIq 0 k, List.mem_map.2 ⟨k, List.mem_filter.2 ⟨List.mem_range.2 hk, hm⟩, rfl⟩, rfl⟩
  | false =>
    refine decide_eq_false (fun hin => ?_)
    rw [List.mem_map] at hin
    obtain ⟨x, hx, he⟩ := hin
    obtain ⟨j, hj, rfl⟩ := List.mem_map.1 hx
    obtain ⟨h1, h2⟩ := List.mem_filter.1 hj
    have hjk : j = k := by
      unfold dv toIq at he
      simp only [Prod.mk.injEq] at he
      omega
    rw [hjk, hm] at h2; cases h2
theorem LikeU.take {f g : Nat → Ent} {S T : Nat → Nat → Bool} (h : LikeU f g S T) (tick : Int) : tkL 2 0 tick (maskedL 2 f 32) S = tkL 2 0 tick (maskedL 2 g 32) T ∧ LikeU f g (tkS 2 0 (maskedL 2 f 32) S) (tkS 2 0 (maskedL 2 g 32) T) := by
  have hm : ∀ k, k < 8 → msk (maskedL 2 f 32) k = msk (maskedL 2 g 32) k := fun k hk => by
    rw [msk_masked f k (by omega), msk_masked g k (by omega)]; unfold maskB; rw [h.e k hk]
  unfold tkL tkS
  rw [if_pos (by decide), if_pos (by decide), if_pos (by decide), if_pos (by decide), show ((0 : Int).toNat) = 0 from rfl]
  refine ⟨?_, h.e, fun k hk => ?_, fun k h8 hk => ?_, fun k h8 hk => ?_, fun k hk => ?_⟩
  · unfold takeL takeK
    congr 1
    refine List.filter_congr (fun k hk => ?_)
    have hk := List.mem_range.1 hk
    by_cases h8 : k < 8
    · rw [h.s k h8, hm k h8]
    · rw [h.a k (by omega) hk, h.b k (by omega) hk]; rfl
  · unfold takeS; rw [h.s k hk, hm k hk]
  · unfold takeS; rw [h.a k h8 hk]; rfl
  · unfold takeS; rw [h.b k h8 hk]; rfl
  · unfold takeS; rw [h.z k hk]; rfl
section
variable {f g f' g' : Nat → Ent} {S T : Nat → Nat → Bool}
theorem LikeU.setF (h : LikeU f g S T) (e : ∀ k, k < 8 → f' k = g' k) : LikeU f' g' S T := ⟨e, h.s, h.a, h.b, h.z⟩
theorem LikeU.cut (h : LikeU f g S T) (P : Nat → Bool) : LikeU f g (fun a k => S a k && !P k) (fun a k => T a k && !P k) :=
  ⟨h.e, fun k hk => by (try dsimp only); rw [h.s k hk], fun k h8 hk => by (try dsimp only); rw [h.a k h8 hk]; rfl, fun k h8 hk => by (try dsimp only); rw [h.b k h8 hk]; rfl, fun k hk => by (try dsimp only); rw [h.z k hk]; rfl⟩
theorem LikeU.cutA (h : LikeU f g S T) (P : Nat → Bool) (hP : ∀ k, k < 8 → P k = false) : LikeU f g (fun a k => S a k && !P k) T :=
  ⟨h.e, fun k hk => by (try dsimp only); rw [h.s k hk, hP k hk]; simp, fun k h8 hk => by (try dsimp only); rw [h.a k h8 hk]; rfl, h.b, h.z⟩
theorem LikeU.raise0 (h : LikeU f g S T) {v : Nat} (hv : v < 8) : LikeU f g (raiseS 2 0 0 v S) (raiseS 2 0 0 v T) := by
  have hp : raiseP 2 0 0 (v : Int) := by unfold raiseP; omega
  have hk : keyOf 0 (v : Int) = v := by unfold keyOf; omega
  unfold raiseS
  rw [if_pos hp, if_pos hp, hk]
  refine ⟨h.e, fun k hk => by (try dsimp only); rw [h.s k hk], fun k h8 hk => ?_, fun k h8 hk => ?_, fun k hk => ?_⟩
  · (try dsimp only); rw [h.a k h8 hk, decide_eq_false (show ¬ k = v by omega)]; simp
  · (try dsimp only); rw [h.b k h8 hk, decide_eq_false (show ¬ k = v by omega)]; simp
  · (try dsimp only); rw [h.z k hk]; simp
theorem LikeU.raise1 (h : LikeU f g S T) (v : Int) : LikeU f g (raiseS 2 1 1 v S) T := by
  unfold raiseS
  split
  · exact ⟨h.e, fun k hk => by (try dsimp only); rw [h.s k hk]; simp, fun k h8 hk => by (try dsimp only); rw [h.a k h8 hk]; simp, h.b, h.z⟩
  · exact h
theorem LikeU.take1 (h : LikeU f g S T) (ms : List Iq) : LikeU f g (tkS 2 1 ms S) T := by
  unfold tkS
  rw [if_pos (by decide), show ((1 : Int).toNat) = 1 from rfl]
  exact ⟨h.e, fun k hk => by unfold takeS; rw [h.s k hk]; simp, fun k h8 hk => by unfold takeS; rw [h.a k h8 hk]; simp, h.b, h.z⟩
end
theorem LikeU.both {f g : Nat → Ent} {S T : Nat → Nat → Bool} (h : LikeU f g S T) {m v : Nat} (hv : v < 8) (b : Bool) (tick : Int) :
    ustC m 0 v f = ustC m 0 v g ∧ ustL m 0 tick f S = ustL m 0 tick g T ∧ LikeU (ustF m 0 v b f) (ustF m 0 v b g) (ustS m 0 v f S) (ustS m 0 v g T) := by
  have hr : inR 2 0 (v : Int) := by unfold inR; omega
  have he := entE_like h.e hv
  have hl := lookP_like h.e hv
  unfold ustC ustL ustF ustS
  by_cases m1 : m ≤ 1
  · have m4 : ¬ m = 4 := by omega
    simp only [if_pos m1, if_neg m4]
    obtain ⟨_, r1⟩ := route_ok (d := 0) (v := v) (q := 0) (f := f) hr (by omega)
    obtain ⟨_, r2⟩ := route_ok (d := 0) (v := v) (q := 0) (f := g) hr (by omega)
    rw [r1, r2, ix0]
    exact ⟨trivial, trivial, h.setF (upd_like h.e _ _ (fun _ => rfl))⟩
  · by_cases m2 : m = 2
    · subst m2
      refine ⟨by simp [he], rfl, ?_⟩
      simp only [if_neg m1, if_true]
      have h1 : LikeU (unsetF 2 0 v f) (unsetF 2 0 v g) S T := h.setF (by
        unfold unsetF; rw [he, ix0]
        split
        · exact upd_like h.e _ _ (fun _ => rfl)
        · exact h.e)
      unfold unrouteS; rw [he]
      split
      · exact h1.cut _
      · exact h1
    · by_cases m3 : m = 3
      · subst m3
        refine ⟨by simp [he], rfl, ?_⟩
        simp only [if_neg m1, if_neg m2, if_true]
        refine h.setF ?_
        unfold maskF; rw [he, ix0]
        split
        · exact upd_like h.e _ _ (fun hk => by rw [h.e v hk])
        · exact h.e
      · by_cases m4 : m = 4
        · subst m4
          refine ⟨rfl, ?_, ?_⟩
          · simp only [if_true]; exact (h.take tick).1
          · simp only [if_neg m1, if_neg m2, if_neg m3, if_true]; exact (h.take tick).2
        · by_cases m5 : m = 5
          · subst m5
            refine ⟨rfl, rfl, ?_⟩
            simp only [if_neg m1, if_neg m2, if_neg m3, if_neg m4, if_true]
            have h1 : LikeU (clearF 2 0 f) (clearF 2 0 g) S T := h.setF (by
              unfold clearF; rw [if_pos (by decide), if_pos (by decide)]
              intro k hk; (try dsimp only); rw [h.e k hk])
            unfold uclearS
            split
            · exact h1.cut _
            · exact h1
          · have hc : uraiseC 2 2 0 v 0 f = uraiseC 2 2 0 v 0 g := by unfold uraiseC; rw [he, hl]
            have m33 : ¬ m ≤ 3 := by omega
            simp only [if_neg m1, if_neg m2, if_neg m3, if_neg m4, if_neg m5, if_neg m33]
            refine ⟨hc, trivial, ?_⟩
            unfold uraiseS; rw [hc]
            split
            · exact h.raise0 hv
            · exact h
theorem LikeU.one {f g : Nat → Ent} {S T : Nat → Nat → Bool} (h : LikeU f g S T) {m v : Nat} (hv : v < 8) (b : Bool) : LikeU (ustF m 1 v b f) g (ustS m 1 v f S) T := by
  have hr : inR 2 1 (v : Int) := by unfold inR; omega
  unfold ustF ustS
  by_cases m1 : m ≤ 1
  · simp only [if_pos m1]
    obtain ⟨_, r1⟩ := route_ok (d := 1) (v := v) (q := 1) (f := f) hr (by omega)
    rw [r1, ix1]
    exact h.setF (upd_far h.e (by omega) _)
  · by_cases m2 : m = 2
    · subst m2
      simp only [if_neg m1, if_true]
      have h1 : LikeU (unsetF 2 1 v f) g S T := h.setF (by
        unfold unsetF; rw [ix1]
        split
        · exact upd_far h.e (by omega) _
        · exact h.e)
      unfold unrouteS
      split
      · exact h1.cutA _ (fun k hk => by unfold isKey; rw [decide_eq_false (show ¬ (k : Int) / 8 = 1 by omega)]; rfl)
      · exact h1
    · by_cases m3 : m = 3
      · subst m3
        simp only [if_neg m1, if_neg m2, if_true]
        refine h.setF ?_
        unfold maskF; rw [ix1]
        split
        · exact upd_far h.e (by omega) _
        · exact h.e
      · by_cases m4 : m = 4
        · subst m4
          simp only [if_neg m1, if_neg m2, if_neg m3, if_true]; exact h.take1 _
        · by_cases m5 : m = 5
          · subst m5
            simp only [if_neg m1, if_neg m2, if_neg m3, if_neg m4, if_true]
            have h1 : LikeU (clearF 2 1 f) g S T := h.setF (by
              unfold clearF; rw [if_pos (by decide)]
              intro k hk; (try dsimp only); rw [if_neg (by simp; omega), h.e k hk])
            unfold uclearS
            split
            · exact h1.cutA _ (fun k hk => decide_eq_false (by omega))
            · exact h1
          · simp only [if_neg m1, if_neg m2, if_neg m3, if_neg m4, if_neg m5]
            unfold uraiseS
            split
            · exact h.raise1 _
            · exact h
/-- Two units. -/
structure U2 (w0 W : World) (u v : Nat) (f g : Nat → Ent) (S T : Nat → Nat → Bool) (F G : Nat → Prop) : Prop where
  a : US w0 W u 2 2 f S F
  b : US w0 W v 2 2 g T G
  apart : ∀ k, F k → ¬ G k
section
variable {w0 W W' : World} {u v : Nat} {f f' g : Nat → Ent} {S S' T : Nat → Nat → Bool} {F F' G : Nat → Prop}
theorem U2.keepN (h : U2 w0 W u v f g S T F G) (hC : Chg (fun _ => False) W W') : U2 w0 W' u v f g S T F G := ⟨h.a.keepN hC, h.b.keepN hC, h.apart⟩
theorem U2.swap (h : U2 w0 W u v f g S T F G) : U2 w0 W v u g f T S G F := ⟨h.b, h.a, fun k h1 h2 => h.apart k h2 h1⟩
theorem U2.step (h : U2 w0 W u v f g S T F G) (ha : US w0 W' u 2 2 f' S' F') (hf : FootOf W F F') (hC : Chg F W W') : U2 w0 W' u v f' g S' T F' G :=
  ⟨ha, h.b.other hC (fun k hk => ⟨fun hG => h.apart k hk hG, h.a.ge k hk⟩), fun k hk hG => by
    rcases hf k hk with h1 | h1
    · exact h.apart k h1 hG
    · have := h.b.at_.lt k hG; omega⟩
theorem U2.other (h : U2 w0 W u v f g S T F G) {X : Nat → Prop} (hC : Chg X W W') (hX : ∀ k, X k → ¬ F k ∧ ¬ G k ∧ w0.heap.size ≤ k) : U2 w0 W' u v f g S T F G :=
  ⟨h.a.other hC (fun k hk => ⟨(hX k hk).1, (hX k hk).2.2⟩), h.b.other hC (fun k hk => ⟨(hX k hk).2.1, (hX k hk).2.2⟩), h.apart⟩
end
end Go.Proofs.Ytpnhdiajiieonaa
