/- Purges, plain: a purge of a purge, each step of one, a beginning's. -/
import Derived.Test.YtncbcjjdnlmjbaaViews
set_option linter.unusedSimpArgs false
set_option linter.unusedVariables false
namespace Go.Proofs.Ytncbcjjdnlmjbaa
open Go.RowKit

theorem keep_zero (fl : Int → Bool) (A : AL) : keepP fl A St.zero = true := by
  unfold keepP
  rw [if_neg (show ¬ callP St.zero.kind from fun h => absurd h.1 (by decide)), if_neg (show ¬ (St.zero.kind = 3 ∨ St.zero.kind = 4) from by decide)]
theorem step_zero (q np : Int) (A : AL) (t : Int) : stepA q np A t St.zero = A ∧ stepT t St.zero = t := by
  unfold stepA stepT
  rw [if_neg (show ¬ St.zero.kind = 2 from by decide), if_neg (show ¬ (St.zero.kind = 1 ∧ t < 1048575) from fun h => absurd h.1 (by decide)), if_neg (show ¬ (St.zero.kind = 1 ∧ t < 1048575) from fun h => absurd h.1 (by decide))]
  exact ⟨rfl, rfl⟩
theorem dropped {fl : Int → Bool} {A : AL} {x : St} (h : keepP fl A x = false) : (callP x.kind ∧ fl x.part = false) ∨ ((x.kind = 3 ∨ x.kind = 4) ∧ fl (ownA A x.dev) = false) := by
  unfold keepP at h
  by_cases h1 : callP x.kind
  · rw [if_pos h1] at h; exact .inl ⟨h1, h⟩
  · rw [if_neg h1] at h
    by_cases h2 : x.kind = 3 ∨ x.kind = 4
    · rw [if_pos h2] at h; exact .inr ⟨h2, h⟩
    · rw [if_neg h2] at h; cases h
theorem dropped_kind {fl : Int → Bool} {A : AL} {x : St} (h : keepP fl A x = false) : 3 ≤ x.kind ∧ x.kind ≤ 16 := by
  rcases dropped h with ⟨h, _⟩ | ⟨h, _⟩
  · have := h.1; have := h.2; omega
  · omega
theorem step_dropped {fl : Int → Bool} {A : AL} {x : St} (h : keepP fl A x = false) (q np t : Int) : stepA q np A t x = A ∧ stepT t x = t := by
  have hk := dropped_kind h
  unfold stepA stepT
  rw [if_neg (show ¬ x.kind = 2 from by omega), if_neg (show ¬ (x.kind = 1 ∧ t < 1048575) from fun h => by omega), if_neg (show ¬ (x.kind = 1 ∧ t < 1048575) from fun h => by omega)]
  exact ⟨rfl, rfl⟩
theorem purge_again (fl : Int → Bool) (q np : Int) (L : List St) : ∀ z, purgeL fl q np z (purgeL fl q np z L) = purgeL fl q np z L := by
  induction L with
  | nil => intro z; rfl
  | cons x L ih =>
    intro z
    by_cases hk : keepP fl z.1 x = true
    · simp only [purgeL, hk, if_pos rfl, if_true]; rw [ih]
    · have hk' : keepP fl z.1 x = false := by simpa using hk
      obtain ⟨e1, e2⟩ := step_dropped hk' q np z.2
      obtain ⟨f1, f2⟩ := step_zero q np z.1 z.2
      have h1 : purgeL fl q np z (x :: L) = St.zero :: purgeL fl q np z L := by
        show (if keepP fl z.1 x then x else St.zero) :: purgeL fl q np (stepA q np z.1 z.2 x, stepT z.2 x) L = _
        rw [hk', e1, e2]; rfl
      rw [h1]
      show (if keepP fl z.1 St.zero then St.zero else St.zero) :: purgeL fl q np (stepA q np z.1 z.2 St.zero, stepT z.2 St.zero) (purgeL fl q np z L) = _
      rw [f1, f2]
      rw [show ((z.1, z.2) : AL × Int) = z from rfl, ih z, ite_self]
theorem purgeC_again (C : Cf) (p : Nat) (L : List St) : purgeC C p (purgeC C p L) = purgeC C p L := purge_again _ _ _ _ _
/-- Each step of a purge. -/
theorem purgeL_at (fl : Int → Bool) (q np : Int) (L : List St) : ∀ z j (hj : j < L.length), (purgeL fl q np z L)[j]'(by rw [purgeL_length]; exact hj) = if keepP fl (runA q np z (L.take j)).1 L[j] then L[j] else St.zero := by
  induction L with
  | nil => intro z j hj; simp at hj
  | cons x L ih =>
    intro z j hj
    cases j with
    | zero => rfl
    | succ j => exact ih _ j (by simpa using hj)
theorem purgeC_at (C : Cf) (p : Nat) (L : List St) (j : Nat) (hj : j < L.length) : (purgeC C p L)[j]'(by rw [purgeC_len]; exact hj) = if keepP (pfl (toL C p)) (runA C.quiet C.parts.length (asgOf C, 0) (L.take j)).1 L[j] then L[j] else St.zero := purgeL_at _ _ _ _ _ _ hj
theorem purgeL_take (fl : Int → Bool) (q np : Int) (L : List St) : ∀ z k, (purgeL fl q np z L).take k = purgeL fl q np z (L.take k) := by
  induction L with
  | nil => intro z k; simp [purgeL]
  | cons x L ih =>
    intro z k
    cases k with
    | zero => rfl
    | succ k => simp only [purgeL, List.take_succ_cons, ih]
theorem purgeC_take (C : Cf) (p : Nat) (L : List St) (k : Nat) : (purgeC C p L).take k = purgeC C p (L.take k) := purgeL_take _ _ _ _ _ _
theorem purgeC_same {C : Cf} {p : Nat} {L : List St} {j : Nat} (hj : j < L.length) : (purgeC C p L)[j]'(by rw [purgeC_len]; exact hj) = L[j] ∨ ((purgeC C p L)[j]'(by rw [purgeC_len]; exact hj) = St.zero ∧ 3 ≤ L[j].kind ∧ L[j].kind ≤ 16) := by
  rw [purgeC_at C p L j hj]
  by_cases hk : keepP (pfl (toL C p)) (runA C.quiet C.parts.length (asgOf C, 0) (L.take j)).1 L[j] = true
  · rw [hk]; exact .inl rfl
  · have hk' : keepP (pfl (toL C p)) (runA C.quiet C.parts.length (asgOf C, 0) (L.take j)).1 L[j] = false := by simpa using hk
    rw [hk']
    exact .inr ⟨rfl, dropped_kind hk'⟩
end Go.Proofs.Ytncbcjjdnlmjbaa
