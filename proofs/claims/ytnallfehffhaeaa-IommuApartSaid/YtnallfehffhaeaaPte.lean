/- Plain words on the words of a table: no program in sight. -/
import Derived.Test.YtnallfehffhaeaaWords
set_option linter.unusedSimpArgs false
set_option linter.unusedVariables false
namespace Go.Proofs.Ytnallfehffhaeaa

/-- A frame and a right that may be a word. -/
def mayE (f p : Int) : Prop := (p = 0 ∧ f = 0) ∨ (1 ≤ p ∧ p ≤ 3 ∧ 0 ≤ f ∧ f < 64)
instance (f p : Int) : Decidable (mayE f p) := by unfold mayE; infer_instance
def putE (f p : Int) : Int := if p = 0 then 0 else 1 + 2 * p + 4096 * f
def getE (w : Int) : Option (Int × Int) :=
  if w = 0 then some (0, 0)
  else if 0 ≤ w ∧ 1 ≤ w / 2 % 4 ∧ w / 4096 < 64 ∧ w = 1 + 2 * (w / 2 % 4) + 4096 * (w / 4096) then some (w / 4096, w / 2 % 4) else none
theorem getE_put {f p : Int} (h : mayE f p) : getE (putE f p) = some (f, p) := by
  unfold mayE at h
  unfold getE putE
  by_cases hp : p = 0
  · rw [if_pos hp, if_pos rfl]; rcases h with ⟨_, h⟩ | h
    · rw [hp, h]
    · omega
  · rw [if_neg hp, if_neg (by omega)]
    have a : (1 + 2 * p + 4096 * f) / 4096 = f := by omega
    have b : (1 + 2 * p + 4096 * f) / 2 % 4 = p := by omega
    rw [a, b, if_pos (by omega)]
theorem getE_may {w f p : Int} (h : getE w = some (f, p)) : mayE f p ∧ putE f p = w := by
  unfold getE at h
  unfold mayE putE
  split at h
  · injection h with h; injection h with h1 h2
    subst h1 h2; simp_all
  · split at h
    · injection h with h; injection h with h1 h2
      rw [if_neg (by omega)]; omega
    · cases h
theorem putE_bound {f p : Int} (h : mayE f p) : 0 ≤ putE f p ∧ putE f p < 262144 := by
  unfold mayE at h; unfold putE; split <;> omega
/-- The word at k of a frame. -/
def wordK (bs : List UInt8) (frame k : Int) : Int := wordR bs (frame * 64 + k * 4)
theorem wordP_K {bs : List UInt8} {frame k : Int} (hf : frameP bs frame) (hk : 0 ≤ k ∧ k < 16) : wordP bs (frame * 64 + k * 4) := by
  unfold frameP at hf; unfold wordP mayP; omega
theorem wordK_put {bs : List UInt8} {f k f' k' x : Int} (hf : frameP bs f) (hk : 0 ≤ k ∧ k < 16) (hf' : frameP bs f') (hk' : 0 ≤ k' ∧ k' < 16) (hx : 0 ≤ x ∧ x < 4294967296) :
    wordK (putB bs (f * 64 + k * 4) x) f' k' = if f' = f ∧ k' = k then x else wordK bs f' k' := by
  unfold wordK
  rw [wordR_put _ _ _ _ ⟨wordP_K hf hk, hx.1, by omega⟩ (wordP_K hf' hk')]
  by_cases e : f' = f ∧ k' = k
  · rw [if_pos e, if_pos (by rw [e.1, e.2])]
  · rw [if_neg e, if_neg (by omega)]
theorem wordK_zero {bs : List UInt8} {f f' k' : Int} (hf : frameP bs f) (hf' : frameP bs f') (hk' : 0 ≤ k' ∧ k' < 16) :
    wordK (zeroB bs f) f' k' = if f' = f then 0 else wordK bs f' k' := by
  unfold wordK
  by_cases e : f' = f
  · subst e; rw [if_pos rfl, wordR_zero_in _ _ _ hf (by omega) (by omega)]
  · rw [if_neg e, wordR_zero_out _ _ _ hf (wordP_K hf' hk') (by omega)]
theorem frameP_len {bs bs' : List UInt8} (h : bs'.length = bs.length) (f : Int) : frameP bs' f ↔ frameP bs f := by unfold frameP; rw [h]
/-- A step of a walk: the entry, the error. -/
def stepE (bs : List UInt8) (frame k : Int) : (Int × Int) × Int :=
  match getE (wordK bs frame k) with
  | none => ((0, 0), 502)
  | some (f, p) => if p = 0 then ((0, 0), 501) else if f < (bs.length : Int) / 64 then ((f, p), 0) else ((0, 0), 502)
/-- The leaf that the i-th word of a root leads to, the error. -/
def leafI (bs : List UInt8) (root i : Int) : Int × Int :=
  let s := stepE bs root i
  if s.2 ≠ 0 then (0, s.2) else if s.1.2 = 3 then (s.1.1, 0) else (0, 502)
def pageP (page : Int) : Prop := 0 ≤ page ∧ page < 256
instance (p : Int) : Decidable (pageP p) := by unfold pageP; infer_instance
def walkE (bs : List UInt8) (root page : Int) : (Int × Int) × Int :=
  if pageP page ∧ frameP bs root then
    let l := leafI bs root (page / 16)
    if l.2 ≠ 0 then ((0, 0), l.2) else stepE bs l.1 (page % 16)
  else ((0, 0), 500)
theorem stepE_cases (bs : List UInt8) (frame k : Int) :
    ((stepE bs frame k).2 = 0 ∧ ∃ f p, getE (wordK bs frame k) = some (f, p) ∧ 1 ≤ p ∧ p ≤ 3 ∧ 0 ≤ f ∧ f < (bs.length : Int) / 64 ∧ stepE bs frame k = ((f, p), 0)) ∨
    stepE bs frame k = ((0, 0), 501) ∨ stepE bs frame k = ((0, 0), 502) := by
  unfold stepE
  cases hg : getE (wordK bs frame k) with
  | none => exact .inr (.inr rfl)
  | some q =>
    obtain ⟨f, p⟩ := q
    have hm := (getE_may hg).1
    unfold mayE at hm
    by_cases hp : p = 0
    · right; left; simp [hp]
    · by_cases hf : f < (bs.length : Int) / 64
      · left; simp only [hp, hf, if_true, if_false]
        exact ⟨trivial, f, p, rfl, by omega, by omega, by omega, hf, rfl⟩
      · right; right; simp [hp, hf]
theorem leafI_cases (bs : List UInt8) (root i : Int) :
    (∃ f, stepE bs root i = ((f, 3), 0) ∧ leafI bs root i = (f, 0) ∧ frameP bs f) ∨ leafI bs root i = (0, 501) ∨ leafI bs root i = (0, 502) := by
  unfold leafI
  rcases stepE_cases bs root i with ⟨_, f, p, _, h1, h2, h3, h4, h5⟩ | h | h
  · rw [h5]
    by_cases hp : p = 3
    · subst hp; exact .inl ⟨f, rfl, rfl, by unfold frameP; omega⟩
    · right; right; simp [hp]
  · rw [h]; exact .inr (.inl rfl)
  · rw [h]; exact .inr (.inr rfl)
end Go.Proofs.Ytnallfehffhaeaa
