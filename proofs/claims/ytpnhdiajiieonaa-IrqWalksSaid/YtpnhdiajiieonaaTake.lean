/- Sets of vectors that wait: Take. -/
import Derived.Test.YtpnhdiajiieonaaClear
set_option linter.unusedSimpArgs false
set_option linter.unusedVariables false
namespace Go.Proofs.Ytpnhdiajiieonaa
open Go.RowKit

structure Iq where
  t : Int
  d : Int
  v : Int
def iqc (x : Iq) : List Value := [.int .i64 x.t, .int .i64 x.d, .int .i64 x.v]
theorem iqc_len (x : Iq) : (iqc x).length = 3 := rfl
def dv (x : Iq) : Int × Int := (x.d, x.v)
/-- Is a vector masked? -/
def msk (ms : List Iq) (k : Nat) : Bool := decide (((k : Int) / 8, (k : Int) % 8) ∈ ms.map dv)
def takeK (S : Nat → Nat → Bool) (ms : List Iq) (part : Nat) (c : Nat) : List Nat := (List.range c).filter fun k => S part k && !msk ms k
def toIq (tick : Int) (k : Nat) : Iq := ⟨tick, (k : Int) / 8, (k : Int) % 8⟩
def takeL (S : Nat → Nat → Bool) (ms : List Iq) (part : Nat) (tick : Int) : List Iq := (takeK S ms part 32).map (toIq tick)
def takeS (S : Nat → Nat → Bool) (ms : List Iq) (part : Nat) : Nat → Nat → Bool := fun a k => S a k && (!decide (a = part) || msk ms k)
/-- One row is turned, its new elements in a block that none of the sets had. -/
theorem SetsV.put2 {w w' : World} {p R n : Nat} {vs : Array Value} {f : Nat → List Nat} (h : SetsV w p R n vs f) {i : Nat} (hi : i < n) {v v' : Value} {L' : List Nat} (hv : vs[i]? = some v)
    (hR : w'.heap[R]? = some (.cells (vs.setIfInBounds i v') 157 (0, 0))) (ho : KRow w' 0 v' L') (hh : HeapFrom 0 L'.length L') (hd : L'.Nodup) (hk : ∀ k ∈ L', k < 32) (hf : ∀ g, v'.ownBlock = some g → v.ownBlock = some g ∨ ¬ SetsF R vs g) (hC : Chg (fun j => j = R ∨ some j = v.ownBlock) w w') :
    SetsV w' p R n (vs.setIfInBounds i v') (upd f i L') ∧ (∀ k, SetsF R (vs.setIfInBounds i v') k → SetsF R vs k ∨ v'.ownBlock = some k) := by
  have hsz := h.size
  have get : ∀ (j : Nat) (u : Value), (vs.setIfInBounds i v')[j]? = some u → (j = i ∧ u = v') ∨ (j ≠ i ∧ vs[j]? = some u) := fun j u hu => by
    by_cases e : i = j
    · subst e
      rw [Array.getElem?_setIfInBounds_self_of_lt (by omega)] at hu
      injection hu with hu; exact .inl ⟨rfl, hu.symm⟩
    · rw [Array.getElem?_setIfInBounds_ne e] at hu
      exact .inr ⟨fun h => e h.symm, hu⟩
  have hpR : p ≠ R := fun e => h.notp (.inl e)
  refine ⟨⟨by simpa using hsz, hC.at h.hp ?_, hR, fun j hj => ?_, fun j hj => ?_, fun j hj => ?_, fun j hj => ?_, fun j j' u u' g hne h1 h2 h3 h4 => ?_⟩, ?_⟩
  · rintro (e | e)
    · exact hpR e
    · exact h.notp (.inr ⟨i, v, hv, e.symm⟩)
  · by_cases e : i = j
    · subst e
      exact ⟨v', Array.getElem?_setIfInBounds_self_of_lt (by omega), by rw [upd_same]; exact ho⟩
    · obtain ⟨u, h1, h2⟩ := h.rows j hj
      refine ⟨u, by rw [Array.getElem?_setIfInBounds_ne e]; exact h1, ?_⟩
      rw [upd_other _ _ (fun h => e h.symm)]
      refine h2.keep hC (fun k hk => ?_)
      rintro (e2 | e2)
      · exact own_type h2 h.hR (by rw [hk, e2])
      · exact h.apart j i u v k (fun h => e h.symm) h1 hv hk e2.symm
  · by_cases e : j = i
    · subst e; rw [upd_same]; exact hh
    · rw [upd_other _ _ e]; exact h.heap j hj
  · by_cases e : j = i
    · subst e; rw [upd_same]; exact hd
    · rw [upd_other _ _ e]; exact h.nodup j hj
  · by_cases e : j = i
    · subst e; rw [upd_same]; exact hk
    · rw [upd_other _ _ e]; exact h.key j hj
  · rcases get j u h1 with ⟨rfl, rfl⟩ | ⟨hj, h1'⟩ <;> rcases get j' u' h2 with ⟨rfl, rfl⟩ | ⟨hj', h2'⟩
    · exact hne rfl
    · rcases hf g h3 with hf | hf
      · exact h.apart j j' v u' g hne hv h2' hf h4
      · exact hf (.inr ⟨j', u', h2', h4⟩)
    · rcases hf g h4 with hf | hf
      · exact h.apart j' j v u g (fun e => hne e.symm) hv h1' hf h3
      · exact hf (.inr ⟨j, u, h1', h3⟩)
    · exact h.apart j j' u u' g hne h1' h2' h3 h4
  · rintro k (e | ⟨j, u, h1, h2⟩)
    · exact .inl (.inl e)
    · rcases get j u h1 with ⟨rfl, rfl⟩ | ⟨hj, h1'⟩
      · exact .inr h2
      · exact .inl (.inr ⟨j, u, h1', h2⟩)
/-- The state of Take's loop: all below c are out of the row. -/
structure TakeInv (S : Nat → Nat → Bool) (ms : List Iq) (part : Nat) (c : Nat) (Lr Ls : List Nat) (ks : List Nat) : Prop where
  c32 : c ≤ 32
  row : ∀ k, k < 32 → (k ∈ Lr ↔ S part k = true ∧ c ≤ k)
  stay : ∀ k, k < 32 → (k ∈ Ls ↔ S part k = true ∧ msk ms k = true ∧ k < c)
  out : ks = takeK S ms part c
theorem takeK_to {S : Nat → Nat → Bool} {ms : List Iq} {part c m : Nat} (hm : c ≤ m) (h : ∀ k, c ≤ k → k < m → S part k = false) : takeK S ms part m = takeK S ms part c := by
  induction m with
  | zero => rw [show c = 0 from by omega]
  | succ m ih =>
    by_cases e : c = m + 1
    · rw [e]
    · unfold takeK at ih ⊢
      rw [List.range_succ, List.filter_append, ih (by omega) (fun k h1 h2 => h k h1 (by omega))]
      simp [h m (by omega) (by omega)]
theorem TakeInv.next {S : Nat → Nat → Bool} {ms : List Iq} {part c m : Nat} {Lr Lr' Ls ks : List Nat} (h : TakeInv S ms part c Lr Ls ks) (hp : (Lr' ++ [m]).Perm Lr) (hnd : Lr.Nodup) (hmin : ∀ x ∈ Lr, m ≤ x) (h32 : ∀ x ∈ Lr, x < 32) :
    (msk ms m = true → ∀ Ls', (∀ k, k ∈ Ls' ↔ k ∈ Ls ∨ k = m) → TakeInv S ms part (m + 1) Lr' Ls' ks) ∧ (msk ms m = false → TakeInv S ms part (m + 1) Lr' Ls (ks ++ [m])) := by
  have hmem : m ∈ Lr := hp.mem_iff.1 (by simp)
  have hm32 := h32 m hmem
  obtain ⟨hSm, hcm⟩ := (h.row m hm32).1 hmem
  have hnd' : (Lr' ++ [m]).Nodup := hp.nodup_iff.2 hnd
  have hgap : ∀ k, c ≤ k → k < m → S part k = false := fun k h1 h2 => by
    cases hs : S part k with
    | false => rfl
    | true => have := hmin k ((h.row k (by omega)).2 ⟨hs, h1⟩); omega
  have hrow : ∀ k, k < 32 → (k ∈ Lr' ↔ S part k = true ∧ m + 1 ≤ k) := fun k hk => by
    have h1 : k ∈ Lr' ↔ k ∈ Lr ∧ k ≠ m := by
      have h2 := hp.mem_iff (a := k)
      rw [List.mem_append, List.mem_singleton] at h2
      constructor
      · intro hh
        refine ⟨h2.1 (.inl hh), fun e => ?_⟩
        subst e
        exact (List.nodup_append.1 hnd').2.2 k hh k (by simp) rfl
      · rintro ⟨hh, hne⟩
        rcases h2.2 hh with h3 | h3
        · exact h3
        · exact absurd h3 hne
    rw [h1, h.row k hk]
    constructor
    · rintro ⟨⟨a, b⟩, d⟩
      refine ⟨a, ?_⟩
      rcases Nat.lt_or_ge k m with e | e
      · rw [hgap k b e] at a; cases a
      · omega
    · rintro ⟨a, b⟩
      exact ⟨⟨a, by omega⟩, by omega⟩
  have hout : takeK S ms part m = ks := by rw [takeK_to hcm hgap, h.out]
  have hsucc : takeK S ms part (m + 1) = ks ++ (if msk ms m then [] else [m]) := by
    rw [← hout]
    unfold takeK
    rw [List.range_succ, List.filter_append]
    congr 1
    cases hmk : msk ms m <;> simp [hSm, hmk]
  refine ⟨fun hmk Ls' hL => ⟨by omega, hrow, fun k hk => ?_, by rw [hsucc, hmk]; simp⟩, fun hmk => ⟨by omega, hrow, fun k hk => ?_, by rw [hsucc, hmk]; simp⟩⟩
  · rw [hL, h.stay k hk]
    constructor
    · rintro (⟨a, b, d⟩ | rfl)
      · exact ⟨a, b, by omega⟩
      · exact ⟨hSm, hmk, by omega⟩
    · rintro ⟨a, b, d⟩
      by_cases e : k = m
      · exact .inr e
      · left
        refine ⟨a, b, ?_⟩
        rcases Nat.lt_or_ge k c with e2 | e2
        · exact e2
        · rw [hgap k e2 (by omega)] at a; cases a
  · rw [h.stay k hk]
    constructor
    · rintro ⟨a, b, d⟩; exact ⟨a, b, by omega⟩
    · rintro ⟨a, b, d⟩
      refine ⟨a, b, ?_⟩
      rcases Nat.lt_or_ge k c with e2 | e2
      · exact e2
      · exfalso
        by_cases e : k = m
        · subst e; rw [hmk] at b; cases b
        · rw [hgap k e2 (by omega)] at a; cases a
end Go.Proofs.Ytpnhdiajiieonaa
