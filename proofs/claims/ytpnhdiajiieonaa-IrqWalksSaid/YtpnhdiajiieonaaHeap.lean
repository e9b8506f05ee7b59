/- Plain words on heaps: no program in sight. -/
set_option linter.unusedSimpArgs false
set_option linter.unusedVariables false
namespace Go.Proofs.Ytpnhdiajiieonaa

def gk (L : List Nat) (i : Nat) : Nat := L.getD i 0
theorem gk_get {L : List Nat} {i : Nat} (h : i < L.length) : gk L i = L[i] := by
  unfold gk; rw [List.getD_eq_getElem?_getD, List.getElem?_eq_getElem h]; rfl
def swp (L : List Nat) (i j : Nat) : List Nat := (L.set i (gk L j)).set j (gk L i)
theorem swp_len (L : List Nat) (i j : Nat) : (swp L i j).length = L.length := by simp [swp]
theorem swp_get {L : List Nat} {i j : Nat} (hi : i < L.length) (hj : j < L.length) (k : Nat) :
    gk (swp L i j) k = if k = j then gk L i else if k = i then gk L j else gk L k := by
  unfold swp
  generalize gk L i = x
  generalize gk L j = y
  unfold gk
  simp only [List.getD_eq_getElem?_getD, List.getElem?_set, List.length_set]
  by_cases h1 : k = j
  · subst h1; rw [if_pos rfl, if_pos hj, if_pos rfl]; rfl
  · rw [if_neg (fun h => h1 h.symm), if_neg h1]
    by_cases h2 : k = i
    · subst h2; rw [if_pos rfl, if_pos hi, if_pos rfl]; rfl
    · rw [if_neg (fun h => h2 h.symm), if_neg h2]
theorem swp_perm {L : List Nat} {i j : Nat} (hi : i < L.length) (hj : j < L.length) : (swp L i j).Perm L := by
  unfold swp
  rw [gk_get hi, gk_get hj]
  exact List.set_set_perm hi hj

/-- From s on each parent, below n, is at most its child. -/
def HeapFrom (s n : Nat) (L : List Nat) : Prop := ∀ k, 0 < k → k < n → s ≤ (k - 1) / 2 → gk L ((k - 1) / 2) ≤ gk L k
def UpInv (j n : Nat) (L : List Nat) : Prop :=
  (∀ k, 0 < k → k < n → k ≠ j → gk L ((k - 1) / 2) ≤ gk L k) ∧
  (∀ k, 0 < k → k < n → (k - 1) / 2 = j → 0 < j → gk L ((j - 1) / 2) ≤ gk L k)
def DownInv (s i n : Nat) (L : List Nat) : Prop :=
  (∀ k, 0 < k → k < n → s ≤ (k - 1) / 2 → (k - 1) / 2 ≠ i → gk L ((k - 1) / 2) ≤ gk L k) ∧
  (∀ k, 0 < k → k < n → (k - 1) / 2 = i → 0 < i → s ≤ (i - 1) / 2 → gk L ((i - 1) / 2) ≤ gk L k)

theorem up_start {L : List Nat} {x : Nat} (h : HeapFrom 0 L.length L) : UpInv L.length (L.length + 1) (L ++ [x]) := by
  have g : ∀ k, k < L.length → gk (L ++ [x]) k = gk L k := fun k hk => by
    unfold gk; simp only [List.getD_eq_getElem?_getD]; rw [List.getElem?_append_left hk]
  refine ⟨fun k h0 h1 h2 => ?_, fun k h0 h1 h2 h3 => by omega⟩
  rw [g _ (by omega), g _ (by omega)]
  exact h k h0 (by omega) (by omega)
theorem up_done {L : List Nat} {j n : Nat} (h : UpInv j n L) (hd : j = 0 ∨ gk L ((j - 1) / 2) ≤ gk L j) : HeapFrom 0 n L := by
  intro k h0 h1 _
  by_cases hk : k = j
  · subst hk; rcases hd with hd | hd
    · omega
    · exact hd
  · exact h.1 k h0 h1 hk
theorem up_step {L : List Nat} {j n : Nat} (h : UpInv j n L) (hn : n ≤ L.length) (hj : j < n) (h0 : 0 < j) (hlt : gk L j < gk L ((j - 1) / 2)) :
    UpInv ((j - 1) / 2) n (swp L ((j - 1) / 2) j) := by
  have hp : (j - 1) / 2 < j := by omega
  have e := swp_get (L := L) (i := (j - 1) / 2) (j := j) (by omega) (by omega)
  refine ⟨fun k k0 k1 k2 => ?_, fun k k0 k1 k2 k3 => ?_⟩
  · rw [e, e]
    by_cases a : k = j
    · subst a
      rw [if_neg (by omega), if_pos rfl, if_pos rfl]; omega
    · rw [if_neg (show k ≠ j from a), if_neg k2]
      by_cases b : (k - 1) / 2 = j
      · rw [if_pos b]
        exact h.2 k k0 k1 b h0
      · rw [if_neg b]
        by_cases c : (k - 1) / 2 = (j - 1) / 2
        · rw [if_pos c]
          have := h.1 k k0 k1 a
          rw [c] at this; omega
        · rw [if_neg c]; exact h.1 k k0 k1 a
  · rw [e, e]
    have hgp := h.1 ((j - 1) / 2) k3 (by omega) (by omega)
    rw [if_neg (show ((j - 1) / 2 - 1) / 2 ≠ j by omega), if_neg (show ((j - 1) / 2 - 1) / 2 ≠ (j - 1) / 2 by omega)]
    by_cases a : k = j
    · rw [if_pos a]; exact hgp
    · rw [if_neg a, if_neg (show k ≠ (j - 1) / 2 by omega)]
      have := h.1 k k0 k1 a
      rw [k2] at this; omega

theorem down_start {L : List Nat} {s n : Nat} (h : HeapFrom (s + 1) n L) : DownInv s s n L :=
  ⟨fun k k0 k1 k2 k3 => h k k0 k1 (by omega), fun k k0 k1 k2 k3 k4 => by omega⟩
theorem down_done {L : List Nat} {s i n : Nat} (h : DownInv s i n L) (hd : ∀ k, 0 < k → k < n → (k - 1) / 2 = i → gk L i ≤ gk L k) : HeapFrom s n L := by
  intro k k0 k1 k2
  by_cases a : (k - 1) / 2 = i
  · rw [a]; exact hd k k0 k1 a
  · exact h.1 k k0 k1 k2 a
theorem down_step {L : List Nat} {s i j n : Nat} (h : DownInv s i n L) (hn : n ≤ L.length) (hs : s ≤ i) (hj0 : 0 < j) (hj : j < n) (hp : (j - 1) / 2 = i) (hlt : gk L j < gk L i)
    (hmin : ∀ k, 0 < k → k < n → (k - 1) / 2 = i → gk L j ≤ gk L k) : DownInv s j n (swp L i j) := by
  have hij : i < j := by omega
  have e := swp_get (L := L) (i := i) (j := j) (by omega) (by omega)
  refine ⟨fun k k0 k1 k2 k3 => ?_, fun k k0 k1 k2 k3 k4 => ?_⟩
  · rw [e, e]
    rw [if_neg k3]
    by_cases a : k = j
    · subst a
      rw [hp, if_pos rfl, if_pos rfl]; omega
    · rw [if_neg a]
      by_cases b : k = i
      · subst b
        rw [if_neg (show (k - 1) / 2 ≠ k by omega), if_pos rfl]
        exact h.2 j hj0 hj hp k0 k2
      · rw [if_neg b]
        by_cases c : (k - 1) / 2 = i
        · rw [if_pos c]; exact hmin k k0 k1 c
        · rw [if_neg c]; exact h.1 k k0 k1 k2 c
  · rw [e, e]
    rw [hp, if_neg (show i ≠ j by omega), if_pos rfl, if_neg (show k ≠ j by omega), if_neg (show k ≠ i by omega)]
    have := h.1 k k0 k1 (by omega) (by omega)
    rw [k2] at this; exact this
/-- The head of a heap is its least one. -/
theorem heap_head {L : List Nat} {n : Nat} (h : HeapFrom 0 n L) : ∀ k, k < n → gk L 0 ≤ gk L k := by
  intro k
  induction k using Nat.strongRecOn with
  | _ k ih =>
    intro hk
    by_cases h0 : k = 0
    · subst h0; exact Nat.le_refl _
    · exact Nat.le_trans (ih ((k - 1) / 2) (by omega) (by omega)) (h k (by omega) hk (by omega))
theorem heap_head_mem {L : List Nat} (h : HeapFrom 0 L.length L) (x : Nat) (hx : x ∈ L) : gk L 0 ≤ x := by
  obtain ⟨i, hi, rfl⟩ := List.mem_iff_getElem.1 hx
  have := heap_head h i hi
  rw [gk_get hi] at this; exact this
theorem heap_take {L : List Nat} {n : Nat} (h : HeapFrom 0 n L) (hn : n ≤ L.length) : HeapFrom 0 (L.take n).length (L.take n) := by
  have hl : (L.take n).length = n := by simp; omega
  have g : ∀ k, k < n → gk (L.take n) k = gk L k := fun k hk => by
    unfold gk; simp only [List.getD_eq_getElem?_getD]; rw [List.getElem?_take, if_pos hk]
  rw [hl]
  intro k k0 k1 k2
  rw [g _ (by omega), g _ k1]
  exact h k k0 k1 k2
theorem heap_small {L : List Nat} {s : Nat} (h : L.length ≤ 2 * s + 1) : HeapFrom s L.length L := fun k k0 k1 k2 => by omega

end Go.Proofs.Ytpnhdiajiieonaa
