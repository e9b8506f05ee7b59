/- Arguments opened: a slice whose elements hold slices themselves; their lengths fit the reach. -/
import Derived.Test.YtncbcjjdnlmjbaaOpen
import Derived.OpenShut
set_option linter.unusedSimpArgs false
set_option linter.unusedVariables false
namespace Go.Proofs.Ytncbcjjdnlmjbaa
open Go.RowKit Go.ChangeShapes Go.WideShapes Go.Deep

theorem weights_of_mem {H : Type} {P : Program} {e : TypeId} : ∀ {l : List (DataW H)} {x : DataW H}, x ∈ l → ∀ k ∈ x.weights P e, k ∈ DataW.weightsAll P e l
  | [], _, h, _, _ => by simp at h
  | y :: l, x, h, k, hk => by
    simp only [DataW.weightsAll, List.mem_append]
    rcases List.mem_cons.1 h with h | h
    · subst h; exact .inl hk
    · exact .inr (weights_of_mem h k hk)
section
variable {H : Type} {enc : TypeId × Value → H} {P : Program} {w : World} {base : Nat} {spare : Nat → Bool} {held : Bool}
theorem open_listW {α : Type} {cells : α → List Value} {Wf : α → Prop} {t e : TypeId} {C : Nat} {A : Option Addr} {n c : Nat} {d : DataW H} {p : List MemPlace}
    (ht : P.underlying t = some (.slice e)) (hC : P.cellsOf e = C) (hpos : 0 < C) (hwt : ∀ k ∈ DataW.weights P t d, k ≤ reachBytes)
    (hα : ∀ m cs y, DataW.trod enc P w base spare held m e cs = some y → (∀ k ∈ DataW.weights P e y.1, k ≤ reachBytes) → ∃ x : α, cs = cells x ∧ Wf x) (hlen : ∀ x, (cells x).length = C)
    (h : DataW.Trod enc P w base spare held t (.slice A n c) d p) :
    n ≤ maxLen ∧ n * P.bytesOf e ≤ reachBytes ∧ ∃ xs : List α, n = xs.length ∧ RowC w A (xs.flatMap cells) ∧ ∀ x ∈ xs, Wf x := by
  obtain ⟨fuel, hf⟩ := h
  rcases open_slice ht hf with ⟨hcs, _⟩ | ⟨a, len, cap, m, k, D, Pl, hcs, hb, hl, hm, hmm, hx, hi⟩
  · simp [Value.cells] at hcs
    obtain ⟨rfl, rfl, rfl⟩ := hcs
    exact ⟨by unfold maxLen; omega, by simp, [], rfl, fun j u hu => by simp at hu, by simp⟩
  · simp [Value.cells] at hcs
    obtain ⟨rfl, rfl, rfl⟩ := hcs
    rw [hC] at hi
    have hnm : n ≤ m := by rw [hmm]; split <;> omega
    have hd : d = .slice ((List.range n).map D) ((List.range (m - n)).map fun j => D (n + j)) := congrArg Prod.fst hx
    subst hd
    rw [DataW.weights, ht] at hwt
    have hwn : n * P.bytesOf e ≤ reachBytes := by
      have := hwt _ (List.mem_cons_self)
      simp only [List.length_map, List.length_range] at this
      exact Nat.le_trans (Nat.mul_le_mul_right _ (by omega)) this
    have hwD : ∀ j, j < n → ∀ k ∈ DataW.weights P e (D j), k ≤ reachBytes := fun j hj k hk =>
      hwt k (List.mem_cons_of_mem _ (List.mem_append_left _ (weights_of_mem (List.mem_map_of_mem (List.mem_range.2 hj)) k hk)))
    have key : ∀ q, q ≤ n → ∃ xs : List α, q = xs.length ∧ RowC w (some a) (xs.flatMap cells) ∧ ∀ x ∈ xs, Wf x := by
      intro q
      induction q with
      | zero => exact fun _ => ⟨[], rfl, fun j u hu => by simp at hu, by simp⟩
      | succ q ih =>
        intro hq
        obtain ⟨xs, hlx, hr, hw⟩ := ih (by omega)
        obtain ⟨cs', hc, hd⟩ := hi q (by omega)
        obtain ⟨x, rfl, hwx⟩ := hα _ _ _ hd (hwD q (by omega))
        obtain ⟨_, hcl, hat⟩ := World.cells?_some hc
        refine ⟨xs ++ [x], by simp [← hlx], fun j u hu => ?_, fun y hy => ?_⟩
        · rw [List.flatMap_append] at hu
          rcases Nat.lt_or_ge j (xs.flatMap cells).length with hj | hj
          · rw [List.getElem?_append_left hj] at hu
            exact hr j u hu
          · rw [List.getElem?_append_right hj] at hu
            simp only [List.flatMap_cons, List.flatMap_nil, List.append_nil] at hu
            rw [flat_len cells C hlen, ← hlx] at hu hj
            have hjl : j - q * C < C := by
              have := (List.getElem?_eq_some_iff.1 hu).1
              rw [hlen] at this; exact this
            have hcell := hat _ hjl
            rw [hu] at hcell
            obtain ⟨b, o, sp⟩ := a
            have hsp : sp = none := by
              cases sp with
              | none => rfl
              | some s =>
                exfalso
                obtain ⟨cs0, hc0, hd0⟩ := hi 0 (by omega)
                obtain ⟨x0, rfl, _⟩ := hα _ _ _ hd0 (hwD 0 (by omega))
                have h1 := (World.cells?_some hc0).2.2 0 hpos
                have h2 : (cells x0)[0]? ≠ none := by
                  intro h1; rw [List.getElem?_eq_none_iff, hlen] at h1; omega
                simp only [Nat.zero_mul, Addr.add, if_true] at h1
                apply h2
                rw [← h1]
                simp only [World.cell?]
                split <;> simp
            subst hsp
            refine ⟨b, o, rfl, ?_⟩
            rw [← hcell, Go.Deep.add_add]
            generalize q * C = z at hj ⊢
            rw [show z + (j - z) = j from by omega]
            unfold Addr.add
            split <;> simp_all
        · rcases List.mem_append.1 hy with h | h
          · exact hw y h
          · simp at h; subst h; exact hwx
    exact ⟨by omega, hwn, key n (Nat.le_refl _)⟩
/-- A field of a struct: its data fit the reach. -/
theorem weights_field {t : TypeId} {fs : Array Field} (ht : P.underlying t = some (.struct fs)) {xs : List (DataW H)} (hw : ∀ k ∈ DataW.weights P t (.agg xs), k ≤ reachBytes) {j : Nat} {f : Field} {d : DataW H} (hf : fs[j]? = some f) (hd : xs[j]? = some d) : ∀ k ∈ DataW.weights P f.type d, k ≤ reachBytes := by
  rw [DataW.weights, ht] at hw
  intro k hk
  refine hw k (DataW.weights_mem_each (t := f.type) (j := j) ?_ hd k hk)
  rw [List.getElem?_map, Array.getElem?_toList, hf]; rfl
/-- A slice that came in is one value. -/
theorem trod_slice_form {t e : TypeId} {fuel : Nat} {cs : List Value} {y : DataW H × List MemPlace} (ht : P.underlying t = some (.slice e)) (h : DataW.trod enc P w base spare held fuel t cs = some y) : ∃ A n c, cs = [.slice A n c] := by
  rcases open_slice ht h with ⟨hcs, _⟩ | ⟨a, len, cap, m, k, D, Pl, hcs, _⟩
  · exact ⟨_, _, _, hcs⟩
  · exact ⟨_, _, _, hcs⟩
end
end Go.Proofs.Ytncbcjjdnlmjbaa
