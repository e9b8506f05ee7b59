/- Arguments opened: a slice whose elements are read as data of a type of our own. -/
import Derived.Test.YtnallfehffhaeaaBase
import Derived.Deep.Slices
import Derived.Deep.Fields
import Derived.ProofKit
import Derived.SizedLaws
set_option linter.unusedSimpArgs false
set_option linter.unusedVariables false
namespace Go.Proofs.Ytnallfehffhaeaa
open Go.RowKit Go.ChangeShapes Go.WideShapes Go.Deep

section
variable {H : Type} {enc : TypeId × Value → H} {P : Program} {w : World} {base : Nat} {spare : Nat → Bool} {held : Bool}

/-- A slice of elements of C cells each, read as a list of α. -/
theorem open_list {α : Type} {cells : α → List Value} {Wf : α → Prop} {t e : TypeId} {C : Nat} {A : Option Addr} {n c : Nat} {d : DataW H} {p : List MemPlace}
    (ht : P.underlying t = some (.slice e)) (hC : P.cellsOf e = C) (hpos : 0 < C)
    (hα : ∀ m cs y, DataW.trod enc P w base spare held m e cs = some y → ∃ x : α, cs = cells x ∧ Wf x) (hlen : ∀ x, (cells x).length = C)
    (h : DataW.Trod enc P w base spare held t (.slice A n c) d p) :
    n ≤ maxLen ∧ ∃ xs : List α, n = xs.length ∧ RowC w A (xs.flatMap cells) ∧ ∀ x ∈ xs, Wf x := by
  obtain ⟨fuel, hf⟩ := h
  rcases open_slice ht hf with ⟨hcs, _⟩ | ⟨a, len, cap, m, k, D, Pl, hcs, hb, hl, hm, hmm, hx, hi⟩
  · simp [Value.cells] at hcs
    obtain ⟨rfl, rfl, rfl⟩ := hcs
    exact ⟨by unfold maxLen; omega, [], rfl, fun j u hu => by simp at hu, by simp⟩
  · simp [Value.cells] at hcs
    obtain ⟨rfl, rfl, rfl⟩ := hcs
    rw [hC] at hi
    have hnm : n ≤ m := by rw [hmm]; split <;> omega
    have key : ∀ q, q ≤ n → ∃ xs : List α, q = xs.length ∧ RowC w (some a) (xs.flatMap cells) ∧ ∀ x ∈ xs, Wf x := by
      intro q
      induction q with
      | zero => exact fun _ => ⟨[], rfl, fun j u hu => by simp at hu, by simp⟩
      | succ q ih =>
        intro hq
        obtain ⟨xs, hlx, hr, hw⟩ := ih (by omega)
        obtain ⟨cs', hc, hd⟩ := hi q (by omega)
        obtain ⟨x, rfl, hwx⟩ := hα _ _ _ hd
        obtain ⟨_, hcl, hat⟩ := World.cells?_some hc
        refine ⟨xs ++ [x], by simp [← hlx], fun j u hu => ?_, fun y hy => ?_⟩
        · rw [List.flatMap_append] at hu
          rcases Nat.lt_or_ge j (xs.flatMap cells).length with hj | hj
          · rw [List.getElem?_append_left hj] at hu
            exact hr j u hu
          · rw [List.getElem?_append_right hj] at hu
            simp only [List.flatMap_cons, List.flatMap_nil, List.append_nil] at hu
            rw [flat_len cells C hlen, ← hlx] at hu hj
            have hjl : j - q * C < C := by
              have := (List.getElem?_eq_some_iff.1 hu).1
              rw [hlen] at this; exact this
            have hcell := hat _ hjl
            rw [hu] at hcell
            obtain ⟨b, o, sp⟩ := a
            have hsp : sp = none := by
              cases sp with
              | none => rfl
              | some s =>
                exfalso
                obtain ⟨cs0, hc0, hd0⟩ := hi 0 (by omega)
                obtain ⟨x0, rfl, _⟩ := hα _ _ _ hd0
                have h1 := (World.cells?_some hc0).2.2 0 hpos
                have h2 : (cells x0)[0]? ≠ none := by
                  intro h1; rw [List.getElem?_eq_none_iff, hlen] at h1; omega
                simp only [Nat.zero_mul, Addr.add, if_true] at h1
                apply h2
                rw [← h1]
                simp only [World.cell?]
                split <;> simp
            subst hsp
            refine ⟨b, o, rfl, ?_⟩
            rw [← hcell, Go.Deep.add_add]
            generalize q * C = z at hj ⊢
            rw [show z + (j - z) = j from by omega]
            unfold Addr.add
            split <;> simp_all
        · rcases List.mem_append.1 hy with h | h
          · exact hw y h
          · simp at h; subst h; exact hwx
    refine ⟨by omega, ?_⟩
    exact key n (Nat.le_refl _)

end

end Go.Proofs.Ytnallfehffhaeaa
