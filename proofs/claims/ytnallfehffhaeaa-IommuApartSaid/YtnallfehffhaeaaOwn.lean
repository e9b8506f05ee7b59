/- Rows that a call owns, element by element. -/
import Derived.Test.YtnallfehffhaeaaArr
import Derived.Test.YtnallfehffhaeaaMem
import Derived.Laws.OwnMore
set_option linter.unusedSimpArgs false
set_option linter.unusedVariables false
namespace Go.Proofs.Ytnallfehffhaeaa
open Go.RowKit

theorem take_splice {α : Type} (l : List α) (o m : Nat) (vs : List α) (h1 : o + vs.length ≤ m) (h2 : m ≤ l.length) : (splice l o vs).take m = splice (l.take m) o vs := by
  apply List.ext_getElem?
  intro i
  rw [splice_get _ _ _ (by rw [List.length_take]; omega), List.getElem?_take, splice_get _ _ _ (by omega), List.getElem?_take]
  by_cases h : o ≤ i ∧ i < o + vs.length
  · rw [if_pos h, if_pos h, if_pos (by omega)]
  · rw [if_neg h, if_neg h]
/-- The slice value v owns the elements L. -/
def OwnC {α : Type} (cells : α → List Value) (C e : Nat) (w : World) (base : Nat) (v : Value) (L : List α) : Prop := w.ownsRow base e C v L.length (L.flatMap cells)
section
variable {α : Type} {cells : α → List Value} {C e : Nat} {w w' : World} {base : Nat} {v : Value} {L : List α}
theorem OwnC.nil (w : World) (base : Nat) : OwnC cells C e w base (.slice none 0 0) ([] : List α) := World.ownsRow_nil w base e C
theorem OwnC.keep {S : Nat → Prop} (h : OwnC cells C e w base v L) (hC : Chg S w w') (hn : ∀ k, v.ownBlock = some k → ¬ S k) : OwnC cells C e w' base v L := hC.own h hn
theorem OwnC.form (h : OwnC cells C e w base v L) (hn : 0 < L.length) : ∃ g cap, v = .slice (some ⟨g, 0, none⟩) L.length cap ∧ base ≤ g ∧ g < w.heap.size ∧ L.length ≤ cap ∧ cap ≤ maxLen := by
  rcases h.2 with ⟨_, h0⟩ | ⟨g, cap, cur, hv, hb, hg, h1, h2, _⟩
  · omega
  · exact ⟨g, cap, hv, hb, lt_of_heap hg, h1, h2⟩
theorem OwnC.slice (h : OwnC cells C e w base v L) : ∃ a cap, v = .slice a L.length cap := by
  rcases h.2 with ⟨hv, h0⟩ | ⟨g, cap, cur, hv, _⟩
  · exact ⟨none, 0, by rw [hv, h0]⟩
  · exact ⟨_, cap, hv⟩
theorem OwnC.cell {g n cap : Nat} (h : OwnC cells C e w base (.slice (some ⟨g, 0, none⟩) n cap) L) (hc : ∀ x, (cells x).length = C) {i : Nat} (hi : i < L.length) {j : Nat} (hj : j < C) : w.cell? ⟨g, i * C + j, none⟩ = (cells L[i])[j]? := by
  have hn : n = L.length := by
    rcases h.2 with ⟨hv, _⟩ | ⟨g', cap', cur, hv, _⟩
    · cases hv
    · injection hv
  subst hn
  have hle : i * C + j < L.length * C := by
    have := Nat.mul_le_mul_right C (show i + 1 ≤ L.length from hi)
    rw [Nat.add_mul, Nat.one_mul] at this; omega
  rw [World.ownsRow.cellAt h _ hle, flat_get cells C hc j hj L i, List.getElem?_eq_getElem hi]
  rfl
theorem OwnC.free {g n cap : Nat} (h : OwnC cells C e w base (.slice (some ⟨g, 0, none⟩) n cap) L) (i : Nat) : w.frozen? ⟨g, i, none⟩ = false := by
  rcases h.2 with ⟨hv, _⟩ | ⟨g', cap', cur, hv, _, hg, _⟩
  · cases hv
  · injection hv with h1; injection h1 with h1; injection h1 with h1
    subst h1; exact blk_free hg i
theorem OwnC.len {g n cap : Nat} (h : OwnC cells C e w base (.slice (some ⟨g, 0, none⟩) n cap) L) : n = L.length := by
  rcases h.2 with ⟨hv, _⟩ | ⟨g', cap', cur, hv, _⟩
  · cases hv
  · injection hv
theorem OwnC.take {g n cap : Nat} (h : OwnC cells C e w base (.slice (some ⟨g, 0, none⟩) n cap) L) (hc : ∀ x, (cells x).length = C) {k : Nat} (hk : k ≤ L.length) : OwnC cells C e w base (.slice (some ⟨g, 0, none⟩) k cap) (L.take k) := by
  have hn := h.len
  have hl : (L.take k).length = k := by simp; omega
  rcases h.2 with ⟨hv, _⟩ | ⟨g', cap', cur, hv, hb, hg, h1, h2, h3, h4⟩
  · cases hv
  · injection hv with e1 _ e3; injection e1 with e1; injection e1 with e1
    subst e1 e3
    refine ⟨by rw [flat_len cells C hc], .inr ⟨g, cap, cur, by rw [hl], hb, hg, by omega, h2, h3, ?_⟩⟩
    rw [hl]
    have hle : k * C ≤ L.length * C := Nat.mul_le_mul_right C hk
    have : cur.toList.take (k * C) = (L.flatMap cells).take (k * C) := by rw [← h4, List.take_take, Nat.min_eq_left hle]
    rw [this]
    have hs : L = L.take k ++ L.drop k := (List.take_append_drop k L).symm
    conv => lhs; rw [hs]
    rw [List.flatMap_append, List.take_append_of_le_length (by rw [flat_len cells C hc, hl]; exact Nat.le_refl _), List.take_of_length_le (by rw [flat_len cells C hc, hl]; exact Nat.le_refl _)]
theorem flat_set (hc : ∀ x, (cells x).length = C) (L : List α) (i : Nat) (hi : i < L.length) (x : α) : splice (L.flatMap cells) (i * C) (cells x) = (L.set i x).flatMap cells := by
  have h1 : L = L.take i ++ L[i] :: L.drop (i + 1) := by rw [List.getElem_cons_drop]; exact (List.take_append_drop i L).symm
  have h2 : L.set i x = L.take i ++ x :: L.drop (i + 1) := by rw [List.set_eq_take_append_cons_drop, if_pos hi]
  have hl : (L.take i).length = i := by simp; omega
  have hf : ((L.take i).flatMap cells).length = i * C := by rw [flat_len cells C hc, hl]
  rw [h2]
  conv => lhs; rw [h1]
  unfold splice
  rw [List.flatMap_append, List.flatMap_append, List.flatMap_cons, List.flatMap_cons]
  rw [List.take_append_of_le_length (by rw [hf]; exact Nat.le_refl _), List.take_of_length_le (by rw [hf]; exact Nat.le_refl _)]
  rw [List.drop_append, List.drop_of_length_le (by rw [hf, hc]; omega), List.nil_append, hf, hc, show i * C + C - i * C = C from by omega]
  rw [List.drop_append_of_le_length (by rw [hc]; exact Nat.le_refl _), List.drop_of_length_le (by rw [hc]; exact Nat.le_refl _), List.nil_append, List.append_assoc]
theorem OwnC.set {g n cap : Nat} (h : OwnC cells C e w base (.slice (some ⟨g, 0, none⟩) n cap) L) (hc : ∀ x, (cells x).length = C) {i : Nat} (hi : i < L.length) (x : α) : OwnC cells C e (w.setCells g (i * C) (cells x)) base (.slice (some ⟨g, 0, none⟩) n cap) (L.set i x) := by
  have hn := h.len
  rcases h.2 with ⟨hv, _⟩ | ⟨g', cap', cur, hv, hb, hg, h1, h2, h3, h4⟩
  · cases hv
  · injection hv with e1 _ e3; injection e1 with e1; injection e1 with e1
    subst e1 e3
    have hle : i * C + C ≤ L.length * C := by
      have := Nat.mul_le_mul_right C (show i + 1 ≤ L.length from hi)
      rw [Nat.add_mul, Nat.one_mul] at this; exact this
    have hcap : L.length * C ≤ cap * C := Nat.mul_le_mul_right C h1
    have hwl : wl cur (i * C) (cells x) = (splice cur.toList (i * C) (cells x)).toArray := by
      have := wl_list (vs := cells x) (cs := cur.toList) (o := i * C) (by rw [hc, Array.length_toList, h3]; omega)
      rwa [Array.toArray_toList] at this
    refine ⟨by rw [flat_len cells C hc], .inr ⟨g, cap, wl cur (i * C) (cells x), by rw [List.length_set, hn], hb, blk_setCells _ hg _, by rw [List.length_set]; exact h1, h2, by rw [wl_size, h3], ?_⟩⟩
    rw [List.length_set, hwl, List.toList_toArray, ← flat_set hc L i hi x, ← h4]
    exact take_splice _ _ _ _ (by rw [hc]; exact hle) (Nat.le_trans hcap (Nat.le_of_eq (((Array.length_toList (xs := cur)).trans h3).symm)))
theorem OwnC.at {g n cap : Nat} (h : OwnC cells C e w base (.slice (some ⟨g, 0, none⟩) n cap) L) : base ≤ g ∧ g < w.heap.size := own_lt h rfl
end
end Go.Proofs.Ytnallfehffhaeaa
