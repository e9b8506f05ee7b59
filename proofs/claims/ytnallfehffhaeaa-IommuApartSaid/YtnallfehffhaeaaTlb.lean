/- Chapter 6, as chapter 7 needs it: lines that a call owns; each is an entry that may be. -/
import Derived.Test.YtnallfehffhaeaaPte
import Derived.Test.YtnallfehffhaeaaAppRow0
import Derived.ArgAppend
set_option linter.unusedSimpArgs false
set_option linter.unusedVariables false
namespace Go.Proofs.Ytnallfehffhaeaa
open Go.RowKit

/-- A leaf's entry over nf frames. -/
def goodE (nf f q : Int) : Prop := 1 ≤ q ∧ q ≤ 3 ∧ 0 ≤ f ∧ f < nf ∧ nf ≤ 64
def LnC (cs : Array Value) (k : Nat) (nf : Int) : Prop := ∃ d p f q : Int, cs[k * 4]? = some (.int .i64 d) ∧ cs[k * 4 + 1]? = some (.int .i64 p) ∧ cs[k * 4 + 2]? = some (.int .i64 f) ∧ cs[k * 4 + 3]? = some (.int .i64 q) ∧ goodE nf f q
/-- The slice value v of n lines, at whatever place of its block. -/
def LinesAt (w : World) (v : Value) (nf : Int) (n : Nat) : Prop :=
  (v = .slice none 0 0 ∧ n = 0) ∨ ∃ g o c cs, v = .slice (some ⟨g, o * 4, none⟩) n c ∧ w.heap[g]? = some (.cells cs 106 (0, 0)) ∧ cs.size = (o + c) * 4 ∧ n ≤ c ∧ c ≤ maxLen ∧ ∀ i, i < n → LnC cs (o + i) nf
section
variable {w w' : World} {v : Value} {nf : Int} {n : Nat}
theorem LinesAt.keep {S : Nat → Prop} (h : LinesAt w v nf n) (hC : Chg S w w') (hn : ∀ k, v.ownBlock = some k → ¬ S k) : LinesAt w' v nf n := by
  rcases h with h | ⟨g, o, c, cs, rfl, h1, h2⟩
  · exact .inl h
  · exact .inr ⟨g, o, c, cs, rfl, hC.at h1 (hn g rfl), h2⟩
theorem LinesAt.lt (h : LinesAt w v nf n) : ∀ k, v.ownBlock = some k → k < w.heap.size := by
  rcases h with ⟨rfl, _⟩ | ⟨g, o, c, cs, rfl, h1, h2⟩
  · intro k hk; cases hk
  · intro k hk; injection hk with hk; rw [← hk]; exact lt_of_heap h1
theorem LinesAt.form (h : LinesAt w v nf n) : ∃ A c, v = .slice A n c := by
  rcases h with ⟨rfl, rfl⟩ | ⟨g, o, c, cs, rfl, h1, h2⟩
  · exact ⟨_, _, rfl⟩
  · exact ⟨_, _, rfl⟩
theorem LinesAt.some_ (h : LinesAt w v nf n) (hn : 0 < n) : ∃ g o c cs, v = .slice (some ⟨g, o * 4, none⟩) n c ∧ w.heap[g]? = some (.cells cs 106 (0, 0)) ∧ cs.size = (o + c) * 4 ∧ n ≤ c ∧ c ≤ maxLen ∧ ∀ i, i < n → LnC cs (o + i) nf := by
  rcases h with ⟨rfl, rfl⟩ | h
  · omega
  · exact h
theorem lnC_cells {g o : Nat} {cs : Array Value} {t : TypeId} {fr : Nat × Nat} (hb : w.heap[g]? = some (.cells cs t fr)) {i : Nat} (h : LnC cs (o + i) nf) : ∃ d p f q : Int, w.cell? ⟨g, o * 4 + i * 4, none⟩ = some (.int .i64 d) ∧ w.cell? ⟨g, o * 4 + i * 4 + 1, none⟩ = some (.int .i64 p) ∧ w.cell? ⟨g, o * 4 + i * 4 + 2, none⟩ = some (.int .i64 f) ∧ w.cell? ⟨g, o * 4 + i * 4 + 3, none⟩ = some (.int .i64 q) ∧ goodE nf f q := by
  obtain ⟨d, p, f, q, h0, h1, h2, h3, hg⟩ := h
  rw [Nat.add_mul] at h0 h1 h2 h3
  exact ⟨d, p, f, q, (blk_cell hb _).trans h0, (blk_cell hb _).trans h1, (blk_cell hb _).trans h2, (blk_cell hb _).trans h3, hg⟩
/-- One line is laid anew. -/
theorem lines_set {g o c : Nat} {cs : Array Value} (hs : cs.size = (o + c) * 4) (hnc : n ≤ c) (h : ∀ i, i < n → LnC cs (o + i) nf) {i : Nat} (hi : i < c) (hin : ∀ j, j < n ∨ j < c → True) {d p f q : Int} (hg : goodE nf f q) :
    ∀ j, (j < n ∨ j = i) → LnC ((((cs.setIfInBounds (o * 4 + i * 4) (.int .i64 d)).setIfInBounds (o * 4 + i * 4 + 1) (.int .i64 p)).setIfInBounds (o * 4 + i * 4 + 2) (.int .i64 f)).setIfInBounds (o * 4 + i * 4 + 3) (.int .i64 q)) (o + j) nf := by
  intro j hj
  by_cases e : j = i
  · subst e
    refine ⟨d, p, f, q, ?_, ?_, ?_, ?_, hg⟩
    · rw [Array.getElem?_setIfInBounds_ne (by omega), Array.getElem?_setIfInBounds_ne (by omega), Array.getElem?_setIfInBounds_ne (by omega), show (o + j) * 4 = o * 4 + j * 4 from Nat.add_mul _ _ _, Array.getElem?_setIfInBounds_self_of_lt (by omega)]
    · rw [Array.getElem?_setIfInBounds_ne (by omega), Array.getElem?_setIfInBounds_ne (by omega), show (o + j) * 4 + 1 = o * 4 + j * 4 + 1 from by rw [Nat.add_mul], Array.getElem?_setIfInBounds_self_of_lt (by simp; omega)]
    · rw [Array.getElem?_setIfInBounds_ne (by omega), show (o + j) * 4 + 2 = o * 4 + j * 4 + 2 from by rw [Nat.add_mul], Array.getElem?_setIfInBounds_self_of_lt (by simp; omega)]
    · rw [show (o + j) * 4 + 3 = o * 4 + j * 4 + 3 from by rw [Nat.add_mul], Array.getElem?_setIfInBounds_self_of_lt (by simp; omega)]
  · obtain ⟨d', p', f', q', h0, h1, h2, h3, h4⟩ := h j (hj.resolve_right e)
    refine ⟨d', p', f', q', ?_, ?_, ?_, ?_, h4⟩ <;> (repeat rw [Array.getElem?_setIfInBounds_ne (by omega)]) <;> assumption
end
end Go.Proofs.Ytnallfehffhaeaa
