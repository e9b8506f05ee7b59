/- Two logs side by side. -/
import Derived.Test.YtochadejlglfgaaLog5
namespace Go.Proofs.Ytochadejlglfgaa
open Go.RowKit

theorem Chg.none_le {S : Nat → Prop} {a b : World} (h : Chg (fun _ => False) a b) : Chg S a b := h.mono (fun _ _ h => h.elim)
theorem LogAt.ne {w : World} {T T' base base' p p' : Nat} {g g' : Option Nat} {most most' count count' : Int} {xs xs' : List Flt} (h : LogAt w T base p g most xs count) (h' : LogAt w T' base' p' g' most' xs' count') (hT : T' ≠ 34) : g ≠ some p' := by
  obtain ⟨A, c, h1, h2, h3⟩ := h
  obtain ⟨A', c', h1', h2', h3'⟩ := h'
  rw [← h2]; exact own_ne h3 h1' hT
theorem LogAt.bge {w : World} {T base p : Nat} {g : Option Nat} {most count : Int} {xs : List Flt} (h : LogAt w T base p g most xs count) {k : Nat} (hk : g = some k) : base ≤ k ∧ k < w.heap.size := h.lt.2 k hk

/-- The two logs. -/
def Two (w : World) (base p1 p2 : Nat) (most : Int) (xs : List Flt) (count : Int) : Prop :=
  ∃ g1 g2, LogAt w 96 base p1 g1 most xs count ∧ LogAt w 98 base p2 g2 most xs count ∧ (∀ j, g1 = some j → g2 ≠ some j)

theorem two_first {wr w4 : World} {base p1 p2 : Nat} {g1 g2 : Option Nat} {most count : Int} {xs : List Flt} (hl : LogAt wr 96 base p1 g1 most xs count) (hr : LogAt wr 98 base p2 g2 most xs count) (hd : ∀ j, g1 = some j → g2 ≠ some j) (hp : p1 ≠ p2)
    (hC : Chg (fun k => k = p1 ∨ some k = g1) wr w4) : LogAt w4 98 base p2 g2 most xs count :=
  hr.keep hC (fun h => h.elim (fun e => hp e.symm) (fun e => hl.ne hr (by decide) e.symm))
    (fun k hk h => h.elim (fun e => hr.ne hl (by decide) (hk.trans (by rw [e]))) (fun e => hd k e.symm hk))
theorem two_second {wr w4 w5 : World} {base p1 p2 : Nat} {g1 g2 g1' g2' : Option Nat} {most count count' : Int} {xs xs' : List Flt} (_hl : LogAt wr 96 base p1 g1 most xs count) (hr : LogAt wr 98 base p2 g2 most xs count) (hd : ∀ j, g1 = some j → g2 ≠ some j) (hp : p1 ≠ p2)
    (hl4 : LogAt w4 96 base p1 g1' most xs' count') (hg1 : g1' = g1 ∨ ∃ k, g1' = some k ∧ wr.heap.size ≤ k) (hr4 : LogAt w4 98 base p2 g2 most xs count)
    (hr5 : LogAt w5 98 base p2 g2' most xs' count') (hg2 : g2' = g2 ∨ ∃ k, g2' = some k ∧ w4.heap.size ≤ k) (hC5 : Chg (fun k => k = p2 ∨ some k = g2) w4 w5) : Two w5 base p1 p2 most xs' count' := by
  have hd' : ∀ j, g1' = some j → g2 ≠ some j := fun j hj h => by
    rcases hg1 with h1 | ⟨k, h1, h2⟩
    · exact hd j (h1 ▸ hj) h
    · have := (hr.bge h).2
      rw [h1] at hj; injection hj with hj; omega
  refine ⟨g1', g2', hl4.keep hC5 (fun h => h.elim hp (fun e => hr4.ne hl4 (by decide) e.symm)) (fun k hk h => h.elim (fun e => hl4.ne hr4 (by decide) (hk.trans (by rw [e]))) (fun e => hd' k hk e.symm)), hr5, fun j hj h => ?_⟩
  rcases hg2 with h1 | ⟨k, h1, h2⟩
  · exact hd' j hj (h1 ▸ h)
  · have := (hl4.bge hj).2
    rw [h1] at h; injection h with h; omega
theorem chg_two {w wr w4 w5 : World} {p1 p2 base : Nat} {g1 g2 : Option Nat} (hC : Chg (fun _ => False) w wr) (hC4 : Chg (fun k => k = p1 ∨ some k = g1) wr w4) (hC5 : Chg (fun k => k = p2 ∨ some k = g2) w4 w5)
    (hb : w.heap.size ≤ base) (h1 : base ≤ p1) (h2 : base ≤ p2) (h3 : ∀ k, g1 = some k → base ≤ k) (h4 : ∀ k, g2 = some k → base ≤ k) : Chg (fun _ => False) w w5 := by
  refine (hC.trans' hC4 (fun k hk h => ?_)).trans' hC5 (fun k hk h => ?_)
  · rcases h with h | h
    · omega
    · have := h3 k h.symm; omega
  · rcases h with h | h
    · omega
    · have := h4 k h.symm; omega

end Go.Proofs.Ytochadejlglfgaa
