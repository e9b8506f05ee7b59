/- The contracts of the two tables of vectors. -/
import Derived.Test.YtpnhdiajiieonaaArr
set_option linter.unusedSimpArgs false
set_option linter.unusedVariables false
namespace Go.Proofs.Ytpnhdiajiieonaa
open Go.RowKit

structure Ent where
  is : Bool
  part : Int
  masked : Bool

def Ent.none : Ent := ⟨false, 0, false⟩
/-- Rows of eight entries of three cells each. -/
def EntC (cs : Array Value) (n : Nat) (f : Nat → Ent) : Prop :=
  ∀ k, k < 8 * n → cs[k * 3]? = some (.bool (f k).is) ∧ cs[k * 3 + 1]? = some (.int .i64 (f k).part) ∧ cs[k * 3 + 2]? = some (.bool (f k).masked)
/-- A table at block p, its rows at block r. -/
def TabAt (w : World) (T E p r n : Nat) (f : Nat → Ent) : Prop :=
  w.heap[p]? = some (.cells #[.slice (some ⟨r, 0, none⟩) n n] T (0, 0)) ∧ ∃ cs, w.heap[r]? = some (.cells cs E (0, 0)) ∧ EntC cs n f
theorem TabAt.keep {S : Nat → Prop} {w w' : World} {T E p r n : Nat} {f : Nat → Ent} (h : TabAt w T E p r n f) (hC : Chg S w w') (hp : ¬ S p) (hr : ¬ S r) : TabAt w' T E p r n f := by
  obtain ⟨h1, cs, h2, h3⟩ := h
  exact ⟨hC.at h1 hp, cs, hC.at h2 hr, h3⟩
theorem TabAt.lt {w : World} {T E p r n : Nat} {f : Nat → Ent} (h : TabAt w T E p r n f) : p < w.heap.size ∧ r < w.heap.size := by
  obtain ⟨h1, cs, h2, h3⟩ := h
  exact ⟨lt_of_heap h1, lt_of_heap h2⟩

def inR (n : Nat) (d v : Int) : Prop := (0 ≤ d ∧ d < n) ∧ 0 ≤ v ∧ v < 8
instance (n : Nat) (d v : Int) : Decidable (inR n d v) := by unfold inR; infer_instance
def ix (d v : Int) : Nat := d.toNat * 8 + v.toNat
theorem ix_lt {n : Nat} {d v : Int} (h : inR n d v) : ix d v < 8 * n := by unfold inR at h; unfold ix; omega
theorem ix_cells {n : Nat} {d v : Int} {w : World} {r E : Nat} {cs : Array Value} {f : Nat → Ent} (h : inR n d v) (hb : w.heap[r]? = some (.cells cs E (0, 0))) (he : EntC cs n f) :
    w.cell? ⟨r, d.toNat * 24 + v.toNat * 3, none⟩ = some (.bool (f (ix d v)).is) ∧ w.cell? ⟨r, d.toNat * 24 + v.toNat * 3 + 1, none⟩ = some (.int .i64 (f (ix d v)).part) ∧ w.cell? ⟨r, d.toNat * 24 + v.toNat * 3 + 2, none⟩ = some (.bool (f (ix d v)).masked) := by
  have e : d.toNat * 24 + v.toNat * 3 = ix d v * 3 := by unfold ix; omega
  rw [e]
  obtain ⟨h1, h2, h3⟩ := he _ (ix_lt h)
  exact ⟨(blk_cell hb _).trans h1, (blk_cell hb _).trans h2, (blk_cell hb _).trans h3⟩
theorem entC_lt {cs : Array Value} {n : Nat} {f : Nat → Ent} (he : EntC cs n f) {k : Nat} (hk : k < 8 * n) : k * 3 + 2 < cs.size := (Array.getElem?_eq_some_iff.1 (he k hk).2.2).1
/-- An entry is laid. -/
theorem entC_set {cs : Array Value} {n : Nat} {f : Nat → Ent} (he : EntC cs n f) {k : Nat} (hk : k < 8 * n) (e : Ent) :
    EntC (((cs.setIfInBounds (k * 3) (.bool e.is)).setIfInBounds (k * 3 + 1) (.int .i64 e.part)).setIfInBounds (k * 3 + 2) (.bool e.masked)) n (upd f k e) := by
  intro j hj
  have hs := entC_lt he hk
  obtain ⟨h1, h2, h3⟩ := he j hj
  unfold upd
  by_cases hjk : j = k
  · subst hjk
    simp [Array.getElem?_setIfInBounds]
    omega
  · rw [if_neg hjk]
    refine ⟨?_, ?_, ?_⟩ <;> (repeat rw [Array.getElem?_setIfInBounds_ne (by omega)]) <;> assumption
theorem entC_mask {cs : Array Value} {n : Nat} {f : Nat → Ent} (he : EntC cs n f) {k : Nat} (hk : k < 8 * n) (b : Bool) :
    EntC (cs.setIfInBounds (k * 3 + 2) (.bool b)) n (upd f k { f k with masked := b }) := by
  intro j hj
  have hs := entC_lt he hk
  obtain ⟨h1, h2, h3⟩ := he j hj
  unfold upd
  by_cases hjk : j = k
  · subst hjk
    rw [if_pos rfl]
    refine ⟨?_, ?_, ?_⟩
    · rw [Array.getElem?_setIfInBounds_ne (by omega)]; exact h1
    · rw [Array.getElem?_setIfInBounds_ne (by omega)]; exact h2
    · rw [Array.getElem?_setIfInBounds_self_of_lt hs]
  · rw [if_neg hjk]
    refine ⟨?_, ?_, ?_⟩ <;> rw [Array.getElem?_setIfInBounds_ne (by omega)] <;> assumption
/-- What the calls answer and leave, over the entries alone. -/
def okD (n : Nat) : Bool := decide (1 ≤ n) && decide (n ≤ 4)
def setC (n : Nat) (d v q : Int) : Int := if inR n d v ∧ 0 ≤ q ∧ q < 4 then 0 else 1100
def setF (n : Nat) (d v q : Int) (f : Nat → Ent) : Nat → Ent := if inR n d v ∧ 0 ≤ q ∧ q < 4 then upd f (ix d v) ⟨true, q, false⟩ else f
def entE (n : Nat) (d v : Int) (f : Nat → Ent) : Int := if inR n d v then (if (f (ix d v)).is = true then 0 else 1101) else 1100
def unsetF (n : Nat) (d v : Int) (f : Nat → Ent) : Nat → Ent := if entE n d v f = 0 then upd f (ix d v) Ent.none else f
def maskF (n : Nat) (d v : Int) (b : Bool) (f : Nat → Ent) : Nat → Ent := if entE n d v f = 0 then upd f (ix d v) { f (ix d v) with masked := b } else f
def lookP (n : Nat) (d v : Int) (f : Nat → Ent) : Int := if entE n d v f = 0 then (f (ix d v)).part else 0
def lookM (n : Nat) (d v : Int) (f : Nat → Ent) : Bool := if entE n d v f = 0 then (f (ix d v)).masked else false
def clearC (n : Nat) (d : Int) : Int := if 0 ≤ d ∧ d < n then 0 else 1100
def clearF (n : Nat) (d : Int) (f : Nat → Ent) : Nat → Ent := if 0 ≤ d ∧ d < n then (fun k => if k / 8 = d.toNat then Ent.none else f k) else f


end Go.Proofs.Ytpnhdiajiieonaa
