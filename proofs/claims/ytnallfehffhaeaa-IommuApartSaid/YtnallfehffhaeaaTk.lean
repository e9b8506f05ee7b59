/- A region whose order is drawn, run by hand: short words for the kit's laws (OrdersHeld, Deep/RegionHeld). -/
import Derived.Test.YtnallfehffhaeaaAnyE
import Derived.WalkKit
set_option linter.unusedVariables false
namespace Go.Proofs.Ytnallfehffhaeaa
open Go

section
variable {P : Program} {ops : Array Oper} {Q : Exit → Act → World → Prop} {md : Region.Mode} {S : World → Prop} {fuel : Nat} {listed : Array Bool} {a a' : Act} {w : World} {oi oj : Oper} {v : Value} {z : Nat}
/-- Number i is taken first. -/
theorem tkH (i : Nat) (hi : ops[i]? = some oi := by (simp only [List.getElem?_toArray, List.getElem?_cons_succ, List.getElem?_cons_zero]; exact rfl))
    (y : ∀ w, S w → (execOp a.eval oi).run P w = .ok (.value v) w)
    (ht : a.put oi.dst v = a' := by (simp only [Act.put, List.setIfInBounds_toArray, List.set_cons_zero, List.set_cons_succ]; exact rfl))
    (h : wpAnyH P md ops Q S fuel (listed.setIfInBounds i true) a' w)
    (hs : Region.noSelect ops = true := by kernel_rfl) (hf : Region.free md ops listed i = true := by kernel_rfl) (hr : (Region.ready md ops listed).contains i = true := by kernel_rfl)
    (hQ : ∀ c a w, Q (.panic c) (a.put oi.dst v) w → Q (.panic c) a w := by exact fun _ _ _ h => h) (hw : Region.wanted oi (yielded ops a.tmps) = true := by rfl) (hS : S w := by assumption) : wpAnyH P md ops Q S (fuel + 1) listed a w :=
  wpAnyH_take hi hs hf hr hQ (.inl ⟨hw, y⟩) hS (ht ▸ h)
/-- Number i is passed over. -/
theorem skH (i : Nat) (hi : ops[i]? = some oi := by (simp only [List.getElem?_toArray, List.getElem?_cons_succ, List.getElem?_cons_zero]; exact rfl))
    (ht : a.put oi.dst undef = a' := by (simp only [Act.put, List.setIfInBounds_toArray, List.set_cons_zero, List.set_cons_succ]; exact rfl))
    (h : wpAnyH P md ops Q S fuel (listed.setIfInBounds i true) a' w)
    (hs : Region.noSelect ops = true := by kernel_rfl) (hf : Region.free md ops listed i = true := by kernel_rfl) (hr : (Region.ready md ops listed).contains i = true := by kernel_rfl)
    (hQ : ∀ c a w, Q (.panic c) (a.put oi.dst undef) w → Q (.panic c) a w := by exact fun _ _ _ h => h) (hw : Region.wanted oi (yielded ops a.tmps) = false := by rfl) (hS : S w := by assumption) : wpAnyH P md ops Q S (fuel + 1) listed a w :=
  wpAnyH_take hi hs hf hr hQ (.inr ⟨hw, rfl⟩) hS (ht ▸ h)
/-- Number i alone may come up. -/
theorem cH (i : Nat) (hi : ops[i]? = some oi := by (simp only [List.getElem?_toArray, List.getElem?_cons_succ, List.getElem?_cons_zero]; exact rfl))
    (y : ∀ K : Act → World → Prop, Shut (∀ a w, S w → (S w → wpAnyH P md ops Q S fuel (listed.setIfInBounds i true) a w) → K a w) → Oper.wp P oi a w K Q)
    (hr : Region.ready md ops listed = [i] := by kernel_rfl) (hw : Region.wanted oi (yielded ops a.tmps) = true := by rfl) : wpAnyH P md ops Q S (fuel + 1) listed a w :=
  wpAnyH_ready hr (List.cons_ne_nil _ _) (AllReadyH.cons hi (fun K hK => (by rw [if_pos hw]; exact y K hK)) AllReadyH.nil)
/-- Number i alone may come up; it is passed over. -/
theorem scH (i : Nat) (hi : ops[i]? = some oi := by (simp only [List.getElem?_toArray, List.getElem?_cons_succ, List.getElem?_cons_zero]; exact rfl))
    (ht : a.put oi.dst undef = a' := by (simp only [Act.put, List.setIfInBounds_toArray, List.set_cons_zero, List.set_cons_succ]; exact rfl))
    (h : wpAnyH P md ops Q S fuel (listed.setIfInBounds i true) a' w)
    (hr : Region.ready md ops listed = [i] := by kernel_rfl) (hw : Region.wanted oi (yielded ops a.tmps) = false := by rfl) (hS : S w := by assumption) : wpAnyH P md ops Q S (fuel + 1) listed a w :=
  wpAnyH_ready hr (List.cons_ne_nil _ _) (AllReadyH.cons hi (fun K hK => (by rw [hw, if_neg Bool.false_ne_true, ht]; exact hK.out _ _ hS (fun _ => h))) AllReadyH.nil)
/-- Either of two may come up. -/
theorem cH2 (i j : Nat) (hi : ops[i]? = some oi := by (simp only [List.getElem?_toArray, List.getElem?_cons_succ, List.getElem?_cons_zero]; exact rfl)) (hj : ops[j]? = some oj := by (simp only [List.getElem?_toArray, List.getElem?_cons_succ, List.getElem?_cons_zero]; exact rfl))
    (y : ∀ K : Act → World → Prop, Shut (∀ a w, S w → (S w → wpAnyH P md ops Q S fuel (listed.setIfInBounds i true) a w) → K a w) → Oper.wp P oi a w K Q)
    (y' : ∀ K : Act → World → Prop, Shut (∀ a w, S w → (S w → wpAnyH P md ops Q S fuel (listed.setIfInBounds j true) a w) → K a w) → Oper.wp P oj a w K Q)
    (hr : Region.ready md ops listed = [i, j] := by kernel_rfl) (hw : Region.wanted oi (yielded ops a.tmps) = true := by rfl) (hw' : Region.wanted oj (yielded ops a.tmps) = true := by rfl) : wpAnyH P md ops Q S (fuel + 1) listed a w :=
  wpAnyH_ready hr (List.cons_ne_nil _ _) (AllReadyH.cons hi (fun K hK => (by rw [if_pos hw]; exact y K hK)) (AllReadyH.cons hj (fun K hK => (by rw [if_pos hw']; exact y' K hK)) AllReadyH.nil))
theorem dnH (h : Q .normal a w) (hr : Region.ready md ops listed = [] := by kernel_rfl) : wpAnyH P md ops Q S fuel listed a w := wpAnyH_done hr h _
theorem rgH {id : Nat} (S : World → Prop) (hS : S w.drew) (h : S w.drew → wpAnyH P .any ops Q S ops.size (Array.replicate ops.size false) a w.drew) (hm : P.follows .mixedOrders = true := by kernel_rfl) : (Code.region id ops true).wp P Q a w :=
  wp_region_held_drew hm hS h
/-! With a last operation z that breaks the condition. -/
theorem tkE (i : Nat) (hi : ops[i]? = some oi := by (simp only [List.getElem?_toArray, List.getElem?_cons_succ, List.getElem?_cons_zero]; exact rfl))
    (y : ∀ w, S w → (execOp a.eval oi).run P w = .ok (.value v) w)
    (ht : a.put oi.dst v = a' := by (simp only [Act.put, List.setIfInBounds_toArray, List.set_cons_zero, List.set_cons_succ]; exact rfl))
    (h : wpAnyE P md ops Q z S fuel (listed.setIfInBounds i true) a' w)
    (hs : Region.noSelect ops = true := by kernel_rfl) (hf : Region.free md ops listed i = true := by kernel_rfl) (hr : (Region.ready md ops listed).contains i = true := by kernel_rfl) (hz : behindB md ops z i = true := by kernel_rfl)
    (hQ : ∀ c a w, Q (.panic c) (a.put oi.dst v) w → Q (.panic c) a w := by exact fun _ _ _ h => h) (hw : Region.wanted oi (yielded ops a.tmps) = true := by rfl) (hS : S w := by assumption) : wpAnyE P md ops Q z S (fuel + 1) listed a w :=
  wpAnyE_take hi hs hf hr hz hQ (.inl ⟨hw, y⟩) hS (ht ▸ h)
theorem skE (i : Nat) (hi : ops[i]? = some oi := by (simp only [List.getElem?_toArray, List.getElem?_cons_succ, List.getElem?_cons_zero]; exact rfl))
    (ht : a.put oi.dst undef = a' := by (simp only [Act.put, List.setIfInBounds_toArray, List.set_cons_zero, List.set_cons_succ]; exact rfl))
    (h : wpAnyE P md ops Q z S fuel (listed.setIfInBounds i true) a' w)
    (hs : Region.noSelect ops = true := by kernel_rfl) (hf : Region.free md ops listed i = true := by kernel_rfl) (hr : (Region.ready md ops listed).contains i = true := by kernel_rfl) (hz : behindB md ops z i = true := by kernel_rfl)
    (hQ : ∀ c a w, Q (.panic c) (a.put oi.dst undef) w → Q (.panic c) a w := by exact fun _ _ _ h => h) (hw : Region.wanted oi (yielded ops a.tmps) = false := by rfl) (hS : S w := by assumption) : wpAnyE P md ops Q z S (fuel + 1) listed a w :=
  wpAnyE_take hi hs hf hr hz hQ (.inr ⟨hw, rfl⟩) hS (ht ▸ h)
theorem cE (i : Nat) (hi : ops[i]? = some oi := by (simp only [List.getElem?_toArray, List.getElem?_cons_succ, List.getElem?_cons_zero]; exact rfl))
    (y : ∀ K : Act → World → Prop, Shut (∀ a w, (i ≠ z → S w) → ((i ≠ z → S w) → wpAnyE P md ops Q z S fuel (listed.setIfInBounds i true) a w) → K a w) → Oper.wp P oi a w K Q)
    (hr : Region.ready md ops listed = [i] := by kernel_rfl) (hw : Region.wanted oi (yielded ops a.tmps) = true := by rfl) : wpAnyE P md ops Q z S (fuel + 1) listed a w :=
  wpAnyE_one hr hi (fun K hK => (by rw [if_pos hw]; exact y K hK))
theorem dnE (h : Q .normal a w) (hr : Region.ready md ops listed = [] := by kernel_rfl) : wpAnyE P md ops Q z S fuel listed a w := wpAnyE_done hr h _
theorem rgE {id : Nat} (z : Nat) (S : World → Prop) (hS : S w.drew) (h : S w.drew → wpAnyE P .any ops Q z S ops.size (Array.replicate ops.size false) a w.drew) (hm : P.follows .mixedOrders = true := by kernel_rfl) : (Code.region id ops true).wp P Q a w :=
  wp_region_E z hm hS h
end
end Go.Proofs.Ytnallfehffhaeaa
