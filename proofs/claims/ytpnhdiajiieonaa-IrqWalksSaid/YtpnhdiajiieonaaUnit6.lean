/- Chapter 13: a unit of a call's own; the law's awake. -/
import Derived.Test.YtpnhdiajiieonaaUnit5
set_option linter.unusedSimpArgs false
set_option linter.unusedVariables false
namespace Go.Proofs.Ytpnhdiajiieonaa
open Go.RowKit

/-- A unit that a call owns. -/
structure US (w0 W : World) (u nd np : Nat) (f : Nat → Ent) (S : Nat → Nat → Bool) (F : Nat → Prop) : Prop where
  at_ : UAt W u nd np f S F
  ge : ∀ k, F k → w0.heap.size ≤ k
  chg : Chg (fun _ => False) w0 W
  minv : MInv f
section
variable {w0 W W' : World} {u nd np : Nat} {f f' : Nat → Ent} {S S' : Nat → Nat → Bool} {F F' : Nat → Prop}
theorem US.keepN (h : US w0 W u nd np f S F) (hC : Chg (fun _ => False) W W') : US w0 W' u nd np f S F := ⟨h.at_.keepN hC, h.ge, h.chg.trans hC, h.minv⟩
theorem US.step (h : US w0 W u nd np f S F) (ha : UAt W' u nd np f' S' F') (hf : FootOf W F F') (hC : Chg F W W') (hM : MInv f') : US w0 W' u nd np f' S' F' :=
  ⟨ha, fun k hk => by
    rcases hf k hk with h1 | h1
    · exact h.ge k h1
    · have := h.chg.size; omega, h.chg.trans' hC (fun k hk hF => by have := h.ge k hF; omega), hM⟩
theorem US.other (h : US w0 W u nd np f S F) {X : Nat → Prop} (hC : Chg X W W') (hX : ∀ k, X k → ¬ F k ∧ w0.heap.size ≤ k) : US w0 W' u nd np f S F :=
  ⟨h.at_.keep hC (fun k hk e => (hX k e).1 hk), h.ge, h.chg.trans' hC (fun k hk e => by have := (hX k e).2; omega), h.minv⟩
theorem foot_refl (W : World) (F : Nat → Prop) : FootOf W F F := fun _ hk => .inl hk
def USPost (w0 : World) (u nd np : Nat) (f' : Nat → Ent) (S' : Nat → Nat → Bool) (F : Nat → Prop) (c : Int) (W : World) (e : Ending) (w' : World) : Prop := e = .returned (.int .i64 c) ∧ ∃ F', US w0 w' u nd np f' S' F' ∧ FootOf W F F' ∧ Chg F W w'
theorem usRoute (h : US w0 W u nd np f S F) (d v q : Int) : Calls Try.prog 64 #[.pointer (some ⟨u, 0, none⟩), .int .i64 d, .int .i64 v, .int .i64 q] W (USPost w0 u nd np (routeF nd np d v q f) S F (routeC nd np d v q) W) := by
  refine (uRoute u nd np d v q f S F W h.at_).mono ?_
  rintro e w' ⟨rfl, h1, h2⟩
  exact ⟨rfl, F, h.step h1 (foot_refl _ _) h2 (by unfold routeF; split; exact h.minv.set _ _ _ _; exact h.minv), foot_refl _ _, h2⟩
theorem usMask (h : US w0 W u nd np f S F) (d v : Int) (b : Bool) : Calls Try.prog 66 #[.pointer (some ⟨u, 0, none⟩), .int .i64 d, .int .i64 v, .bool b] W (USPost w0 u nd np (maskF nd d v b f) S F (toldC (entE nd d v f)) W) := by
  refine (uMask u nd np d v b f S F W h.at_).mono ?_
  rintro e w' ⟨rfl, h1, h2⟩
  exact ⟨rfl, F, h.step h1 (foot_refl _ _) h2 (h.minv.mask _ _ _ _), foot_refl _ _, h2⟩
theorem usUnroute (h : US w0 W u nd np f S F) (hn : np ≤ 4) (d v : Int) : Calls Try.prog 65 #[.pointer (some ⟨u, 0, none⟩), .int .i64 d, .int .i64 v] W (USPost w0 u nd np (unsetF nd d v f) (unrouteS nd d v f S) F (toldC (entE nd d v f)) W) := by
  refine (uUnroute u nd np d v f S F W h.at_ hn).mono ?_
  rintro e w' ⟨rfl, F', h1, h3, h2⟩
  exact ⟨rfl, F', h.step h1 h3 h2 (h.minv.unset _ _ _), h3, h2⟩
theorem usRaise (h : US w0 W u nd np f S F) (hn : np ≤ 4) (d v q : Int) : Calls Try.prog 67 #[.pointer (some ⟨u, 0, none⟩), .int .i64 d, .int .i64 v, .int .i64 q] W (USPost w0 u nd np f (uraiseS nd np d v q f S) F (uraiseC nd np d v q f) W) := by
  refine (uRaise u nd np d v q f S F W h.at_ hn).mono ?_
  rintro e w' ⟨rfl, F', h1, h3, h2⟩
  exact ⟨rfl, F', h.step h1 h3 h2 h.minv, h3, h2⟩
theorem usClear (h : US w0 W u nd np f S F) (hn : np ≤ 4) (d : Int) : Calls Try.prog 68 #[.pointer (some ⟨u, 0, none⟩), .int .i64 d] W (USPost w0 u nd np (clearF nd d f) (uclearS nd d S) F (toldC (clearC nd d)) W) := by
  refine (uClear u nd np d f S F W h.at_ hn).mono ?_
  rintro e w' ⟨rfl, F', h1, h3, h2⟩
  exact ⟨rfl, F', h.step h1 h3 h2 (h.minv.clear _ _), h3, h2⟩
def USDeliverPost (w0 : World) (u nd np : Nat) (q tick : Int) (f : Nat → Ent) (S : Nat → Nat → Bool) (F : Nat → Prop) (W : World) (e : Ending) (w' : World) : Prop :=
  ∃ v, e = .returned v ∧ OwnC iqc 3 92 w' W.heap.size v (tkL np q tick (maskedL nd f 32) S) ∧ ∃ F', US w0 w' u nd np f (tkS np q (maskedL nd f 32) S) F' ∧ FootOf W F F' ∧ IsV w' F' v (tkL np q tick (maskedL nd f 32) S) ∧ Chg F W w'
theorem usDeliver (h : US w0 W u nd np f S F) (hn : np ≤ 4) (q tick : Int) : Calls Try.prog 62 #[.pointer (some ⟨u, 0, none⟩), .int .i64 q, .int .i64 tick] W (USDeliverPost w0 u nd np q tick f S F W) := by
  refine (uDeliver u nd np q tick f S F W h.at_ hn h.minv).mono ?_
  rintro e w' ⟨v, rfl, ho, F', h1, h2, h3, h4⟩
  exact ⟨v, rfl, ho, F', h.step h1 h2 h4 h.minv, h2, ⟨RdI.of ho, fun g hg => ⟨h3 g hg, (own_lt ho hg).2⟩⟩, h4⟩
end
theorem usNew (nd np : Nat) (w0 W : World) (h1 : 1 ≤ nd ∧ nd ≤ 4) (h2 : 1 ≤ np ∧ np ≤ 4) (hC : Chg (fun _ => False) w0 W) : Calls Try.prog 58 #[.int .i64 nd, .int .i64 np] W fun e w' =>
    ∃ u F, e = .returned (.tuple #[.pointer (some ⟨u, 0, none⟩), .int .i64 0]) ∧ US w0 w' u nd np (fun _ => Ent.none) (fun _ _ => false) F ∧ (∀ k, F k → W.heap.size ≤ k) ∧ Chg (fun _ => False) W w' := by
  refine (uNew_ok nd np W h1 h2).mono ?_
  rintro e w' ⟨u, F, rfl, h3, h4, h5⟩
  exact ⟨u, F, rfl, ⟨h3, fun k hk => by have := h4 k hk; have := hC.size; omega, hC.trans h5, MInv.none⟩, h4, h5⟩
def ub0 : Nat → Ent := fun _ => Ent.none
def us0 : Nat → Nat → Bool := fun _ _ => false
def ub1 := routeF 2 2 1 3 1 ub0
def us1 := uraiseS 2 2 1 3 1 ub1 us0
def us2 := uraiseS 2 2 1 3 0 ub1 us1
def us3 := uraiseS 2 2 1 4 1 ub1 us2
def ub2 := maskF 2 1 3 true ub1
def us4 := tkS 2 1 (maskedL 2 ub2 32) us3
def ub3 := maskF 2 1 3 false ub2
def us5 := tkS 2 1 (maskedL 2 ub3 32) us4
def ub4 := routeF 2 2 1 3 2 ub3
def us6 := uraiseS 2 2 1 3 1 ub4 us5
def ub5 := unsetF 2 1 3 ub4
def us7 := unrouteS 2 1 3 ub4 us6
def us8 := tkS 2 1 (maskedL 2 ub5 32) us7
theorem ub_facts : routeC 2 2 1 3 1 = 0 ∧ uraiseC 2 2 1 3 1 ub1 = 0 ∧ uraiseC 2 2 1 3 0 ub1 = 1301 ∧ uraiseC 2 2 1 4 1 ub1 = 1301 ∧ toldC (entE 2 1 3 ub1) = 0 ∧ tkL 2 1 5 (maskedL 2 ub2 32) us3 = [] ∧ toldC (entE 2 1 3 ub2) = 0 ∧ tkL 2 1 6 (maskedL 2 ub3 32) us4 = [⟨6, 1, 3⟩] ∧
    routeC 2 2 1 3 2 = 1300 ∧ uraiseC 2 2 1 3 1 ub4 = 0 ∧ toldC (entE 2 1 3 ub4) = 0 ∧ tkL 2 1 7 (maskedL 2 ub5 32) us7 = [] ∧ toldC (clearC 2 2) = 1300 := by
  refine ⟨by decide, by decide, by decide, by decide, by decide, by rfl, by decide, by rfl, by decide, by decide, by decide, by rfl, by decide⟩
end Go.Proofs.Ytpnhdiajiieonaa
