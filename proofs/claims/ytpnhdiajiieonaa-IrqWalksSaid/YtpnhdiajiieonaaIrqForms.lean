/- The law IrqForms. -/
import Derived.Test.YtpnhdiajiieonaaAwake13
set_option linter.unusedSimpArgs false
set_option linter.unusedVariables false
namespace Go.Proofs.Ytpnhdiajiieonaa
open Go.RowKit
attribute [local go_sem] i64_and1023

section
variable {w0 W : World} {u nd np : Nat} {f : Nat → Ent} {S : Nat → Nat → Bool} {F : Nat → Prop}
theorem uraise_bad {d v q : Int} (h : ¬ inR nd d v ∨ ¬ inP np q) : uraiseC nd np d v q f = 1300 := by
  unfold uraiseC
  refine if_pos ?_
  rcases h with h | h
  · left; unfold entE; exact if_neg h
  · right; exact h
theorem usRaiseBad (h : US w0 W u nd np f S F) (hn : np ≤ 4) (d v q : Int) (hb : ¬ inR nd d v ∨ ¬ inP np q) : Calls Try.prog 67 #[.pointer (some ⟨u, 0, none⟩), .int .i64 d, .int .i64 v, .int .i64 q] W (USPost w0 u nd np f S F 1300 W) := by
  have := usRaise h hn d v q
  unfold uraiseS at this
  rw [uraise_bad hb, if_neg (by decide)] at this
  exact this
theorem usRouteBad (h : US w0 W u nd np f S F) (d v q : Int) (hb : ¬ inR nd d v ∨ ¬ inP np q) : Calls Try.prog 64 #[.pointer (some ⟨u, 0, none⟩), .int .i64 d, .int .i64 v, .int .i64 q] W (USPost w0 u nd np f S F 1300 W) := by
  have := usRoute h d v q
  by_cases hq : inP np q
  · have hi : ¬ inR nd d v := hb.elim id (fun h => absurd hq h)
    have e1 : routeC nd np d v q = 1300 := by
      unfold routeC setC; rw [if_pos hq, if_neg (fun h => hi h.1)]; rfl
    have e2 : routeF nd np d v q f = f := by
      unfold routeF setF; rw [if_pos hq]; exact if_neg (fun h => hi h.1)
    rw [e1, e2] at this; exact this
  · have e1 : routeC nd np d v q = 1300 := if_neg hq
    have e2 : routeF nd np d v q f = f := if_neg hq
    rw [e1, e2] at this; exact this
theorem usClearBad (h : US w0 W u nd np f S F) (hn : np ≤ 4) (d : Int) (hb : ¬ (0 ≤ d ∧ d < nd)) : Calls Try.prog 68 #[.pointer (some ⟨u, 0, none⟩), .int .i64 d] W (USPost w0 u nd np f S F 1300 W) := by
  have := usClear h hn d
  have e1 : clearC nd d = 1100 := if_neg hb
  have e2 : clearF nd d f = f := if_neg hb
  unfold uclearS at this
  rw [e1, e2, if_neg (by decide)] at this
  exact this
end
theorem tkL_none (np : Nat) (q tick : Int) (ms : List Iq) : tkL np q tick ms us0 = [] := by
  unfold tkL
  split
  · exact takeL_nil (fun k _ => rfl) ms tick
  · rfl
def if1 := routeF 2 2 1 1 1 ub0
def if2 := routeF 2 2 1 2 1 if1
theorem if_facts : uraiseC 2 2 1 2 1 if1 = 1301 ∧ routeC 2 2 1 2 1 = 0 ∧ uraiseS 2 2 1 2 1 if1 us0 = us0 := ⟨by decide, by decide, by unfold uraiseS; rw [show uraiseC 2 2 1 2 1 if1 = 1301 from by decide]; exact if_neg (by decide)⟩
set_option maxRecDepth 100000 in
set_option maxHeartbeats 8000000 in
theorem irqForms_main (w0 : World) (which x : Int) :
    Calls Try.prog 16 #[.int .i64 which, .int .i64 x] w0 fun e w' => e = .returned (.bool true) ∧ Chg (fun _ => False) w0 w' := by
  obtain ⟨d, hd, hd1, hd2⟩ : ∃ d : Int, 1 + x % 1024 = d ∧ 1 ≤ d ∧ d ≤ 1024 := ⟨1 + x % 1024, rfl, by omega, by omega⟩
  have Hd := Lib.hid hd; clear hd
  obtain ⟨t1, t2, t3⟩ := if_facts
  go_enter Try.func16, Try.ntmps16
  go_wp2_with fail
  refine (awake13 _).mono ?_
  rintro e w ⟨rfl, hC0⟩
  have HC0 := Lib.hid hC0; clear hC0
  go_wp2_with fail
  rw [Hd.out]
  clear Hd
  refine (uNew_no _ 2 w (by omega)).mono ?_
  rintro e w1 ⟨rfl, k1⟩
  have HC1 := Lib.hid (HC0.out.trans k1); clear HC0 k1
  go_wp2_with fail
  refine (uNew_no _ 2 w1 (by omega)).mono ?_
  rintro e w2 ⟨rfl, k1⟩
  have HC2 := Lib.hid (HC1.out.trans k1); clear HC1 k1
  go_wp2_with fail
  refine (uNew_no 2 _ w2 (by omega)).mono ?_
  rintro e w3 ⟨rfl, k1⟩
  have HC3 := Lib.hid (HC2.out.trans k1); clear HC2 k1
  go_wp2_with fail
  refine (usNew 2 2 w0 w3 (by omega) (by omega) HC3.out).mono ?_
  rintro e w4 ⟨u, F0, rfl, P0, _, _⟩
  clear HC3
  change US w0 w4 u 2 2 ub0 us0 F0 at P0
  go_wp2_with fail
  refine (num16 0 w4).mono ?_
  rintro e x1 ⟨rfl, rfl⟩
  go_wp2_with fail
  refine (usRoute P0 1 1 1).mono ?_
  rintro e w5 ⟨rfl, F1, P1, _, _⟩
  change US w0 w5 u 2 2 if1 us0 F1 at P1
  clear P0
  generalize routeC 2 2 1 1 1 = rc at *
  go_wp2_with fail
  all_goals first
    | (refine (usRaiseBad P1 (by omega) _ _ _ (by unfold inR inP; omega)).mono ?_
       rintro e w6 ⟨rfl, F2, P2, _, _⟩
       go_wp2_with fail
       refine (usRouteBad P2 _ _ _ (by unfold inR inP; omega)).mono ?_
       rintro e w7 ⟨rfl, F3, P3, _, _⟩
       go_wp2_with fail
       refine (usClearBad P3 (by omega) _ (by omega)).mono ?_
       rintro e w8 ⟨rfl, F4, P4, _, _⟩
       clear P1 P2 P3
       go_wp2_with fail
       iterate 6
         refine (num16 1300 _).mono ?_
         rintro e x1 ⟨rfl, rfl⟩
         go_wp2_with fail
       refine (usDeliver P4 (by omega) 1 3).mono ?_
       rintro e w9 ⟨v, rfl, _, F5, P5, _, V, _⟩
       rw [tkL_none] at V
       obtain ⟨⟨A1, c1, rfl, _⟩, _⟩ := V
       have hC := P5.chg
       clear P4 P5
       have HC := Lib.hid hC; clear hC
       go_wp2_with fail
       go_ret
       exact ⟨rfl, HC.out⟩)
    | (refine (usRaise P1 (by omega) 1 2 1).mono ?_
       rintro e w6 ⟨rfl, F2, P2, _, _⟩
       rw [t1]
       rw [t3] at P2
       go_wp2_with fail
       refine (usRoute P2 1 2 1).mono ?_
       rintro e w7 ⟨rfl, F3, P3, _, _⟩
       rw [t2]
       change US w0 w7 u 2 2 if2 us0 F3 at P3
       go_wp2_with fail
       refine (usClearBad P3 (by omega) _ (by omega)).mono ?_
       rintro e w8 ⟨rfl, F4, P4, _, _⟩
       clear P1 P2 P3 t1 t2 t3
       go_wp2_with fail
       iterate 6
         refine (num16 _ _).mono ?_
         rintro e x1 ⟨rfl, rfl⟩
         go_wp2_with fail
       refine (usDeliver P4 (by omega) 1 3).mono ?_
       rintro e w9 ⟨v, rfl, _, F5, P5, _, V, _⟩
       rw [tkL_none] at V
       obtain ⟨⟨A1, c1, rfl, _⟩, _⟩ := V
       have hC := P5.chg
       clear P4 P5
       have HC := Lib.hid hC; clear hC
       go_wp2_with fail
       go_ret
       exact ⟨rfl, HC.out⟩)
theorem irqForms_walk (w : World) (which x : Int) :
    Calls Try.prog 16 #[.int .i64 which, .int .i64 x] w fun e w' => e = .returned (.bool true) ∧ Below w.heap.size w w' :=
  (irqForms_main w which x).mono fun e w' ⟨h1, h2⟩ => ⟨h1, h2.below (Nat.le_refl _) (fun _ h => h.elim)⟩
end Go.Proofs.Ytpnhdiajiieonaa
