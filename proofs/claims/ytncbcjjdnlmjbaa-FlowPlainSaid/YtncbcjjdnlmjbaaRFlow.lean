/- The document's side: Flows. Printed by mkrflow.py. -/
import Derived.Test.YtncbcjjdnlmjbaaFlow
set_option linter.unusedSimpArgs false
set_option linter.unusedVariables false
namespace Go.Proofs.Ytncbcjjdnlmjbaa
open Go.RowKit

def FlHd (C : Cf) (p q : Int) : Prop := MayP C ∧ C.there p ∧ C.there q
instance (C : Cf) (p q : Int) : Decidable (FlHd C p q) := by unfold FlHd; infer_instance
theorem outN_all : ∀ n, outN (fun _ => false) n = n
  | 0 => rfl
  | n + 1 => by unfold outN; rw [outN_all n]; simp
def ClosedS (D : Nat → Nat → Prop) (n : Nat) (g : Nat → Bool) : Prop := ∀ x, x < n → g x = true → ∀ y, y < n → D x y → g y = true
/-- Between rounds. -/
structure RndI (D : Nat → Nat → Prop) (n p k : Nat) (g : Nat → Bool) : Prop where
  here : g p = true
  sound : ∀ j, j < n → g j = true → PathD D n p j
  many : ClosedS D n g ∨ outN g n + (k + 1) ≤ n
/-- In a round: the rows below i are done, of row i the places below j. -/
structure RowI (D : Nat → Nat → Prop) (n p i j : Nat) (g h : Nat → Bool) : Prop where
  mono : ∀ x, g x = true → h x = true
  sound : ∀ x, x < n → h x = true → PathD D n p x
  rows : ∀ x, x < i → ∀ y, y < n → g x = true → D x y → h y = true
  row : ∀ y, y < j → g i = true → D i y → h y = true
theorem outN_lt {g h : Nat → Bool} (hm : ∀ j, g j = true → h j = true) {x : Nat} (h1 : h x = true) (h2 : ¬ g x = true) : ∀ n, x < n → outN h n + 1 ≤ outN g n
  | 0, hx => by omega
  | n + 1, hx => by
    unfold outN
    by_cases e : x = n
    · subst e
      rw [if_pos h1, if_neg h2]
      have := outN_mono hm x
      omega
    · have := outN_lt hm h1 h2 n (by omega)
      by_cases e2 : g n = true
      · rw [if_pos e2, if_pos (hm n e2)]; omega
      · rw [if_neg e2]; split <;> omega
theorem RndI.next {D : Nat → Nat → Prop} {n p k : Nat} {g h : Nat → Bool} (a : RndI D n p k g) (b : RowI D n p n 0 g h) : RndI D n p (k + 1) h := by
  refine ⟨b.mono p a.here, b.sound, ?_⟩
  by_cases e : ∀ j, j < n → h j = true → g j = true
  · left
    intro x hx hx' y hy hd
    exact b.rows x hx y hy (e x hx hx') hd
  · obtain ⟨j, e1⟩ := Classical.not_forall.1 e
    obtain ⟨hj, e2⟩ := Classical.not_imp.1 e1
    obtain ⟨h1, h2⟩ := Classical.not_imp.1 e2
    rcases a.many with hc | hm
    · exact absurd ((path_of_closed a.here a.sound hc j hj).2 (b.sound j hj h1)) h2
    · right
      have := outN_lt b.mono h1 h2 n hj
      omega
theorem RowI.begin {D : Nat → Nat → Prop} {n p k : Nat} {g : Nat → Bool} (a : RndI D n p k g) : RowI D n p 0 0 g g := ⟨fun _ h => h, a.sound, fun x hx => by omega, fun y hy => by omega⟩
theorem RowI.line {D : Nat → Nat → Prop} {n p i : Nat} {g h : Nat → Bool} (b : RowI D n p i n g h) : RowI D n p (i + 1) 0 g h :=
  ⟨b.mono, b.sound, fun x hx y hy hg hd => by
    by_cases e : x = i
    · subst e; exact b.row y hy hg hd
    · exact b.rows x (by omega) y hy hg hd, fun y hy => by omega⟩
theorem RowI.put {D : Nat → Nat → Prop} {n p i j : Nat} {g h : Nat → Bool} (b : RowI D n p i j g h) (hi : i < n) (hj : j < n) {v : Bool} (hv : v = true ↔ h j = true ∨ (h i = true ∧ D i j)) : RowI D n p i (j + 1) g (upd h j v) := by
  have hup : ∀ x, h x = true → upd h j v x = true := fun x hx => by
    by_cases e : x = j
    · subst e; rw [upd_same]; exact hv.2 (.inl hx)
    · rw [upd_other _ _ e]; exact hx
  refine ⟨fun x hx => hup x (b.mono x hx), fun x hx hx' => ?_, fun x hx y hy hg hd => hup y (b.rows x hx y hy hg hd), fun y hy hg hd => ?_⟩
  · by_cases e : x = j
    · subst e
      rw [upd_same] at hx'
      rcases hv.1 hx' with h1 | ⟨h1, h2⟩
      · exact b.sound x hx h1
      · exact .step (b.sound i hi h1) hi hx h2
    · rw [upd_other _ _ e] at hx'; exact b.sound x hx hx'
  · by_cases e : y = j
    · subst e; rw [upd_same]; exact hv.2 (.inr ⟨b.mono i hg, hd⟩)
    · exact hup y (b.row y (by omega) hg hd)
theorem RndI.path {D : Nat → Nat → Prop} {n p k : Nat} {g : Nat → Bool} (a : RndI D n p k g) (hk : n ≤ k) (q : Nat) (hq : q < n) : g q = true ↔ PathD D n p q :=
  path_of_closed a.here a.sound (a.many.resolve_right (by omega)) q hq
set_option maxRecDepth 100000 in
set_option maxHeartbeats 8000000 in
theorem refFlows (p q : Int) (C : Cf) (s : Vs) (w : World) (h : s.R w C) (hd : C.wfD) :
    Calls Try.prog 38 #[.agg (cfc C s), .int .i64 p, .int .i64 q] w fun e w' => e = .returned (.bool (flowB C p q)) ∧ Chg (fun _ => False) w w' := by
  have HA := Lib.hid ((Chg.refl (fun _ => False) w).alloc (.cells (cfc C s) 27))
  have HP : Hid (∀ W, Chg (fun _ => False) (w.alloc (.cells (cfc C s) 27)) W → CfP W w.heap.size C s) := byVal h
  have HDL := Lib.hid hd; clear hd
  clear h
  obtain ⟨A1, k1, A2, k2, A3, k3, A4, k4, rfl, m1, m2, m3, m4⟩ := (HP.out _ (Chg.refl _ _)).open
  unfold cfc at *
  go_enter Try.func38, Try.ntmps38
  go_upto_region 1 with fail
  generalize (w.alloc (.cells #[.int .i64 C.frames, .slice A1 C.parts.length k1, .slice A2 C.devs.length k2, .int .i64 C.major, .slice A3 C.wins.length k3, .slice A4 C.grants.length k4, .int .i64 C.sectors, .int .i64 C.quota, .int .i64 C.quiet] 27)) = W0 at *
  generalize w.heap.size = b at *
  have HR := Lib.hid (Chg.refl (fun _ => False) W0)
  obtain ⟨y0, y1, y2, y3, y4, y5, y6, y7, y8⟩ := (HP.out _ HR.out).c9'
  go_cut [35] (fun s wx => s = .bool (!decide (FlHd C p q)) ∧ Chg (fun _ => False) W0 wx)
  case first =>
    by_cases t0 : ¬ MayP C
    · skip
      have EN := Lib.hid (show true = !decide (FlHd C p q) from by rw [decide_eq_false (fun h : FlHd C p q => by obtain ⟨h0, ⟨h1, h2⟩, h3, h4⟩ := h; first | contradiction | omega)]; rfl)
      have R0 := Lib.hid (decide_eq_false t0)
      clear t0
      go_wp2_with fail
      refine (refMay C _ _ (HP.out _ HR.out).2 HDL.out).mono ?_
      rintro e w5 ⟨rfl, k5⟩
      rw [R0.out]
      replace HR := Lib.hid (HR.out.trans k5)
      clear k5 y0 y1 y2 y3 y4 y5 y6 y7 y8
      obtain ⟨y0, y1, y2, y3, y4, y5, y6, y7, y8⟩ := (HP.out _ HR.out).c9'
      go_wp2_with fail
      go_meet
      exact ⟨congrArg Value.bool EN.out, HR.out⟩
    · skip
      by_cases t1 : p < 0
      · skip
        have d1_0 : decide (p < 0) = true := by first | (simpa using t1) | (simp; omega)
        have EN := Lib.hid (show true = !decide (FlHd C p q) from by rw [decide_eq_false (fun h : FlHd C p q => by obtain ⟨h0, ⟨h1, h2⟩, h3, h4⟩ := h; first | contradiction | omega)]; rfl)
        have R0 := Lib.hid (decide_eq_true (Decidable.not_not.1 t0))
        clear t0 t1
        go_wp2_with fail
        refine (refMay C _ _ (HP.out _ HR.out).2 HDL.out).mono ?_
        rintro e w5 ⟨rfl, k5⟩
        rw [R0.out]
        replace HR := Lib.hid (HR.out.trans k5)
        clear k5 y0 y1 y2 y3 y4 y5 y6 y7 y8
        obtain ⟨y0, y1, y2, y3, y4, y5, y6, y7, y8⟩ := (HP.out _ HR.out).c9'
        go_wp2_with fail
        go_meet
        exact ⟨congrArg Value.bool EN.out, HR.out⟩
      · skip
        have d1_0 : decide (p < 0) = false := by first | (simpa using t1) | (simp; omega)
        by_cases t2 : (C.parts.length : Int) ≤ p
        · skip
          have d2_0 : decide ((C.parts.length : Int) ≤ p) = true := by first | (simpa using t2) | (simp; omega)
          have EN := Lib.hid (show true = !decide (FlHd C p q) from by rw [decide_eq_false (fun h : FlHd C p q => by obtain ⟨h0, ⟨h1, h2⟩, h3, h4⟩ := h; first | contradiction | omega)]; rfl)
          have R0 := Lib.hid (decide_eq_true (Decidable.not_not.1 t0))
          clear t0 t1 t2
          go_wp2_with fail
          refine (refMay C _ _ (HP.out _ HR.out).2 HDL.out).mono ?_
          rintro e w5 ⟨rfl, k5⟩
          rw [R0.out]
          replace HR := Lib.hid (HR.out.trans k5)
          clear k5 y0 y1 y2 y3 y4 y5 y6 y7 y8
          obtain ⟨y0, y1, y2, y3, y4, y5, y6, y7, y8⟩ := (HP.out _ HR.out).c9'
          go_wp2_with fail
          go_meet
          exact ⟨congrArg Value.bool EN.out, HR.out⟩
        · skip
          have d2_0 : decide ((C.parts.length : Int) ≤ p) = false := by first | (simpa using t2) | (simp; omega)
          by_cases t3 : q < 0
          · skip
            have d3_0 : decide (q < 0) = true := by first | (simpa using t3) | (simp; omega)
            have EN := Lib.hid (show true = !decide (FlHd C p q) from by rw [decide_eq_false (fun h : FlHd C p q => by obtain ⟨h0, ⟨h1, h2⟩, h3, h4⟩ := h; first | contradiction | omega)]; rfl)
            have R0 := Lib.hid (decide_eq_true (Decidable.not_not.1 t0))
            clear t0 t1 t2 t3
            go_wp2_with fail
            refine (refMay C _ _ (HP.out _ HR.out).2 HDL.out).mono ?_
            rintro e w5 ⟨rfl, k5⟩
            rw [R0.out]
            replace HR := Lib.hid (HR.out.trans k5)
            clear k5 y0 y1 y2 y3 y4 y5 y6 y7 y8
            obtain ⟨y0, y1, y2, y3, y4, y5, y6, y7, y8⟩ := (HP.out _ HR.out).c9'
            go_wp2_with fail
            go_meet
            exact ⟨congrArg Value.bool EN.out, HR.out⟩
          · skip
            have d3_0 : decide (q < 0) = false := by first | (simpa using t3) | (simp; omega)
            by_cases t4 : (C.parts.length : Int) ≤ q
            · skip
              have d4_0 : decide ((C.parts.length : Int) ≤ q) = true := by first | (simpa using t4) | (simp; omega)
              have EN := Lib.hid (show true = !decide (FlHd C p q) from by rw [decide_eq_false (fun h : FlHd C p q => by obtain ⟨h0, ⟨h1, h2⟩, h3, h4⟩ := h; first | contradiction | omega)]; rfl)
              have R0 := Lib.hid (decide_eq_true (Decidable.not_not.1 t0))
              clear t0 t1 t2 t3 t4
              go_wp2_with fail
              refine (refMay C _ _ (HP.out _ HR.out).2 HDL.out).mono ?_
              rintro e w5 ⟨rfl, k5⟩
              rw [R0.out]
              replace HR := Lib.hid (HR.out.trans k5)
              clear k5 y0 y1 y2 y3 y4 y5 y6 y7 y8
              obtain ⟨y0, y1, y2, y3, y4, y5, y6, y7, y8⟩ := (HP.out _ HR.out).c9'
              go_wp2_with fail
              go_meet
              exact ⟨congrArg Value.bool EN.out, HR.out⟩
            · skip
              have d4_0 : decide ((C.parts.length : Int) ≤ q) = false := by first | (simpa using t4) | (simp; omega)
              have EN := Lib.hid (show false = !decide (FlHd C p q) from by rw [decide_eq_true (show FlHd C p q from ⟨Decidable.not_not.1 t0, ⟨by omega, by omega⟩, ⟨by omega, by omega⟩⟩)]; rfl)
              have R0 := Lib.hid (decide_eq_true (Decidable.not_not.1 t0))
              clear t0 t1 t2 t3 t4
              go_wp2_with fail
              refine (refMay C _ _ (HP.out _ HR.out).2 HDL.out).mono ?_
              rintro e w5 ⟨rfl, k5⟩
              rw [R0.out]
              replace HR := Lib.hid (HR.out.trans k5)
              clear k5 y0 y1 y2 y3 y4 y5 y6 y7 y8
              obtain ⟨y0, y1, y2, y3, y4, y5, y6, y7, y8⟩ := (HP.out _ HR.out).c9'
              go_wp2_with fail
              go_meet
              exact ⟨congrArg Value.bool EN.out, HR.out⟩
  case rest =>
    clear HR y0 y1 y2 y3 y4 y5 y6 y7 y8
    obtain ⟨rfl, hC0⟩ := hcut
    have HC := Lib.hid hC0; clear hC0
    by_cases hh : FlHd C p q
    · rw [decide_eq_true hh, Bool.not_true]
      obtain ⟨hm, hp, hq⟩ := hh
      have hl := hm.1.2.2
      obtain ⟨pn, rfl⟩ := Int.eq_ofNat_of_zero_le hp.1
      obtain ⟨qn, rfl⟩ := Int.eq_ofNat_of_zero_le hq.1
      have hpn : pn < C.parts.length := by have := hp.2; omega
      have hqn : qn < C.parts.length := by have := hq.2; omega
      have EN : Hid (flowB C pn qn = pathB C pn qn) := by unfold Hid flowB; rw [decide_eq_true hm, decide_eq_true hp, decide_eq_true hq]; rfl
      have p0 : (0 : Int) ≤ pn := by omega
      have p1 : (pn : Int) < 4 := by omega
      have q0 : (0 : Int) ≤ qn := by omega
      have q1 : (qn : Int) < 4 := by omega
      clear hm hp hq
      go_upto_region 4 with fail
      refine wp_abs (fun W => ArrC bcell 1 W wc.heap.size 143 4 (fun _ => false) ∧ Chg (fun _ => False) W0 W) ⟨arrB_zero (blk_new _ _), HC.out.alloc _⟩ ?_
      have HQB := Lib.hid HC.out.size
      generalize wc.heap.size = qb at *
      clear HC
      rintro W4 ⟨hz, hC⟩
      have cp : W4.cell? ⟨qb, pn, none⟩ = some (.bool false) := by have := hz.cell (k := pn) (by omega) (j := 0) (by omega); simpa [bcell] using this
      have fp := hz.free pn
      have lp := hz.lt
      have hz2 := hz.set (k := pn) (by omega) true rfl
      have e0 : W4.setCells qb (pn * 1) (bcell true) = W4.setCell ⟨qb, pn, none⟩ (.bool true) := by rw [Nat.mul_one]; rfl
      rw [e0] at hz2
      have HZ := Lib.hid hz2
      have HC : Hid (Chg (fun _ => False) W0 (W4.setCell ⟨qb, pn, none⟩ (.bool true))) := hC.trans' ((Chg.refl (fun k => k = qb) _).set1 _) (fun k hk e => by have := HQB.out; omega)
      have HI : Hid (RndI (DirP C) C.parts.length pn 0 (upd (fun _ => false) pn true)) := ⟨upd_same _ _ _, fun j hj hj' => by
        by_cases e : j = pn
        · subst e; exact .refl
        · rw [upd_other _ _ e] at hj'; exact absurd hj' (by decide), .inr (by have := outN_upd (g := fun _ => false) (p := pn) rfl _ hpn; rw [outN_all] at this; omega)⟩
      clear hz hz2 hC e0
      go_upto_region 5 with fail
      generalize (W4.setCell ⟨qb, pn, none⟩ (.bool true)) = W5 at *
      clear cp fp lp
      go_wp2_with fail
      go_loopw [8] (fun s8 wr => ∃ (k : Nat) (g : Nat → Bool), k ≤ 4 ∧ s8 = .int .i64 k ∧ ArrC bcell 1 wr qb 143 4 g ∧ RndI (DirP C) C.parts.length pn k g ∧ Chg (fun _ => False) W0 wr) (fun s8 _ => (4 - intOf s8).toNat)
      case atStart => exact ⟨0, _, by omega, rfl, HZ.out, HI.out, HC.out⟩
      case round =>
        clear HZ HI HC
        obtain ⟨k, g, hk, rfl, hz, hI, hC⟩ := hrel
        have k0 : (0 : Int) ≤ k := by omega
        have HZ := Lib.hid hz; clear hz
        have HI := Lib.hid hI; clear hI
        have HC := Lib.hid hC; clear hC
        by_cases hkl : k < 4
        · have kk1 : (k : Int) < 4 := by omega
          have HB := Lib.hid (RowI.begin HI.out)
          go_wp2_with fail
          go_loopw [9] (fun s9 wr => ∃ (i : Nat) (h : Nat → Bool), i ≤ C.parts.length ∧ s9 = .int .i64 i ∧ ArrC bcell 1 wr qb 143 4 h ∧ RowI (DirP C) C.parts.length pn i 0 g h ∧ Chg (fun _ => False) W0 wr) (fun s9 _ => (C.parts.length - intOf s9).toNat)
          case atStart => exact ⟨0, _, by omega, rfl, HZ.out, HB.out, HC.out⟩
          case round =>
            clear HZ HB HC
            obtain ⟨i, h, hi, rfl, hz, hB, hC⟩ := hrel
            have i0 : (0 : Int) ≤ i := by omega
            have HZ := Lib.hid hz; clear hz
            have HB := Lib.hid hB; clear hB
            have y1 : wr.cell? ⟨b, 1, none⟩ = some (.slice A1 C.parts.length k1) := (HP.out _ hC).cell 1
            have HC := Lib.hid hC; clear hC
            by_cases hil : i < C.parts.length
            · have i1 : (i : Int) < C.parts.length := by omega
              go_wp2_with fail
              clear y1
              go_loopw [10] (fun s10 wr => ∃ (j : Nat) (h : Nat → Bool), j ≤ C.parts.length ∧ s10 = .int .i64 j ∧ ArrC bcell 1 wr qb 143 4 h ∧ RowI (DirP C) C.parts.length pn i j g h ∧ Chg (fun _ => False) W0 wr) (fun s10 _ => (C.parts.length - intOf s10).toNat)
              case atStart => exact ⟨0, _, by omega, rfl, HZ.out, HB.out, HC.out⟩
              case round =>
                clear HZ HB HC
                obtain ⟨j, hh, hj, rfl, hz, hB, hC⟩ := hrel
                have j0 : (0 : Int) ≤ j := by omega
                have y1 : wr.cell? ⟨b, 1, none⟩ = some (.slice A1 C.parts.length k1) := (HP.out _ hC).cell 1
                have HB := Lib.hid hB; clear hB
                by_cases hjl : j < C.parts.length
                · have j1 : (j : Int) < C.parts.length := by omega
                  have j4 : (j : Int) < 4 := by omega
                  have i4 : (i : Int) < 4 := by omega
                  have cj : wr.cell? ⟨qb, j, none⟩ = some (.bool (hh j)) := by have := hz.cell (k := j) (by omega) (j := 0) (by omega); simpa [bcell] using this
                  have ci : wr.cell? ⟨qb, i, none⟩ = some (.bool (hh i)) := by have := hz.cell (k := i) (by omega) (j := 0) (by omega); simpa [bcell] using this
                  have fj := hz.free j
                  have lj := hz.lt
                  have HZX := Lib.hid hz; clear hz
                  have HCX := Lib.hid hC; clear hC
                  cases e1 : hh j with
                  | true =>
                    rw [e1] at cj
                    have HB2 : Hid (RowI (DirP C) C.parts.length pn i (j + 1) g (upd hh j true)) := HB.out.put hil hjl (by simp [e1])
                    clear e1
                    have HZ2 : Hid (ArrC bcell 1 (wr.setCell ⟨qb, j, none⟩ (.bool true)) qb 143 4 (upd hh j true)) := by
                      have hz2 := HZX.out.set (k := j) (by omega) true rfl
                      have e : wr.setCells qb (j * 1) (bcell true) = wr.setCell ⟨qb, j, none⟩ (.bool true) := by rw [Nat.mul_one]; rfl
                      rw [e] at hz2; exact hz2
                    have HC2 : Hid (Chg (fun _ => False) W0 (wr.setCell ⟨qb, j, none⟩ (.bool true))) := HCX.out.trans' ((Chg.refl (fun k => k = qb) _).set1 _) (fun k hk e => by have := HQB.out; omega)
                    go_wp2_with fail
                    go_roundw
                    case rel => exact ⟨j + 1, _, by omega, by go_num, HZ2.out, HB2.out, HC2.out⟩
                    case measure => simp [intOf]; omega
                  | false =>
                    rw [e1] at cj
                    cases e2 : hh i with
                    | false =>
                      rw [e2] at ci
                      have HB2 : Hid (RowI (DirP C) C.parts.length pn i (j + 1) g (upd hh j false)) := HB.out.put hil hjl (by simp [e1, e2])
                      clear e1 e2
                      have HZ2 : Hid (ArrC bcell 1 (wr.setCell ⟨qb, j, none⟩ (.bool false)) qb 143 4 (upd hh j false)) := by
                        have hz2 := HZX.out.set (k := j) (by omega) false rfl
                        have e : wr.setCells qb (j * 1) (bcell false) = wr.setCell ⟨qb, j, none⟩ (.bool false) := by rw [Nat.mul_one]; rfl
                        rw [e] at hz2; exact hz2
                      have HC2 : Hid (Chg (fun _ => False) W0 (wr.setCell ⟨qb, j, none⟩ (.bool false))) := HCX.out.trans' ((Chg.refl (fun k => k = qb) _).set1 _) (fun k hk e => by have := HQB.out; omega)
                      go_wp2_with fail
                      go_roundw
                      case rel => exact ⟨j + 1, _, by omega, by go_num, HZ2.out, HB2.out, HC2.out⟩
                      case measure => simp [intOf]; omega
                    | true =>
                      rw [e2] at ci
                      have HDC := Lib.hid (refDirect i j C _ wr (HP.out _ HCX.out).2 hil hjl)
                      obtain ⟨y0, y1', y2, y3, y4, y5, y6, y7, y8⟩ := (HP.out _ HCX.out).c9'
                      have HB2 : Hid (RowI (DirP C) C.parts.length pn i (j + 1) g (upd hh j (decide (DirP C i j)))) := HB.out.put hil hjl (by simp [e1, e2])
                      clear e1 e2
                      go_wp2_with fail
                      refine HDC.out.mono ?_
                      rintro e w2 ⟨rfl, k2⟩
                      clear y0 y1 y1' y2 y3 y4 y5 y6 y7 y8 HDC
                      replace cj := k2.cell cj id
                      replace fj := (k2.frz (p := ⟨qb, j, none⟩) lj id).trans fj
                      replace lj := Nat.lt_of_lt_of_le lj k2.size
                      have HZ' := Lib.hid (HZX.out.keep k2 id)
                      have HC' := Lib.hid (HCX.out.trans k2)
                      clear HZX HCX ci k2
                      have HZX := HZ'
                      have HCX := HC'
                      clear HZ' HC'
                      generalize decide (DirP C i j) = dv at *
                      have HZ2 : Hid (ArrC bcell 1 (w2.setCell ⟨qb, j, none⟩ (.bool dv)) qb 143 4 (upd hh j dv)) := by
                        have hz2 := HZX.out.set (k := j) (by omega) dv rfl
                        have e : w2.setCells qb (j * 1) (bcell dv) = w2.setCell ⟨qb, j, none⟩ (.bool dv) := by rw [Nat.mul_one]; rfl
                        rw [e] at hz2; exact hz2
                      have HC2 : Hid (Chg (fun _ => False) W0 (w2.setCell ⟨qb, j, none⟩ (.bool dv))) := HCX.out.trans' ((Chg.refl (fun k => k = qb) _).set1 _) (fun k hk e => by have := HQB.out; omega)
                      go_wp2_with fail
                      go_roundw
                      case rel => exact ⟨j + 1, _, by omega, by go_num, HZ2.out, HB2.out, HC2.out⟩
                      case measure => simp [intOf]; omega
                · obtain rfl : j = C.parts.length := by omega
                  have HZ := Lib.hid hz; clear hz
                  have HC := Lib.hid hC; clear hC
                  have HB2 := Lib.hid (RowI.line HB.out)
                  go_wp2_with fail
                  go_roundw
                  case rel => exact ⟨i + 1, _, by omega, by go_num, HZ.out, HB2.out, HC.out⟩
                  case measure => simp [intOf]; omega
            · obtain rfl : i = C.parts.length := by omega
              have HI2 := Lib.hid (RndI.next HI.out HB.out)
              go_wp2_with fail
              go_roundw
              case rel => exact ⟨k + 1, _, by omega, by go_num, HZ.out, HI2.out, HC.out⟩
              case measure => simp [intOf]; omega
        · obtain rfl : k = 4 := by omega
          have hgq : g qn = pathB C pn qn := by rw [Bool.eq_iff_iff, pathB_iff]; exact HI.out.path hl qn hqn
          have cq : wr.cell? ⟨qb, qn, none⟩ = some (.bool (g qn)) := by have := HZ.out.cell (k := qn) (by omega) (j := 0) (by omega); simpa [bcell] using this
          rw [hgq] at cq
          clear hgq
          generalize pathB C pn qn = bb at *
          go_wp2_with fail
          go_ret
          exact ⟨retB EN.out.symm, HA.out.trans HC.out⟩
    · rw [decide_eq_false hh]
      have EN : Hid (flowB C p q = false) := by
        unfold Hid flowB
        by_cases h1 : MayP C
        · by_cases h2 : C.there p
          · rw [decide_eq_false (fun h3 : C.there q => hh ⟨h1, h2, h3⟩)]; simp
          · rw [decide_eq_false h2]; simp
        · rw [decide_eq_false h1]; simp
      clear hh
      go_wp2_with fail
      go_ret
      exact ⟨retB EN.out.symm, HA.out.trans HC.out⟩
end Go.Proofs.Ytncbcjjdnlmjbaa
