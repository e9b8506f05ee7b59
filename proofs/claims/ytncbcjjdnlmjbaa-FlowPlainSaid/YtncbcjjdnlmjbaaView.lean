/- What flows directly: labels and grants. Printed by mkview.py. -/
import Derived.Test.YtncbcjjdnlmjbaaRefM
import Derived.StillTailTactics
set_option linter.unusedSimpArgs false
set_option linter.unusedVariables false
namespace Go.Proofs.Ytncbcjjdnlmjbaa
open Go.RowKit

def DomP (la ca lb cb : Int) : Prop := LabP la ca ∧ LabP lb cb ∧ lb ≤ la ∧ bits .andNot .i64 cb ca = 0
instance (la ca lb cb : Int) : Decidable (DomP la ca lb cb) := by unfold DomP; infer_instance
theorem dom_iff' : ∀ a b : Fin 16, (bits .and .i64 (a.val : Int) (b.val : Int) = (b.val : Int)) ↔ bits .andNot .i64 (b.val : Int) (a.val : Int) = 0 := by decide +kernel
theorem dom_iff {la ca lb cb : Int} (h1 : LabP la ca) (h2 : LabP lb cb) : bits .and .i64 ca cb = cb ↔ bits .andNot .i64 cb ca = 0 := by
  obtain ⟨_, _, a0, a1⟩ := h1
  obtain ⟨_, _, b0, b1⟩ := h2
  obtain ⟨x, rfl⟩ := Int.eq_ofNat_of_zero_le a0
  obtain ⟨y, rfl⟩ := Int.eq_ofNat_of_zero_le b0
  exact dom_iff' ⟨x, by omega⟩ ⟨y, by omega⟩
set_option maxRecDepth 100000 in
set_option maxHeartbeats 2000000 in
theorem vDom (la ca lb cb : Int) (w : World) : Calls Try.prog 167 #[.agg #[.int .i64 la, .int .i64 ca], .agg #[.int .i64 lb, .int .i64 cb]] w fun e w' => e = .returned (.bool (decide (DomP la ca lb cb))) ∧ Chg (fun _ => False) w w' := by
  have HA := Lib.hid (((Chg.refl (fun _ => False) w).alloc (.cells #[.int .i64 la, .int .i64 ca] 37)).alloc (.cells #[.int .i64 lb, .int .i64 cb] 37))
  have HP : Hid (∀ W, Chg (fun _ => False) ((w.alloc (.cells #[.int .i64 la, .int .i64 ca] 37)).alloc (.cells #[.int .i64 lb, .int .i64 cb] 37)) W → W.cell? ⟨w.heap.size, 0, none⟩ = some (.int .i64 la) ∧ W.cell? ⟨w.heap.size, 1, none⟩ = some (.int .i64 ca) ∧ W.cell? ⟨w.heap.size + 1, 0, none⟩ = some (.int .i64 lb) ∧ W.cell? ⟨w.heap.size + 1, 1, none⟩ = some (.int .i64 cb)) := fun W hW => by
    have h1 := hW.at (((Chg.refl (fun _ => False) _).alloc (.cells #[.int .i64 lb, .int .i64 cb] 37)).at (blk_new w (.cells #[.int .i64 la, .int .i64 ca] 37)) id) id
    have h2 := hW.at (blk_new2 w (.cells #[.int .i64 la, .int .i64 ca] 37) (.cells #[.int .i64 lb, .int .i64 cb] 37)) id
    exact ⟨blk_cell h1 0, blk_cell h1 1, blk_cell h2 0, blk_cell h2 1⟩
  by_cases t0 : ¬ LabP la ca
  · skip
    have EN := Lib.hid (decide_eq_false (fun h : DomP la ca lb cb => by obtain ⟨h0, h1, h2, h3⟩ := h; first | contradiction | exact t3 h3))
    have R0 := Lib.hid (decide_eq_false t0)
    clear t0
    go_enter Try.func167, Try.ntmps167
    go_wp2_with fail
    refine (latMay la ca _).mono ?_
    rintro e w1 ⟨rfl, k1⟩
    rw [R0.out]
    have HC := Lib.hid (HA.out.trans k1)
    obtain ⟨y0, y1, z0, z1⟩ := HP.out _ k1
    have K1 := Lib.hid k1; clear k1
    go_wp2_with fail
    go_ret
    exact ⟨retB EN.out.symm, HC.out⟩
  · skip
    by_cases t1 : ¬ LabP lb cb
    · skip
      have EN := Lib.hid (decide_eq_false (fun h : DomP la ca lb cb => by obtain ⟨h0, h1, h2, h3⟩ := h; first | contradiction | exact t3 h3))
      have R0 := Lib.hid (decide_eq_true (Decidable.not_not.1 t0))
      have R1 := Lib.hid (decide_eq_false t1)
      clear t0 t1
      go_enter Try.func167, Try.ntmps167
      go_wp2_with fail
      refine (latMay la ca _).mono ?_
      rintro e w1 ⟨rfl, k1⟩
      rw [R0.out]
      have HC := Lib.hid (HA.out.trans k1)
      obtain ⟨y0, y1, z0, z1⟩ := HP.out _ k1
      have K1 := Lib.hid k1; clear k1
      go_wp2_with fail
      refine (latMay lb cb _).mono ?_
      rintro e w2 ⟨rfl, k2⟩
      rw [R1.out]
      replace HC := Lib.hid (HC.out.trans k2)
      clear y0 y1 z0 z1
      obtain ⟨y0, y1, z0, z1⟩ := HP.out _ (K1.out.trans k2)
      clear k2
      go_wp2_with fail
      go_ret
      exact ⟨retB EN.out.symm, HC.out⟩
    · skip
      by_cases t2 : ¬ lb ≤ la
      · skip
        have EN := Lib.hid (decide_eq_false (fun h : DomP la ca lb cb => by obtain ⟨h0, h1, h2, h3⟩ := h; first | contradiction | exact t3 h3))
        have R0 := Lib.hid (decide_eq_true (Decidable.not_not.1 t0))
        have R1 := Lib.hid (decide_eq_true (Decidable.not_not.1 t1))
        have d2 : decide (lb ≤ la) = false := by simp; omega
        clear t0 t1 t2
        go_enter Try.func167, Try.ntmps167
        go_wp2_with fail
        refine (latMay la ca _).mono ?_
        rintro e w1 ⟨rfl, k1⟩
        rw [R0.out]
        have HC := Lib.hid (HA.out.trans k1)
        obtain ⟨y0, y1, z0, z1⟩ := HP.out _ k1
        have K1 := Lib.hid k1; clear k1
        go_wp2_with fail
        refine (latMay lb cb _).mono ?_
        rintro e w2 ⟨rfl, k2⟩
        rw [R1.out]
        replace HC := Lib.hid (HC.out.trans k2)
        clear y0 y1 z0 z1
        obtain ⟨y0, y1, z0, z1⟩ := HP.out _ (K1.out.trans k2)
        clear k2
        go_wp2_with fail
        go_ret
        exact ⟨retB EN.out.symm, HC.out⟩
      · skip
        by_cases t3 : ¬ bits .andNot .i64 cb ca = 0
        · skip
          have EN := Lib.hid (decide_eq_false (fun h : DomP la ca lb cb => by obtain ⟨h0, h1, h2, h3⟩ := h; first | contradiction | exact t3 h3))
          have R0 := Lib.hid (decide_eq_true (Decidable.not_not.1 t0))
          have R1 := Lib.hid (decide_eq_true (Decidable.not_not.1 t1))
          have d2 : decide (lb ≤ la) = true := by simp; omega
          have d3 : (bits .andNot .i64 cb ca == 0) = false := by simpa using t3
          clear t0 t1 t2 t3
          go_enter Try.func167, Try.ntmps167
          go_wp2_with fail
          refine (latMay la ca _).mono ?_
          rintro e w1 ⟨rfl, k1⟩
          rw [R0.out]
          have HC := Lib.hid (HA.out.trans k1)
          obtain ⟨y0, y1, z0, z1⟩ := HP.out _ k1
          have K1 := Lib.hid k1; clear k1
          go_wp2_with fail
          refine (latMay lb cb _).mono ?_
          rintro e w2 ⟨rfl, k2⟩
          rw [R1.out]
          replace HC := Lib.hid (HC.out.trans k2)
          clear y0 y1 z0 z1
          obtain ⟨y0, y1, z0, z1⟩ := HP.out _ (K1.out.trans k2)
          clear k2
          go_wp2_with fail
          go_ret
          exact ⟨retB EN.out.symm, HC.out⟩
        · skip
          have EN := Lib.hid (decide_eq_true (show DomP la ca lb cb from ⟨Decidable.not_not.1 t0, Decidable.not_not.1 t1, Decidable.not_not.1 t2, Decidable.not_not.1 t3⟩))
          have R0 := Lib.hid (decide_eq_true (Decidable.not_not.1 t0))
          have R1 := Lib.hid (decide_eq_true (Decidable.not_not.1 t1))
          have d2 : decide (lb ≤ la) = true := by simp; omega
          have d3 : (bits .andNot .i64 cb ca == 0) = true := by simpa using Decidable.not_not.1 t3
          clear t0 t1 t2 t3
          go_enter Try.func167, Try.ntmps167
          go_wp2_with fail
          refine (latMay la ca _).mono ?_
          rintro e w1 ⟨rfl, k1⟩
          rw [R0.out]
          have HC := Lib.hid (HA.out.trans k1)
          obtain ⟨y0, y1, z0, z1⟩ := HP.out _ k1
          have K1 := Lib.hid k1; clear k1
          go_wp2_with fail
          refine (latMay lb cb _).mono ?_
          rintro e w2 ⟨rfl, k2⟩
          rw [R1.out]
          replace HC := Lib.hid (HC.out.trans k2)
          clear y0 y1 z0 z1
          obtain ⟨y0, y1, z0, z1⟩ := HP.out _ (K1.out.trans k2)
          clear k2
          go_wp2_with fail
          go_ret
          exact ⟨retB EN.out.symm, HC.out⟩
set_option maxRecDepth 100000 in
set_option maxHeartbeats 2000000 in
theorem refDom (la ca lb cb : Int) (w : World) : Calls Try.prog 136 #[.agg #[.int .i64 la, .int .i64 ca], .agg #[.int .i64 lb, .int .i64 cb]] w fun e w' => e = .returned (.bool (decide (DomP la ca lb cb))) ∧ Chg (fun _ => False) w w' := by
  have HA := Lib.hid (((Chg.refl (fun _ => False) w).alloc (.cells #[.int .i64 la, .int .i64 ca] 37)).alloc (.cells #[.int .i64 lb, .int .i64 cb] 37))
  have HP : Hid (∀ W, Chg (fun _ => False) ((w.alloc (.cells #[.int .i64 la, .int .i64 ca] 37)).alloc (.cells #[.int .i64 lb, .int .i64 cb] 37)) W → W.cell? ⟨w.heap.size, 0, none⟩ = some (.int .i64 la) ∧ W.cell? ⟨w.heap.size, 1, none⟩ = some (.int .i64 ca) ∧ W.cell? ⟨w.heap.size + 1, 0, none⟩ = some (.int .i64 lb) ∧ W.cell? ⟨w.heap.size + 1, 1, none⟩ = some (.int .i64 cb)) := fun W hW => by
    have h1 := hW.at (((Chg.refl (fun _ => False) _).alloc (.cells #[.int .i64 lb, .int .i64 cb] 37)).at (blk_new w (.cells #[.int .i64 la, .int .i64 ca] 37)) id) id
    have h2 := hW.at (blk_new2 w (.cells #[.int .i64 la, .int .i64 ca] 37) (.cells #[.int .i64 lb, .int .i64 cb] 37)) id
    exact ⟨blk_cell h1 0, blk_cell h1 1, blk_cell h2 0, blk_cell h2 1⟩
  by_cases t0 : ¬ LabP la ca
  · skip
    have EN := Lib.hid (decide_eq_false (fun h : DomP la ca lb cb => by obtain ⟨h0, h1, h2, h3⟩ := h; first | contradiction | exact t3 ((dom_iff h0 h1).mpr h3)))
    have R0 := Lib.hid (decide_eq_false t0)
    clear t0
    go_enter Try.func136, Try.ntmps136
    go_wp2_with fail
    refine (refLabel la ca _).mono ?_
    rintro e w1 ⟨rfl, k1⟩
    rw [R0.out]
    have HC := Lib.hid (HA.out.trans k1)
    obtain ⟨y0, y1, z0, z1⟩ := HP.out _ k1
    have K1 := Lib.hid k1; clear k1
    go_wp2_with fail
    go_ret
    exact ⟨retB EN.out.symm, HC.out⟩
  · skip
    by_cases t1 : ¬ LabP lb cb
    · skip
      have EN := Lib.hid (decide_eq_false (fun h : DomP la ca lb cb => by obtain ⟨h0, h1, h2, h3⟩ := h; first | contradiction | exact t3 ((dom_iff h0 h1).mpr h3)))
      have R0 := Lib.hid (decide_eq_true (Decidable.not_not.1 t0))
      have R1 := Lib.hid (decide_eq_false t1)
      clear t0 t1
      go_enter Try.func136, Try.ntmps136
      go_wp2_with fail
      refine (refLabel la ca _).mono ?_
      rintro e w1 ⟨rfl, k1⟩
      rw [R0.out]
      have HC := Lib.hid (HA.out.trans k1)
      obtain ⟨y0, y1, z0, z1⟩ := HP.out _ k1
      have K1 := Lib.hid k1; clear k1
      go_wp2_with fail
      refine (refLabel lb cb _).mono ?_
      rintro e w2 ⟨rfl, k2⟩
      rw [R1.out]
      replace HC := Lib.hid (HC.out.trans k2)
      clear y0 y1 z0 z1
      obtain ⟨y0, y1, z0, z1⟩ := HP.out _ (K1.out.trans k2)
      clear k2
      go_wp2_with fail
      go_ret
      exact ⟨retB EN.out.symm, HC.out⟩
    · skip
      by_cases t2 : ¬ lb ≤ la
      · skip
        have EN := Lib.hid (decide_eq_false (fun h : DomP la ca lb cb => by obtain ⟨h0, h1, h2, h3⟩ := h; first | contradiction | exact t3 ((dom_iff h0 h1).mpr h3)))
        have R0 := Lib.hid (decide_eq_true (Decidable.not_not.1 t0))
        have R1 := Lib.hid (decide_eq_true (Decidable.not_not.1 t1))
        have d2 : decide (lb ≤ la) = false := by simp; omega
        clear t0 t1 t2
        go_enter Try.func136, Try.ntmps136
        go_wp2_with fail
        refine (refLabel la ca _).mono ?_
        rintro e w1 ⟨rfl, k1⟩
        rw [R0.out]
        have HC := Lib.hid (HA.out.trans k1)
        obtain ⟨y0, y1, z0, z1⟩ := HP.out _ k1
        have K1 := Lib.hid k1; clear k1
        go_wp2_with fail
        refine (refLabel lb cb _).mono ?_
        rintro e w2 ⟨rfl, k2⟩
        rw [R1.out]
        replace HC := Lib.hid (HC.out.trans k2)
        clear y0 y1 z0 z1
        obtain ⟨y0, y1, z0, z1⟩ := HP.out _ (K1.out.trans k2)
        clear k2
        go_wp2_with fail
        go_ret
        exact ⟨retB EN.out.symm, HC.out⟩
      · skip
        by_cases t3 : ¬ bits .and .i64 ca cb = cb
        · skip
          have EN := Lib.hid (decide_eq_false (fun h : DomP la ca lb cb => by obtain ⟨h0, h1, h2, h3⟩ := h; first | contradiction | exact t3 ((dom_iff h0 h1).mpr h3)))
          have R0 := Lib.hid (decide_eq_true (Decidable.not_not.1 t0))
          have R1 := Lib.hid (decide_eq_true (Decidable.not_not.1 t1))
          have d2 : decide (lb ≤ la) = true := by simp; omega
          have d3 : (bits .and .i64 ca cb == cb) = false := by simpa using t3
          clear t0 t1 t2 t3
          go_enter Try.func136, Try.ntmps136
          go_wp2_with fail
          refine (refLabel la ca _).mono ?_
          rintro e w1 ⟨rfl, k1⟩
          rw [R0.out]
          have HC := Lib.hid (HA.out.trans k1)
          obtain ⟨y0, y1, z0, z1⟩ := HP.out _ k1
          have K1 := Lib.hid k1; clear k1
          go_wp2_with fail
          refine (refLabel lb cb _).mono ?_
          rintro e w2 ⟨rfl, k2⟩
          rw [R1.out]
          replace HC := Lib.hid (HC.out.trans k2)
          clear y0 y1 z0 z1
          obtain ⟨y0, y1, z0, z1⟩ := HP.out _ (K1.out.trans k2)
          clear k2
          go_wp2_with fail
          go_ret
          exact ⟨retB EN.out.symm, HC.out⟩
        · skip
          have EN := Lib.hid (decide_eq_true (show DomP la ca lb cb from ⟨Decidable.not_not.1 t0, Decidable.not_not.1 t1, Decidable.not_not.1 t2, (dom_iff (Decidable.not_not.1 t0) (Decidable.not_not.1 t1)).1 (Decidable.not_not.1 t3)⟩))
          have R0 := Lib.hid (decide_eq_true (Decidable.not_not.1 t0))
          have R1 := Lib.hid (decide_eq_true (Decidable.not_not.1 t1))
          have d2 : decide (lb ≤ la) = true := by simp; omega
          have d3 : (bits .and .i64 ca cb == cb) = true := by simpa using Decidable.not_not.1 t3
          clear t0 t1 t2 t3
          go_enter Try.func136, Try.ntmps136
          go_wp2_with fail
          refine (refLabel la ca _).mono ?_
          rintro e w1 ⟨rfl, k1⟩
          rw [R0.out]
          have HC := Lib.hid (HA.out.trans k1)
          obtain ⟨y0, y1, z0, z1⟩ := HP.out _ k1
          have K1 := Lib.hid k1; clear k1
          go_wp2_with fail
          refine (refLabel lb cb _).mono ?_
          rintro e w2 ⟨rfl, k2⟩
          rw [R1.out]
          replace HC := Lib.hid (HC.out.trans k2)
          clear y0 y1 z0 z1
          obtain ⟨y0, y1, z0, z1⟩ := HP.out _ (K1.out.trans k2)
          clear k2
          go_wp2_with fail
          go_ret
          exact ⟨retB EN.out.symm, HC.out⟩

def lab (C : Cf) (i : Nat) : Prt := C.parts.getD i ⟨0, 0, [], 0, 0⟩
def GDO (o : Int) (p q : Nat) (g : Gr) : Prop := (o = p ∧ g.to = q) ∨ (o = q ∧ g.to = p ∧ g.write = true)
instance (o : Int) (p q : Nat) (g : Gr) : Decidable (GDO o p q g) := by unfold GDO; infer_instance
def GDirP (C : Cf) (p q : Nat) (g : Gr) : Prop := GDO (C.own g.frame) p q g
instance (C : Cf) (p q : Nat) (g : Gr) : Decidable (GDirP C p q g) := by unfold GDirP; infer_instance
/-- One flows directly to another one. -/
def DirP (C : Cf) (p q : Nat) : Prop := p = q ∨ DomP (lab C q).lv (lab C q).cats (lab C p).lv (lab C p).cats ∨ ∃ g ∈ C.grants, GDirP C p q g
instance (C : Cf) (p q : Nat) : Decidable (DirP C p q) := by unfold DirP; infer_instance
theorem lab_at (C : Cf) (i : Nat) (h : i < C.parts.length) : lab C i = C.parts[i] := by unfold lab; simp [h]
/-- The labels of two parts, read. -/
theorem RdP.lab {w : World} {A : Option Addr} {n c : Nat} {L : List Prt} (h : RdP w (.slice A n c) L) {i : Nat} (hi : i < L.length) : ∃ g o, A = some ⟨g, o, none⟩ ∧ w.cell? ⟨g, o + i * 5, none⟩ = some (.int .i64 L[i].lv) ∧ w.cell? ⟨g, o + i * 5 + 1, none⟩ = some (.int .i64 L[i].cats) := by
  obtain ⟨_, A', c', e, h⟩ := h
  injection e with e1 e2 e3
  subst e1 e3
  obtain ⟨g, o, F, rfl, a0, a1, _⟩ := h i hi
  exact ⟨g, o, rfl, a0, a1⟩
set_option maxRecDepth 100000 in
set_option maxHeartbeats 4000000 in
theorem vDirect (b : Nat) (p q : Nat) (C : Cf) (s : Vs) (w : World) (h : CfP w b C s) (hp : p < C.parts.length) (hq : q < C.parts.length) :
    Calls Try.prog 128 #[.pointer (some ⟨b, 0, none⟩), .int .i64 p, .int .i64 q] w fun e w' => e = .returned (.bool (decide (DirP C p q))) ∧ Chg (fun _ => False) w w' := by
  have HP : Hid (∀ W, Chg (fun _ => False) w W → CfP W b C s) := fun W hW => h.keepN hW
  obtain ⟨A1, k1, A2, k2, A3, k3, A4, k4, rfl, m1, m2, m3, m4⟩ := h.open
  clear h
  have p0 : (0 : Int) ≤ p := by omega
  have q0 : (0 : Int) ≤ q := by omega
  have p1 : (p : Int) < C.parts.length := by omega
  have q1 : (q : Int) < C.parts.length := by omega
  obtain ⟨y0, y1, y2, y3, y4, y5, y6, y7, y8⟩ := (HP.out _ (Chg.refl _ _)).c9'
  by_cases he : p = q
  · have EN := Lib.hid (decide_eq_true (show DirP C p q from .inl he))
    have d0 : ((p : Int) == (q : Int)) = true := by simp; omega
    clear he
    go_enter Try.func128, Try.ntmps128
    go_upto_region 1 with fail
    go_quiet (fail)
    go_wp2_with fail
    go_ret
    exact ⟨retB EN.out.symm, (Chg.refl _ _).drewN _⟩
  · have d0 : ((p : Int) == (q : Int)) = false := by simp; omega
    have HE := Lib.hid he; clear he
    obtain ⟨g, o, rfl, a0, a1⟩ := (HP.out _ (Chg.refl _ _)).2.1.lab hp
    obtain ⟨g', o', e4, c0, c1⟩ := (HP.out _ (Chg.refl _ _)).2.1.lab hq
    injection e4 with e4; injection e4 with e4 e5
    subst e4 e5
    have HLP := Lib.hid (lab_at C p hp)
    have HLQ := Lib.hid (lab_at C q hq)
    generalize C.parts[p] = Pp at *
    generalize C.parts[q] = Pq at *
    have HD := Lib.hid (vDom Pq.lv Pq.cats Pp.lv Pp.cats w.drew)
    go_enter Try.func128, Try.ntmps128
    go_upto_region 1 with fail
    go_still_tail 20, (by kernel_rfl)
    change wpList _ _ _ _ _ w.drew
    go_wp2_with fail
    refine HD.out.mono ?_
    rintro e w1 ⟨rfl, k1'⟩
    have HC1 : Hid (Chg (fun _ => False) w w1) := (Chg.refl _ _).drew.trans k1'
    clear k1' HD y0 y1 y2 y3 y4 y5 y6 y7 y8 a0 a1 c0 c1
    by_cases hd : DomP Pq.lv Pq.cats Pp.lv Pp.cats
    · rw [decide_eq_true hd]
      have EN := Lib.hid (decide_eq_true (show DirP C p q from .inr (.inl (by rw [HLP.out, HLQ.out]; exact hd))))
      clear hd
      go_wp2_with fail
      go_ret
      exact ⟨retB EN.out.symm, HC1.out⟩
    · rw [decide_eq_false hd]
      have HND : Hid (¬ DomP (lab C q).lv (lab C q).cats (lab C p).lv (lab C p).cats) := by rw [HLP.out, HLQ.out]; exact hd
      clear hd HLP HLQ
      obtain ⟨y0, y1, y2, y3, y4, y5, y6, y7, y8⟩ := (HP.out _ HC1.out).c9'
      go_wp2_with fail
      clear y0 y1 y2 y3 y4 y5 y6 y7 y8
      go_loopw [37] (fun s37 wr => ∃ i : Nat, i ≤ C.grants.length ∧ s37 = .int .i64 i ∧ (∀ k (h : k < C.grants.length), k < i → ¬ GDirP C p q C.grants[k]) ∧ Chg (fun _ => False) w wr) (fun s37 _ => (C.grants.length - intOf s37).toNat)
      case atStart => exact ⟨0, by omega, rfl, by intro k h hk; omega, HC1.out⟩
      case round =>
        clear HC1
        obtain ⟨i, hi, rfl, hall, hC⟩ := hrel
        have i0 : (0 : Int) ≤ i := by omega
        have HALL := Lib.hid hall; clear hall
        have HC := Lib.hid hC; clear hC
        by_cases hlt : i < C.grants.length
        · have i1 : (i : Int) < C.grants.length := by omega
          obtain ⟨_, A', c', hv, hel⟩ := (HP.out wr HC.out).2.2.2.2
          injection hv with e1 e2 e3
          subst e1 e3
          obtain ⟨gg, oo, rfl, a0, a1, a2⟩ := hel i hlt
          clear hel e2
          obtain ⟨X, hX⟩ : ∃ X, X = C.grants[i] := ⟨_, rfl⟩
          have HX := Lib.hid hX
          rw [← hX] at a0 a1 a2
          clear hX
          go_upto_region 6 with fail
          obtain ⟨W1, hW1⟩ : ∃ W, W = wr.alloc (.cells #[.int .i64 X.frame, .int .i64 X.to, .bool X.write] 44) := ⟨_, rfl⟩
          have hbk := blk_new wr (.cells #[.int .i64 X.frame, .int .i64 X.to, .bool X.write] 44)
          have hC1 : Chg (fun _ => False) wr W1 := by rw [hW1]; exact (Chg.refl _ _).alloc _
          rw [← hW1] at hbk
          rw [← hW1]
          have HC1 := Lib.hid (HC.out.trans hC1)
          have HBK : Hid (∀ W, Chg (fun _ => False) W1 W → W.cell? ⟨wr.heap.size, 0, none⟩ = some (.int .i64 X.frame) ∧ W.cell? ⟨wr.heap.size, 1, none⟩ = some (.int .i64 X.to) ∧ W.cell? ⟨wr.heap.size, 2, none⟩ = some (.bool X.write)) := fun W hW => ⟨blk_cell (hW.at hbk id) 0, blk_cell (hW.at hbk id) 1, blk_cell (hW.at hbk id) 2⟩
          generalize wr.heap.size = bg at *
          clear hbk hC1 hW1 HC a0 a1 a2
          obtain ⟨x0, x1, x2⟩ := HBK.out W1 (Chg.refl _ _)
          go_wp2_with fail
          refine (ownerOf b X.frame C _ _ (HP.out W1 HC1.out)).mono ?_
          rintro e w2 ⟨rfl, k2⟩
          have HC2 := Lib.hid (HC1.out.trans k2)
          clear x0 x1 x2
          obtain ⟨x0, x1, x2⟩ := HBK.out w2 k2
          clear k2 HBK HC1
          obtain ⟨O, hO⟩ : ∃ O, O = C.own X.frame := ⟨_, rfl⟩
          have HO := Lib.hid hO
          rw [← hO]
          clear hO
          go_upto_region 7 with fail
          go_cut [68] (fun s wx => s = .bool (decide (GDO O p q X)) ∧ wx = w2)
          case first =>
            by_cases a1 : O = p
            · skip
              by_cases a2 : X.to = q
              · skip
                have EN : Hid (true = decide (GDO O p q X)) := (decide_eq_true (.inl ⟨a1, a2⟩)).symm
                have da1 : (O == (p : Int)) = true := by simpa using a1
                have da2 : (X.to == (q : Int)) = true := by simpa using a2
                clear a1 a2
                go_wp2_with fail
                go_meet
                exact ⟨congrArg Value.bool EN.out, rfl⟩
              · skip
                by_cases b1 : O = q
                · skip
                  by_cases b2 : X.to = p
                  · skip
                    by_cases w : X.write = true
                    · skip
                      have EN : Hid (true = decide (GDO O p q X)) := (decide_eq_true (.inr ⟨b1, b2, w⟩)).symm
                      have da1 : (O == (p : Int)) = true := by simpa using a1
                      have da2 : (X.to == (q : Int)) = false := by simpa using a2
                      have db1 : (O == (q : Int)) = true := by simpa using b1
                      have db2 : (X.to == (p : Int)) = true := by simpa using b2
                      rw [w] at x2
                      clear a1 a2 b1 b2 w
                      go_wp2_with fail
                      go_meet
                      exact ⟨congrArg Value.bool EN.out, rfl⟩
                    · skip
                      have EN : Hid (false = decide (GDO O p q X)) := (decide_eq_false (fun h : GDO O p q X => by rcases h with ⟨x1, x2⟩ | ⟨x1, x2, x3⟩ <;> first | contradiction | exact absurd x3 (by assumption))).symm
                      have da1 : (O == (p : Int)) = true := by simpa using a1
                      have da2 : (X.to == (q : Int)) = false := by simpa using a2
                      have db1 : (O == (q : Int)) = true := by simpa using b1
                      have db2 : (X.to == (p : Int)) = true := by simpa using b2
                      rw [(by simpa using w : X.write = false)] at x2
                      clear a1 a2 b1 b2 w
                      go_wp2_with fail
                      go_meet
                      exact ⟨congrArg Value.bool EN.out, rfl⟩
                  · skip
                    have EN : Hid (false = decide (GDO O p q X)) := (decide_eq_false (fun h : GDO O p q X => by rcases h with ⟨x1, x2⟩ | ⟨x1, x2, x3⟩ <;> first | contradiction | exact absurd x3 (by assumption))).symm
                    have da1 : (O == (p : Int)) = true := by simpa using a1
                    have da2 : (X.to == (q : Int)) = false := by simpa using a2
                    have db1 : (O == (q : Int)) = true := by simpa using b1
                    have db2 : (X.to == (p : Int)) = false := by simpa using b2
                    clear a1 a2 b1 b2
                    go_wp2_with fail
                    go_meet
                    exact ⟨congrArg Value.bool EN.out, rfl⟩
                · skip
                  have EN : Hid (false = decide (GDO O p q X)) := (decide_eq_false (fun h : GDO O p q X => by rcases h with ⟨x1, x2⟩ | ⟨x1, x2, x3⟩ <;> first | contradiction | exact absurd x3 (by assumption))).symm
                  have da1 : (O == (p : Int)) = true := by simpa using a1
                  have da2 : (X.to == (q : Int)) = false := by simpa using a2
                  have db1 : (O == (q : Int)) = false := by simpa using b1
                  clear a1 a2 b1
                  go_wp2_with fail
                  go_meet
                  exact ⟨congrArg Value.bool EN.out, rfl⟩
            · skip
              by_cases b1 : O = q
              · skip
                by_cases b2 : X.to = p
                · skip
                  by_cases w : X.write = true
                  · skip
                    have EN : Hid (true = decide (GDO O p q X)) := (decide_eq_true (.inr ⟨b1, b2, w⟩)).symm
                    have da1 : (O == (p : Int)) = false := by simpa using a1
                    have db1 : (O == (q : Int)) = true := by simpa using b1
                    have db2 : (X.to == (p : Int)) = true := by simpa using b2
                    rw [w] at x2
                    clear a1 b1 b2 w
                    go_wp2_with fail
                    go_meet
                    exact ⟨congrArg Value.bool EN.out, rfl⟩
                  · skip
                    have EN : Hid (false = decide (GDO O p q X)) := (decide_eq_false (fun h : GDO O p q X => by rcases h with ⟨x1, x2⟩ | ⟨x1, x2, x3⟩ <;> first | contradiction | exact absurd x3 (by assumption))).symm
                    have da1 : (O == (p : Int)) = false := by simpa using a1
                    have db1 : (O == (q : Int)) = true := by simpa using b1
                    have db2 : (X.to == (p : Int)) = true := by simpa using b2
                    rw [(by simpa using w : X.write = false)] at x2
                    clear a1 b1 b2 w
                    go_wp2_with fail
                    go_meet
                    exact ⟨congrArg Value.bool EN.out, rfl⟩
                · skip
                  have EN : Hid (false = decide (GDO O p q X)) := (decide_eq_false (fun h : GDO O p q X => by rcases h with ⟨x1, x2⟩ | ⟨x1, x2, x3⟩ <;> first | contradiction | exact absurd x3 (by assumption))).symm
                  have da1 : (O == (p : Int)) = false := by simpa using a1
                  have db1 : (O == (q : Int)) = true := by simpa using b1
                  have db2 : (X.to == (p : Int)) = false := by simpa using b2
                  clear a1 b1 b2
                  go_wp2_with fail
                  go_meet
                  exact ⟨congrArg Value.bool EN.out, rfl⟩
              · skip
                have EN : Hid (false = decide (GDO O p q X)) := (decide_eq_false (fun h : GDO O p q X => by rcases h with ⟨x1, x2⟩ | ⟨x1, x2, x3⟩ <;> first | contradiction | exact absurd x3 (by assumption))).symm
                have da1 : (O == (p : Int)) = false := by simpa using a1
                have db1 : (O == (q : Int)) = false := by simpa using b1
                clear a1 b1
                go_wp2_with fail
                go_meet
                exact ⟨congrArg Value.bool EN.out, rfl⟩
          case rest =>
            obtain ⟨rfl, e0⟩ := hcut
            subst e0
            clear x0 x1 x2
            by_cases hg : GDO O p q X
            · rw [decide_eq_true hg]
              have EN := Lib.hid (decide_eq_true (show DirP C p q from .inr (.inr ⟨C.grants[i], List.getElem_mem hlt, by unfold GDirP; rw [← HX.out, ← HO.out]; exact hg⟩)))
              clear hg
              go_wp2_with fail
              go_ret
              exact ⟨retB EN.out.symm, HC2.out⟩
            · rw [decide_eq_false hg]
              have HAL2 : Hid (∀ k (h : k < C.grants.length), k < i + 1 → ¬ GDirP C p q C.grants[k]) := fun k hk hki => by
                by_cases e : k = i
                · subst e; unfold GDirP; rw [← HX.out, ← HO.out]; exact hg
                · exact HALL.out k hk (by omega)
              clear hg
              go_wp2_with fail
              go_roundw
              case rel => exact ⟨i + 1, by omega, by go_num, HAL2.out, HC2.out⟩
              case measure => simp [intOf]; omega
        · obtain rfl : i = C.grants.length := by omega
          have EN := Lib.hid (decide_eq_false (show ¬ DirP C p q from fun h => by
            rcases h with h | h | ⟨g, hg, h⟩
            · exact HE.out h
            · exact HND.out h
            · obtain ⟨k, hk, rfl⟩ := List.getElem_of_mem hg
              exact HALL.out k hk hk h))
          go_wp2_with fail
          go_ret
          exact ⟨retB EN.out.symm, HC.out⟩
set_option maxRecDepth 100000 in
set_option maxHeartbeats 4000000 in
theorem refDirect (p q : Nat) (C : Cf) (s : Vs) (w : World) (h : s.R w C) (hp : p < C.parts.length) (hq : q < C.parts.length) :
    Calls Try.prog 83 #[.agg (cfc C s), .int .i64 p, .int .i64 q] w fun e w' => e = .returned (.bool (decide (DirP C p q))) ∧ Chg (fun _ => False) w w' := by
  have HA := Lib.hid ((Chg.refl (fun _ => False) w).alloc (.cells (cfc C s) 27))
  have HP : Hid (∀ W, Chg (fun _ => False) (w.alloc (.cells (cfc C s) 27)) W → CfP W w.heap.size C s) := byVal h
  clear h
  obtain ⟨A1, k1, A2, k2, A3, k3, A4, k4, rfl, m1, m2, m3, m4⟩ := (HP.out _ (Chg.refl _ _)).open
  obtain ⟨wz, hwz⟩ : ∃ W, W = w.alloc (.cells (cfc C ⟨.slice A1 C.parts.length k1, .slice A2 C.devs.length k2, .slice A3 C.wins.length k3, .slice A4 C.grants.length k4⟩) 27) := ⟨_, rfl⟩
  rw [← hwz] at HP HA
  unfold cfc at *
  have p0 : (0 : Int) ≤ p := by omega
  have q0 : (0 : Int) ≤ q := by omega
  have p1 : (p : Int) < C.parts.length := by omega
  have q1 : (q : Int) < C.parts.length := by omega
  obtain ⟨y0, y1, y2, y3, y4, y5, y6, y7, y8⟩ := (HP.out _ (Chg.refl _ _)).c9'
  by_cases he : p = q
  · have EN := Lib.hid (decide_eq_true (show DirP C p q from .inl he))
    have d0 : ((p : Int) == (q : Int)) = true := by simp; omega
    clear he
    go_enter Try.func83, Try.ntmps83
    go_upto_region 1 with fail
    rw [← hwz]
    clear hwz
    generalize w.heap.size = b at *
    go_quiet (fail)
    go_wp2_with fail
    go_ret
    exact ⟨retB EN.out.symm, HA.out.drewN _⟩
  · have d0 : ((p : Int) == (q : Int)) = false := by simp; omega
    have HE := Lib.hid he; clear he
    obtain ⟨g, o, rfl, a0, a1⟩ := (HP.out _ (Chg.refl _ _)).2.1.lab hp
    obtain ⟨g', o', e4, c0, c1⟩ := (HP.out _ (Chg.refl _ _)).2.1.lab hq
    injection e4 with e4; injection e4 with e4 e5
    subst e4 e5
    have HLP := Lib.hid (lab_at C p hp)
    have HLQ := Lib.hid (lab_at C q hq)
    generalize C.parts[p] = Pp at *
    generalize C.parts[q] = Pq at *
    have HD := Lib.hid (refDom Pq.lv Pq.cats Pp.lv Pp.cats wz.drew)
    go_enter Try.func83, Try.ntmps83
    go_upto_region 1 with fail
    rw [← hwz]
    clear hwz
    generalize w.heap.size = b at *
    go_still_tail 16, (by kernel_rfl)
    change wpList _ _ _ _ _ wz.drew
    go_wp2_with fail
    refine HD.out.mono ?_
    rintro e w1 ⟨rfl, k1'⟩
    have HC1 : Hid (Chg (fun _ => False) wz w1) := (Chg.refl _ _).drew.trans k1'
    clear k1' HD y0 y1 y2 y3 y4 y5 y6 y7 y8 a0 a1 c0 c1
    by_cases hd : DomP Pq.lv Pq.cats Pp.lv Pp.cats
    · rw [decide_eq_true hd]
      have EN := Lib.hid (decide_eq_true (show DirP C p q from .inr (.inl (by rw [HLP.out, HLQ.out]; exact hd))))
      clear hd
      go_wp2_with fail
      go_ret
      exact ⟨retB EN.out.symm, HA.out.trans HC1.out⟩
    · rw [decide_eq_false hd]
      have HND : Hid (¬ DomP (lab C q).lv (lab C q).cats (lab C p).lv (lab C p).cats) := by rw [HLP.out, HLQ.out]; exact hd
      clear hd HLP HLQ
      obtain ⟨y0, y1, y2, y3, y4, y5, y6, y7, y8⟩ := (HP.out _ HC1.out).c9'
      go_wp2_with fail
      clear y0 y1 y2 y3 y4 y5 y6 y7 y8
      go_loopw [7] (fun s37 wr => ∃ i : Nat, i ≤ C.grants.length ∧ s37 = .int .i64 i ∧ (∀ k (h : k < C.grants.length), k < i → ¬ GDirP C p q C.grants[k]) ∧ Chg (fun _ => False) wz wr) (fun s37 _ => (C.grants.length - intOf s37).toNat)
      case atStart => exact ⟨0, by omega, rfl, by intro k h hk; omega, HC1.out⟩
      case round =>
        clear HC1
        obtain ⟨i, hi, rfl, hall, hC⟩ := hrel
        have i0 : (0 : Int) ≤ i := by omega
        have HALL := Lib.hid hall; clear hall
        have HC := Lib.hid hC; clear hC
        by_cases hlt : i < C.grants.length
        · have i1 : (i : Int) < C.grants.length := by omega
          obtain ⟨_, A', c', hv, hel⟩ := (HP.out wr HC.out).2.2.2.2
          injection hv with e1 e2 e3
          subst e1 e3
          obtain ⟨gg, oo, rfl, a0, a1, a2⟩ := hel i hlt
          clear hel e2
          obtain ⟨X, hX⟩ : ∃ X, X = C.grants[i] := ⟨_, rfl⟩
          have HX := Lib.hid hX
          rw [← hX] at a0 a1 a2
          clear hX
          obtain ⟨y0, y1, y2, y3, y4, y5, y6, y7, y8⟩ := (HP.out _ HC.out).c9'
          have HOW := Lib.hid (refOwner X.frame C _ _ (HP.out _ HC.out.drew).2)
          go_upto_region 6 with fail
          go_still_tail 7, (by kernel_rfl)
          change wpList _ _ _ _ _ wr.drew
          go_wp2_with fail
          refine HOW.out.mono ?_
          rintro e w2 ⟨rfl, k2⟩
          have HC2 := Lib.hid (HC.out.drew.trans k2)
          have x0 := k2.cell (show wr.drew.cell? _ = _ from a0) id
          have x1 := k2.cell (show wr.drew.cell? _ = _ from a1) id
          have x2 := k2.cell (show wr.drew.cell? _ = _ from a2) id
          clear y0 y1 y2 y3 y4 y5 y6 y7 y8 a0 a1 a2 k2 HOW HC
          have y5 : w2.cell? ⟨b, 5, none⟩ = some (.slice (some ⟨gg, oo, none⟩) C.grants.length k4) := (HP.out _ HC2.out).cell 5
          obtain ⟨O, hO⟩ : ∃ O, O = C.own X.frame := ⟨_, rfl⟩
          have HO := Lib.hid hO
          rw [← hO]
          clear hO
          go_upto_region 7 with fail
          go_cut [77] (fun s wx => s = .bool (decide (GDO O p q X)) ∧ wx = w2)
          case first =>
            by_cases a1 : O = p
            · skip
              by_cases a2 : X.to = q
              · skip
                have EN : Hid (true = decide (GDO O p q X)) := (decide_eq_true (.inl ⟨a1, a2⟩)).symm
                have da1 : (O == (p : Int)) = true := by simpa using a1
                have da2 : (X.to == (q : Int)) = true := by simpa using a2
                clear a1 a2
                go_wp2_with fail
                go_meet
                exact ⟨congrArg Value.bool EN.out, rfl⟩
              · skip
                by_cases b1 : O = q
                · skip
                  by_cases b2 : X.to = p
                  · skip
                    by_cases w : X.write = true
                    · skip
                      have EN : Hid (true = decide (GDO O p q X)) := (decide_eq_true (.inr ⟨b1, b2, w⟩)).symm
                      have da1 : (O == (p : Int)) = true := by simpa using a1
                      have da2 : (X.to == (q : Int)) = false := by simpa using a2
                      have db1 : (O == (q : Int)) = true := by simpa using b1
                      have db2 : (X.to == (p : Int)) = true := by simpa using b2
                      rw [w] at x2
                      clear a1 a2 b1 b2 w
                      go_wp2_with fail
                      go_meet
                      exact ⟨congrArg Value.bool EN.out, rfl⟩
                    · skip
                      have EN : Hid (false = decide (GDO O p q X)) := (decide_eq_false (fun h : GDO O p q X => by rcases h with ⟨x1, x2⟩ | ⟨x1, x2, x3⟩ <;> first | contradiction | exact absurd x3 (by assumption))).symm
                      have da1 : (O == (p : Int)) = true := by simpa using a1
                      have da2 : (X.to == (q : Int)) = false := by simpa using a2
                      have db1 : (O == (q : Int)) = true := by simpa using b1
                      have db2 : (X.to == (p : Int)) = true := by simpa using b2
                      rw [(by simpa using w : X.write = false)] at x2
                      clear a1 a2 b1 b2 w
                      go_wp2_with fail
                      go_meet
                      exact ⟨congrArg Value.bool EN.out, rfl⟩
                  · skip
                    have EN : Hid (false = decide (GDO O p q X)) := (decide_eq_false (fun h : GDO O p q X => by rcases h with ⟨x1, x2⟩ | ⟨x1, x2, x3⟩ <;> first | contradiction | exact absurd x3 (by assumption))).symm
                    have da1 : (O == (p : Int)) = true := by simpa using a1
                    have da2 : (X.to == (q : Int)) = false := by simpa using a2
                    have db1 : (O == (q : Int)) = true := by simpa using b1
                    have db2 : (X.to == (p : Int)) = false := by simpa using b2
                    clear a1 a2 b1 b2
                    go_wp2_with fail
                    go_meet
                    exact ⟨congrArg Value.bool EN.out, rfl⟩
                · skip
                  have EN : Hid (false = decide (GDO O p q X)) := (decide_eq_false (fun h : GDO O p q X => by rcases h with ⟨x1, x2⟩ | ⟨x1, x2, x3⟩ <;> first | contradiction | exact absurd x3 (by assumption))).symm
                  have da1 : (O == (p : Int)) = true := by simpa using a1
                  have da2 : (X.to == (q : Int)) = false := by simpa using a2
                  have db1 : (O == (q : Int)) = false := by simpa using b1
                  clear a1 a2 b1
                  go_wp2_with fail
                  go_meet
                  exact ⟨congrArg Value.bool EN.out, rfl⟩
            · skip
              by_cases b1 : O = q
              · skip
                by_cases b2 : X.to = p
                · skip
                  by_cases w : X.write = true
                  · skip
                    have EN : Hid (true = decide (GDO O p q X)) := (decide_eq_true (.inr ⟨b1, b2, w⟩)).symm
                    have da1 : (O == (p : Int)) = false := by simpa using a1
                    have db1 : (O == (q : Int)) = true := by simpa using b1
                    have db2 : (X.to == (p : Int)) = true := by simpa using b2
                    rw [w] at x2
                    clear a1 b1 b2 w
                    go_wp2_with fail
                    go_meet
                    exact ⟨congrArg Value.bool EN.out, rfl⟩
                  · skip
                    have EN : Hid (false = decide (GDO O p q X)) := (decide_eq_false (fun h : GDO O p q X => by rcases h with ⟨x1, x2⟩ | ⟨x1, x2, x3⟩ <;> first | contradiction | exact absurd x3 (by assumption))).symm
                    have da1 : (O == (p : Int)) = false := by simpa using a1
                    have db1 : (O == (q : Int)) = true := by simpa using b1
                    have db2 : (X.to == (p : Int)) = true := by simpa using b2
                    rw [(by simpa using w : X.write = false)] at x2
                    clear a1 b1 b2 w
                    go_wp2_with fail
                    go_meet
                    exact ⟨congrArg Value.bool EN.out, rfl⟩
                · skip
                  have EN : Hid (false = decide (GDO O p q X)) := (decide_eq_false (fun h : GDO O p q X => by rcases h with ⟨x1, x2⟩ | ⟨x1, x2, x3⟩ <;> first | contradiction | exact absurd x3 (by assumption))).symm
                  have da1 : (O == (p : Int)) = false := by simpa using a1
                  have db1 : (O == (q : Int)) = true := by simpa using b1
                  have db2 : (X.to == (p : Int)) = false := by simpa using b2
                  clear a1 b1 b2
                  go_wp2_with fail
                  go_meet
                  exact ⟨congrArg Value.bool EN.out, rfl⟩
              · skip
                have EN : Hid (false = decide (GDO O p q X)) := (decide_eq_false (fun h : GDO O p q X => by rcases h with ⟨x1, x2⟩ | ⟨x1, x2, x3⟩ <;> first | contradiction | exact absurd x3 (by assumption))).symm
                have da1 : (O == (p : Int)) = false := by simpa using a1
                have db1 : (O == (q : Int)) = false := by simpa using b1
                clear a1 b1
                go_wp2_with fail
                go_meet
                exact ⟨congrArg Value.bool EN.out, rfl⟩
          case rest =>
            obtain ⟨rfl, e0⟩ := hcut
            subst e0
            clear x0 x1 x2 y5
            by_cases hg : GDO O p q X
            · rw [decide_eq_true hg]
              have EN := Lib.hid (decide_eq_true (show DirP C p q from .inr (.inr ⟨C.grants[i], List.getElem_mem hlt, by unfold GDirP; rw [← HX.out, ← HO.out]; exact hg⟩)))
              clear hg
              go_wp2_with fail
              go_ret
              exact ⟨retB EN.out.symm, HA.out.trans HC2.out⟩
            · rw [decide_eq_false hg]
              have HAL2 : Hid (∀ k (h : k < C.grants.length), k < i + 1 → ¬ GDirP C p q C.grants[k]) := fun k hk hki => by
                by_cases e : k = i
                · subst e; unfold GDirP; rw [← HX.out, ← HO.out]; exact hg
                · exact HALL.out k hk (by omega)
              clear hg
              go_wp2_with fail
              go_roundw
              case rel => exact ⟨i + 1, by omega, by go_num, HAL2.out, HC2.out⟩
              case measure => simp [intOf]; omega
        · obtain rfl : i = C.grants.length := by omega
          have EN := Lib.hid (decide_eq_false (show ¬ DirP C p q from fun h => by
            rcases h with h | h | ⟨g, hg, h⟩
            · exact HE.out h
            · exact HND.out h
            · obtain ⟨k, hk, rfl⟩ := List.getElem_of_mem hg
              exact HALL.out k hk hk h))
          have y5 : wr.cell? ⟨b, 5, none⟩ = some (.slice A4 C.grants.length k4) := (HP.out _ HC.out).cell 5
          go_wp2_with fail
          go_ret
          exact ⟨retB EN.out.symm, HA.out.trans HC.out⟩
end Go.Proofs.Ytncbcjjdnlmjbaa
