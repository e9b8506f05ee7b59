/- The law ConfigApart: the plain part and the walk. -/
import Derived.Test.YtncbcjjdnlmjbaaConfigRuns
import Derived.Test.YtncbcjjdnlmjbaaCfgR
set_option linter.unusedSimpArgs false
set_option linter.unusedVariables false
namespace Go.Proofs.Ytncbcjjdnlmjbaa
open Go.RowKit

/-- A config without its grants. -/
def noG (C : Cf) : Cf := { C with grants := [] }
theorem may_noG {C : Cf} (h : MayP C) : MayP (noG C) := ⟨h.1, h.2.1, h.2.2.1, h.2.2.2.1, fun i hi => absurd hi (by simp [noG]), h.2.2.2.2.2⟩
theorem one_iff (C : Cf) (p a : Int) (iw : Bool) (hm : MayP C) (h0 : 0 ≤ a) (h1 : a < C.frames * 64) (hp : C.there p) : ReadsP C p a 1 iw ↔ ReachP C p (a / 64) iw := by
  constructor
  · intro h
    have := h.2.2.2 0 (by decide)
    simpa using this
  · intro h
    refine ⟨hm, hp, ⟨h0, by omega, by omega, by omega, by omega⟩, fun k hk => ?_⟩
    obtain rfl : k = 0 := by simp at hk; omega
    simpa using h
theorem reads_noG (C : Cf) (p a : Int) (iw : Bool) (hm : MayP C) (h0 : 0 ≤ a) (h1 : a < C.frames * 64) (hp : C.there p) : ReadsP (noG C) p a 1 iw ↔ C.own (a / 64) = p := by
  rw [one_iff (noG C) p a iw (may_noG hm) h0 h1 hp]
  unfold ReachP noG
  simp [Cf.own]
theorem writes_reads (C : Cf) (p a n : Int) (h : ReadsP C p a n true) : ReadsP C p a n false := by
  refine ⟨h.1, h.2.1, h.2.2.1, fun k hk => ?_⟩
  rcases h.2.2.2 k hk with h' | ⟨g, g1, g2, g3, g4⟩
  · exact .inl h'
  · exact .inr ⟨g, g1, g2, g3, .inr rfl⟩
theorem own_writes (C : Cf) (p a : Int) (hm : MayP C) (h0 : 0 ≤ a) (h1 : a < C.frames * 64) (hp : C.there p) (h : C.own (a / 64) = p) : ReadsP C p a 1 true := (one_iff C p a true hm h0 h1 hp).2 (.inl h)
theorem CfP.c9 {w : World} {b : Nat} {C : Cf} {a1 a2 a3 a4 : Value} (h : CfP w b C ⟨a1, a2, a3, a4⟩) : w.cell? ⟨b, 0, none⟩ = some (.int .i64 C.frames) ∧ w.cell? ⟨b, 1, none⟩ = some a1 ∧ w.cell? ⟨b, 2, none⟩ = some a2 ∧ w.cell? ⟨b, 3, none⟩ = some (.int .i64 C.major) ∧ w.cell? ⟨b, 4, none⟩ = some a3 ∧ w.cell? ⟨b, 5, none⟩ = some a4 ∧ w.cell? ⟨b, 6, none⟩ = some (.int .i64 C.sectors) ∧ w.cell? ⟨b, 7, none⟩ = some (.int .i64 C.quota) ∧ w.cell? ⟨b, 8, none⟩ = some (.int .i64 C.quiet) :=
  ⟨h.cell 0, h.cell 1, h.cell 2, h.cell 3, h.cell 4, h.cell 5, h.cell 6, h.cell 7, h.cell 8⟩
theorem noG_R {w : World} {C : Cf} {a1 a2 a3 a4 : Value} (h : (Vs.mk a1 a2 a3 a4).R w C) : (Vs.mk a1 a2 a3 (.slice none 0 0)).R w (noG C) :=
  ⟨h.1, h.2.1, h.2.2.1, by unfold maxLen; exact Nat.zero_le _, none, 0, rfl, fun j hj => absurd hj (by simp [noG])⟩
attribute [local go_sem] i64_and7
def manyC (o j : Int) : Int := if 0 ≤ o ∧ o < j then 1 else 0
set_option maxRecDepth 100000 in
set_option maxHeartbeats 8000000 in
theorem configApart_in (C : Cf) (s : Vs) (pos part : Int) (w : World) (h : s.R w C) (hm : MayP C) :
    Calls Try.prog 4 #[.agg (cfc C s), .int .i64 pos, .int .i64 part] w fun e w' => e = .returned (.bool true) ∧ Chg (fun _ => False) w w' := by
  have hA : Chg (fun _ => False) w (w.alloc (.cells (cfc C s) 27)) := (Chg.refl _ _).alloc _
  have HP : Hid (∀ wr, Chg (fun _ => False) (w.alloc (.cells (cfc C s) 27)) wr → CfP wr w.heap.size C s) := byVal h
  have HA := Lib.hid hA; clear hA h
  obtain ⟨A1, k1, A2, k2, A3, k3, A4, k4, rfl, m1, m2, m3, m4⟩ := (HP.out _ (Chg.refl _ _)).open
  have f0 := hm.2.2.1.1
  have f1 := hm.2.2.1.2.1
  have l0 := hm.1.2.1
  have l1 := hm.1.2.2
  have hmd := decide_eq_true hm
  have HM := Lib.hid hm; clear hm
  unfold cfc at *
  go_enter Try.func4, Try.ntmps4
  go_wp2_with fail
  refine (awake21 _).mono ?_
  rintro e w1 ⟨rfl, hC1⟩
  have C1 := Lib.hid hC1; clear hC1
  obtain ⟨y0, y1, y2, y3, y4, y5, y6, y7, y8⟩ := (HP.out _ C1.out).c9
  go_wp2_with fail
  refine (cMay C _ _ (HP.out _ C1.out).2).mono ?_
  rintro e w2 ⟨rfl, hC2⟩
  rw [hmd]
  have C2 := Lib.hid (C1.out.trans hC2); clear hC2 C1 y0 y1 y2 y3 y4 y5 y6 y7 y8
  obtain ⟨y0, y1, y2, y3, y4, y5, y6, y7, y8⟩ := (HP.out _ C2.out).c9
  generalize hCb : w.heap.size = Cb at *
  go_upto_region 7 with fail
  refine wp_abs (fun W => (∀ W', Chg (fun _ => False) W W' → CfP W' Cb C ⟨.slice A1 C.parts.length k1, .slice A2 C.devs.length k2, .slice A3 C.wins.length k3, .slice A4 C.grants.length k4⟩ ∧ CfP W' w2.heap.size (noG C) ⟨.slice A1 C.parts.length k1, .slice A2 C.devs.length k2, .slice A3 C.wins.length k3, .slice none 0 0⟩) ∧ Chg (fun _ => False) w W) ?_ ?_
  · exact ⟨fun W' hW => ⟨HP.out _ (C2.out.trans (((Chg.refl _ _).alloc _).trans hW)), CfP.keepN ⟨blk_new w2 _, noG_R (HP.out _ (C2.out.trans ((Chg.refl _ _).alloc _))).2⟩ hW⟩, (HA.out.trans C2.out).trans ((Chg.refl _ _).alloc _)⟩
  rintro W0 ⟨hh, hw0⟩
  have H2 := Lib.hid hh
  have HW0 := Lib.hid hw0
  have HR := Lib.hid (Chg.refl (fun _ => False) W0)
  clear hh hw0 y0 y1 y2 y3 y4 y5 y6 y7 y8 HP C2 HA
  obtain ⟨y0, y1, y2, y3, y4, y5, y6, y7, y8⟩ := (H2.out _ HR.out).1.c9
  generalize hDb : w2.heap.size = Db at *
  clear hCb hDb
  obtain ⟨q0, q1⟩ := uidx pos (C.frames * 64) (by omega) (by omega)
  go_upto_region 8 with fail
  clear y0 y1 y2 y3 y4 y5 y6 y7 y8
  generalize wrap64 ((IntKind.u64.wrap pos).tmod (C.frames * 64)) = A at *
  go_wp2_with fail
  go_loopw [9, 10] (fun s9 s10 wr => ∃ j : Nat, j ≤ C.parts.length ∧ s10 = .int .i64 j ∧ s9 = .int .i64 (manyC (C.own (A / 64)) j) ∧ Chg (fun _ => False) W0 wr) (fun s9 s10 _ => (C.parts.length - intOf s10).toNat)
  case atStart => exact ⟨0, by omega, rfl, by rw [show manyC (C.own (A / 64)) ((0 : Nat) : Int) = 0 from by unfold manyC; split; omega; rfl], HR.out⟩
  case round =>
    clear HR
    obtain ⟨j, hj, rfl, rfl, hC⟩ := hrel
    have HR := Lib.hid hC; clear hC
    obtain ⟨y0, y1, y2, y3, y4, y5, y6, y7, y8⟩ := (H2.out _ HR.out).1.c9
    have hmn : 0 ≤ manyC (C.own (A / 64)) j ∧ manyC (C.own (A / 64)) j ≤ 1 := by unfold manyC; split <;> omega
    by_cases hlt : j < C.parts.length
    · have j1 : (j : Int) < C.parts.length := by omega
      have hthere : C.there j := ⟨by omega, j1⟩
      have one := fun iw => one_iff C j A iw HM.out q0 q1 hthere
      have rno := fun iw => reads_noG C j A iw HM.out q0 q1 hthere
      by_cases ho : C.own (A / 64) = j
      · have EW := Lib.hid (decide_eq_true ((one true).2 (.inl ho)))
        have ER := Lib.hid (decide_eq_true ((one false).2 (.inl ho)))
        have DR := Lib.hid (decide_eq_true ((rno false).2 ho))
        have DW := Lib.hid (decide_eq_true ((rno true).2 ho))
        have hmz : manyC (C.own (A / 64)) j = 0 := by unfold manyC; rw [if_neg (by omega)]
        have HMN : Hid (manyC (C.own (A / 64)) (j + 1 : Nat) = 1) := by show _ = _; unfold manyC; rw [if_pos (by omega)]
        rw [hmz]
        clear one rno hthere ho hmz hmn y0 y2 y3 y4 y5 y6 y7 y8
        go_upto_region 12 with fail
        clear y1
        refine wp_region_held_drew (S := fun W => Chg (fun _ => False) W0 W) (by kernel_rfl) (HR.out.drew) (fun hHeld => ?_)
        replace HR : Hid (Chg (fun _ => False) W0 _) := hHeld
        refine wpAnyH_take (i := 0) (oi := ({ dst := some 43, op := Go.Op.load 27 (Go.Operand.tmp 3), type := 27, pos := "law.go:44", after := #[], guard := none } : Oper)) (v := ?_) rfl (by kernel_rfl) (by kernel_rfl) (by kernel_rfl) (fun _ _ _ h => h) (Or.inl ⟨by rfl, ?_⟩) (by assumption) ?_
        rotate_left
        · (intro w hSw; (try dsimp only at hSw); obtain ⟨y0, y1, y2, y3, y4, y5, y6, y7, y8⟩ := (H2.out _ hSw).1.c9; obtain ⟨z0, z1, z2, z3, z4, z5, z6, z7, z8⟩ := (H2.out _ hSw).2.c9;  go_simp; try with_reducible rfl)
        try simp only [Act.put, List.setIfInBounds_toArray, List.set_cons_zero, List.set_cons_succ]
        refine wpAnyH_take (i := 1) (oi := ({ dst := some 44, op := Go.Op.move (Go.Operand.tmp 10), type := 3, pos := "law.go:44", after := #[], guard := none } : Oper)) (v := ?_) rfl (by kernel_rfl) (by kernel_rfl) (by kernel_rfl) (fun _ _ _ h => h) (Or.inl ⟨by rfl, ?_⟩) (by assumption) ?_
        rotate_left
        · (intro w hSw; (try dsimp only at hSw); obtain ⟨y0, y1, y2, y3, y4, y5, y6, y7, y8⟩ := (H2.out _ hSw).1.c9; obtain ⟨z0, z1, z2, z3, z4, z5, z6, z7, z8⟩ := (H2.out _ hSw).2.c9;  go_simp; try with_reducible rfl)
        try simp only [Act.put, List.setIfInBounds_toArray, List.set_cons_zero, List.set_cons_succ]
        refine wpAnyH_take (i := 2) (oi := ({ dst := some 45, op := Go.Op.move (Go.Operand.tmp 8), type := 3, pos := "law.go:44", after := #[], guard := none } : Oper)) (v := ?_) rfl (by kernel_rfl) (by kernel_rfl) (by kernel_rfl) (fun _ _ _ h => h) (Or.inl ⟨by rfl, ?_⟩) (by assumption) ?_
        rotate_left
        · (intro w hSw; (try dsimp only at hSw); obtain ⟨y0, y1, y2, y3, y4, y5, y6, y7, y8⟩ := (H2.out _ hSw).1.c9; obtain ⟨z0, z1, z2, z3, z4, z5, z6, z7, z8⟩ := (H2.out _ hSw).2.c9;  go_simp; try with_reducible rfl)
        try simp only [Act.put, List.setIfInBounds_toArray, List.set_cons_zero, List.set_cons_succ]
        refine wpAnyH_ready (rs := [3]) (by kernel_rfl) (List.cons_ne_nil _ _) ?_
        refine AllReadyH.cons (o := ({ dst := some 46, op := Go.Op.call { callee := Go.Callee.value (Go.Operand.func 27), args := #[Go.Operand.tmp 43, Go.Operand.tmp 44, Go.Operand.tmp 45, Go.Operand.const (Go.Value.int Go.IntKind.i64 1)], argTypes := #[27, 3, 3, 3] }, type := 4, pos := "law.go:44", after := #[{ on := 0, ground := Go.Ground.data }, { on := 1, ground := Go.Ground.data }, { on := 2, ground := Go.Ground.data }], guard := none } : Oper)) rfl (fun K hK => ?_) AllReadyH.nil
        refine Eq.mpr (if_pos (by rfl)) ?_
        go_simp
        (go_at_call 27; refine (cWrites j A 1 C _ _ (H2.out _ HR.out).1.2).mono ?_; rintro e w6 ⟨rfl, k6⟩; replace HR := Lib.hid (HR.out.trans k6); clear k6; rw [EW.out])
        refine hK.out _ _ (HR.out) (fun hHeld => ?_)
        clear hK K
        try simp only [Act.put, List.setIfInBounds_toArray, List.set_cons_zero, List.set_cons_succ]
        refine wpAnyH_take (i := 4) (oi := ({ dst := some 47, op := Go.Op.move (Go.Operand.tmp 46), type := 4, pos := "law.go:44", after := #[{ on := 3, ground := Go.Ground.data }, { on := 3, ground := Go.Ground.chain }], guard := none } : Oper)) (v := ?_) rfl (by kernel_rfl) (by kernel_rfl) (by kernel_rfl) (fun _ _ _ h => h) (Or.inl ⟨by rfl, ?_⟩) (by assumption) ?_
        rotate_left
        · (intro w hSw; (try dsimp only at hSw); obtain ⟨y0, y1, y2, y3, y4, y5, y6, y7, y8⟩ := (H2.out _ hSw).1.c9; obtain ⟨z0, z1, z2, z3, z4, z5, z6, z7, z8⟩ := (H2.out _ hSw).2.c9;  go_simp; try with_reducible rfl)
        try simp only [Act.put, List.setIfInBounds_toArray, List.set_cons_zero, List.set_cons_succ]
        refine wpAnyH_take (i := 5) (oi := ({ dst := some 48, op := Go.Op.load 27 (Go.Operand.tmp 3), type := 27, pos := "law.go:44", after := #[{ on := 4, ground := Go.Ground.guard }], guard := some (4, true) } : Oper)) (v := ?_) rfl (by kernel_rfl) (by kernel_rfl) (by kernel_rfl) (fun _ _ _ h => h) (Or.inl ⟨by rfl, ?_⟩) (by assumption) ?_
        rotate_left
        · (intro w hSw; (try dsimp only at hSw); obtain ⟨y0, y1, y2, y3, y4, y5, y6, y7, y8⟩ := (H2.out _ hSw).1.c9; obtain ⟨z0, z1, z2, z3, z4, z5, z6, z7, z8⟩ := (H2.out _ hSw).2.c9;  go_simp; try with_reducible rfl)
        try simp only [Act.put, List.setIfInBounds_toArray, List.set_cons_zero, List.set_cons_succ]
        refine wpAnyH_take (i := 6) (oi := ({ dst := some 49, op := Go.Op.move (Go.Operand.tmp 10), type := 3, pos := "law.go:44", after := #[{ on := 4, ground := Go.Ground.guard }], guard := some (4, true) } : Oper)) (v := ?_) rfl (by kernel_rfl) (by kernel_rfl) (by kernel_rfl) (fun _ _ _ h => h) (Or.inl ⟨by rfl, ?_⟩) (by assumption) ?_
        rotate_left
        · (intro w hSw; (try dsimp only at hSw); obtain ⟨y0, y1, y2, y3, y4, y5, y6, y7, y8⟩ := (H2.out _ hSw).1.c9; obtain ⟨z0, z1, z2, z3, z4, z5, z6, z7, z8⟩ := (H2.out _ hSw).2.c9;  go_simp; try with_reducible rfl)
        try simp only [Act.put, List.setIfInBounds_toArray, List.set_cons_zero, List.set_cons_succ]
        refine wpAnyH_take (i := 7) (oi := ({ dst := some 50, op := Go.Op.move (Go.Operand.tmp 8), type := 3, pos := "law.go:44", after := #[{ on := 4, ground := Go.Ground.guard }], guard := some (4, true) } : Oper)) (v := ?_) rfl (by kernel_rfl) (by kernel_rfl) (by kernel_rfl) (fun _ _ _ h => h) (Or.inl ⟨by rfl, ?_⟩) (by assumption) ?_
        rotate_left
        · (intro w hSw; (try dsimp only at hSw); obtain ⟨y0, y1, y2, y3, y4, y5, y6, y7, y8⟩ := (H2.out _ hSw).1.c9; obtain ⟨z0, z1, z2, z3, z4, z5, z6, z7, z8⟩ := (H2.out _ hSw).2.c9;  go_simp; try with_reducible rfl)
        try simp only [Act.put, List.setIfInBounds_toArray, List.set_cons_zero, List.set_cons_succ]
        refine wpAnyH_ready (rs := [8]) (by kernel_rfl) (List.cons_ne_nil _ _) ?_
        refine AllReadyH.cons (o := ({ dst := some 51, op := Go.Op.call { callee := Go.Callee.value (Go.Operand.func 25), args := #[Go.Operand.tmp 48, Go.Operand.tmp 49, Go.Operand.tmp 50, Go.Operand.const (Go.Value.int Go.IntKind.i64 1)], argTypes := #[27, 3, 3, 3] }, type := 4, pos := "law.go:44", after := #[{ on := 5, ground := Go.Ground.data }, { on := 6, ground := Go.Ground.data }, { on := 7, ground := Go.Ground.data }, { on := 4, ground := Go.Ground.chain }, { on := 4, ground := Go.Ground.guard }], guard := some (4, true) } : Oper)) rfl (fun K hK => ?_) AllReadyH.nil
        refine Eq.mpr (if_pos (by rfl)) ?_
        go_simp
        (go_at_call 25; refine (cReads j A 1 C _ _ (H2.out _ HR.out).1.2).mono ?_; rintro e w6 ⟨rfl, k6⟩; replace HR := Lib.hid (HR.out.trans k6); clear k6; rw [ER.out])
        refine hK.out _ _ (HR.out) (fun hHeld => ?_)
        clear hK K
        try simp only [Act.put, List.setIfInBounds_toArray, List.set_cons_zero, List.set_cons_succ]
        refine wpAnyH_take (i := 9) (oi := ({ dst := some 52, op := Go.Op.unOp Go.UnOp.not 4 (Go.Operand.tmp 51), type := 4, pos := "law.go:44", after := #[{ on := 8, ground := Go.Ground.data }, { on := 4, ground := Go.Ground.guard }], guard := some (4, true) } : Oper)) (v := ?_) rfl (by kernel_rfl) (by kernel_rfl) (by kernel_rfl) (fun _ _ _ h => h) (Or.inl ⟨by rfl, ?_⟩) (by assumption) ?_
        rotate_left
        · (intro w hSw; (try dsimp only at hSw); obtain ⟨y0, y1, y2, y3, y4, y5, y6, y7, y8⟩ := (H2.out _ hSw).1.c9; obtain ⟨z0, z1, z2, z3, z4, z5, z6, z7, z8⟩ := (H2.out _ hSw).2.c9;  go_simp; try with_reducible rfl)
        try simp only [Act.put, List.setIfInBounds_toArray, List.set_cons_zero, List.set_cons_succ]
        refine wpAnyH_take (i := 10) (oi := ({ dst := some 53, op := Go.Op.pick (Go.Operand.tmp 47) (Go.Operand.tmp 52) (Go.Operand.const (Go.Value.bool false)), type := 4, pos := "law.go:44", after := #[{ on := 4, ground := Go.Ground.data }, { on := 9, ground := Go.Ground.data }], guard := none } : Oper)) (v := ?_) rfl (by kernel_rfl) (by kernel_rfl) (by kernel_rfl) (fun _ _ _ h => h) (Or.inl ⟨by rfl, ?_⟩) (by assumption) ?_
        rotate_left
        · (intro w hSw; (try dsimp only at hSw); obtain ⟨y0, y1, y2, y3, y4, y5, y6, y7, y8⟩ := (H2.out _ hSw).1.c9; obtain ⟨z0, z1, z2, z3, z4, z5, z6, z7, z8⟩ := (H2.out _ hSw).2.c9;  go_simp; try with_reducible rfl)
        try simp only [Act.put, List.setIfInBounds_toArray, List.set_cons_zero, List.set_cons_succ]
        refine wpAnyH_take (i := 11) (oi := ({ dst := some 54, op := Go.Op.move (Go.Operand.tmp 53), type := 4, pos := "law.go:44", after := #[{ on := 10, ground := Go.Ground.data }, { on := 8, ground := Go.Ground.chain }], guard := none } : Oper)) (v := ?_) rfl (by kernel_rfl) (by kernel_rfl) (by kernel_rfl) (fun _ _ _ h => h) (Or.inl ⟨by rfl, ?_⟩) (by assumption) ?_
        rotate_left
        · (intro w hSw; (try dsimp only at hSw); obtain ⟨y0, y1, y2, y3, y4, y5, y6, y7, y8⟩ := (H2.out _ hSw).1.c9; obtain ⟨z0, z1, z2, z3, z4, z5, z6, z7, z8⟩ := (H2.out _ hSw).2.c9;  go_simp; try with_reducible rfl)
        try simp only [Act.put, List.setIfInBounds_toArray, List.set_cons_zero, List.set_cons_succ]
        refine wpAnyH_take (i := 12) (oi := ({ dst := some 55, op := Go.Op.load 27 (Go.Operand.tmp 7), type := 27, pos := "law.go:44", after := #[{ on := 11, ground := Go.Ground.guard }], guard := some (11, false) } : Oper)) (v := ?_) rfl (by kernel_rfl) (by kernel_rfl) (by kernel_rfl) (fun _ _ _ h => h) (Or.inl ⟨by rfl, ?_⟩) (by assumption) ?_
        rotate_left
        · (intro w hSw; (try dsimp only at hSw); obtain ⟨y0, y1, y2, y3, y4, y5, y6, y7, y8⟩ := (H2.out _ hSw).1.c9; obtain ⟨z0, z1, z2, z3, z4, z5, z6, z7, z8⟩ := (H2.out _ hSw).2.c9;  go_simp; try with_reducible rfl)
        try simp only [Act.put, List.setIfInBounds_toArray, List.set_cons_zero, List.set_cons_succ]
        refine wpAnyH_take (i := 13) (oi := ({ dst := some 56, op := Go.Op.move (Go.Operand.tmp 10), type := 3, pos := "law.go:44", after := #[{ on := 11, ground := Go.Ground.guard }], guard := some (11, false) } : Oper)) (v := ?_) rfl (by kernel_rfl) (by kernel_rfl) (by kernel_rfl) (fun _ _ _ h => h) (Or.inl ⟨by rfl, ?_⟩) (by assumption) ?_
        rotate_left
        · (intro w hSw; (try dsimp only at hSw); obtain ⟨y0, y1, y2, y3, y4, y5, y6, y7, y8⟩ := (H2.out _ hSw).1.c9; obtain ⟨z0, z1, z2, z3, z4, z5, z6, z7, z8⟩ := (H2.out _ hSw).2.c9;  go_simp; try with_reducible rfl)
        try simp only [Act.put, List.setIfInBounds_toArray, List.set_cons_zero, List.set_cons_succ]
        refine wpAnyH_take (i := 14) (oi := ({ dst := some 57, op := Go.Op.move (Go.Operand.tmp 8), type := 3, pos := "law.go:44", after := #[{ on := 11, ground := Go.Ground.guard }], guard := some (11, false) } : Oper)) (v := ?_) rfl (by kernel_rfl) (by kernel_rfl) (by kernel_rfl) (fun _ _ _ h => h) (Or.inl ⟨by rfl, ?_⟩) (by assumption) ?_
        rotate_left
        · (intro w hSw; (try dsimp only at hSw); obtain ⟨y0, y1, y2, y3, y4, y5, y6, y7, y8⟩ := (H2.out _ hSw).1.c9; obtain ⟨z0, z1, z2, z3, z4, z5, z6, z7, z8⟩ := (H2.out _ hSw).2.c9;  go_simp; try with_reducible rfl)
        try simp only [Act.put, List.setIfInBounds_toArray, List.set_cons_zero, List.set_cons_succ]
        refine wpAnyH_take (i := 16) (oi := ({ dst := some 59, op := Go.Op.load 27 (Go.Operand.tmp 7), type := 27, pos := "law.go:44", after := #[{ on := 11, ground := Go.Ground.guard }], guard := some (11, false) } : Oper)) (v := ?_) rfl (by kernel_rfl) (by kernel_rfl) (by kernel_rfl) (fun _ _ _ h => h) (Or.inl ⟨by rfl, ?_⟩) (by assumption) ?_
        rotate_left
        · (intro w hSw; (try dsimp only at hSw); obtain ⟨y0, y1, y2, y3, y4, y5, y6, y7, y8⟩ := (H2.out _ hSw).1.c9; obtain ⟨z0, z1, z2, z3, z4, z5, z6, z7, z8⟩ := (H2.out _ hSw).2.c9;  go_simp; try with_reducible rfl)
        try simp only [Act.put, List.setIfInBounds_toArray, List.set_cons_zero, List.set_cons_succ]
        refine wpAnyH_take (i := 17) (oi := ({ dst := some 60, op := Go.Op.move (Go.Operand.tmp 10), type := 3, pos := "law.go:44", after := #[{ on := 11, ground := Go.Ground.guard }], guard := some (11, false) } : Oper)) (v := ?_) rfl (by kernel_rfl) (by kernel_rfl) (by kernel_rfl) (fun _ _ _ h => h) (Or.inl ⟨by rfl, ?_⟩) (by assumption) ?_
        rotate_left
        · (intro w hSw; (try dsimp only at hSw); obtain ⟨y0, y1, y2, y3, y4, y5, y6, y7, y8⟩ := (H2.out _ hSw).1.c9; obtain ⟨z0, z1, z2, z3, z4, z5, z6, z7, z8⟩ := (H2.out _ hSw).2.c9;  go_simp; try with_reducible rfl)
        try simp only [Act.put, List.setIfInBounds_toArray, List.set_cons_zero, List.set_cons_succ]
        refine wpAnyH_take (i := 18) (oi := ({ dst := some 61, op := Go.Op.move (Go.Operand.tmp 8), type := 3, pos := "law.go:44", after := #[{ on := 11, ground := Go.Ground.guard }], guard := some (11, false) } : Oper)) (v := ?_) rfl (by kernel_rfl) (by kernel_rfl) (by kernel_rfl) (fun _ _ _ h => h) (Or.inl ⟨by rfl, ?_⟩) (by assumption) ?_
        rotate_left
        · (intro w hSw; (try dsimp only at hSw); obtain ⟨y0, y1, y2, y3, y4, y5, y6, y7, y8⟩ := (H2.out _ hSw).1.c9; obtain ⟨z0, z1, z2, z3, z4, z5, z6, z7, z8⟩ := (H2.out _ hSw).2.c9;  go_simp; try with_reducible rfl)
        try simp only [Act.put, List.setIfInBounds_toArray, List.set_cons_zero, List.set_cons_succ]
        refine wpAnyH_ready (rs := [15]) (by kernel_rfl) (List.cons_ne_nil _ _) ?_
        refine AllReadyH.cons (o := ({ dst := some 58, op := Go.Op.call { callee := Go.Callee.value (Go.Operand.func 25), args := #[Go.Operand.tmp 55, Go.Operand.tmp 56, Go.Operand.tmp 57, Go.Operand.const (Go.Value.int Go.IntKind.i64 1)], argTypes := #[27, 3, 3, 3] }, type := 4, pos := "law.go:44", after := #[{ on := 12, ground := Go.Ground.data }, { on := 13, ground := Go.Ground.data }, { on := 14, ground := Go.Ground.data }, { on := 11, ground := Go.Ground.chain }, { on := 11, ground := Go.Ground.guard }], guard := some (11, false) } : Oper)) rfl (fun K hK => ?_) AllReadyH.nil
        refine Eq.mpr (if_pos (by rfl)) ?_
        go_simp
        (go_at_call 25; refine (cReads j A 1 (noG C) _ _ (H2.out _ HR.out).2.2).mono ?_; rintro e w6 ⟨rfl, k6⟩; replace HR := Lib.hid (HR.out.trans k6); clear k6; rw [DR.out])
        refine hK.out _ _ (HR.out) (fun hHeld => ?_)
        clear hK K
        try simp only [Act.put, List.setIfInBounds_toArray, List.set_cons_zero, List.set_cons_succ]
        refine wpAnyH_ready (rs := [19]) (by kernel_rfl) (List.cons_ne_nil _ _) ?_
        refine AllReadyH.cons (o := ({ dst := some 62, op := Go.Op.call { callee := Go.Callee.value (Go.Operand.func 27), args := #[Go.Operand.tmp 59, Go.Operand.tmp 60, Go.Operand.tmp 61, Go.Operand.const (Go.Value.int Go.IntKind.i64 1)], argTypes := #[27, 3, 3, 3] }, type := 4, pos := "law.go:44", after := #[{ on := 16, ground := Go.Ground.data }, { on := 17, ground := Go.Ground.data }, { on := 18, ground := Go.Ground.data }, { on := 15, ground := Go.Ground.chain }, { on := 11, ground := Go.Ground.guard }], guard := some (11, false) } : Oper)) rfl (fun K hK => ?_) AllReadyH.nil
        refine Eq.mpr (if_pos (by rfl)) ?_
        go_simp
        (go_at_call 27; refine (cWrites j A 1 (noG C) _ _ (H2.out _ HR.out).2.2).mono ?_; rintro e w6 ⟨rfl, k6⟩; replace HR := Lib.hid (HR.out.trans k6); clear k6; rw [DW.out])
        refine hK.out _ _ (HR.out) (fun hHeld => ?_)
        clear hK K
        try simp only [Act.put, List.setIfInBounds_toArray, List.set_cons_zero, List.set_cons_succ]
        refine wpAnyH_take (i := 20) (oi := ({ dst := some 63, op := Go.Op.binOp Go.BinOp.neq 4 (Go.Operand.tmp 58) (Go.Operand.tmp 62) 4, type := 4, pos := "law.go:44", after := #[{ on := 15, ground := Go.Ground.data }, { on := 19, ground := Go.Ground.data }, { on := 11, ground := Go.Ground.guard }], guard := some (11, false) } : Oper)) (v := ?_) rfl (by kernel_rfl) (by kernel_rfl) (by kernel_rfl) (fun _ _ _ h => h) (Or.inl ⟨by rfl, ?_⟩) (by assumption) ?_
        rotate_left
        · (intro w hSw; (try dsimp only at hSw); obtain ⟨y0, y1, y2, y3, y4, y5, y6, y7, y8⟩ := (H2.out _ hSw).1.c9; obtain ⟨z0, z1, z2, z3, z4, z5, z6, z7, z8⟩ := (H2.out _ hSw).2.c9;  go_simp; try with_reducible rfl)
        try simp only [Act.put, List.setIfInBounds_toArray, List.set_cons_zero, List.set_cons_succ]
        refine wpAnyH_take (i := 21) (oi := ({ dst := some 64, op := Go.Op.pick (Go.Operand.tmp 54) (Go.Operand.const (Go.Value.bool true)) (Go.Operand.tmp 63), type := 4, pos := "law.go:44", after := #[{ on := 11, ground := Go.Ground.data }, { on := 20, ground := Go.Ground.data }], guard := none } : Oper)) (v := ?_) rfl (by kernel_rfl) (by kernel_rfl) (by kernel_rfl) (fun _ _ _ h => h) (Or.inl ⟨by rfl, ?_⟩) (by assumption) ?_
        rotate_left
        · (intro w hSw; (try dsimp only at hSw); obtain ⟨y0, y1, y2, y3, y4, y5, y6, y7, y8⟩ := (H2.out _ hSw).1.c9; obtain ⟨z0, z1, z2, z3, z4, z5, z6, z7, z8⟩ := (H2.out _ hSw).2.c9;  go_simp; try with_reducible rfl)
        try simp only [Act.put, List.setIfInBounds_toArray, List.set_cons_zero, List.set_cons_succ]
        refine wpAnyH_take (i := 22) (oi := ({ dst := some 65, op := Go.Op.move (Go.Operand.tmp 64), type := 4, pos := "law.go:44", after := #[{ on := 21, ground := Go.Ground.data }, { on := 19, ground := Go.Ground.chain }], guard := none } : Oper)) (v := ?_) rfl (by kernel_rfl) (by kernel_rfl) (by kernel_rfl) (fun _ _ _ h => h) (Or.inl ⟨by rfl, ?_⟩) (by assumption) ?_
        rotate_left
        · (intro w hSw; (try dsimp only at hSw); obtain ⟨y0, y1, y2, y3, y4, y5, y6, y7, y8⟩ := (H2.out _ hSw).1.c9; obtain ⟨z0, z1, z2, z3, z4, z5, z6, z7, z8⟩ := (H2.out _ hSw).2.c9;  go_simp; try with_reducible rfl)
        try simp only [Act.put, List.setIfInBounds_toArray, List.set_cons_zero, List.set_cons_succ]
        refine wpAnyH_take (i := 23) (oi := ({ dst := some 66, op := Go.Op.load 27 (Go.Operand.tmp 7), type := 27, pos := "law.go:44", after := #[{ on := 22, ground := Go.Ground.guard }], guard := some (22, false) } : Oper)) (v := ?_) rfl (by kernel_rfl) (by kernel_rfl) (by kernel_rfl) (fun _ _ _ h => h) (Or.inl ⟨by rfl, ?_⟩) (by assumption) ?_
        rotate_left
        · (intro w hSw; (try dsimp only at hSw); obtain ⟨y0, y1, y2, y3, y4, y5, y6, y7, y8⟩ := (H2.out _ hSw).1.c9; obtain ⟨z0, z1, z2, z3, z4, z5, z6, z7, z8⟩ := (H2.out _ hSw).2.c9;  go_simp; try with_reducible rfl)
        try simp only [Act.put, List.setIfInBounds_toArray, List.set_cons_zero, List.set_cons_succ]
        refine wpAnyH_take (i := 24) (oi := ({ dst := some 67, op := Go.Op.move (Go.Operand.tmp 10), type := 3, pos := "law.go:44", after := #[{ on := 22, ground := Go.Ground.guard }], guard := some (22, false) } : Oper)) (v := ?_) rfl (by kernel_rfl) (by kernel_rfl) (by kernel_rfl) (fun _ _ _ h => h) (Or.inl ⟨by rfl, ?_⟩) (by assumption) ?_
        rotate_left
        · (intro w hSw; (try dsimp only at hSw); obtain ⟨y0, y1, y2, y3, y4, y5, y6, y7, y8⟩ := (H2.out _ hSw).1.c9; obtain ⟨z0, z1, z2, z3, z4, z5, z6, z7, z8⟩ := (H2.out _ hSw).2.c9;  go_simp; try with_reducible rfl)
        try simp only [Act.put, List.setIfInBounds_toArray, List.set_cons_zero, List.set_cons_succ]
        refine wpAnyH_take (i := 25) (oi := ({ dst := some 68, op := Go.Op.move (Go.Operand.tmp 8), type := 3, pos := "law.go:44", after := #[{ on := 22, ground := Go.Ground.guard }], guard := some (22, false) } : Oper)) (v := ?_) rfl (by kernel_rfl) (by kernel_rfl) (by kernel_rfl) (fun _ _ _ h => h) (Or.inl ⟨by rfl, ?_⟩) (by assumption) ?_
        rotate_left
        · (intro w hSw; (try dsimp only at hSw); obtain ⟨y0, y1, y2, y3, y4, y5, y6, y7, y8⟩ := (H2.out _ hSw).1.c9; obtain ⟨z0, z1, z2, z3, z4, z5, z6, z7, z8⟩ := (H2.out _ hSw).2.c9;  go_simp; try with_reducible rfl)
        try simp only [Act.put, List.setIfInBounds_toArray, List.set_cons_zero, List.set_cons_succ]
        refine wpAnyH_ready (rs := [26]) (by kernel_rfl) (List.cons_ne_nil _ _) ?_
        refine AllReadyH.cons (o := ({ dst := some 69, op := Go.Op.call { callee := Go.Callee.value (Go.Operand.func 25), args := #[Go.Operand.tmp 66, Go.Operand.tmp 67, Go.Operand.tmp 68, Go.Operand.const (Go.Value.int Go.IntKind.i64 1)], argTypes := #[27, 3, 3, 3] }, type := 4, pos := "law.go:44", after := #[{ on := 23, ground := Go.Ground.data }, { on := 24, ground := Go.Ground.data }, { on := 25, ground := Go.Ground.data }, { on := 22, ground := Go.Ground.chain }, { on := 22, ground := Go.Ground.guard }], guard := some (22, false) } : Oper)) rfl (fun K hK => ?_) AllReadyH.nil
        refine Eq.mpr (if_pos (by rfl)) ?_
        go_simp
        (go_at_call 25; refine (cReads j A 1 (noG C) _ _ (H2.out _ HR.out).2.2).mono ?_; rintro e w6 ⟨rfl, k6⟩; replace HR := Lib.hid (HR.out.trans k6); clear k6; rw [DR.out])
        refine hK.out _ _ (HR.out) (fun hHeld => ?_)
        clear hK K
        try simp only [Act.put, List.setIfInBounds_toArray, List.set_cons_zero, List.set_cons_succ]
        refine wpAnyH_take (i := 27) (oi := ({ dst := some 70, op := Go.Op.move (Go.Operand.tmp 69), type := 4, pos := "law.go:44", after := #[{ on := 26, ground := Go.Ground.data }, { on := 26, ground := Go.Ground.chain }, { on := 22, ground := Go.Ground.guard }], guard := some (22, false) } : Oper)) (v := ?_) rfl (by kernel_rfl) (by kernel_rfl) (by kernel_rfl) (fun _ _ _ h => h) (Or.inl ⟨by rfl, ?_⟩) (by assumption) ?_
        rotate_left
        · (intro w hSw; (try dsimp only at hSw); obtain ⟨y0, y1, y2, y3, y4, y5, y6, y7, y8⟩ := (H2.out _ hSw).1.c9; obtain ⟨z0, z1, z2, z3, z4, z5, z6, z7, z8⟩ := (H2.out _ hSw).2.c9;  go_simp; try with_reducible rfl)
        try simp only [Act.put, List.setIfInBounds_toArray, List.set_cons_zero, List.set_cons_succ]
        refine wpAnyH_take (i := 28) (oi := ({ dst := some 71, op := Go.Op.load 27 (Go.Operand.tmp 3), type := 27, pos := "law.go:44", after := #[{ on := 27, ground := Go.Ground.guard }], guard := some (27, true) } : Oper)) (v := ?_) rfl (by kernel_rfl) (by kernel_rfl) (by kernel_rfl) (fun _ _ _ h => h) (Or.inl ⟨by rfl, ?_⟩) (by assumption) ?_
        rotate_left
        · (intro w hSw; (try dsimp only at hSw); obtain ⟨y0, y1, y2, y3, y4, y5, y6, y7, y8⟩ := (H2.out _ hSw).1.c9; obtain ⟨z0, z1, z2, z3, z4, z5, z6, z7, z8⟩ := (H2.out _ hSw).2.c9;  go_simp; try with_reducible rfl)
        try simp only [Act.put, List.setIfInBounds_toArray, List.set_cons_zero, List.set_cons_succ]
        refine wpAnyH_take (i := 29) (oi := ({ dst := some 72, op := Go.Op.move (Go.Operand.tmp 10), type := 3, pos := "law.go:44", after := #[{ on := 27, ground := Go.Ground.guard }], guard := some (27, true) } : Oper)) (v := ?_) rfl (by kernel_rfl) (by kernel_rfl) (by kernel_rfl) (fun _ _ _ h => h) (Or.inl ⟨by rfl, ?_⟩) (by assumption) ?_
        rotate_left
        · (intro w hSw; (try dsimp only at hSw); obtain ⟨y0, y1, y2, y3, y4, y5, y6, y7, y8⟩ := (H2.out _ hSw).1.c9; obtain ⟨z0, z1, z2, z3, z4, z5, z6, z7, z8⟩ := (H2.out _ hSw).2.c9;  go_simp; try with_reducible rfl)
        try simp only [Act.put, List.setIfInBounds_toArray, List.set_cons_zero, List.set_cons_succ]
        refine wpAnyH_take (i := 30) (oi := ({ dst := some 73, op := Go.Op.move (Go.Operand.tmp 8), type := 3, pos := "law.go:44", after := #[{ on := 27, ground := Go.Ground.guard }], guard := some (27, true) } : Oper)) (v := ?_) rfl (by kernel_rfl) (by kernel_rfl) (by kernel_rfl) (fun _ _ _ h => h) (Or.inl ⟨by rfl, ?_⟩) (by assumption) ?_
        rotate_left
        · (intro w hSw; (try dsimp only at hSw); obtain ⟨y0, y1, y2, y3, y4, y5, y6, y7, y8⟩ := (H2.out _ hSw).1.c9; obtain ⟨z0, z1, z2, z3, z4, z5, z6, z7, z8⟩ := (H2.out _ hSw).2.c9;  go_simp; try with_reducible rfl)
        try simp only [Act.put, List.setIfInBounds_toArray, List.set_cons_zero, List.set_cons_succ]
        refine wpAnyH_ready (rs := [31]) (by kernel_rfl) (List.cons_ne_nil _ _) ?_
        refine AllReadyH.cons (o := ({ dst := some 74, op := Go.Op.call { callee := Go.Callee.value (Go.Operand.func 27), args := #[Go.Operand.tmp 71, Go.Operand.tmp 72, Go.Operand.tmp 73, Go.Operand.const (Go.Value.int Go.IntKind.i64 1)], argTypes := #[27, 3, 3, 3] }, type := 4, pos := "law.go:44", after := #[{ on := 28, ground := Go.Ground.data }, { on := 29, ground := Go.Ground.data }, { on := 30, ground := Go.Ground.data }, { on := 27, ground := Go.Ground.chain }, { on := 27, ground := Go.Ground.guard }], guard := some (27, true) } : Oper)) rfl (fun K hK => ?_) AllReadyH.nil
        refine Eq.mpr (if_pos (by rfl)) ?_
        go_simp
        (go_at_call 27; refine (cWrites j A 1 C _ _ (H2.out _ HR.out).1.2).mono ?_; rintro e w6 ⟨rfl, k6⟩; replace HR := Lib.hid (HR.out.trans k6); clear k6; rw [EW.out])
        refine hK.out _ _ (HR.out) (fun hHeld => ?_)
        clear hK K
        try simp only [Act.put, List.setIfInBounds_toArray, List.set_cons_zero, List.set_cons_succ]
        refine wpAnyH_take (i := 32) (oi := ({ dst := some 75, op := Go.Op.unOp Go.UnOp.not 4 (Go.Operand.tmp 74), type := 4, pos := "law.go:44", after := #[{ on := 31, ground := Go.Ground.data }, { on := 27, ground := Go.Ground.guard }], guard := some (27, true) } : Oper)) (v := ?_) rfl (by kernel_rfl) (by kernel_rfl) (by kernel_rfl) (fun _ _ _ h => h) (Or.inl ⟨by rfl, ?_⟩) (by assumption) ?_
        rotate_left
        · (intro w hSw; (try dsimp only at hSw); obtain ⟨y0, y1, y2, y3, y4, y5, y6, y7, y8⟩ := (H2.out _ hSw).1.c9; obtain ⟨z0, z1, z2, z3, z4, z5, z6, z7, z8⟩ := (H2.out _ hSw).2.c9;  go_simp; try with_reducible rfl)
        try simp only [Act.put, List.setIfInBounds_toArray, List.set_cons_zero, List.set_cons_succ]
        refine wpAnyH_take (i := 33) (oi := ({ dst := some 76, op := Go.Op.pick (Go.Operand.tmp 70) (Go.Operand.tmp 75) (Go.Operand.const (Go.Value.bool false)), type := 4, pos := "law.go:44", after := #[{ on := 27, ground := Go.Ground.data }, { on := 32, ground := Go.Ground.data }, { on := 22, ground := Go.Ground.guard }], guard := some (22, false) } : Oper)) (v := ?_) rfl (by kernel_rfl) (by kernel_rfl) (by kernel_rfl) (fun _ _ _ h => h) (Or.inl ⟨by rfl, ?_⟩) (by assumption) ?_
        rotate_left
        · (intro w hSw; (try dsimp only at hSw); obtain ⟨y0, y1, y2, y3, y4, y5, y6, y7, y8⟩ := (H2.out _ hSw).1.c9; obtain ⟨z0, z1, z2, z3, z4, z5, z6, z7, z8⟩ := (H2.out _ hSw).2.c9;  go_simp; try with_reducible rfl)
        try simp only [Act.put, List.setIfInBounds_toArray, List.set_cons_zero, List.set_cons_succ]
        refine wpAnyH_take (i := 34) (oi := ({ dst := some 77, op := Go.Op.pick (Go.Operand.tmp 65) (Go.Operand.const (Go.Value.bool true)) (Go.Operand.tmp 76), type := 4, pos := "law.go:44", after := #[{ on := 22, ground := Go.Ground.data }, { on := 33, ground := Go.Ground.data }], guard := none } : Oper)) (v := ?_) rfl (by kernel_rfl) (by kernel_rfl) (by kernel_rfl) (fun _ _ _ h => h) (Or.inl ⟨by rfl, ?_⟩) (by assumption) ?_
        rotate_left
        · (intro w hSw; (try dsimp only at hSw); obtain ⟨y0, y1, y2, y3, y4, y5, y6, y7, y8⟩ := (H2.out _ hSw).1.c9; obtain ⟨z0, z1, z2, z3, z4, z5, z6, z7, z8⟩ := (H2.out _ hSw).2.c9;  go_simp; try with_reducible rfl)
        try simp only [Act.put, List.setIfInBounds_toArray, List.set_cons_zero, List.set_cons_succ]
        refine wpAnyH_done (by kernel_rfl) ?_ _
        obtain ⟨z0, z1, z2, z3, z4, z5, z6, z7, z8⟩ := (H2.out _ HR.out).2.c9
        go_wp2_with fail
        refine (cReads j A 1 (noG C) _ _ (H2.out _ HR.out).2.2).mono ?_
        rintro e w6 ⟨rfl, k6⟩
        rw [DR.out]
        replace HR := Lib.hid (HR.out.trans k6)
        clear k6 z0 z1 z2 z3 z4 z5 z6 z7 z8
        go_wp2_with fail
        go_roundw
        case rel => exact ⟨j + 1, by omega, by go_num, by rw [HMN.out], HR.out⟩
        case measure => simp [intOf]; omega
      · have DR := Lib.hid (decide_eq_false (fun h => ho ((rno false).1 h)))
        have DW := Lib.hid (decide_eq_false (fun h => ho ((rno true).1 h)))
        have HMN : Hid (manyC (C.own (A / 64)) (j + 1 : Nat) = manyC (C.own (A / 64)) j) := by show _ = _; unfold manyC; by_cases h : 0 ≤ C.own (A / 64) ∧ C.own (A / 64) < j; rw [if_pos h, if_pos (by omega)]; rw [if_neg h, if_neg (by omega)]
        by_cases hw : ReachP C j (A / 64) true
        · have hwr := (one true).2 hw
          have EW := Lib.hid (decide_eq_true hwr)
          have ER := Lib.hid (decide_eq_true (writes_reads C j A 1 hwr))
          clear one rno hthere ho hwr hw y0 y2 y3 y4 y5 y6 y7 y8
          generalize manyC (C.own (A / 64)) j = M at *
          go_upto_region 12 with fail
          clear y1
          refine wp_region_held_drew (S := fun W => Chg (fun _ => False) W0 W) (by kernel_rfl) (HR.out.drew) (fun hHeld => ?_)
          replace HR : Hid (Chg (fun _ => False) W0 _) := hHeld
          refine wpAnyH_take (i := 0) (oi := ({ dst := some 43, op := Go.Op.load 27 (Go.Operand.tmp 3), type := 27, pos := "law.go:44", after := #[], guard := none } : Oper)) (v := ?_) rfl (by kernel_rfl) (by kernel_rfl) (by kernel_rfl) (fun _ _ _ h => h) (Or.inl ⟨by rfl, ?_⟩) (by assumption) ?_
          rotate_left
          · (intro w hSw; (try dsimp only at hSw); obtain ⟨y0, y1, y2, y3, y4, y5, y6, y7, y8⟩ := (H2.out _ hSw).1.c9; obtain ⟨z0, z1, z2, z3, z4, z5, z6, z7, z8⟩ := (H2.out _ hSw).2.c9;  go_simp; try with_reducible rfl)
          try simp only [Act.put, List.setIfInBounds_toArray, List.set_cons_zero, List.set_cons_succ]
          refine wpAnyH_take (i := 1) (oi := ({ dst := some 44, op := Go.Op.move (Go.Operand.tmp 10), type := 3, pos := "law.go:44", after := #[], guard := none } : Oper)) (v := ?_) rfl (by kernel_rfl) (by kernel_rfl) (by kernel_rfl) (fun _ _ _ h => h) (Or.inl ⟨by rfl, ?_⟩) (by assumption) ?_
          rotate_left
          · (intro w hSw; (try dsimp only at hSw); obtain ⟨y0, y1, y2, y3, y4, y5, y6, y7, y8⟩ := (H2.out _ hSw).1.c9; obtain ⟨z0, z1, z2, z3, z4, z5, z6, z7, z8⟩ := (H2.out _ hSw).2.c9;  go_simp; try with_reducible rfl)
          try simp only [Act.put, List.setIfInBounds_toArray, List.set_cons_zero, List.set_cons_succ]
          refine wpAnyH_take (i := 2) (oi := ({ dst := some 45, op := Go.Op.move (Go.Operand.tmp 8), type := 3, pos := "law.go:44", after := #[], guard := none } : Oper)) (v := ?_) rfl (by kernel_rfl) (by kernel_rfl) (by kernel_rfl) (fun _ _ _ h => h) (Or.inl ⟨by rfl, ?_⟩) (by assumption) ?_
          rotate_left
          · (intro w hSw; (try dsimp only at hSw); obtain ⟨y0, y1, y2, y3, y4, y5, y6, y7, y8⟩ := (H2.out _ hSw).1.c9; obtain ⟨z0, z1, z2, z3, z4, z5, z6, z7, z8⟩ := (H2.out _ hSw).2.c9;  go_simp; try with_reducible rfl)
          try simp only [Act.put, List.setIfInBounds_toArray, List.set_cons_zero, List.set_cons_succ]
          refine wpAnyH_ready (rs := [3]) (by kernel_rfl) (List.cons_ne_nil _ _) ?_
          refine AllReadyH.cons (o := ({ dst := some 46, op := Go.Op.call { callee := Go.Callee.value (Go.Operand.func 27), args := #[Go.Operand.tmp 43, Go.Operand.tmp 44, Go.Operand.tmp 45, Go.Operand.const (Go.Value.int Go.IntKind.i64 1)], argTypes := #[27, 3, 3, 3] }, type := 4, pos := "law.go:44", after := #[{ on := 0, ground := Go.Ground.data }, { on := 1, ground := Go.Ground.data }, { on := 2, ground := Go.Ground.data }], guard := none } : Oper)) rfl (fun K hK => ?_) AllReadyH.nil
          refine Eq.mpr (if_pos (by rfl)) ?_
          go_simp
          (go_at_call 27; refine (cWrites j A 1 C _ _ (H2.out _ HR.out).1.2).mono ?_; rintro e w6 ⟨rfl, k6⟩; replace HR := Lib.hid (HR.out.trans k6); clear k6; rw [EW.out])
          refine hK.out _ _ (HR.out) (fun hHeld => ?_)
          clear hK K
          try simp only [Act.put, List.setIfInBounds_toArray, List.set_cons_zero, List.set_cons_succ]
          refine wpAnyH_take (i := 4) (oi := ({ dst := some 47, op := Go.Op.move (Go.Operand.tmp 46), type := 4, pos := "law.go:44", after := #[{ on := 3, ground := Go.Ground.data }, { on := 3, ground := Go.Ground.chain }], guard := none } : Oper)) (v := ?_) rfl (by kernel_rfl) (by kernel_rfl) (by kernel_rfl) (fun _ _ _ h => h) (Or.inl ⟨by rfl, ?_⟩) (by assumption) ?_
          rotate_left
          · (intro w hSw; (try dsimp only at hSw); obtain ⟨y0, y1, y2, y3, y4, y5, y6, y7, y8⟩ := (H2.out _ hSw).1.c9; obtain ⟨z0, z1, z2, z3, z4, z5, z6, z7, z8⟩ := (H2.out _ hSw).2.c9;  go_simp; try with_reducible rfl)
          try simp only [Act.put, List.setIfInBounds_toArray, List.set_cons_zero, List.set_cons_succ]
          refine wpAnyH_take (i := 5) (oi := ({ dst := some 48, op := Go.Op.load 27 (Go.Operand.tmp 3), type := 27, pos := "law.go:44", after := #[{ on := 4, ground := Go.Ground.guard }], guard := some (4, true) } : Oper)) (v := ?_) rfl (by kernel_rfl) (by kernel_rfl) (by kernel_rfl) (fun _ _ _ h => h) (Or.inl ⟨by rfl, ?_⟩) (by assumption) ?_
          rotate_left
          · (intro w hSw; (try dsimp only at hSw); obtain ⟨y0, y1, y2, y3, y4, y5, y6, y7, y8⟩ := (H2.out _ hSw).1.c9; obtain ⟨z0, z1, z2, z3, z4, z5, z6, z7, z8⟩ := (H2.out _ hSw).2.c9;  go_simp; try with_reducible rfl)
          try simp only [Act.put, List.setIfInBounds_toArray, List.set_cons_zero, List.set_cons_succ]
          refine wpAnyH_take (i := 6) (oi := ({ dst := some 49, op := Go.Op.move (Go.Operand.tmp 10), type := 3, pos := "law.go:44", after := #[{ on := 4, ground := Go.Ground.guard }], guard := some (4, true) } : Oper)) (v := ?_) rfl (by kernel_rfl) (by kernel_rfl) (by kernel_rfl) (fun _ _ _ h => h) (Or.inl ⟨by rfl, ?_⟩) (by assumption) ?_
          rotate_left
          · (intro w hSw; (try dsimp only at hSw); obtain ⟨y0, y1, y2, y3, y4, y5, y6, y7, y8⟩ := (H2.out _ hSw).1.c9; obtain ⟨z0, z1, z2, z3, z4, z5, z6, z7, z8⟩ := (H2.out _ hSw).2.c9;  go_simp; try with_reducible rfl)
          try simp only [Act.put, List.setIfInBounds_toArray, List.set_cons_zero, List.set_cons_succ]
          refine wpAnyH_take (i := 7) (oi := ({ dst := some 50, op := Go.Op.move (Go.Operand.tmp 8), type := 3, pos := "law.go:44", after := #[{ on := 4, ground := Go.Ground.guard }], guard := some (4, true) } : Oper)) (v := ?_) rfl (by kernel_rfl) (by kernel_rfl) (by kernel_rfl) (fun _ _ _ h => h) (Or.inl ⟨by rfl, ?_⟩) (by assumption) ?_
          rotate_left
          · (intro w hSw; (try dsimp only at hSw); obtain ⟨y0, y1, y2, y3, y4, y5, y6, y7, y8⟩ := (H2.out _ hSw).1.c9; obtain ⟨z0, z1, z2, z3, z4, z5, z6, z7, z8⟩ := (H2.out _ hSw).2.c9;  go_simp; try with_reducible rfl)
          try simp only [Act.put, List.setIfInBounds_toArray, List.set_cons_zero, List.set_cons_succ]
          refine wpAnyH_ready (rs := [8]) (by kernel_rfl) (List.cons_ne_nil _ _) ?_
          refine AllReadyH.cons (o := ({ dst := some 51, op := Go.Op.call { callee := Go.Callee.value (Go.Operand.func 25), args := #[Go.Operand.tmp 48, Go.Operand.tmp 49, Go.Operand.tmp 50, Go.Operand.const (Go.Value.int Go.IntKind.i64 1)], argTypes := #[27, 3, 3, 3] }, type := 4, pos := "law.go:44", after := #[{ on := 5, ground := Go.Ground.data }, { on := 6, ground := Go.Ground.data }, { on := 7, ground := Go.Ground.data }, { on := 4, ground := Go.Ground.chain }, { on := 4, ground := Go.Ground.guard }], guard := some (4, true) } : Oper)) rfl (fun K hK => ?_) AllReadyH.nil
          refine Eq.mpr (if_pos (by rfl)) ?_
          go_simp
          (go_at_call 25; refine (cReads j A 1 C _ _ (H2.out _ HR.out).1.2).mono ?_; rintro e w6 ⟨rfl, k6⟩; replace HR := Lib.hid (HR.out.trans k6); clear k6; rw [ER.out])
          refine hK.out _ _ (HR.out) (fun hHeld => ?_)
          clear hK K
          try simp only [Act.put, List.setIfInBounds_toArray, List.set_cons_zero, List.set_cons_succ]
          refine wpAnyH_take (i := 9) (oi := ({ dst := some 52, op := Go.Op.unOp Go.UnOp.not 4 (Go.Operand.tmp 51), type := 4, pos := "law.go:44", after := #[{ on := 8, ground := Go.Ground.data }, { on := 4, ground := Go.Ground.guard }], guard := some (4, true) } : Oper)) (v := ?_) rfl (by kernel_rfl) (by kernel_rfl) (by kernel_rfl) (fun _ _ _ h => h) (Or.inl ⟨by rfl, ?_⟩) (by assumption) ?_
          rotate_left
          · (intro w hSw; (try dsimp only at hSw); obtain ⟨y0, y1, y2, y3, y4, y5, y6, y7, y8⟩ := (H2.out _ hSw).1.c9; obtain ⟨z0, z1, z2, z3, z4, z5, z6, z7, z8⟩ := (H2.out _ hSw).2.c9;  go_simp; try with_reducible rfl)
          try simp only [Act.put, List.setIfInBounds_toArray, List.set_cons_zero, List.set_cons_succ]
          refine wpAnyH_take (i := 10) (oi := ({ dst := some 53, op := Go.Op.pick (Go.Operand.tmp 47) (Go.Operand.tmp 52) (Go.Operand.const (Go.Value.bool false)), type := 4, pos := "law.go:44", after := #[{ on := 4, ground := Go.Ground.data }, { on := 9, ground := Go.Ground.data }], guard := none } : Oper)) (v := ?_) rfl (by kernel_rfl) (by kernel_rfl) (by kernel_rfl) (fun _ _ _ h => h) (Or.inl ⟨by rfl, ?_⟩) (by assumption) ?_
          rotate_left
          · (intro w hSw; (try dsimp only at hSw); obtain ⟨y0, y1, y2, y3, y4, y5, y6, y7, y8⟩ := (H2.out _ hSw).1.c9; obtain ⟨z0, z1, z2, z3, z4, z5, z6, z7, z8⟩ := (H2.out _ hSw).2.c9;  go_simp; try with_reducible rfl)
          try simp only [Act.put, List.setIfInBounds_toArray, List.set_cons_zero, List.set_cons_succ]
          refine wpAnyH_take (i := 11) (oi := ({ dst := some 54, op := Go.Op.move (Go.Operand.tmp 53), type := 4, pos := "law.go:44", after := #[{ on := 10, ground := Go.Ground.data }, { on := 8, ground := Go.Ground.chain }], guard := none } : Oper)) (v := ?_) rfl (by kernel_rfl) (by kernel_rfl) (by kernel_rfl) (fun _ _ _ h => h) (Or.inl ⟨by rfl, ?_⟩) (by assumption) ?_
          rotate_left
          · (intro w hSw; (try dsimp only at hSw); obtain ⟨y0, y1, y2, y3, y4, y5, y6, y7, y8⟩ := (H2.out _ hSw).1.c9; obtain ⟨z0, z1, z2, z3, z4, z5, z6, z7, z8⟩ := (H2.out _ hSw).2.c9;  go_simp; try with_reducible rfl)
          try simp only [Act.put, List.setIfInBounds_toArray, List.set_cons_zero, List.set_cons_succ]
          refine wpAnyH_take (i := 12) (oi := ({ dst := some 55, op := Go.Op.load 27 (Go.Operand.tmp 7), type := 27, pos := "law.go:44", after := #[{ on := 11, ground := Go.Ground.guard }], guard := some (11, false) } : Oper)) (v := ?_) rfl (by kernel_rfl) (by kernel_rfl) (by kernel_rfl) (fun _ _ _ h => h) (Or.inl ⟨by rfl, ?_⟩) (by assumption) ?_
          rotate_left
          · (intro w hSw; (try dsimp only at hSw); obtain ⟨y0, y1, y2, y3, y4, y5, y6, y7, y8⟩ := (H2.out _ hSw).1.c9; obtain ⟨z0, z1, z2, z3, z4, z5, z6, z7, z8⟩ := (H2.out _ hSw).2.c9;  go_simp; try with_reducible rfl)
          try simp only [Act.put, List.setIfInBounds_toArray, List.set_cons_zero, List.set_cons_succ]
          refine wpAnyH_take (i := 13) (oi := ({ dst := some 56, op := Go.Op.move (Go.Operand.tmp 10), type := 3, pos := "law.go:44", after := #[{ on := 11, ground := Go.Ground.guard }], guard := some (11, false) } : Oper)) (v := ?_) rfl (by kernel_rfl) (by kernel_rfl) (by kernel_rfl) (fun _ _ _ h => h) (Or.inl ⟨by rfl, ?_⟩) (by assumption) ?_
          rotate_left
          · (intro w hSw; (try dsimp only at hSw); obtain ⟨y0, y1, y2, y3, y4, y5, y6, y7, y8⟩ := (H2.out _ hSw).1.c9; obtain ⟨z0, z1, z2, z3, z4, z5, z6, z7, z8⟩ := (H2.out _ hSw).2.c9;  go_simp; try with_reducible rfl)
          try simp only [Act.put, List.setIfInBounds_toArray, List.set_cons_zero, List.set_cons_succ]
          refine wpAnyH_take (i := 14) (oi := ({ dst := some 57, op := Go.Op.move (Go.Operand.tmp 8), type := 3, pos := "law.go:44", after := #[{ on := 11, ground := Go.Ground.guard }], guard := some (11, false) } : Oper)) (v := ?_) rfl (by kernel_rfl) (by kernel_rfl) (by kernel_rfl) (fun _ _ _ h => h) (Or.inl ⟨by rfl, ?_⟩) (by assumption) ?_
          rotate_left
          · (intro w hSw; (try dsimp only at hSw); obtain ⟨y0, y1, y2, y3, y4, y5, y6, y7, y8⟩ := (H2.out _ hSw).1.c9; obtain ⟨z0, z1, z2, z3, z4, z5, z6, z7, z8⟩ := (H2.out _ hSw).2.c9;  go_simp; try with_reducible rfl)
          try simp only [Act.put, List.setIfInBounds_toArray, List.set_cons_zero, List.set_cons_succ]
          refine wpAnyH_take (i := 16) (oi := ({ dst := some 59, op := Go.Op.load 27 (Go.Operand.tmp 7), type := 27, pos := "law.go:44", after := #[{ on := 11, ground := Go.Ground.guard }], guard := some (11, false) } : Oper)) (v := ?_) rfl (by kernel_rfl) (by kernel_rfl) (by kernel_rfl) (fun _ _ _ h => h) (Or.inl ⟨by rfl, ?_⟩) (by assumption) ?_
          rotate_left
          · (intro w hSw; (try dsimp only at hSw); obtain ⟨y0, y1, y2, y3, y4, y5, y6, y7, y8⟩ := (H2.out _ hSw).1.c9; obtain ⟨z0, z1, z2, z3, z4, z5, z6, z7, z8⟩ := (H2.out _ hSw).2.c9;  go_simp; try with_reducible rfl)
          try simp only [Act.put, List.setIfInBounds_toArray, List.set_cons_zero, List.set_cons_succ]
          refine wpAnyH_take (i := 17) (oi := ({ dst := some 60, op := Go.Op.move (Go.Operand.tmp 10), type := 3, pos := "law.go:44", after := #[{ on := 11, ground := Go.Ground.guard }], guard := some (11, false) } : Oper)) (v := ?_) rfl (by kernel_rfl) (by kernel_rfl) (by kernel_rfl) (fun _ _ _ h => h) (Or.inl ⟨by rfl, ?_⟩) (by assumption) ?_
          rotate_left
          · (intro w hSw; (try dsimp only at hSw); obtain ⟨y0, y1, y2, y3, y4, y5, y6, y7, y8⟩ := (H2.out _ hSw).1.c9; obtain ⟨z0, z1, z2, z3, z4, z5, z6, z7, z8⟩ := (H2.out _ hSw).2.c9;  go_simp; try with_reducible rfl)
          try simp only [Act.put, List.setIfInBounds_toArray, List.set_cons_zero, List.set_cons_succ]
          refine wpAnyH_take (i := 18) (oi := ({ dst := some 61, op := Go.Op.move (Go.Operand.tmp 8), type := 3, pos := "law.go:44", after := #[{ on := 11, ground := Go.Ground.guard }], guard := some (11, false) } : Oper)) (v := ?_) rfl (by kernel_rfl) (by kernel_rfl) (by kernel_rfl) (fun _ _ _ h => h) (Or.inl ⟨by rfl, ?_⟩) (by assumption) ?_
          rotate_left
          · (intro w hSw; (try dsimp only at hSw); obtain ⟨y0, y1, y2, y3, y4, y5, y6, y7, y8⟩ := (H2.out _ hSw).1.c9; obtain ⟨z0, z1, z2, z3, z4, z5, z6, z7, z8⟩ := (H2.out _ hSw).2.c9;  go_simp; try with_reducible rfl)
          try simp only [Act.put, List.setIfInBounds_toArray, List.set_cons_zero, List.set_cons_succ]
          refine wpAnyH_ready (rs := [15]) (by kernel_rfl) (List.cons_ne_nil _ _) ?_
          refine AllReadyH.cons (o := ({ dst := some 58, op := Go.Op.call { callee := Go.Callee.value (Go.Operand.func 25), args := #[Go.Operand.tmp 55, Go.Operand.tmp 56, Go.Operand.tmp 57, Go.Operand.const (Go.Value.int Go.IntKind.i64 1)], argTypes := #[27, 3, 3, 3] }, type := 4, pos := "law.go:44", after := #[{ on := 12, ground := Go.Ground.data }, { on := 13, ground := Go.Ground.data }, { on := 14, ground := Go.Ground.data }, { on := 11, ground := Go.Ground.chain }, { on := 11, ground := Go.Ground.guard }], guard := some (11, false) } : Oper)) rfl (fun K hK => ?_) AllReadyH.nil
          refine Eq.mpr (if_pos (by rfl)) ?_
          go_simp
          (go_at_call 25; refine (cReads j A 1 (noG C) _ _ (H2.out _ HR.out).2.2).mono ?_; rintro e w6 ⟨rfl, k6⟩; replace HR := Lib.hid (HR.out.trans k6); clear k6; rw [DR.out])
          refine hK.out _ _ (HR.out) (fun hHeld => ?_)
          clear hK K
          try simp only [Act.put, List.setIfInBounds_toArray, List.set_cons_zero, List.set_cons_succ]
          refine wpAnyH_ready (rs := [19]) (by kernel_rfl) (List.cons_ne_nil _ _) ?_
          refine AllReadyH.cons (o := ({ dst := some 62, op := Go.Op.call { callee := Go.Callee.value (Go.Operand.func 27), args := #[Go.Operand.tmp 59, Go.Operand.tmp 60, Go.Operand.tmp 61, Go.Operand.const (Go.Value.int Go.IntKind.i64 1)], argTypes := #[27, 3, 3, 3] }, type := 4, pos := "law.go:44", after := #[{ on := 16, ground := Go.Ground.data }, { on := 17, ground := Go.Ground.data }, { on := 18, ground := Go.Ground.data }, { on := 15, ground := Go.Ground.chain }, { on := 11, ground := Go.Ground.guard }], guard := some (11, false) } : Oper)) rfl (fun K hK => ?_) AllReadyH.nil
          refine Eq.mpr (if_pos (by rfl)) ?_
          go_simp
          (go_at_call 27; refine (cWrites j A 1 (noG C) _ _ (H2.out _ HR.out).2.2).mono ?_; rintro e w6 ⟨rfl, k6⟩; replace HR := Lib.hid (HR.out.trans k6); clear k6; rw [DW.out])
          refine hK.out _ _ (HR.out) (fun hHeld => ?_)
          clear hK K
          try simp only [Act.put, List.setIfInBounds_toArray, List.set_cons_zero, List.set_cons_succ]
          refine wpAnyH_take (i := 20) (oi := ({ dst := some 63, op := Go.Op.binOp Go.BinOp.neq 4 (Go.Operand.tmp 58) (Go.Operand.tmp 62) 4, type := 4, pos := "law.go:44", after := #[{ on := 15, ground := Go.Ground.data }, { on := 19, ground := Go.Ground.data }, { on := 11, ground := Go.Ground.guard }], guard := some (11, false) } : Oper)) (v := ?_) rfl (by kernel_rfl) (by kernel_rfl) (by kernel_rfl) (fun _ _ _ h => h) (Or.inl ⟨by rfl, ?_⟩) (by assumption) ?_
          rotate_left
          · (intro w hSw; (try dsimp only at hSw); obtain ⟨y0, y1, y2, y3, y4, y5, y6, y7, y8⟩ := (H2.out _ hSw).1.c9; obtain ⟨z0, z1, z2, z3, z4, z5, z6, z7, z8⟩ := (H2.out _ hSw).2.c9;  go_simp; try with_reducible rfl)
          try simp only [Act.put, List.setIfInBounds_toArray, List.set_cons_zero, List.set_cons_succ]
          refine wpAnyH_take (i := 21) (oi := ({ dst := some 64, op := Go.Op.pick (Go.Operand.tmp 54) (Go.Operand.const (Go.Value.bool true)) (Go.Operand.tmp 63), type := 4, pos := "law.go:44", after := #[{ on := 11, ground := Go.Ground.data }, { on := 20, ground := Go.Ground.data }], guard := none } : Oper)) (v := ?_) rfl (by kernel_rfl) (by kernel_rfl) (by kernel_rfl) (fun _ _ _ h => h) (Or.inl ⟨by rfl, ?_⟩) (by assumption) ?_
          rotate_left
          · (intro w hSw; (try dsimp only at hSw); obtain ⟨y0, y1, y2, y3, y4, y5, y6, y7, y8⟩ := (H2.out _ hSw).1.c9; obtain ⟨z0, z1, z2, z3, z4, z5, z6, z7, z8⟩ := (H2.out _ hSw).2.c9;  go_simp; try with_reducible rfl)
          try simp only [Act.put, List.setIfInBounds_toArray, List.set_cons_zero, List.set_cons_succ]
          refine wpAnyH_take (i := 22) (oi := ({ dst := some 65, op := Go.Op.move (Go.Operand.tmp 64), type := 4, pos := "law.go:44", after := #[{ on := 21, ground := Go.Ground.data }, { on := 19, ground := Go.Ground.chain }], guard := none } : Oper)) (v := ?_) rfl (by kernel_rfl) (by kernel_rfl) (by kernel_rfl) (fun _ _ _ h => h) (Or.inl ⟨by rfl, ?_⟩) (by assumption) ?_
          rotate_left
          · (intro w hSw; (try dsimp only at hSw); obtain ⟨y0, y1, y2, y3, y4, y5, y6, y7, y8⟩ := (H2.out _ hSw).1.c9; obtain ⟨z0, z1, z2, z3, z4, z5, z6, z7, z8⟩ := (H2.out _ hSw).2.c9;  go_simp; try with_reducible rfl)
          try simp only [Act.put, List.setIfInBounds_toArray, List.set_cons_zero, List.set_cons_succ]
          refine wpAnyH_take (i := 23) (oi := ({ dst := some 66, op := Go.Op.load 27 (Go.Operand.tmp 7), type := 27, pos := "law.go:44", after := #[{ on := 22, ground := Go.Ground.guard }], guard := some (22, false) } : Oper)) (v := ?_) rfl (by kernel_rfl) (by kernel_rfl) (by kernel_rfl) (fun _ _ _ h => h) (Or.inl ⟨by rfl, ?_⟩) (by assumption) ?_
          rotate_left
          · (intro w hSw; (try dsimp only at hSw); obtain ⟨y0, y1, y2, y3, y4, y5, y6, y7, y8⟩ := (H2.out _ hSw).1.c9; obtain ⟨z0, z1, z2, z3, z4, z5, z6, z7, z8⟩ := (H2.out _ hSw).2.c9;  go_simp; try with_reducible rfl)
          try simp only [Act.put, List.setIfInBounds_toArray, List.set_cons_zero, List.set_cons_succ]
          refine wpAnyH_take (i := 24) (oi := ({ dst := some 67, op := Go.Op.move (Go.Operand.tmp 10), type := 3, pos := "law.go:44", after := #[{ on := 22, ground := Go.Ground.guard }], guard := some (22, false) } : Oper)) (v := ?_) rfl (by kernel_rfl) (by kernel_rfl) (by kernel_rfl) (fun _ _ _ h => h) (Or.inl ⟨by rfl, ?_⟩) (by assumption) ?_
          rotate_left
          · (intro w hSw; (try dsimp only at hSw); obtain ⟨y0, y1, y2, y3, y4, y5, y6, y7, y8⟩ := (H2.out _ hSw).1.c9; obtain ⟨z0, z1, z2, z3, z4, z5, z6, z7, z8⟩ := (H2.out _ hSw).2.c9;  go_simp; try with_reducible rfl)
          try simp only [Act.put, List.setIfInBounds_toArray, List.set_cons_zero, List.set_cons_succ]
          refine wpAnyH_take (i := 25) (oi := ({ dst := some 68, op := Go.Op.move (Go.Operand.tmp 8), type := 3, pos := "law.go:44", after := #[{ on := 22, ground := Go.Ground.guard }], guard := some (22, false) } : Oper)) (v := ?_) rfl (by kernel_rfl) (by kernel_rfl) (by kernel_rfl) (fun _ _ _ h => h) (Or.inl ⟨by rfl, ?_⟩) (by assumption) ?_
          rotate_left
          · (intro w hSw; (try dsimp only at hSw); obtain ⟨y0, y1, y2, y3, y4, y5, y6, y7, y8⟩ := (H2.out _ hSw).1.c9; obtain ⟨z0, z1, z2, z3, z4, z5, z6, z7, z8⟩ := (H2.out _ hSw).2.c9;  go_simp; try with_reducible rfl)
          try simp only [Act.put, List.setIfInBounds_toArray, List.set_cons_zero, List.set_cons_succ]
          refine wpAnyH_ready (rs := [26]) (by kernel_rfl) (List.cons_ne_nil _ _) ?_
          refine AllReadyH.cons (o := ({ dst := some 69, op := Go.Op.call { callee := Go.Callee.value (Go.Operand.func 25), args := #[Go.Operand.tmp 66, Go.Operand.tmp 67, Go.Operand.tmp 68, Go.Operand.const (Go.Value.int Go.IntKind.i64 1)], argTypes := #[27, 3, 3, 3] }, type := 4, pos := "law.go:44", after := #[{ on := 23, ground := Go.Ground.data }, { on := 24, ground := Go.Ground.data }, { on := 25, ground := Go.Ground.data }, { on := 22, ground := Go.Ground.chain }, { on := 22, ground := Go.Ground.guard }], guard := some (22, false) } : Oper)) rfl (fun K hK => ?_) AllReadyH.nil
          refine Eq.mpr (if_pos (by rfl)) ?_
          go_simp
          (go_at_call 25; refine (cReads j A 1 (noG C) _ _ (H2.out _ HR.out).2.2).mono ?_; rintro e w6 ⟨rfl, k6⟩; replace HR := Lib.hid (HR.out.trans k6); clear k6; rw [DR.out])
          refine hK.out _ _ (HR.out) (fun hHeld => ?_)
          clear hK K
          try simp only [Act.put, List.setIfInBounds_toArray, List.set_cons_zero, List.set_cons_succ]
          refine wpAnyH_take (i := 27) (oi := ({ dst := some 70, op := Go.Op.move (Go.Operand.tmp 69), type := 4, pos := "law.go:44", after := #[{ on := 26, ground := Go.Ground.data }, { on := 26, ground := Go.Ground.chain }, { on := 22, ground := Go.Ground.guard }], guard := some (22, false) } : Oper)) (v := ?_) rfl (by kernel_rfl) (by kernel_rfl) (by kernel_rfl) (fun _ _ _ h => h) (Or.inl ⟨by rfl, ?_⟩) (by assumption) ?_
          rotate_left
          · (intro w hSw; (try dsimp only at hSw); obtain ⟨y0, y1, y2, y3, y4, y5, y6, y7, y8⟩ := (H2.out _ hSw).1.c9; obtain ⟨z0, z1, z2, z3, z4, z5, z6, z7, z8⟩ := (H2.out _ hSw).2.c9;  go_simp; try with_reducible rfl)
          try simp only [Act.put, List.setIfInBounds_toArray, List.set_cons_zero, List.set_cons_succ]
          refine wpAnyH_take (i := 28) (oi := ({ dst := some 71, op := Go.Op.load 27 (Go.Operand.tmp 3), type := 27, pos := "law.go:44", after := #[{ on := 27, ground := Go.Ground.guard }], guard := some (27, true) } : Oper)) (v := undef) rfl (by kernel_rfl) (by kernel_rfl) (by kernel_rfl) (fun _ _ _ h => h) (Or.inr ⟨by rfl, rfl⟩) (by assumption) ?_
          try simp only [Act.put, List.setIfInBounds_toArray, List.set_cons_zero, List.set_cons_succ]
          refine wpAnyH_take (i := 29) (oi := ({ dst := some 72, op := Go.Op.move (Go.Operand.tmp 10), type := 3, pos := "law.go:44", after := #[{ on := 27, ground := Go.Ground.guard }], guard := some (27, true) } : Oper)) (v := undef) rfl (by kernel_rfl) (by kernel_rfl) (by kernel_rfl) (fun _ _ _ h => h) (Or.inr ⟨by rfl, rfl⟩) (by assumption) ?_
          try simp only [Act.put, List.setIfInBounds_toArray, List.set_cons_zero, List.set_cons_succ]
          refine wpAnyH_take (i := 30) (oi := ({ dst := some 73, op := Go.Op.move (Go.Operand.tmp 8), type := 3, pos := "law.go:44", after := #[{ on := 27, ground := Go.Ground.guard }], guard := some (27, true) } : Oper)) (v := undef) rfl (by kernel_rfl) (by kernel_rfl) (by kernel_rfl) (fun _ _ _ h => h) (Or.inr ⟨by rfl, rfl⟩) (by assumption) ?_
          try simp only [Act.put, List.setIfInBounds_toArray, List.set_cons_zero, List.set_cons_succ]
          refine wpAnyH_ready (rs := [31]) (by kernel_rfl) (List.cons_ne_nil _ _) ?_
          refine AllReadyH.cons (o := ({ dst := some 74, op := Go.Op.call { callee := Go.Callee.value (Go.Operand.func 27), args := #[Go.Operand.tmp 71, Go.Operand.tmp 72, Go.Operand.tmp 73, Go.Operand.const (Go.Value.int Go.IntKind.i64 1)], argTypes := #[27, 3, 3, 3] }, type := 4, pos := "law.go:44", after := #[{ on := 28, ground := Go.Ground.data }, { on := 29, ground := Go.Ground.data }, { on := 30, ground := Go.Ground.data }, { on := 27, ground := Go.Ground.chain }, { on := 27, ground := Go.Ground.guard }], guard := some (27, true) } : Oper)) rfl (fun K hK => ?_) AllReadyH.nil
          change if false = true then _ else _
          rw [if_neg Bool.false_ne_true]
          refine hK.out _ _ (HR.out) (fun hHeld => ?_)
          clear hK K
          try simp only [Act.put, List.setIfInBounds_toArray, List.set_cons_zero, List.set_cons_succ]
          refine wpAnyH_take (i := 32) (oi := ({ dst := some 75, op := Go.Op.unOp Go.UnOp.not 4 (Go.Operand.tmp 74), type := 4, pos := "law.go:44", after := #[{ on := 31, ground := Go.Ground.data }, { on := 27, ground := Go.Ground.guard }], guard := some (27, true) } : Oper)) (v := undef) rfl (by kernel_rfl) (by kernel_rfl) (by kernel_rfl) (fun _ _ _ h => h) (Or.inr ⟨by rfl, rfl⟩) (by assumption) ?_
          try simp only [Act.put, List.setIfInBounds_toArray, List.set_cons_zero, List.set_cons_succ]
          refine wpAnyH_take (i := 33) (oi := ({ dst := some 76, op := Go.Op.pick (Go.Operand.tmp 70) (Go.Operand.tmp 75) (Go.Operand.const (Go.Value.bool false)), type := 4, pos := "law.go:44", after := #[{ on := 27, ground := Go.Ground.data }, { on := 32, ground := Go.Ground.data }, { on := 22, ground := Go.Ground.guard }], guard := some (22, false) } : Oper)) (v := ?_) rfl (by kernel_rfl) (by kernel_rfl) (by kernel_rfl) (fun _ _ _ h => h) (Or.inl ⟨by rfl, ?_⟩) (by assumption) ?_
          rotate_left
          · (intro w hSw; (try dsimp only at hSw); obtain ⟨y0, y1, y2, y3, y4, y5, y6, y7, y8⟩ := (H2.out _ hSw).1.c9; obtain ⟨z0, z1, z2, z3, z4, z5, z6, z7, z8⟩ := (H2.out _ hSw).2.c9;  go_simp; try with_reducible rfl)
          try simp only [Act.put, List.setIfInBounds_toArray, List.set_cons_zero, List.set_cons_succ]
          refine wpAnyH_take (i := 34) (oi := ({ dst := some 77, op := Go.Op.pick (Go.Operand.tmp 65) (Go.Operand.const (Go.Value.bool true)) (Go.Operand.tmp 76), type := 4, pos := "law.go:44", after := #[{ on := 22, ground := Go.Ground.data }, { on := 33, ground := Go.Ground.data }], guard := none } : Oper)) (v := ?_) rfl (by kernel_rfl) (by kernel_rfl) (by kernel_rfl) (fun _ _ _ h => h) (Or.inl ⟨by rfl, ?_⟩) (by assumption) ?_
          rotate_left
          · (intro w hSw; (try dsimp only at hSw); obtain ⟨y0, y1, y2, y3, y4, y5, y6, y7, y8⟩ := (H2.out _ hSw).1.c9; obtain ⟨z0, z1, z2, z3, z4, z5, z6, z7, z8⟩ := (H2.out _ hSw).2.c9;  go_simp; try with_reducible rfl)
          try simp only [Act.put, List.setIfInBounds_toArray, List.set_cons_zero, List.set_cons_succ]
          refine wpAnyH_done (by kernel_rfl) ?_ _
          obtain ⟨z0, z1, z2, z3, z4, z5, z6, z7, z8⟩ := (H2.out _ HR.out).2.c9
          go_wp2_with fail
          refine (cReads j A 1 (noG C) _ _ (H2.out _ HR.out).2.2).mono ?_
          rintro e w6 ⟨rfl, k6⟩
          rw [DR.out]
          replace HR := Lib.hid (HR.out.trans k6)
          clear k6 z0 z1 z2 z3 z4 z5 z6 z7 z8
          go_wp2_with fail
          go_roundw
          case rel => exact ⟨j + 1, by omega, by go_num, by rw [HMN.out], HR.out⟩
          case measure => simp [intOf]; omega
        · have EW := Lib.hid (decide_eq_false (fun h => hw ((one true).1 h)))
          clear one rno hthere ho hw y0 y2 y3 y4 y5 y6 y7 y8
          generalize manyC (C.own (A / 64)) j = M at *
          go_upto_region 12 with fail
          clear y1
          refine wp_region_held_drew (S := fun W => Chg (fun _ => False) W0 W) (by kernel_rfl) (HR.out.drew) (fun hHeld => ?_)
          replace HR : Hid (Chg (fun _ => False) W0 _) := hHeld
          refine wpAnyH_take (i := 0) (oi := ({ dst := some 43, op := Go.Op.load 27 (Go.Operand.tmp 3), type := 27, pos := "law.go:44", after := #[], guard := none } : Oper)) (v := ?_) rfl (by kernel_rfl) (by kernel_rfl) (by kernel_rfl) (fun _ _ _ h => h) (Or.inl ⟨by rfl, ?_⟩) (by assumption) ?_
          rotate_left
          · (intro w hSw; (try dsimp only at hSw); obtain ⟨y0, y1, y2, y3, y4, y5, y6, y7, y8⟩ := (H2.out _ hSw).1.c9; obtain ⟨z0, z1, z2, z3, z4, z5, z6, z7, z8⟩ := (H2.out _ hSw).2.c9;  go_simp; try with_reducible rfl)
          try simp only [Act.put, List.setIfInBounds_toArray, List.set_cons_zero, List.set_cons_succ]
          refine wpAnyH_take (i := 1) (oi := ({ dst := some 44, op := Go.Op.move (Go.Operand.tmp 10), type := 3, pos := "law.go:44", after := #[], guard := none } : Oper)) (v := ?_) rfl (by kernel_rfl) (by kernel_rfl) (by kernel_rfl) (fun _ _ _ h => h) (Or.inl ⟨by rfl, ?_⟩) (by assumption) ?_
          rotate_left
          · (intro w hSw; (try dsimp only at hSw); obtain ⟨y0, y1, y2, y3, y4, y5, y6, y7, y8⟩ := (H2.out _ hSw).1.c9; obtain ⟨z0, z1, z2, z3, z4, z5, z6, z7, z8⟩ := (H2.out _ hSw).2.c9;  go_simp; try with_reducible rfl)
          try simp only [Act.put, List.setIfInBounds_toArray, List.set_cons_zero, List.set_cons_succ]
          refine wpAnyH_take (i := 2) (oi := ({ dst := some 45, op := Go.Op.move (Go.Operand.tmp 8), type := 3, pos := "law.go:44", after := #[], guard := none } : Oper)) (v := ?_) rfl (by kernel_rfl) (by kernel_rfl) (by kernel_rfl) (fun _ _ _ h => h) (Or.inl ⟨by rfl, ?_⟩) (by assumption) ?_
          rotate_left
          · (intro w hSw; (try dsimp only at hSw); obtain ⟨y0, y1, y2, y3, y4, y5, y6, y7, y8⟩ := (H2.out _ hSw).1.c9; obtain ⟨z0, z1, z2, z3, z4, z5, z6, z7, z8⟩ := (H2.out _ hSw).2.c9;  go_simp; try with_reducible rfl)
          try simp only [Act.put, List.setIfInBounds_toArray, List.set_cons_zero, List.set_cons_succ]
          refine wpAnyH_ready (rs := [3]) (by kernel_rfl) (List.cons_ne_nil _ _) ?_
          refine AllReadyH.cons (o := ({ dst := some 46, op := Go.Op.call { callee := Go.Callee.value (Go.Operand.func 27), args := #[Go.Operand.tmp 43, Go.Operand.tmp 44, Go.Operand.tmp 45, Go.Operand.const (Go.Value.int Go.IntKind.i64 1)], argTypes := #[27, 3, 3, 3] }, type := 4, pos := "law.go:44", after := #[{ on := 0, ground := Go.Ground.data }, { on := 1, ground := Go.Ground.data }, { on := 2, ground := Go.Ground.data }], guard := none } : Oper)) rfl (fun K hK => ?_) AllReadyH.nil
          refine Eq.mpr (if_pos (by rfl)) ?_
          go_simp
          (go_at_call 27; refine (cWrites j A 1 C _ _ (H2.out _ HR.out).1.2).mono ?_; rintro e w6 ⟨rfl, k6⟩; replace HR := Lib.hid (HR.out.trans k6); clear k6; rw [EW.out])
          refine hK.out _ _ (HR.out) (fun hHeld => ?_)
          clear hK K
          try simp only [Act.put, List.setIfInBounds_toArray, List.set_cons_zero, List.set_cons_succ]
          refine wpAnyH_take (i := 4) (oi := ({ dst := some 47, op := Go.Op.move (Go.Operand.tmp 46), type := 4, pos := "law.go:44", after := #[{ on := 3, ground := Go.Ground.data }, { on := 3, ground := Go.Ground.chain }], guard := none } : Oper)) (v := ?_) rfl (by kernel_rfl) (by kernel_rfl) (by kernel_rfl) (fun _ _ _ h => h) (Or.inl ⟨by rfl, ?_⟩) (by assumption) ?_
          rotate_left
          · (intro w hSw; (try dsimp only at hSw); obtain ⟨y0, y1, y2, y3, y4, y5, y6, y7, y8⟩ := (H2.out _ hSw).1.c9; obtain ⟨z0, z1, z2, z3, z4, z5, z6, z7, z8⟩ := (H2.out _ hSw).2.c9;  go_simp; try with_reducible rfl)
          try simp only [Act.put, List.setIfInBounds_toArray, List.set_cons_zero, List.set_cons_succ]
          refine wpAnyH_take (i := 5) (oi := ({ dst := some 48, op := Go.Op.load 27 (Go.Operand.tmp 3), type := 27, pos := "law.go:44", after := #[{ on := 4, ground := Go.Ground.guard }], guard := some (4, true) } : Oper)) (v := undef) rfl (by kernel_rfl) (by kernel_rfl) (by kernel_rfl) (fun _ _ _ h => h) (Or.inr ⟨by rfl, rfl⟩) (by assumption) ?_
          try simp only [Act.put, List.setIfInBounds_toArray, List.set_cons_zero, List.set_cons_succ]
          refine wpAnyH_take (i := 6) (oi := ({ dst := some 49, op := Go.Op.move (Go.Operand.tmp 10), type := 3, pos := "law.go:44", after := #[{ on := 4, ground := Go.Ground.guard }], guard := some (4, true) } : Oper)) (v := undef) rfl (by kernel_rfl) (by kernel_rfl) (by kernel_rfl) (fun _ _ _ h => h) (Or.inr ⟨by rfl, rfl⟩) (by assumption) ?_
          try simp only [Act.put, List.setIfInBounds_toArray, List.set_cons_zero, List.set_cons_succ]
          refine wpAnyH_take (i := 7) (oi := ({ dst := some 50, op := Go.Op.move (Go.Operand.tmp 8), type := 3, pos := "law.go:44", after := #[{ on := 4, ground := Go.Ground.guard }], guard := some (4, true) } : Oper)) (v := undef) rfl (by kernel_rfl) (by kernel_rfl) (by kernel_rfl) (fun _ _ _ h => h) (Or.inr ⟨by rfl, rfl⟩) (by assumption) ?_
          try simp only [Act.put, List.setIfInBounds_toArray, List.set_cons_zero, List.set_cons_succ]
          refine wpAnyH_ready (rs := [8]) (by kernel_rfl) (List.cons_ne_nil _ _) ?_
          refine AllReadyH.cons (o := ({ dst := some 51, op := Go.Op.call { callee := Go.Callee.value (Go.Operand.func 25), args := #[Go.Operand.tmp 48, Go.Operand.tmp 49, Go.Operand.tmp 50, Go.Operand.const (Go.Value.int Go.IntKind.i64 1)], argTypes := #[27, 3, 3, 3] }, type := 4, pos := "law.go:44", after := #[{ on := 5, ground := Go.Ground.data }, { on := 6, ground := Go.Ground.data }, { on := 7, ground := Go.Ground.data }, { on := 4, ground := Go.Ground.chain }, { on := 4, ground := Go.Ground.guard }], guard := some (4, true) } : Oper)) rfl (fun K hK => ?_) AllReadyH.nil
          change if false = true then _ else _
          rw [if_neg Bool.false_ne_true]
          refine hK.out _ _ (HR.out) (fun hHeld => ?_)
          clear hK K
          try simp only [Act.put, List.setIfInBounds_toArray, List.set_cons_zero, List.set_cons_succ]
          refine wpAnyH_take (i := 9) (oi := ({ dst := some 52, op := Go.Op.unOp Go.UnOp.not 4 (Go.Operand.tmp 51), type := 4, pos := "law.go:44", after := #[{ on := 8, ground := Go.Ground.data }, { on := 4, ground := Go.Ground.guard }], guard := some (4, true) } : Oper)) (v := undef) rfl (by kernel_rfl) (by kernel_rfl) (by kernel_rfl) (fun _ _ _ h => h) (Or.inr ⟨by rfl, rfl⟩) (by assumption) ?_
          try simp only [Act.put, List.setIfInBounds_toArray, List.set_cons_zero, List.set_cons_succ]
          refine wpAnyH_take (i := 10) (oi := ({ dst := some 53, op := Go.Op.pick (Go.Operand.tmp 47) (Go.Operand.tmp 52) (Go.Operand.const (Go.Value.bool false)), type := 4, pos := "law.go:44", after := #[{ on := 4, ground := Go.Ground.data }, { on := 9, ground := Go.Ground.data }], guard := none } : Oper)) (v := ?_) rfl (by kernel_rfl) (by kernel_rfl) (by kernel_rfl) (fun _ _ _ h => h) (Or.inl ⟨by rfl, ?_⟩) (by assumption) ?_
          rotate_left
          · (intro w hSw; (try dsimp only at hSw); obtain ⟨y0, y1, y2, y3, y4, y5, y6, y7, y8⟩ := (H2.out _ hSw).1.c9; obtain ⟨z0, z1, z2, z3, z4, z5, z6, z7, z8⟩ := (H2.out _ hSw).2.c9;  go_simp; try with_reducible rfl)
          try simp only [Act.put, List.setIfInBounds_toArray, List.set_cons_zero, List.set_cons_succ]
          refine wpAnyH_take (i := 11) (oi := ({ dst := some 54, op := Go.Op.move (Go.Operand.tmp 53), type := 4, pos := "law.go:44", after := #[{ on := 10, ground := Go.Ground.data }, { on := 8, ground := Go.Ground.chain }], guard := none } : Oper)) (v := ?_) rfl (by kernel_rfl) (by kernel_rfl) (by kernel_rfl) (fun _ _ _ h => h) (Or.inl ⟨by rfl, ?_⟩) (by assumption) ?_
          rotate_left
          · (intro w hSw; (try dsimp only at hSw); obtain ⟨y0, y1, y2, y3, y4, y5, y6, y7, y8⟩ := (H2.out _ hSw).1.c9; obtain ⟨z0, z1, z2, z3, z4, z5, z6, z7, z8⟩ := (H2.out _ hSw).2.c9;  go_simp; try with_reducible rfl)
          try simp only [Act.put, List.setIfInBounds_toArray, List.set_cons_zero, List.set_cons_succ]
          refine wpAnyH_take (i := 12) (oi := ({ dst := some 55, op := Go.Op.load 27 (Go.Operand.tmp 7), type := 27, pos := "law.go:44", after := #[{ on := 11, ground := Go.Ground.guard }], guard := some (11, false) } : Oper)) (v := ?_) rfl (by kernel_rfl) (by kernel_rfl) (by kernel_rfl) (fun _ _ _ h => h) (Or.inl ⟨by rfl, ?_⟩) (by assumption) ?_
          rotate_left
          · (intro w hSw; (try dsimp only at hSw); obtain ⟨y0, y1, y2, y3, y4, y5, y6, y7, y8⟩ := (H2.out _ hSw).1.c9; obtain ⟨z0, z1, z2, z3, z4, z5, z6, z7, z8⟩ := (H2.out _ hSw).2.c9;  go_simp; try with_reducible rfl)
          try simp only [Act.put, List.setIfInBounds_toArray, List.set_cons_zero, List.set_cons_succ]
          refine wpAnyH_take (i := 13) (oi := ({ dst := some 56, op := Go.Op.move (Go.Operand.tmp 10), type := 3, pos := "law.go:44", after := #[{ on := 11, ground := Go.Ground.guard }], guard := some (11, false) } : Oper)) (v := ?_) rfl (by kernel_rfl) (by kernel_rfl) (by kernel_rfl) (fun _ _ _ h => h) (Or.inl ⟨by rfl, ?_⟩) (by assumption) ?_
          rotate_left
          · (intro w hSw; (try dsimp only at hSw); obtain ⟨y0, y1, y2, y3, y4, y5, y6, y7, y8⟩ := (H2.out _ hSw).1.c9; obtain ⟨z0, z1, z2, z3, z4, z5, z6, z7, z8⟩ := (H2.out _ hSw).2.c9;  go_simp; try with_reducible rfl)
          try simp only [Act.put, List.setIfInBounds_toArray, List.set_cons_zero, List.set_cons_succ]
          refine wpAnyH_take (i := 14) (oi := ({ dst := some 57, op := Go.Op.move (Go.Operand.tmp 8), type := 3, pos := "law.go:44", after := #[{ on := 11, ground := Go.Ground.guard }], guard := some (11, false) } : Oper)) (v := ?_) rfl (by kernel_rfl) (by kernel_rfl) (by kernel_rfl) (fun _ _ _ h => h) (Or.inl ⟨by rfl, ?_⟩) (by assumption) ?_
          rotate_left
          · (intro w hSw; (try dsimp only at hSw); obtain ⟨y0, y1, y2, y3, y4, y5, y6, y7, y8⟩ := (H2.out _ hSw).1.c9; obtain ⟨z0, z1, z2, z3, z4, z5, z6, z7, z8⟩ := (H2.out _ hSw).2.c9;  go_simp; try with_reducible rfl)
          try simp only [Act.put, List.setIfInBounds_toArray, List.set_cons_zero, List.set_cons_succ]
          refine wpAnyH_take (i := 16) (oi := ({ dst := some 59, op := Go.Op.load 27 (Go.Operand.tmp 7), type := 27, pos := "law.go:44", after := #[{ on := 11, ground := Go.Ground.guard }], guard := some (11, false) } : Oper)) (v := ?_) rfl (by kernel_rfl) (by kernel_rfl) (by kernel_rfl) (fun _ _ _ h => h) (Or.inl ⟨by rfl, ?_⟩) (by assumption) ?_
          rotate_left
          · (intro w hSw; (try dsimp only at hSw); obtain ⟨y0, y1, y2, y3, y4, y5, y6, y7, y8⟩ := (H2.out _ hSw).1.c9; obtain ⟨z0, z1, z2, z3, z4, z5, z6, z7, z8⟩ := (H2.out _ hSw).2.c9;  go_simp; try with_reducible rfl)
          try simp only [Act.put, List.setIfInBounds_toArray, List.set_cons_zero, List.set_cons_succ]
          refine wpAnyH_take (i := 17) (oi := ({ dst := some 60, op := Go.Op.move (Go.Operand.tmp 10), type := 3, pos := "law.go:44", after := #[{ on := 11, ground := Go.Ground.guard }], guard := some (11, false) } : Oper)) (v := ?_) rfl (by kernel_rfl) (by kernel_rfl) (by kernel_rfl) (fun _ _ _ h => h) (Or.inl ⟨by rfl, ?_⟩) (by assumption) ?_
          rotate_left
          · (intro w hSw; (try dsimp only at hSw); obtain ⟨y0, y1, y2, y3, y4, y5, y6, y7, y8⟩ := (H2.out _ hSw).1.c9; obtain ⟨z0, z1, z2, z3, z4, z5, z6, z7, z8⟩ := (H2.out _ hSw).2.c9;  go_simp; try with_reducible rfl)
          try simp only [Act.put, List.setIfInBounds_toArray, List.set_cons_zero, List.set_cons_succ]
          refine wpAnyH_take (i := 18) (oi := ({ dst := some 61, op := Go.Op.move (Go.Operand.tmp 8), type := 3, pos := "law.go:44", after := #[{ on := 11, ground := Go.Ground.guard }], guard := some (11, false) } : Oper)) (v := ?_) rfl (by kernel_rfl) (by kernel_rfl) (by kernel_rfl) (fun _ _ _ h => h) (Or.inl ⟨by rfl, ?_⟩) (by assumption) ?_
          rotate_left
          · (intro w hSw; (try dsimp only at hSw); obtain ⟨y0, y1, y2, y3, y4, y5, y6, y7, y8⟩ := (H2.out _ hSw).1.c9; obtain ⟨z0, z1, z2, z3, z4, z5, z6, z7, z8⟩ := (H2.out _ hSw).2.c9;  go_simp; try with_reducible rfl)
          try simp only [Act.put, List.setIfInBounds_toArray, List.set_cons_zero, List.set_cons_succ]
          refine wpAnyH_ready (rs := [15]) (by kernel_rfl) (List.cons_ne_nil _ _) ?_
          refine AllReadyH.cons (o := ({ dst := some 58, op := Go.Op.call { callee := Go.Callee.value (Go.Operand.func 25), args := #[Go.Operand.tmp 55, Go.Operand.tmp 56, Go.Operand.tmp 57, Go.Operand.const (Go.Value.int Go.IntKind.i64 1)], argTypes := #[27, 3, 3, 3] }, type := 4, pos := "law.go:44", after := #[{ on := 12, ground := Go.Ground.data }, { on := 13, ground := Go.Ground.data }, { on := 14, ground := Go.Ground.data }, { on := 11, ground := Go.Ground.chain }, { on := 11, ground := Go.Ground.guard }], guard := some (11, false) } : Oper)) rfl (fun K hK => ?_) AllReadyH.nil
          refine Eq.mpr (if_pos (by rfl)) ?_
          go_simp
          (go_at_call 25; refine (cReads j A 1 (noG C) _ _ (H2.out _ HR.out).2.2).mono ?_; rintro e w6 ⟨rfl, k6⟩; replace HR := Lib.hid (HR.out.trans k6); clear k6; rw [DR.out])
          refine hK.out _ _ (HR.out) (fun hHeld => ?_)
          clear hK K
          try simp only [Act.put, List.setIfInBounds_toArray, List.set_cons_zero, List.set_cons_succ]
          refine wpAnyH_ready (rs := [19]) (by kernel_rfl) (List.cons_ne_nil _ _) ?_
          refine AllReadyH.cons (o := ({ dst := some 62, op := Go.Op.call { callee := Go.Callee.value (Go.Operand.func 27), args := #[Go.Operand.tmp 59, Go.Operand.tmp 60, Go.Operand.tmp 61, Go.Operand.const (Go.Value.int Go.IntKind.i64 1)], argTypes := #[27, 3, 3, 3] }, type := 4, pos := "law.go:44", after := #[{ on := 16, ground := Go.Ground.data }, { on := 17, ground := Go.Ground.data }, { on := 18, ground := Go.Ground.data }, { on := 15, ground := Go.Ground.chain }, { on := 11, ground := Go.Ground.guard }], guard := some (11, false) } : Oper)) rfl (fun K hK => ?_) AllReadyH.nil
          refine Eq.mpr (if_pos (by rfl)) ?_
          go_simp
          (go_at_call 27; refine (cWrites j A 1 (noG C) _ _ (H2.out _ HR.out).2.2).mono ?_; rintro e w6 ⟨rfl, k6⟩; replace HR := Lib.hid (HR.out.trans k6); clear k6; rw [DW.out])
          refine hK.out _ _ (HR.out) (fun hHeld => ?_)
          clear hK K
          try simp only [Act.put, List.setIfInBounds_toArray, List.set_cons_zero, List.set_cons_succ]
          refine wpAnyH_take (i := 20) (oi := ({ dst := some 63, op := Go.Op.binOp Go.BinOp.neq 4 (Go.Operand.tmp 58) (Go.Operand.tmp 62) 4, type := 4, pos := "law.go:44", after := #[{ on := 15, ground := Go.Ground.data }, { on := 19, ground := Go.Ground.data }, { on := 11, ground := Go.Ground.guard }], guard := some (11, false) } : Oper)) (v := ?_) rfl (by kernel_rfl) (by kernel_rfl) (by kernel_rfl) (fun _ _ _ h => h) (Or.inl ⟨by rfl, ?_⟩) (by assumption) ?_
          rotate_left
          · (intro w hSw; (try dsimp only at hSw); obtain ⟨y0, y1, y2, y3, y4, y5, y6, y7, y8⟩ := (H2.out _ hSw).1.c9; obtain ⟨z0, z1, z2, z3, z4, z5, z6, z7, z8⟩ := (H2.out _ hSw).2.c9;  go_simp; try with_reducible rfl)
          try simp only [Act.put, List.setIfInBounds_toArray, List.set_cons_zero, List.set_cons_succ]
          refine wpAnyH_take (i := 21) (oi := ({ dst := some 64, op := Go.Op.pick (Go.Operand.tmp 54) (Go.Operand.const (Go.Value.bool true)) (Go.Operand.tmp 63), type := 4, pos := "law.go:44", after := #[{ on := 11, ground := Go.Ground.data }, { on := 20, ground := Go.Ground.data }], guard := none } : Oper)) (v := ?_) rfl (by kernel_rfl) (by kernel_rfl) (by kernel_rfl) (fun _ _ _ h => h) (Or.inl ⟨by rfl, ?_⟩) (by assumption) ?_
          rotate_left
          · (intro w hSw; (try dsimp only at hSw); obtain ⟨y0, y1, y2, y3, y4, y5, y6, y7, y8⟩ := (H2.out _ hSw).1.c9; obtain ⟨z0, z1, z2, z3, z4, z5, z6, z7, z8⟩ := (H2.out _ hSw).2.c9;  go_simp; try with_reducible rfl)
          try simp only [Act.put, List.setIfInBounds_toArray, List.set_cons_zero, List.set_cons_succ]
          refine wpAnyH_take (i := 22) (oi := ({ dst := some 65, op := Go.Op.move (Go.Operand.tmp 64), type := 4, pos := "law.go:44", after := #[{ on := 21, ground := Go.Ground.data }, { on := 19, ground := Go.Ground.chain }], guard := none } : Oper)) (v := ?_) rfl (by kernel_rfl) (by kernel_rfl) (by kernel_rfl) (fun _ _ _ h => h) (Or.inl ⟨by rfl, ?_⟩) (by assumption) ?_
          rotate_left
          · (intro w hSw; (try dsimp only at hSw); obtain ⟨y0, y1, y2, y3, y4, y5, y6, y7, y8⟩ := (H2.out _ hSw).1.c9; obtain ⟨z0, z1, z2, z3, z4, z5, z6, z7, z8⟩ := (H2.out _ hSw).2.c9;  go_simp; try with_reducible rfl)
          try simp only [Act.put, List.setIfInBounds_toArray, List.set_cons_zero, List.set_cons_succ]
          refine wpAnyH_take (i := 23) (oi := ({ dst := some 66, op := Go.Op.load 27 (Go.Operand.tmp 7), type := 27, pos := "law.go:44", after := #[{ on := 22, ground := Go.Ground.guard }], guard := some (22, false) } : Oper)) (v := ?_) rfl (by kernel_rfl) (by kernel_rfl) (by kernel_rfl) (fun _ _ _ h => h) (Or.inl ⟨by rfl, ?_⟩) (by assumption) ?_
          rotate_left
          · (intro w hSw; (try dsimp only at hSw); obtain ⟨y0, y1, y2, y3, y4, y5, y6, y7, y8⟩ := (H2.out _ hSw).1.c9; obtain ⟨z0, z1, z2, z3, z4, z5, z6, z7, z8⟩ := (H2.out _ hSw).2.c9;  go_simp; try with_reducible rfl)
          try simp only [Act.put, List.setIfInBounds_toArray, List.set_cons_zero, List.set_cons_succ]
          refine wpAnyH_take (i := 24) (oi := ({ dst := some 67, op := Go.Op.move (Go.Operand.tmp 10), type := 3, pos := "law.go:44", after := #[{ on := 22, ground := Go.Ground.guard }], guard := some (22, false) } : Oper)) (v := ?_) rfl (by kernel_rfl) (by kernel_rfl) (by kernel_rfl) (fun _ _ _ h => h) (Or.inl ⟨by rfl, ?_⟩) (by assumption) ?_
          rotate_left
          · (intro w hSw; (try dsimp only at hSw); obtain ⟨y0, y1, y2, y3, y4, y5, y6, y7, y8⟩ := (H2.out _ hSw).1.c9; obtain ⟨z0, z1, z2, z3, z4, z5, z6, z7, z8⟩ := (H2.out _ hSw).2.c9;  go_simp; try with_reducible rfl)
          try simp only [Act.put, List.setIfInBounds_toArray, List.set_cons_zero, List.set_cons_succ]
          refine wpAnyH_take (i := 25) (oi := ({ dst := some 68, op := Go.Op.move (Go.Operand.tmp 8), type := 3, pos := "law.go:44", after := #[{ on := 22, ground := Go.Ground.guard }], guard := some (22, false) } : Oper)) (v := ?_) rfl (by kernel_rfl) (by kernel_rfl) (by kernel_rfl) (fun _ _ _ h => h) (Or.inl ⟨by rfl, ?_⟩) (by assumption) ?_
          rotate_left
          · (intro w hSw; (try dsimp only at hSw); obtain ⟨y0, y1, y2, y3, y4, y5, y6, y7, y8⟩ := (H2.out _ hSw).1.c9; obtain ⟨z0, z1, z2, z3, z4, z5, z6, z7, z8⟩ := (H2.out _ hSw).2.c9;  go_simp; try with_reducible rfl)
          try simp only [Act.put, List.setIfInBounds_toArray, List.set_cons_zero, List.set_cons_succ]
          refine wpAnyH_ready (rs := [26]) (by kernel_rfl) (List.cons_ne_nil _ _) ?_
          refine AllReadyH.cons (o := ({ dst := some 69, op := Go.Op.call { callee := Go.Callee.value (Go.Operand.func 25), args := #[Go.Operand.tmp 66, Go.Operand.tmp 67, Go.Operand.tmp 68, Go.Operand.const (Go.Value.int Go.IntKind.i64 1)], argTypes := #[27, 3, 3, 3] }, type := 4, pos := "law.go:44", after := #[{ on := 23, ground := Go.Ground.data }, { on := 24, ground := Go.Ground.data }, { on := 25, ground := Go.Ground.data }, { on := 22, ground := Go.Ground.chain }, { on := 22, ground := Go.Ground.guard }], guard := some (22, false) } : Oper)) rfl (fun K hK => ?_) AllReadyH.nil
          refine Eq.mpr (if_pos (by rfl)) ?_
          go_simp
          (go_at_call 25; refine (cReads j A 1 (noG C) _ _ (H2.out _ HR.out).2.2).mono ?_; rintro e w6 ⟨rfl, k6⟩; replace HR := Lib.hid (HR.out.trans k6); clear k6; rw [DR.out])
          refine hK.out _ _ (HR.out) (fun hHeld => ?_)
          clear hK K
          try simp only [Act.put, List.setIfInBounds_toArray, List.set_cons_zero, List.set_cons_succ]
          refine wpAnyH_take (i := 27) (oi := ({ dst := some 70, op := Go.Op.move (Go.Operand.tmp 69), type := 4, pos := "law.go:44", after := #[{ on := 26, ground := Go.Ground.data }, { on := 26, ground := Go.Ground.chain }, { on := 22, ground := Go.Ground.guard }], guard := some (22, false) } : Oper)) (v := ?_) rfl (by kernel_rfl) (by kernel_rfl) (by kernel_rfl) (fun _ _ _ h => h) (Or.inl ⟨by rfl, ?_⟩) (by assumption) ?_
          rotate_left
          · (intro w hSw; (try dsimp only at hSw); obtain ⟨y0, y1, y2, y3, y4, y5, y6, y7, y8⟩ := (H2.out _ hSw).1.c9; obtain ⟨z0, z1, z2, z3, z4, z5, z6, z7, z8⟩ := (H2.out _ hSw).2.c9;  go_simp; try with_reducible rfl)
          try simp only [Act.put, List.setIfInBounds_toArray, List.set_cons_zero, List.set_cons_succ]
          refine wpAnyH_take (i := 28) (oi := ({ dst := some 71, op := Go.Op.load 27 (Go.Operand.tmp 3), type := 27, pos := "law.go:44", after := #[{ on := 27, ground := Go.Ground.guard }], guard := some (27, true) } : Oper)) (v := undef) rfl (by kernel_rfl) (by kernel_rfl) (by kernel_rfl) (fun _ _ _ h => h) (Or.inr ⟨by rfl, rfl⟩) (by assumption) ?_
          try simp only [Act.put, List.setIfInBounds_toArray, List.set_cons_zero, List.set_cons_succ]
          refine wpAnyH_take (i := 29) (oi := ({ dst := some 72, op := Go.Op.move (Go.Operand.tmp 10), type := 3, pos := "law.go:44", after := #[{ on := 27, ground := Go.Ground.guard }], guard := some (27, true) } : Oper)) (v := undef) rfl (by kernel_rfl) (by kernel_rfl) (by kernel_rfl) (fun _ _ _ h => h) (Or.inr ⟨by rfl, rfl⟩) (by assumption) ?_
          try simp only [Act.put, List.setIfInBounds_toArray, List.set_cons_zero, List.set_cons_succ]
          refine wpAnyH_take (i := 30) (oi := ({ dst := some 73, op := Go.Op.move (Go.Operand.tmp 8), type := 3, pos := "law.go:44", after := #[{ on := 27, ground := Go.Ground.guard }], guard := some (27, true) } : Oper)) (v := undef) rfl (by kernel_rfl) (by kernel_rfl) (by kernel_rfl) (fun _ _ _ h => h) (Or.inr ⟨by rfl, rfl⟩) (by assumption) ?_
          try simp only [Act.put, List.setIfInBounds_toArray, List.set_cons_zero, List.set_cons_succ]
          refine wpAnyH_ready (rs := [31]) (by kernel_rfl) (List.cons_ne_nil _ _) ?_
          refine AllReadyH.cons (o := ({ dst := some 74, op := Go.Op.call { callee := Go.Callee.value (Go.Operand.func 27), args := #[Go.Operand.tmp 71, Go.Operand.tmp 72, Go.Operand.tmp 73, Go.Operand.const (Go.Value.int Go.IntKind.i64 1)], argTypes := #[27, 3, 3, 3] }, type := 4, pos := "law.go:44", after := #[{ on := 28, ground := Go.Ground.data }, { on := 29, ground := Go.Ground.data }, { on := 30, ground := Go.Ground.data }, { on := 27, ground := Go.Ground.chain }, { on := 27, ground := Go.Ground.guard }], guard := some (27, true) } : Oper)) rfl (fun K hK => ?_) AllReadyH.nil
          change if false = true then _ else _
          rw [if_neg Bool.false_ne_true]
          refine hK.out _ _ (HR.out) (fun hHeld => ?_)
          clear hK K
          try simp only [Act.put, List.setIfInBounds_toArray, List.set_cons_zero, List.set_cons_succ]
          refine wpAnyH_take (i := 32) (oi := ({ dst := some 75, op := Go.Op.unOp Go.UnOp.not 4 (Go.Operand.tmp 74), type := 4, pos := "law.go:44", after := #[{ on := 31, ground := Go.Ground.data }, { on := 27, ground := Go.Ground.guard }], guard := some (27, true) } : Oper)) (v := undef) rfl (by kernel_rfl) (by kernel_rfl) (by kernel_rfl) (fun _ _ _ h => h) (Or.inr ⟨by rfl, rfl⟩) (by assumption) ?_
          try simp only [Act.put, List.setIfInBounds_toArray, List.set_cons_zero, List.set_cons_succ]
          refine wpAnyH_take (i := 33) (oi := ({ dst := some 76, op := Go.Op.pick (Go.Operand.tmp 70) (Go.Operand.tmp 75) (Go.Operand.const (Go.Value.bool false)), type := 4, pos := "law.go:44", after := #[{ on := 27, ground := Go.Ground.data }, { on := 32, ground := Go.Ground.data }, { on := 22, ground := Go.Ground.guard }], guard := some (22, false) } : Oper)) (v := ?_) rfl (by kernel_rfl) (by kernel_rfl) (by kernel_rfl) (fun _ _ _ h => h) (Or.inl ⟨by rfl, ?_⟩) (by assumption) ?_
          rotate_left
          · (intro w hSw; (try dsimp only at hSw); obtain ⟨y0, y1, y2, y3, y4, y5, y6, y7, y8⟩ := (H2.out _ hSw).1.c9; obtain ⟨z0, z1, z2, z3, z4, z5, z6, z7, z8⟩ := (H2.out _ hSw).2.c9;  go_simp; try with_reducible rfl)
          try simp only [Act.put, List.setIfInBounds_toArray, List.set_cons_zero, List.set_cons_succ]
          refine wpAnyH_take (i := 34) (oi := ({ dst := some 77, op := Go.Op.pick (Go.Operand.tmp 65) (Go.Operand.const (Go.Value.bool true)) (Go.Operand.tmp 76), type := 4, pos := "law.go:44", after := #[{ on := 22, ground := Go.Ground.data }, { on := 33, ground := Go.Ground.data }], guard := none } : Oper)) (v := ?_) rfl (by kernel_rfl) (by kernel_rfl) (by kernel_rfl) (fun _ _ _ h => h) (Or.inl ⟨by rfl, ?_⟩) (by assumption) ?_
          rotate_left
          · (intro w hSw; (try dsimp only at hSw); obtain ⟨y0, y1, y2, y3, y4, y5, y6, y7, y8⟩ := (H2.out _ hSw).1.c9; obtain ⟨z0, z1, z2, z3, z4, z5, z6, z7, z8⟩ := (H2.out _ hSw).2.c9;  go_simp; try with_reducible rfl)
          try simp only [Act.put, List.setIfInBounds_toArray, List.set_cons_zero, List.set_cons_succ]
          refine wpAnyH_done (by kernel_rfl) ?_ _
          obtain ⟨z0, z1, z2, z3, z4, z5, z6, z7, z8⟩ := (H2.out _ HR.out).2.c9
          go_wp2_with fail
          refine (cReads j A 1 (noG C) _ _ (H2.out _ HR.out).2.2).mono ?_
          rintro e w6 ⟨rfl, k6⟩
          rw [DR.out]
          replace HR := Lib.hid (HR.out.trans k6)
          clear k6 z0 z1 z2 z3 z4 z5 z6 z7 z8
          go_wp2_with fail
          go_roundw
          case rel => exact ⟨j + 1, by omega, by go_num, by rw [HMN.out], HR.out⟩
          case measure => simp [intOf]; omega
    · obtain rfl : j = C.parts.length := by omega
      have hle : decide (manyC (C.own (A / 64)) C.parts.length ≤ 1) = true := decide_eq_true hmn.2
      have EM := Lib.hid (decide_eq_true (may_noG HM.out))
      have E1 : Hid (decide (ReadsP C C.parts.length A 1 false) = false) := decide_eq_false (fun h => by have := h.2.1.2; omega)
      have E2 : Hid (decide (ReadsP C (-1 - part % 8) A 1 false) = false) := decide_eq_false (fun h => by have := h.2.1.1; omega)
      have zp : 0 ≤ part % 8 ∧ part % 8 < 8 := by omega
      generalize manyC (C.own (A / 64)) C.parts.length = M at *
      clear y0 y2 y3 y4 y5 y6 y7 y8
      obtain ⟨z0, z1, z2, z3, z4, z5, z6, z7, z8⟩ := (H2.out _ HR.out).2.c9
      go_wp2_with fail
      refine (cMay (noG C) _ _ (H2.out _ HR.out).2.2).mono ?_
      rintro e w6 ⟨rfl, k6⟩
      rw [EM.out]
      replace HR := Lib.hid (HR.out.trans k6)
      clear k6 z0 z1 z2 z3 z4 z5 z6 z7 z8 y1
      obtain ⟨y0, y1, y2, y3, y4, y5, y6, y7, y8⟩ := (H2.out _ HR.out).1.c9
      go_wp2_with fail
      refine (cReads C.parts.length A 1 C _ _ (H2.out _ HR.out).1.2).mono ?_
      rintro e w7 ⟨rfl, k7⟩
      rw [E1.out]
      replace HR := Lib.hid (HR.out.trans k7)
      clear k7 y0 y1 y2 y3 y4 y5 y6 y7 y8
      obtain ⟨y0, y1, y2, y3, y4, y5, y6, y7, y8⟩ := (H2.out _ HR.out).1.c9
      go_wp2_with fail
      refine (cReads (-1 - part % 8) A 1 C _ _ (H2.out _ HR.out).1.2).mono ?_
      rintro e w8 ⟨rfl, k8⟩
      rw [E2.out]
      replace HR := Lib.hid (HR.out.trans k8)
      clear k8 y0 y1 y2 y3 y4 y5 y6 y7 y8
      go_wp2_with fail
      go_ret
      exact ⟨rfl, HW0.out.trans HR.out⟩
set_option maxRecDepth 100000 in
set_option maxHeartbeats 4000000 in
theorem configApart_no (C : Cf) (s : Vs) (pos part : Int) (w : World) (h : s.R w C) (hm : ¬ MayP C) :
    Calls Try.prog 4 #[.agg (cfc C s), .int .i64 pos, .int .i64 part] w fun e w' => e = .returned (.bool true) ∧ Chg (fun _ => False) w w' := by
  have hA : Chg (fun _ => False) w (w.alloc (.cells (cfc C s) 27)) := (Chg.refl _ _).alloc _
  have HP : Hid (∀ wr, Chg (fun _ => False) (w.alloc (.cells (cfc C s) 27)) wr → CfP wr w.heap.size C s) := byVal h
  have HA := Lib.hid hA; clear hA h
  obtain ⟨A1, k1, A2, k2, A3, k3, A4, k4, rfl, m1, m2, m3, m4⟩ := (HP.out _ (Chg.refl _ _)).open
  have hmd := decide_eq_false hm
  have hr1 : decide (ReadsP C 0 pos 1 false) = false := decide_eq_false (fun h => hm h.1)
  have hr2 : decide (ReadsP C 0 pos 1 true) = false := decide_eq_false (fun h => hm h.1)
  clear hm
  unfold cfc at *
  go_enter Try.func4, Try.ntmps4
  go_wp2_with fail
  refine (awake21 _).mono ?_
  rintro e w1 ⟨rfl, hC1⟩
  have C1 := Lib.hid hC1; clear hC1
  obtain ⟨y0, y1, y2, y3, y4, y5, y6, y7, y8⟩ := (HP.out _ C1.out).c9
  go_wp2_with fail
  refine (cMay C _ _ (HP.out _ C1.out).2).mono ?_
  rintro e w2 ⟨rfl, hC2⟩
  rw [hmd]
  have C2 := Lib.hid (C1.out.trans hC2); clear hC2 C1 y0 y1 y2 y3 y4 y5 y6 y7 y8
  obtain ⟨y0, y1, y2, y3, y4, y5, y6, y7, y8⟩ := (HP.out _ C2.out).c9
  go_wp2_with fail
  refine (cReads 0 pos 1 C _ _ (HP.out _ C2.out).2).mono ?_
  rintro e w3 ⟨rfl, hC3⟩
  rw [hr1]
  have C3 := Lib.hid (C2.out.trans hC3); clear hC3 y0 y1 y2 y3 y4 y5 y6 y7 y8
  obtain ⟨y0, y1, y2, y3, y4, y5, y6, y7, y8⟩ := (HP.out _ C3.out).c9
  go_wp2_with fail
  refine (cWrites 0 pos 1 C _ _ (HP.out _ C3.out).2).mono ?_
  rintro e w4 ⟨rfl, hC4⟩
  rw [hr2]
  have C4 := Lib.hid (C3.out.trans hC4); clear hC4 y0 y1 y2 y3 y4 y5 y6 y7 y8
  go_wp2_with fail
  go_ret
  exact ⟨rfl, HA.out.trans C4.out⟩
theorem configApart_walk (w : World) (C : Cf) (s : Vs) (h : s.R w C) (_hb : True) (pos part : Int) :
    Calls Try.prog 4 #[.agg (cfc C s), .int .i64 pos, .int .i64 part] w fun e w' => e = .returned (.bool true) ∧ Below w.heap.size w w' := by
  by_cases hm : MayP C
  · exact (configApart_in C s pos part w h hm).mono fun e w' ⟨h1, h2⟩ => ⟨h1, h2.below (Nat.le_refl _) (fun _ h => h.elim)⟩
  · exact (configApart_no C s pos part w h hm).mono fun e w' ⟨h1, h2⟩ => ⟨h1, h2.below (Nat.le_refl _) (fun _ h => h.elim)⟩
end Go.Proofs.Ytncbcjjdnlmjbaa
