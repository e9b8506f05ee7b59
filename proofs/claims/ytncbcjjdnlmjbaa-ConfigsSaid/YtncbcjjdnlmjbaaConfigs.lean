/- The law Configs: the walk. Printed by mkconfigs.py. -/
import Derived.Test.YtncbcjjdnlmjbaaCfgK
import Derived.Test.YtncbcjjdnlmjbaaRefA
import Derived.Test.YtncbcjjdnlmjbaaSame
import Derived.Test.YtncbcjjdnlmjbaaCopy2
set_option linter.unusedSimpArgs false
set_option linter.unusedVariables false
namespace Go.Proofs.Ytncbcjjdnlmjbaa
open Go.RowKit

set_option maxRecDepth 100000 in
set_option maxHeartbeats 8000000 in
theorem configs_c (C : Cf) (s : Vs) (part pos k : Int) (w : World) (h : s.R w C) (hb : CfB C) :
    Calls Try.prog 3 #[.agg (cfc C s), .int .i64 part, .int .i64 pos, .int .i64 k] w fun e w' => e = .returned (.bool true) ∧ Chg (fun _ => False) w w' := by
  have hA : Chg (fun _ => False) w (w.alloc (.cells (cfc C s) 27)) := (Chg.refl _ _).alloc _
  have HP : Hid (∀ wr, Chg (fun _ => False) (w.alloc (.cells (cfc C s) 27)) wr → CfP wr w.heap.size C s) := byVal h
  have HA := Lib.hid hA; clear hA h
  have HB := Lib.hid hb; clear hb
  obtain ⟨A1, k1, A2, k2, A3, k3, A4, k4, rfl, m1, m2, m3, m4⟩ := (HP.out _ (Chg.refl _ _)).open
  have HCC := Lib.hid (copyConfig C _ _ (HP.out _ (Chg.refl _ _)).2 HB.out)
  obtain ⟨bM, hM⟩ : ∃ b, decide (MayP C) = b := ⟨_, rfl⟩
  obtain ⟨bR, hR⟩ : ∃ b, decide (ReadsP C part pos k false) = b := ⟨_, rfl⟩
  obtain ⟨bW, hW⟩ : ∃ b, decide (ReadsP C part pos k true) = b := ⟨_, rfl⟩
  have EM := Lib.hid hM
  have ER := Lib.hid hR
  have EW := Lib.hid hW
  clear hM hR hW
  unfold cfc at *
  go_enter Try.func3, Try.ntmps3
  go_wp2_with fail
  refine HCC.out.mono ?_
  rintro e w1 ⟨s', rfl, hof, hC1⟩
  obtain ⟨B1, l1, B2, l2, B3, l3, B4, l4, rfl, _, _, _, _⟩ := (byVal (hof.R HB.out) _ (Chg.refl _ _)).open
  have hsz : w.heap.size < w1.heap.size := by have := hC1.size; simp at this; omega
  have HOF := Lib.hid hof; clear hof
  have C1 := Lib.hid hC1; clear hC1
  have HSZ := Lib.hid hsz; clear hsz HCC
  simp only [cfc]
  go_upto_region 2 with fail
  refine wp_abs (fun W => (∀ W', Chg (fun _ => False) W W' → CfP W' w.heap.size C ⟨.slice A1 C.parts.length k1, .slice A2 C.devs.length k2, .slice A3 C.wins.length k3, .slice A4 C.grants.length k4⟩ ∧ CfP W' w1.heap.size C ⟨.slice B1 C.parts.length l1, .slice B2 C.devs.length l2, .slice B3 C.wins.length l3, .slice B4 C.grants.length l4⟩) ∧ Chg (fun _ => False) w W) ?_ ?_
  · exact ⟨fun W' hW => ⟨HP.out _ (C1.out.trans (((Chg.refl _ _).alloc _).trans hW)), CfP.keepN ⟨blk_new w1 _, (HOF.out.R HB.out).keepN ((Chg.refl _ _).alloc _)⟩ hW⟩, (HA.out.trans C1.out).alloc _⟩
  rintro W0 ⟨hh, hw0⟩
  have H2 := Lib.hid hh
  have HW0 := Lib.hid hw0
  have HR := Lib.hid (Chg.refl (fun _ => False) W0)
  clear hh hw0 HOF C1 HP HA
  generalize w1.heap.size = Db at *
  generalize w.heap.size = Cb at *
  refine wp_region_held_drew (S := fun W => Chg (fun _ => False) W0 W) (by kernel_rfl) (HR.out.drew) (fun hHeld => ?_)
  replace HR : Hid (Chg (fun _ => False) W0 _) := hHeld
  refine wpAnyH_take (i := 0) (oi := ({ dst := some 12, op := Go.Op.load 27 (Go.Operand.tmp 9), type := 27, pos := "law.go:28", after := #[], guard := none } : Oper)) (v := ?_) rfl (by kernel_rfl) (by kernel_rfl) (by kernel_rfl) (fun _ _ _ h => h) (Or.inl ⟨by rfl, ?_⟩) (by assumption) ?_
  rotate_left
  · (intro w hSw; (try dsimp only at hSw); obtain ⟨y0, y1, y2, y3, y4, y5, y6, y7, y8⟩ := (H2.out _ hSw).1.c9'; obtain ⟨z0, z1, z2, z3, z4, z5, z6, z7, z8⟩ := (H2.out _ hSw).2.c9';  go_simp; try with_reducible rfl)
  try simp only [Act.put, List.setIfInBounds_toArray, List.set_cons_zero, List.set_cons_succ]
  refine wpAnyH_take (i := 2) (oi := ({ dst := some 14, op := Go.Op.load 27 (Go.Operand.tmp 4), type := 27, pos := "law.go:28", after := #[], guard := none } : Oper)) (v := ?_) rfl (by kernel_rfl) (by kernel_rfl) (by kernel_rfl) (fun _ _ _ h => h) (Or.inl ⟨by rfl, ?_⟩) (by assumption) ?_
  rotate_left
  · (intro w hSw; (try dsimp only at hSw); obtain ⟨y0, y1, y2, y3, y4, y5, y6, y7, y8⟩ := (H2.out _ hSw).1.c9'; obtain ⟨z0, z1, z2, z3, z4, z5, z6, z7, z8⟩ := (H2.out _ hSw).2.c9';  go_simp; try with_reducible rfl)
  try simp only [Act.put, List.setIfInBounds_toArray, List.set_cons_zero, List.set_cons_succ]
  refine wpAnyH_ready (rs := [1]) (by kernel_rfl) (List.cons_ne_nil _ _) ?_
  refine AllReadyH.cons (o := ({ dst := some 13, op := Go.Op.call { callee := Go.Callee.value (Go.Operand.func 23), args := #[Go.Operand.tmp 12], argTypes := #[27] }, type := 4, pos := "law.go:28", after := #[{ on := 0, ground := Go.Ground.data }], guard := none } : Oper)) rfl (fun K hK => ?_) AllReadyH.nil
  refine Eq.mpr (if_pos (by rfl)) ?_
  go_simp
  (go_at_call 23; refine (cMay C _ _ (H2.out _ HR.out).2.2).mono ?_; rintro e w6 ⟨rfl, k6⟩; replace HR := Lib.hid (HR.out.trans k6); clear k6; rw [EM.out])
  refine hK.out _ _ (HR.out) (fun hHeld => ?_)
  clear hK K
  try simp only [Act.put, List.setIfInBounds_toArray, List.set_cons_zero, List.set_cons_succ]
  refine wpAnyH_ready (rs := [3]) (by kernel_rfl) (List.cons_ne_nil _ _) ?_
  refine AllReadyH.cons (o := ({ dst := some 15, op := Go.Op.call { callee := Go.Callee.value (Go.Operand.func 24), args := #[Go.Operand.tmp 14], argTypes := #[27] }, type := 4, pos := "law.go:28", after := #[{ on := 2, ground := Go.Ground.data }, { on := 1, ground := Go.Ground.chain }], guard := none } : Oper)) rfl (fun K hK => ?_) AllReadyH.nil
  refine Eq.mpr (if_pos (by rfl)) ?_
  go_simp
  (go_at_call 24; refine (refMay C _ _ (H2.out _ HR.out).1.2 HB.out.wd).mono ?_; rintro e w6 ⟨rfl, k6⟩; replace HR := Lib.hid (HR.out.trans k6); clear k6; rw [EM.out])
  refine hK.out _ _ (HR.out) (fun hHeld => ?_)
  clear hK K
  try simp only [Act.put, List.setIfInBounds_toArray, List.set_cons_zero, List.set_cons_succ]
  refine wpAnyH_take (i := 4) (oi := ({ dst := some 16, op := Go.Op.binOp Go.BinOp.eql 4 (Go.Operand.tmp 13) (Go.Operand.tmp 15) 4, type := 4, pos := "law.go:28", after := #[{ on := 1, ground := Go.Ground.data }, { on := 3, ground := Go.Ground.data }], guard := none } : Oper)) (v := ?_) rfl (by kernel_rfl) (by kernel_rfl) (by kernel_rfl) (fun _ _ _ h => h) (Or.inl ⟨by rfl, ?_⟩) (by assumption) ?_
  rotate_left
  · (intro w hSw; (try dsimp only at hSw); obtain ⟨y0, y1, y2, y3, y4, y5, y6, y7, y8⟩ := (H2.out _ hSw).1.c9'; obtain ⟨z0, z1, z2, z3, z4, z5, z6, z7, z8⟩ := (H2.out _ hSw).2.c9';  go_simp; try with_reducible rfl)
  try simp only [Act.put, List.setIfInBounds_toArray, List.set_cons_zero, List.set_cons_succ]
  refine wpAnyH_take (i := 5) (oi := ({ dst := some 17, op := Go.Op.move (Go.Operand.tmp 16), type := 4, pos := "law.go:28", after := #[{ on := 4, ground := Go.Ground.data }, { on := 3, ground := Go.Ground.chain }], guard := none } : Oper)) (v := ?_) rfl (by kernel_rfl) (by kernel_rfl) (by kernel_rfl) (fun _ _ _ h => h) (Or.inl ⟨by rfl, ?_⟩) (by assumption) ?_
  rotate_left
  · (intro w hSw; (try dsimp only at hSw); obtain ⟨y0, y1, y2, y3, y4, y5, y6, y7, y8⟩ := (H2.out _ hSw).1.c9'; obtain ⟨z0, z1, z2, z3, z4, z5, z6, z7, z8⟩ := (H2.out _ hSw).2.c9';  go_simp; try with_reducible rfl)
  try simp only [Act.put, List.setIfInBounds_toArray, List.set_cons_zero, List.set_cons_succ]
  refine wpAnyH_take (i := 6) (oi := ({ dst := some 18, op := Go.Op.load 27 (Go.Operand.tmp 9), type := 27, pos := "law.go:28", after := #[{ on := 5, ground := Go.Ground.guard }], guard := some (5, true) } : Oper)) (v := ?_) rfl (by kernel_rfl) (by kernel_rfl) (by kernel_rfl) (fun _ _ _ h => h) (Or.inl ⟨by rfl, ?_⟩) (by assumption) ?_
  rotate_left
  · (intro w hSw; (try dsimp only at hSw); obtain ⟨y0, y1, y2, y3, y4, y5, y6, y7, y8⟩ := (H2.out _ hSw).1.c9'; obtain ⟨z0, z1, z2, z3, z4, z5, z6, z7, z8⟩ := (H2.out _ hSw).2.c9';  go_simp; try with_reducible rfl)
  try simp only [Act.put, List.setIfInBounds_toArray, List.set_cons_zero, List.set_cons_succ]
  refine wpAnyH_take (i := 7) (oi := ({ dst := some 19, op := Go.Op.move (Go.Operand.tmp 1), type := 3, pos := "law.go:28", after := #[{ on := 5, ground := Go.Ground.guard }], guard := some (5, true) } : Oper)) (v := ?_) rfl (by kernel_rfl) (by kernel_rfl) (by kernel_rfl) (fun _ _ _ h => h) (Or.inl ⟨by rfl, ?_⟩) (by assumption) ?_
  rotate_left
  · (intro w hSw; (try dsimp only at hSw); obtain ⟨y0, y1, y2, y3, y4, y5, y6, y7, y8⟩ := (H2.out _ hSw).1.c9'; obtain ⟨z0, z1, z2, z3, z4, z5, z6, z7, z8⟩ := (H2.out _ hSw).2.c9';  go_simp; try with_reducible rfl)
  try simp only [Act.put, List.setIfInBounds_toArray, List.set_cons_zero, List.set_cons_succ]
  refine wpAnyH_take (i := 8) (oi := ({ dst := some 20, op := Go.Op.move (Go.Operand.tmp 2), type := 3, pos := "law.go:28", after := #[{ on := 5, ground := Go.Ground.guard }], guard := some (5, true) } : Oper)) (v := ?_) rfl (by kernel_rfl) (by kernel_rfl) (by kernel_rfl) (fun _ _ _ h => h) (Or.inl ⟨by rfl, ?_⟩) (by assumption) ?_
  rotate_left
  · (intro w hSw; (try dsimp only at hSw); obtain ⟨y0, y1, y2, y3, y4, y5, y6, y7, y8⟩ := (H2.out _ hSw).1.c9'; obtain ⟨z0, z1, z2, z3, z4, z5, z6, z7, z8⟩ := (H2.out _ hSw).2.c9';  go_simp; try with_reducible rfl)
  try simp only [Act.put, List.setIfInBounds_toArray, List.set_cons_zero, List.set_cons_succ]
  refine wpAnyH_take (i := 9) (oi := ({ dst := some 21, op := Go.Op.move (Go.Operand.tmp 3), type := 3, pos := "law.go:28", after := #[{ on := 5, ground := Go.Ground.guard }], guard := some (5, true) } : Oper)) (v := ?_) rfl (by kernel_rfl) (by kernel_rfl) (by kernel_rfl) (fun _ _ _ h => h) (Or.inl ⟨by rfl, ?_⟩) (by assumption) ?_
  rotate_left
  · (intro w hSw; (try dsimp only at hSw); obtain ⟨y0, y1, y2, y3, y4, y5, y6, y7, y8⟩ := (H2.out _ hSw).1.c9'; obtain ⟨z0, z1, z2, z3, z4, z5, z6, z7, z8⟩ := (H2.out _ hSw).2.c9';  go_simp; try with_reducible rfl)
  try simp only [Act.put, List.setIfInBounds_toArray, List.set_cons_zero, List.set_cons_succ]
  refine wpAnyH_take (i := 11) (oi := ({ dst := some 23, op := Go.Op.load 27 (Go.Operand.tmp 4), type := 27, pos := "law.go:28", after := #[{ on := 5, ground := Go.Ground.guard }], guard := some (5, true) } : Oper)) (v := ?_) rfl (by kernel_rfl) (by kernel_rfl) (by kernel_rfl) (fun _ _ _ h => h) (Or.inl ⟨by rfl, ?_⟩) (by assumption) ?_
  rotate_left
  · (intro w hSw; (try dsimp only at hSw); obtain ⟨y0, y1, y2, y3, y4, y5, y6, y7, y8⟩ := (H2.out _ hSw).1.c9'; obtain ⟨z0, z1, z2, z3, z4, z5, z6, z7, z8⟩ := (H2.out _ hSw).2.c9';  go_simp; try with_reducible rfl)
  try simp only [Act.put, List.setIfInBounds_toArray, List.set_cons_zero, List.set_cons_succ]
  refine wpAnyH_take (i := 12) (oi := ({ dst := some 24, op := Go.Op.move (Go.Operand.tmp 1), type := 3, pos := "law.go:28", after := #[{ on := 5, ground := Go.Ground.guard }], guard := some (5, true) } : Oper)) (v := ?_) rfl (by kernel_rfl) (by kernel_rfl) (by kernel_rfl) (fun _ _ _ h => h) (Or.inl ⟨by rfl, ?_⟩) (by assumption) ?_
  rotate_left
  · (intro w hSw; (try dsimp only at hSw); obtain ⟨y0, y1, y2, y3, y4, y5, y6, y7, y8⟩ := (H2.out _ hSw).1.c9'; obtain ⟨z0, z1, z2, z3, z4, z5, z6, z7, z8⟩ := (H2.out _ hSw).2.c9';  go_simp; try with_reducible rfl)
  try simp only [Act.put, List.setIfInBounds_toArray, List.set_cons_zero, List.set_cons_succ]
  refine wpAnyH_take (i := 13) (oi := ({ dst := some 25, op := Go.Op.move (Go.Operand.tmp 2), type := 3, pos := "law.go:28", after := #[{ on := 5, ground := Go.Ground.guard }], guard := some (5, true) } : Oper)) (v := ?_) rfl (by kernel_rfl) (by kernel_rfl) (by kernel_rfl) (fun _ _ _ h => h) (Or.inl ⟨by rfl, ?_⟩) (by assumption) ?_
  rotate_left
  · (intro w hSw; (try dsimp only at hSw); obtain ⟨y0, y1, y2, y3, y4, y5, y6, y7, y8⟩ := (H2.out _ hSw).1.c9'; obtain ⟨z0, z1, z2, z3, z4, z5, z6, z7, z8⟩ := (H2.out _ hSw).2.c9';  go_simp; try with_reducible rfl)
  try simp only [Act.put, List.setIfInBounds_toArray, List.set_cons_zero, List.set_cons_succ]
  refine wpAnyH_take (i := 14) (oi := ({ dst := some 26, op := Go.Op.move (Go.Operand.tmp 3), type := 3, pos := "law.go:28", after := #[{ on := 5, ground := Go.Ground.guard }], guard := some (5, true) } : Oper)) (v := ?_) rfl (by kernel_rfl) (by kernel_rfl) (by kernel_rfl) (fun _ _ _ h => h) (Or.inl ⟨by rfl, ?_⟩) (by assumption) ?_
  rotate_left
  · (intro w hSw; (try dsimp only at hSw); obtain ⟨y0, y1, y2, y3, y4, y5, y6, y7, y8⟩ := (H2.out _ hSw).1.c9'; obtain ⟨z0, z1, z2, z3, z4, z5, z6, z7, z8⟩ := (H2.out _ hSw).2.c9';  go_simp; try with_reducible rfl)
  try simp only [Act.put, List.setIfInBounds_toArray, List.set_cons_zero, List.set_cons_succ]
  refine wpAnyH_ready (rs := [10]) (by kernel_rfl) (List.cons_ne_nil _ _) ?_
  refine AllReadyH.cons (o := ({ dst := some 22, op := Go.Op.call { callee := Go.Callee.value (Go.Operand.func 25), args := #[Go.Operand.tmp 18, Go.Operand.tmp 19, Go.Operand.tmp 20, Go.Operand.tmp 21], argTypes := #[27, 3, 3, 3] }, type := 4, pos := "law.go:28", after := #[{ on := 6, ground := Go.Ground.data }, { on := 7, ground := Go.Ground.data }, { on := 8, ground := Go.Ground.data }, { on := 9, ground := Go.Ground.data }, { on := 5, ground := Go.Ground.chain }, { on := 5, ground := Go.Ground.guard }], guard := some (5, true) } : Oper)) rfl (fun K hK => ?_) AllReadyH.nil
  refine Eq.mpr (if_pos (by rfl)) ?_
  go_simp
  (go_at_call 25; refine (cReads part pos k C _ _ (H2.out _ HR.out).2.2).mono ?_; rintro e w6 ⟨rfl, k6⟩; replace HR := Lib.hid (HR.out.trans k6); clear k6; rw [ER.out])
  refine hK.out _ _ (HR.out) (fun hHeld => ?_)
  clear hK K
  try simp only [Act.put, List.setIfInBounds_toArray, List.set_cons_zero, List.set_cons_succ]
  refine wpAnyH_ready (rs := [15]) (by kernel_rfl) (List.cons_ne_nil _ _) ?_
  refine AllReadyH.cons (o := ({ dst := some 27, op := Go.Op.call { callee := Go.Callee.value (Go.Operand.func 26), args := #[Go.Operand.tmp 23, Go.Operand.tmp 24, Go.Operand.tmp 25, Go.Operand.tmp 26], argTypes := #[27, 3, 3, 3] }, type := 4, pos := "law.go:28", after := #[{ on := 11, ground := Go.Ground.data }, { on := 12, ground := Go.Ground.data }, { on := 13, ground := Go.Ground.data }, { on := 14, ground := Go.Ground.data }, { on := 10, ground := Go.Ground.chain }, { on := 5, ground := Go.Ground.guard }], guard := some (5, true) } : Oper)) rfl (fun K hK => ?_) AllReadyH.nil
  refine Eq.mpr (if_pos (by rfl)) ?_
  go_simp
  (go_at_call 26; refine (refReads part pos k C _ _ (H2.out _ HR.out).1.2 HB.out.wd).mono ?_; rintro e w6 ⟨rfl, k6⟩; replace HR := Lib.hid (HR.out.trans k6); clear k6; rw [ER.out])
  refine hK.out _ _ (HR.out) (fun hHeld => ?_)
  clear hK K
  try simp only [Act.put, List.setIfInBounds_toArray, List.set_cons_zero, List.set_cons_succ]
  refine wpAnyH_take (i := 16) (oi := ({ dst := some 28, op := Go.Op.binOp Go.BinOp.eql 4 (Go.Operand.tmp 22) (Go.Operand.tmp 27) 4, type := 4, pos := "law.go:28", after := #[{ on := 10, ground := Go.Ground.data }, { on := 15, ground := Go.Ground.data }, { on := 5, ground := Go.Ground.guard }], guard := some (5, true) } : Oper)) (v := ?_) rfl (by kernel_rfl) (by kernel_rfl) (by kernel_rfl) (fun _ _ _ h => h) (Or.inl ⟨by rfl, ?_⟩) (by assumption) ?_
  rotate_left
  · (intro w hSw; (try dsimp only at hSw); obtain ⟨y0, y1, y2, y3, y4, y5, y6, y7, y8⟩ := (H2.out _ hSw).1.c9'; obtain ⟨z0, z1, z2, z3, z4, z5, z6, z7, z8⟩ := (H2.out _ hSw).2.c9';  go_simp; try with_reducible rfl)
  try simp only [Act.put, List.setIfInBounds_toArray, List.set_cons_zero, List.set_cons_succ]
  refine wpAnyH_take (i := 17) (oi := ({ dst := some 29, op := Go.Op.pick (Go.Operand.tmp 17) (Go.Operand.tmp 28) (Go.Operand.const (Go.Value.bool false)), type := 4, pos := "law.go:28", after := #[{ on := 5, ground := Go.Ground.data }, { on := 16, ground := Go.Ground.data }], guard := none } : Oper)) (v := ?_) rfl (by kernel_rfl) (by kernel_rfl) (by kernel_rfl) (fun _ _ _ h => h) (Or.inl ⟨by rfl, ?_⟩) (by assumption) ?_
  rotate_left
  · (intro w hSw; (try dsimp only at hSw); obtain ⟨y0, y1, y2, y3, y4, y5, y6, y7, y8⟩ := (H2.out _ hSw).1.c9'; obtain ⟨z0, z1, z2, z3, z4, z5, z6, z7, z8⟩ := (H2.out _ hSw).2.c9';  go_simp; try with_reducible rfl)
  try simp only [Act.put, List.setIfInBounds_toArray, List.set_cons_zero, List.set_cons_succ]
  refine wpAnyH_take (i := 18) (oi := ({ dst := some 30, op := Go.Op.move (Go.Operand.tmp 29), type := 4, pos := "law.go:28", after := #[{ on := 17, ground := Go.Ground.data }, { on := 15, ground := Go.Ground.chain }], guard := none } : Oper)) (v := ?_) rfl (by kernel_rfl) (by kernel_rfl) (by kernel_rfl) (fun _ _ _ h => h) (Or.inl ⟨by rfl, ?_⟩) (by assumption) ?_
  rotate_left
  · (intro w hSw; (try dsimp only at hSw); obtain ⟨y0, y1, y2, y3, y4, y5, y6, y7, y8⟩ := (H2.out _ hSw).1.c9'; obtain ⟨z0, z1, z2, z3, z4, z5, z6, z7, z8⟩ := (H2.out _ hSw).2.c9';  go_simp; try with_reducible rfl)
  try simp only [Act.put, List.setIfInBounds_toArray, List.set_cons_zero, List.set_cons_succ]
  refine wpAnyH_take (i := 19) (oi := ({ dst := some 31, op := Go.Op.load 27 (Go.Operand.tmp 9), type := 27, pos := "law.go:28", after := #[{ on := 18, ground := Go.Ground.guard }], guard := some (18, true) } : Oper)) (v := ?_) rfl (by kernel_rfl) (by kernel_rfl) (by kernel_rfl) (fun _ _ _ h => h) (Or.inl ⟨by rfl, ?_⟩) (by assumption) ?_
  rotate_left
  · (intro w hSw; (try dsimp only at hSw); obtain ⟨y0, y1, y2, y3, y4, y5, y6, y7, y8⟩ := (H2.out _ hSw).1.c9'; obtain ⟨z0, z1, z2, z3, z4, z5, z6, z7, z8⟩ := (H2.out _ hSw).2.c9';  go_simp; try with_reducible rfl)
  try simp only [Act.put, List.setIfInBounds_toArray, List.set_cons_zero, List.set_cons_succ]
  refine wpAnyH_take (i := 20) (oi := ({ dst := some 32, op := Go.Op.move (Go.Operand.tmp 1), type := 3, pos := "law.go:28", after := #[{ on := 18, ground := Go.Ground.guard }], guard := some (18, true) } : Oper)) (v := ?_) rfl (by kernel_rfl) (by kernel_rfl) (by kernel_rfl) (fun _ _ _ h => h) (Or.inl ⟨by rfl, ?_⟩) (by assumption) ?_
  rotate_left
  · (intro w hSw; (try dsimp only at hSw); obtain ⟨y0, y1, y2, y3, y4, y5, y6, y7, y8⟩ := (H2.out _ hSw).1.c9'; obtain ⟨z0, z1, z2, z3, z4, z5, z6, z7, z8⟩ := (H2.out _ hSw).2.c9';  go_simp; try with_reducible rfl)
  try simp only [Act.put, List.setIfInBounds_toArray, List.set_cons_zero, List.set_cons_succ]
  refine wpAnyH_take (i := 21) (oi := ({ dst := some 33, op := Go.Op.move (Go.Operand.tmp 2), type := 3, pos := "law.go:28", after := #[{ on := 18, ground := Go.Ground.guard }], guard := some (18, true) } : Oper)) (v := ?_) rfl (by kernel_rfl) (by kernel_rfl) (by kernel_rfl) (fun _ _ _ h => h) (Or.inl ⟨by rfl, ?_⟩) (by assumption) ?_
  rotate_left
  · (intro w hSw; (try dsimp only at hSw); obtain ⟨y0, y1, y2, y3, y4, y5, y6, y7, y8⟩ := (H2.out _ hSw).1.c9'; obtain ⟨z0, z1, z2, z3, z4, z5, z6, z7, z8⟩ := (H2.out _ hSw).2.c9';  go_simp; try with_reducible rfl)
  try simp only [Act.put, List.setIfInBounds_toArray, List.set_cons_zero, List.set_cons_succ]
  refine wpAnyH_take (i := 22) (oi := ({ dst := some 34, op := Go.Op.move (Go.Operand.tmp 3), type := 3, pos := "law.go:28", after := #[{ on := 18, ground := Go.Ground.guard }], guard := some (18, true) } : Oper)) (v := ?_) rfl (by kernel_rfl) (by kernel_rfl) (by kernel_rfl) (fun _ _ _ h => h) (Or.inl ⟨by rfl, ?_⟩) (by assumption) ?_
  rotate_left
  · (intro w hSw; (try dsimp only at hSw); obtain ⟨y0, y1, y2, y3, y4, y5, y6, y7, y8⟩ := (H2.out _ hSw).1.c9'; obtain ⟨z0, z1, z2, z3, z4, z5, z6, z7, z8⟩ := (H2.out _ hSw).2.c9';  go_simp; try with_reducible rfl)
  try simp only [Act.put, List.setIfInBounds_toArray, List.set_cons_zero, List.set_cons_succ]
  refine wpAnyH_take (i := 24) (oi := ({ dst := some 36, op := Go.Op.load 27 (Go.Operand.tmp 4), type := 27, pos := "law.go:28", after := #[{ on := 18, ground := Go.Ground.guard }], guard := some (18, true) } : Oper)) (v := ?_) rfl (by kernel_rfl) (by kernel_rfl) (by kernel_rfl) (fun _ _ _ h => h) (Or.inl ⟨by rfl, ?_⟩) (by assumption) ?_
  rotate_left
  · (intro w hSw; (try dsimp only at hSw); obtain ⟨y0, y1, y2, y3, y4, y5, y6, y7, y8⟩ := (H2.out _ hSw).1.c9'; obtain ⟨z0, z1, z2, z3, z4, z5, z6, z7, z8⟩ := (H2.out _ hSw).2.c9';  go_simp; try with_reducible rfl)
  try simp only [Act.put, List.setIfInBounds_toArray, List.set_cons_zero, List.set_cons_succ]
  refine wpAnyH_take (i := 25) (oi := ({ dst := some 37, op := Go.Op.move (Go.Operand.tmp 1), type := 3, pos := "law.go:28", after := #[{ on := 18, ground := Go.Ground.guard }], guard := some (18, true) } : Oper)) (v := ?_) rfl (by kernel_rfl) (by kernel_rfl) (by kernel_rfl) (fun _ _ _ h => h) (Or.inl ⟨by rfl, ?_⟩) (by assumption) ?_
  rotate_left
  · (intro w hSw; (try dsimp only at hSw); obtain ⟨y0, y1, y2, y3, y4, y5, y6, y7, y8⟩ := (H2.out _ hSw).1.c9'; obtain ⟨z0, z1, z2, z3, z4, z5, z6, z7, z8⟩ := (H2.out _ hSw).2.c9';  go_simp; try with_reducible rfl)
  try simp only [Act.put, List.setIfInBounds_toArray, List.set_cons_zero, List.set_cons_succ]
  refine wpAnyH_take (i := 26) (oi := ({ dst := some 38, op := Go.Op.move (Go.Operand.tmp 2), type := 3, pos := "law.go:28", after := #[{ on := 18, ground := Go.Ground.guard }], guard := some (18, true) } : Oper)) (v := ?_) rfl (by kernel_rfl) (by kernel_rfl) (by kernel_rfl) (fun _ _ _ h => h) (Or.inl ⟨by rfl, ?_⟩) (by assumption) ?_
  rotate_left
  · (intro w hSw; (try dsimp only at hSw); obtain ⟨y0, y1, y2, y3, y4, y5, y6, y7, y8⟩ := (H2.out _ hSw).1.c9'; obtain ⟨z0, z1, z2, z3, z4, z5, z6, z7, z8⟩ := (H2.out _ hSw).2.c9';  go_simp; try with_reducible rfl)
  try simp only [Act.put, List.setIfInBounds_toArray, List.set_cons_zero, List.set_cons_succ]
  refine wpAnyH_take (i := 27) (oi := ({ dst := some 39, op := Go.Op.move (Go.Operand.tmp 3), type := 3, pos := "law.go:28", after := #[{ on := 18, ground := Go.Ground.guard }], guard := some (18, true) } : Oper)) (v := ?_) rfl (by kernel_rfl) (by kernel_rfl) (by kernel_rfl) (fun _ _ _ h => h) (Or.inl ⟨by rfl, ?_⟩) (by assumption) ?_
  rotate_left
  · (intro w hSw; (try dsimp only at hSw); obtain ⟨y0, y1, y2, y3, y4, y5, y6, y7, y8⟩ := (H2.out _ hSw).1.c9'; obtain ⟨z0, z1, z2, z3, z4, z5, z6, z7, z8⟩ := (H2.out _ hSw).2.c9';  go_simp; try with_reducible rfl)
  try simp only [Act.put, List.setIfInBounds_toArray, List.set_cons_zero, List.set_cons_succ]
  refine wpAnyH_ready (rs := [23]) (by kernel_rfl) (List.cons_ne_nil _ _) ?_
  refine AllReadyH.cons (o := ({ dst := some 35, op := Go.Op.call { callee := Go.Callee.value (Go.Operand.func 27), args := #[Go.Operand.tmp 31, Go.Operand.tmp 32, Go.Operand.tmp 33, Go.Operand.tmp 34], argTypes := #[27, 3, 3, 3] }, type := 4, pos := "law.go:28", after := #[{ on := 19, ground := Go.Ground.data }, { on := 20, ground := Go.Ground.data }, { on := 21, ground := Go.Ground.data }, { on := 22, ground := Go.Ground.data }, { on := 18, ground := Go.Ground.chain }, { on := 18, ground := Go.Ground.guard }], guard := some (18, true) } : Oper)) rfl (fun K hK => ?_) AllReadyH.nil
  refine Eq.mpr (if_pos (by rfl)) ?_
  go_simp
  (go_at_call 27; refine (cWrites part pos k C _ _ (H2.out _ HR.out).2.2).mono ?_; rintro e w6 ⟨rfl, k6⟩; replace HR := Lib.hid (HR.out.trans k6); clear k6; rw [EW.out])
  refine hK.out _ _ (HR.out) (fun hHeld => ?_)
  clear hK K
  try simp only [Act.put, List.setIfInBounds_toArray, List.set_cons_zero, List.set_cons_succ]
  refine wpAnyH_ready (rs := [28]) (by kernel_rfl) (List.cons_ne_nil _ _) ?_
  refine AllReadyH.cons (o := ({ dst := some 40, op := Go.Op.call { callee := Go.Callee.value (Go.Operand.func 28), args := #[Go.Operand.tmp 36, Go.Operand.tmp 37, Go.Operand.tmp 38, Go.Operand.tmp 39], argTypes := #[27, 3, 3, 3] }, type := 4, pos := "law.go:28", after := #[{ on := 24, ground := Go.Ground.data }, { on := 25, ground := Go.Ground.data }, { on := 26, ground := Go.Ground.data }, { on := 27, ground := Go.Ground.data }, { on := 23, ground := Go.Ground.chain }, { on := 18, ground := Go.Ground.guard }], guard := some (18, true) } : Oper)) rfl (fun K hK => ?_) AllReadyH.nil
  refine Eq.mpr (if_pos (by rfl)) ?_
  go_simp
  (go_at_call 28; refine (refWrites part pos k C _ _ (H2.out _ HR.out).1.2 HB.out.wd).mono ?_; rintro e w6 ⟨rfl, k6⟩; replace HR := Lib.hid (HR.out.trans k6); clear k6; rw [EW.out])
  refine hK.out _ _ (HR.out) (fun hHeld => ?_)
  clear hK K
  try simp only [Act.put, List.setIfInBounds_toArray, List.set_cons_zero, List.set_cons_succ]
  refine wpAnyH_take (i := 29) (oi := ({ dst := some 41, op := Go.Op.binOp Go.BinOp.eql 4 (Go.Operand.tmp 35) (Go.Operand.tmp 40) 4, type := 4, pos := "law.go:28", after := #[{ on := 23, ground := Go.Ground.data }, { on := 28, ground := Go.Ground.data }, { on := 18, ground := Go.Ground.guard }], guard := some (18, true) } : Oper)) (v := ?_) rfl (by kernel_rfl) (by kernel_rfl) (by kernel_rfl) (fun _ _ _ h => h) (Or.inl ⟨by rfl, ?_⟩) (by assumption) ?_
  rotate_left
  · (intro w hSw; (try dsimp only at hSw); obtain ⟨y0, y1, y2, y3, y4, y5, y6, y7, y8⟩ := (H2.out _ hSw).1.c9'; obtain ⟨z0, z1, z2, z3, z4, z5, z6, z7, z8⟩ := (H2.out _ hSw).2.c9';  go_simp; try with_reducible rfl)
  try simp only [Act.put, List.setIfInBounds_toArray, List.set_cons_zero, List.set_cons_succ]
  refine wpAnyH_take (i := 30) (oi := ({ dst := some 42, op := Go.Op.pick (Go.Operand.tmp 30) (Go.Operand.tmp 41) (Go.Operand.const (Go.Value.bool false)), type := 4, pos := "law.go:28", after := #[{ on := 18, ground := Go.Ground.data }, { on := 29, ground := Go.Ground.data }], guard := none } : Oper)) (v := ?_) rfl (by kernel_rfl) (by kernel_rfl) (by kernel_rfl) (fun _ _ _ h => h) (Or.inl ⟨by rfl, ?_⟩) (by assumption) ?_
  rotate_left
  · (intro w hSw; (try dsimp only at hSw); obtain ⟨y0, y1, y2, y3, y4, y5, y6, y7, y8⟩ := (H2.out _ hSw).1.c9'; obtain ⟨z0, z1, z2, z3, z4, z5, z6, z7, z8⟩ := (H2.out _ hSw).2.c9';  go_simp; try with_reducible rfl)
  try simp only [Act.put, List.setIfInBounds_toArray, List.set_cons_zero, List.set_cons_succ]
  refine wpAnyH_take (i := 31) (oi := ({ dst := some 43, op := Go.Op.move (Go.Operand.tmp 42), type := 4, pos := "law.go:28", after := #[{ on := 30, ground := Go.Ground.data }, { on := 28, ground := Go.Ground.chain }], guard := none } : Oper)) (v := ?_) rfl (by kernel_rfl) (by kernel_rfl) (by kernel_rfl) (fun _ _ _ h => h) (Or.inl ⟨by rfl, ?_⟩) (by assumption) ?_
  rotate_left
  · (intro w hSw; (try dsimp only at hSw); obtain ⟨y0, y1, y2, y3, y4, y5, y6, y7, y8⟩ := (H2.out _ hSw).1.c9'; obtain ⟨z0, z1, z2, z3, z4, z5, z6, z7, z8⟩ := (H2.out _ hSw).2.c9';  go_simp; try with_reducible rfl)
  try simp only [Act.put, List.setIfInBounds_toArray, List.set_cons_zero, List.set_cons_succ]
  refine wpAnyH_take (i := 32) (oi := ({ dst := some 44, op := Go.Op.load 27 (Go.Operand.tmp 9), type := 27, pos := "law.go:28", after := #[{ on := 31, ground := Go.Ground.guard }], guard := some (31, true) } : Oper)) (v := ?_) rfl (by kernel_rfl) (by kernel_rfl) (by kernel_rfl) (fun _ _ _ h => h) (Or.inl ⟨by rfl, ?_⟩) (by assumption) ?_
  rotate_left
  · (intro w hSw; (try dsimp only at hSw); obtain ⟨y0, y1, y2, y3, y4, y5, y6, y7, y8⟩ := (H2.out _ hSw).1.c9'; obtain ⟨z0, z1, z2, z3, z4, z5, z6, z7, z8⟩ := (H2.out _ hSw).2.c9';  go_simp; try with_reducible rfl)
  try simp only [Act.put, List.setIfInBounds_toArray, List.set_cons_zero, List.set_cons_succ]
  refine wpAnyH_take (i := 33) (oi := ({ dst := some 45, op := Go.Op.load 27 (Go.Operand.tmp 4), type := 27, pos := "law.go:28", after := #[{ on := 31, ground := Go.Ground.guard }], guard := some (31, true) } : Oper)) (v := ?_) rfl (by kernel_rfl) (by kernel_rfl) (by kernel_rfl) (fun _ _ _ h => h) (Or.inl ⟨by rfl, ?_⟩) (by assumption) ?_
  rotate_left
  · (intro w hSw; (try dsimp only at hSw); obtain ⟨y0, y1, y2, y3, y4, y5, y6, y7, y8⟩ := (H2.out _ hSw).1.c9'; obtain ⟨z0, z1, z2, z3, z4, z5, z6, z7, z8⟩ := (H2.out _ hSw).2.c9';  go_simp; try with_reducible rfl)
  try simp only [Act.put, List.setIfInBounds_toArray, List.set_cons_zero, List.set_cons_succ]
  refine wpAnyH_ready (rs := [34]) (by kernel_rfl) (List.cons_ne_nil _ _) ?_
  refine AllReadyH.cons (o := ({ dst := some 46, op := Go.Op.call { callee := Go.Callee.value (Go.Operand.func 29), args := #[Go.Operand.tmp 44, Go.Operand.tmp 45], argTypes := #[27, 27] }, type := 4, pos := "law.go:28", after := #[{ on := 32, ground := Go.Ground.data }, { on := 33, ground := Go.Ground.data }, { on := 31, ground := Go.Ground.chain }, { on := 31, ground := Go.Ground.guard }], guard := some (31, true) } : Oper)) rfl (fun K hK => ?_) AllReadyH.nil
  refine Eq.mpr (if_pos (by rfl)) ?_
  go_simp
  (go_at_call 29; refine (sameConfig C _ _ _ (H2.out _ HR.out).2.2 (H2.out _ HR.out).1.2).mono ?_; rintro e w6 ⟨rfl, k6⟩; replace HR := Lib.hid (HR.out.trans k6); clear k6)
  refine hK.out _ _ (HR.out) (fun hHeld => ?_)
  clear hK K
  try simp only [Act.put, List.setIfInBounds_toArray, List.set_cons_zero, List.set_cons_succ]
  refine wpAnyH_take (i := 35) (oi := ({ dst := some 47, op := Go.Op.pick (Go.Operand.tmp 43) (Go.Operand.tmp 46) (Go.Operand.const (Go.Value.bool false)), type := 4, pos := "law.go:28", after := #[{ on := 31, ground := Go.Ground.data }, { on := 34, ground := Go.Ground.data }], guard := none } : Oper)) (v := ?_) rfl (by kernel_rfl) (by kernel_rfl) (by kernel_rfl) (fun _ _ _ h => h) (Or.inl ⟨by rfl, ?_⟩) (by assumption) ?_
  rotate_left
  · (intro w hSw; (try dsimp only at hSw); obtain ⟨y0, y1, y2, y3, y4, y5, y6, y7, y8⟩ := (H2.out _ hSw).1.c9'; obtain ⟨z0, z1, z2, z3, z4, z5, z6, z7, z8⟩ := (H2.out _ hSw).2.c9';  go_simp; try with_reducible rfl)
  try simp only [Act.put, List.setIfInBounds_toArray, List.set_cons_zero, List.set_cons_succ]
  refine wpAnyH_take (i := 36) (oi := ({ dst := some 48, op := Go.Op.move (Go.Operand.tmp 47), type := 4, pos := "law.go:28", after := #[{ on := 35, ground := Go.Ground.data }, { on := 34, ground := Go.Ground.chain }], guard := none } : Oper)) (v := ?_) rfl (by kernel_rfl) (by kernel_rfl) (by kernel_rfl) (fun _ _ _ h => h) (Or.inl ⟨by rfl, ?_⟩) (by assumption) ?_
  rotate_left
  · (intro w hSw; (try dsimp only at hSw); obtain ⟨y0, y1, y2, y3, y4, y5, y6, y7, y8⟩ := (H2.out _ hSw).1.c9'; obtain ⟨z0, z1, z2, z3, z4, z5, z6, z7, z8⟩ := (H2.out _ hSw).2.c9';  go_simp; try with_reducible rfl)
  try simp only [Act.put, List.setIfInBounds_toArray, List.set_cons_zero, List.set_cons_succ]
  refine wpAnyH_ready (rs := [37]) (by kernel_rfl) (List.cons_ne_nil _ _) ?_
  refine AllReadyH.cons (o := ({ dst := some 49, op := Go.Op.call { callee := Go.Callee.value (Go.Operand.func 30), args := #[], argTypes := #[] }, type := 4, pos := "law.go:28", after := #[{ on := 36, ground := Go.Ground.chain }, { on := 36, ground := Go.Ground.guard }], guard := some (36, true) } : Oper)) rfl (fun K hK => ?_) AllReadyH.nil
  refine Eq.mpr (if_pos (by rfl)) ?_
  go_simp
  (go_at_call 30; refine (awake21 _).mono ?_; rintro e w6 ⟨rfl, k6⟩; replace HR := Lib.hid (HR.out.trans k6); clear k6)
  refine hK.out _ _ (HR.out) (fun hHeld => ?_)
  clear hK K
  try simp only [Act.put, List.setIfInBounds_toArray, List.set_cons_zero, List.set_cons_succ]
  refine wpAnyH_take (i := 38) (oi := ({ dst := some 50, op := Go.Op.pick (Go.Operand.tmp 48) (Go.Operand.tmp 49) (Go.Operand.const (Go.Value.bool false)), type := 4, pos := "law.go:28", after := #[{ on := 36, ground := Go.Ground.data }, { on := 37, ground := Go.Ground.data }], guard := none } : Oper)) (v := ?_) rfl (by kernel_rfl) (by kernel_rfl) (by kernel_rfl) (fun _ _ _ h => h) (Or.inl ⟨by rfl, ?_⟩) (by assumption) ?_
  rotate_left
  · (intro w hSw; (try dsimp only at hSw); obtain ⟨y0, y1, y2, y3, y4, y5, y6, y7, y8⟩ := (H2.out _ hSw).1.c9'; obtain ⟨z0, z1, z2, z3, z4, z5, z6, z7, z8⟩ := (H2.out _ hSw).2.c9';  go_simp; try with_reducible rfl)
  try simp only [Act.put, List.setIfInBounds_toArray, List.set_cons_zero, List.set_cons_succ]
  refine wpAnyH_take (i := 39) (oi := ({ dst := some 8, op := Go.Op.assign (Go.Operand.tmp 50), type := 4, pos := "law.go:28", after := #[{ on := 38, ground := Go.Ground.data }, { on := 37, ground := Go.Ground.chain }, { on := 0, ground := Go.Ground.phase }, { on := 1, ground := Go.Ground.phase }, { on := 2, ground := Go.Ground.phase }, { on := 3, ground := Go.Ground.phase }, { on := 4, ground := Go.Ground.phase }, { on := 5, ground := Go.Ground.phase }, { on := 6, ground := Go.Ground.phase }, { on := 7, ground := Go.Ground.phase }, { on := 8, ground := Go.Ground.phase }, { on := 9, ground := Go.Ground.phase }, { on := 10, ground := Go.Ground.phase }, { on := 11, ground := Go.Ground.phase }, { on := 12, ground := Go.Ground.phase }, { on := 13, ground := Go.Ground.phase }, { on := 14, ground := Go.Ground.phase }, { on := 15, ground := Go.Ground.phase }, { on := 16, ground := Go.Ground.phase }, { on := 17, ground := Go.Ground.phase }, { on := 18, ground := Go.Ground.phase }, { on := 19, ground := Go.Ground.phase }, { on := 20, ground := Go.Ground.phase }, { on := 21, ground := Go.Ground.phase }, { on := 22, ground := Go.Ground.phase }, { on := 23, ground := Go.Ground.phase }, { on := 24, ground := Go.Ground.phase }, { on := 25, ground := Go.Ground.phase }, { on := 26, ground := Go.Ground.phase }, { on := 27, ground := Go.Ground.phase }, { on := 28, ground := Go.Ground.phase }, { on := 29, ground := Go.Ground.phase }, { on := 30, ground := Go.Ground.phase }, { on := 31, ground := Go.Ground.phase }, { on := 32, ground := Go.Ground.phase }, { on := 33, ground := Go.Ground.phase }, { on := 34, ground := Go.Ground.phase }, { on := 35, ground := Go.Ground.phase }, { on := 36, ground := Go.Ground.phase }, { on := 37, ground := Go.Ground.phase }, { on := 38, ground := Go.Ground.phase }], guard := none } : Oper)) (v := ?_) rfl (by kernel_rfl) (by kernel_rfl) (by kernel_rfl) (fun _ _ _ h => h) (Or.inl ⟨by rfl, ?_⟩) (by assumption) ?_
  rotate_left
  · (intro w hSw; (try dsimp only at hSw); obtain ⟨y0, y1, y2, y3, y4, y5, y6, y7, y8⟩ := (H2.out _ hSw).1.c9'; obtain ⟨z0, z1, z2, z3, z4, z5, z6, z7, z8⟩ := (H2.out _ hSw).2.c9';  go_simp; try with_reducible rfl)
  try simp only [Act.put, List.setIfInBounds_toArray, List.set_cons_zero, List.set_cons_succ]
  refine wpAnyH_done (by kernel_rfl) ?_ _
  go_wp2_with fail
  go_ret
  exact ⟨rfl, HW0.out.trans HR.out⟩
theorem configs_walk (w : World) (C : Cf) (s : Vs) (h : s.R w C) (hb : CfB C) (part pos k : Int) :
    Calls Try.prog 3 #[.agg (cfc C s), .int .i64 part, .int .i64 pos, .int .i64 k] w fun e w' => e = .returned (.bool true) ∧ Below w.heap.size w w' :=
  (configs_c C s part pos k w h hb).mono fun e w' ⟨h1, h2⟩ => ⟨h1, h2.below (Nat.le_refl _) (fun _ h => h.elim)⟩
end Go.Proofs.Ytncbcjjdnlmjbaa
