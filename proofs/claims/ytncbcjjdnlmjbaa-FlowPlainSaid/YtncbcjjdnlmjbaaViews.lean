/- The law Views: the walk. Printed by mkviews.py. -/
import Derived.Test.YtncbcjjdnlmjbaaAw23
import Derived.Test.YtncbcjjdnlmjbaaRPurg
import Derived.Test.YtncbcjjdnlmjbaaSame
set_option linter.unusedSimpArgs false
set_option linter.unusedVariables false
namespace Go.Proofs.Ytncbcjjdnlmjbaa
open Go.RowKit

/-- A purge, told in one row. -/
noncomputable def purgeR (C : Cf) (p : Int) (L : List St) : List St := if MayP C ∧ C.there p then purgeC C p.toNat L else []
noncomputable def purgeE (C : Cf) (p : Int) : Int := if MayP C ∧ C.there p then 0 else 2300
def PurgeAny (C : Cf) (p : Int) (L : List St) (w : World) (e : Ending) (w' : World) : Prop := ∃ v, e = .returned (.tuple #[v, .int .i64 (purgeE C p)]) ∧ OwnC stcell 7 59 w' w.heap.size v (purgeR C p L) ∧ Chg (fun _ => False) w w'
theorem PurgePost.any {C : Cf} {p : Int} {L : List St} {w w' : World} {e : Ending} (h : PurgePost C p L w e w') : PurgeAny C p L w e w' := by
  unfold PurgeAny purgeE purgeR
  by_cases hm : MayP C ∧ C.there p
  · obtain ⟨v, h1, h2, h3⟩ := h.yes hm.1 hm.2
    rw [if_pos hm, if_pos hm]
    exact ⟨v, h1, h2, h3⟩
  · obtain ⟨h1, h2⟩ := h.no hm
    rw [if_neg hm, if_neg hm]
    exact ⟨_, h1, OwnC.nil _ _, h2⟩
theorem purgeC_len (C : Cf) (p : Nat) (L : List St) : (purgeC C p L).length = L.length := purgeL_length _ _ _ _ _
theorem purgeR_len (C : Cf) (p : Int) (L : List St) : (purgeR C p L).length ≤ L.length := by
  unfold purgeR
  split
  · rw [purgeC_len]; exact Nat.le_refl _
  · simp
set_option maxRecDepth 100000 in
set_option maxHeartbeats 8000000 in
theorem views_c (C : Cf) (s : Vs) (A : Option Addr) (c : Nat) (L : List St) (fr to_ : Int) (w : World) (h : s.R w C) (hb : CfB C) (hm : L.length ≤ maxLen) (hl : L.length * 64 ≤ 140737488351232) (hr : RowC w A (L.flatMap stcell)) :
    Calls Try.prog 8 #[.agg (cfc C s), .slice A L.length c, .int .i64 fr, .int .i64 to_] w fun e w' => e = .returned (.bool true) ∧ Chg (fun _ => False) w w' := by
  have hA : Chg (fun _ => False) w (w.alloc (.cells (cfc C s) 27)) := (Chg.refl _ _).alloc _
  have HP : Hid (∀ wr, Chg (fun _ => False) (w.alloc (.cells (cfc C s) 27)) wr → CfP wr w.heap.size C s) := byVal h
  have HRW : Hid (∀ wr, Chg (fun _ => False) w wr → RowC wr A (L.flatMap stcell)) := fun wr hW => hr.keepF hW
  have HA := Lib.hid hA; clear hA h hr
  have HB := Lib.hid hb; clear hb
  have HM := Lib.hid hm; clear hm
  have HL := Lib.hid hl; clear hl
  have HK1 : Hid (L.length * 64 ≤ 140737488355328) := by have := HL.out; unfold Hid; omega
  have HKP : Hid ((purgeR C to_ L).length ≤ maxLen) := Nat.le_trans (purgeR_len C to_ L) HM.out
  obtain ⟨A1, k1, A2, k2, A3, k3, A4, k4, rfl, m1, m2, m3, m4⟩ := (HP.out _ (Chg.refl _ _)).open
  have HCC := Lib.hid (copyConfig C _ _ (HP.out _ (Chg.refl _ _)).2 HB.out)
  obtain ⟨bF, hF⟩ : ∃ b, flowB C fr to_ = b := ⟨_, rfl⟩
  obtain ⟨cE, hE⟩ : ∃ x, purgeE C to_ = x := ⟨_, rfl⟩
  have EF := Lib.hid hF
  have EE := Lib.hid hE
  clear hF hE
  unfold cfc at *
  go_enter Try.func8, Try.ntmps8
  go_wp2_with fail
  refine HCC.out.mono ?_
  rintro e w1 ⟨s', rfl, hof, hC1⟩
  obtain ⟨B1, l1, B2, l2, B3, l3, B4, l4, rfl, _, _, _, _⟩ := (byVal (hof.R HB.out) _ (Chg.refl _ _)).open
  have hsz : w.heap.size < w1.heap.size := by have := hC1.size; simp at this; omega
  have HOF : Hid (∀ W, Chg (fun _ => False) w1 W → Vs.R ⟨.slice B1 C.parts.length l1, .slice B2 C.devs.length l2, .slice B3 C.wins.length l3, .slice B4 C.grants.length l4⟩ W C) := fun W hW => (hof.R HB.out).keepN hW
  clear hof
  have C1 := Lib.hid hC1; clear hC1
  have HSZ := Lib.hid hsz; clear hsz HCC
  simp only [cfc]
  go_wp2_with fail
  refine (lendSteps A c L _ (HRW.out _ (HA.out.trans C1.out)) HL.out).mono ?_
  rintro e w2 ⟨lg, lcap, rfl, hlo, hC2⟩
  have HLO : Hid (∀ W, Chg (fun _ => False) w2 W → OwnC stcell 7 59 W w1.heap.size (.slice (some ⟨lg, 0, none⟩) (L.length + 2) lcap) (L ++ [mkSteps, mkSteps])) := fun W hW => hlo.keep hW (fun _ _ => id)
  have C2 := Lib.hid hC2; clear hC2 hlo
  go_upto_region 2 with fail
  refine wp_abs (fun W => (∀ W', Chg (fun _ => False) W W' → CfP W' w.heap.size C ⟨.slice A1 C.parts.length k1, .slice A2 C.devs.length k2, .slice A3 C.wins.length k3, .slice A4 C.grants.length k4⟩ ∧ CfP W' w2.heap.size C ⟨.slice B1 C.parts.length l1, .slice B2 C.devs.length l2, .slice B3 C.wins.length l3, .slice B4 C.grants.length l4⟩ ∧ OwnC stcell 7 59 W' w1.heap.size (.slice (some ⟨lg, 0, none⟩) (L.length + 2) lcap) (L ++ [mkSteps, mkSteps]) ∧ RowC W' A (L.flatMap stcell)) ∧ Chg (fun _ => False) w W) ?_ ?_
  · exact ⟨fun W' hW => ⟨HP.out _ (C1.out.trans (C2.out.trans (((Chg.refl _ _).alloc _).trans hW))), CfP.keepN ⟨blk_new w2 _, (HOF.out _ C2.out).keepN ((Chg.refl _ _).alloc _)⟩ hW, HLO.out _ (((Chg.refl _ _).alloc _).trans hW), HRW.out _ (HA.out.trans (C1.out.trans (C2.out.trans (((Chg.refl _ _).alloc _).trans hW))))⟩, (HA.out.trans (C1.out.trans C2.out)).alloc _⟩
  rintro W0 ⟨hh, hw0⟩
  have H2 := Lib.hid hh
  have HW0 := Lib.hid hw0
  have HLD : Hid (∀ W', Chg (fun _ => False) W0 W' → RdS W' (.slice (some ⟨lg, 0, none⟩) L.length lcap) L) := fun W' hW => rdStepsOf (by have := (hh W' hW).2.2.1.take stcell_len (k := L.length) (by simp); simpa using this) HM.out
  have HLE : Hid (∀ W', Chg (fun _ => False) W0 W' → RdS W' (.slice A L.length c) L) := fun W' hW => RdS.ofRow (hh W' hW).2.2.2 HM.out
  clear hh hw0 HOF C1 C2 HP HA HLO HRW HSZ
  generalize w1.heap.size = LB at *
  generalize w2.heap.size = Db at *
  generalize w.heap.size = Cb at *
  obtain ⟨y0, y1, y2, y3, y4, y5, y6, y7, y8⟩ := (H2.out _ (Chg.refl _ _)).1.c9'
  obtain ⟨z0, z1, z2, z3, z4, z5, z6, z7, z8⟩ := (H2.out _ (Chg.refl _ _)).2.1.c9'
  go_wp2_with fail
  refine (vPurge to_ C _ _ L _ (H2.out _ (Chg.refl _ _)).2.1.2 (HLD.out _ (Chg.refl _ _)) HK1.out).mono ?_
  rintro e w3 hpost
  obtain ⟨v, rfl, ho3, k3'⟩ := hpost.any
  rw [EE.out]
  have K3 := Lib.hid k3'
  have HO3 := Lib.hid ho3
  clear k3' hpost ho3 y0 y1 y2 y3 y4 y5 y6 y7 y8 z0 z1 z2 z3 z4 z5 z6 z7 z8
  obtain ⟨y0, y1, y2, y3, y4, y5, y6, y7, y8⟩ := (H2.out _ K3.out).1.c9'
  go_wp2_with fail
  refine (refPurge to_ C _ _ L _ (H2.out _ K3.out).1.2 HB.out.wd (HLE.out _ K3.out) HK1.out).mono ?_
  rintro e w4 hpost
  obtain ⟨v', rfl, ho4, k4'⟩ := hpost.any
  rw [EE.out]
  have HO4 : Hid (OwnC stcell 7 59 w4 W0.heap.size v (purgeR C to_ L)) := HO3.out.keep k4' (fun _ _ => id)
  have HPA : Hid (∀ W, Chg (fun _ => False) w4 W → RdS W v (purgeR C to_ L)) := fun W hW => (rdStepsOf HO4.out HKP.out).keepN hW
  have HPB : Hid (∀ W, Chg (fun _ => False) w4 W → RdS W v' (purgeR C to_ L)) := fun W hW => (rdStepsOf ho4 HKP.out).keepN hW
  have HR0 : Hid (Chg (fun _ => False) W0 w4) := K3.out.trans k4'
  clear k4' hpost ho4 HO3 K3 y0 y1 y2 y3 y4 y5 y6 y7 y8
  go_upto_region 4 with fail
  obtain ⟨W3, hW3⟩ : ∃ W, W = w4 := ⟨_, rfl⟩
  rw [← hW3] at HPA HPB HR0 HO4
  rw [← hW3]
  clear hW3
  refine wp_region_held_drew (S := fun W => Chg (fun _ => False) W3 W) (by kernel_rfl) ((Chg.refl _ _).drew) (fun hHeld => ?_)
  have HR : Hid (Chg (fun _ => False) W3 _) := hHeld
  refine wpAnyH_take (i := 0) (oi := ({ dst := some 33, op := Go.Op.move (Go.Operand.tmp 11), type := 49, pos := "law.go:30", after := #[], guard := none } : Oper)) (v := ?_) rfl (by kernel_rfl) (by kernel_rfl) (by kernel_rfl) (fun _ _ _ h => h) (Or.inl ⟨by rfl, ?_⟩) (by assumption) ?_
  rotate_left
  · (intro w hSw; (try dsimp only at hSw); obtain ⟨y0, y1, y2, y3, y4, y5, y6, y7, y8⟩ := (H2.out _ (HR0.out.trans hSw)).1.c9'; obtain ⟨z0, z1, z2, z3, z4, z5, z6, z7, z8⟩ := (H2.out _ (HR0.out.trans hSw)).2.1.c9';  go_simp; try with_reducible rfl)
  try simp only [Act.put, List.setIfInBounds_toArray, List.set_cons_zero, List.set_cons_succ]
  refine wpAnyH_take (i := 1) (oi := ({ dst := some 34, op := Go.Op.move (Go.Operand.tmp 13), type := 49, pos := "law.go:30", after := #[], guard := none } : Oper)) (v := ?_) rfl (by kernel_rfl) (by kernel_rfl) (by kernel_rfl) (fun _ _ _ h => h) (Or.inl ⟨by rfl, ?_⟩) (by assumption) ?_
  rotate_left
  · (intro w hSw; (try dsimp only at hSw); obtain ⟨y0, y1, y2, y3, y4, y5, y6, y7, y8⟩ := (H2.out _ (HR0.out.trans hSw)).1.c9'; obtain ⟨z0, z1, z2, z3, z4, z5, z6, z7, z8⟩ := (H2.out _ (HR0.out.trans hSw)).2.1.c9';  go_simp; try with_reducible rfl)
  try simp only [Act.put, List.setIfInBounds_toArray, List.set_cons_zero, List.set_cons_succ]
  refine wpAnyH_ready (rs := [2]) (by kernel_rfl) (List.cons_ne_nil _ _) ?_
  refine AllReadyH.cons (o := ({ dst := some 35, op := Go.Op.call { callee := Go.Callee.value (Go.Operand.func 36), args := #[Go.Operand.tmp 33, Go.Operand.tmp 34], argTypes := #[49, 49] }, type := 4, pos := "law.go:30", after := #[{ on := 0, ground := Go.Ground.data }, { on := 1, ground := Go.Ground.data }], guard := none } : Oper)) rfl (fun K hK => ?_) AllReadyH.nil
  refine Eq.mpr (if_pos (by rfl)) ?_
  go_simp
  (go_at_call 36; refine (sameSteps _ _ _ _ (HPA.out _ HR.out) (HPB.out _ HR.out)).mono ?_; rintro e w6 ⟨rfl, k6⟩; replace HR := Lib.hid (HR.out.trans k6); clear k6)
  refine hK.out _ _ (HR.out) (fun hHeld => ?_)
  clear hK K
  try simp only [Act.put, List.setIfInBounds_toArray, List.set_cons_zero, List.set_cons_succ]
  refine wpAnyH_take (i := 3) (oi := ({ dst := some 36, op := Go.Op.unOp Go.UnOp.not 4 (Go.Operand.tmp 35), type := 4, pos := "law.go:30", after := #[{ on := 2, ground := Go.Ground.data }], guard := none } : Oper)) (v := ?_) rfl (by kernel_rfl) (by kernel_rfl) (by kernel_rfl) (fun _ _ _ h => h) (Or.inl ⟨by rfl, ?_⟩) (by assumption) ?_
  rotate_left
  · (intro w hSw; (try dsimp only at hSw); obtain ⟨y0, y1, y2, y3, y4, y5, y6, y7, y8⟩ := (H2.out _ (HR0.out.trans hSw)).1.c9'; obtain ⟨z0, z1, z2, z3, z4, z5, z6, z7, z8⟩ := (H2.out _ (HR0.out.trans hSw)).2.1.c9';  go_simp; try with_reducible rfl)
  try simp only [Act.put, List.setIfInBounds_toArray, List.set_cons_zero, List.set_cons_succ]
  refine wpAnyH_take (i := 4) (oi := ({ dst := some 37, op := Go.Op.move (Go.Operand.tmp 36), type := 4, pos := "law.go:30", after := #[{ on := 3, ground := Go.Ground.data }, { on := 2, ground := Go.Ground.chain }], guard := none } : Oper)) (v := ?_) rfl (by kernel_rfl) (by kernel_rfl) (by kernel_rfl) (fun _ _ _ h => h) (Or.inl ⟨by rfl, ?_⟩) (by assumption) ?_
  rotate_left
  · (intro w hSw; (try dsimp only at hSw); obtain ⟨y0, y1, y2, y3, y4, y5, y6, y7, y8⟩ := (H2.out _ (HR0.out.trans hSw)).1.c9'; obtain ⟨z0, z1, z2, z3, z4, z5, z6, z7, z8⟩ := (H2.out _ (HR0.out.trans hSw)).2.1.c9';  go_simp; try with_reducible rfl)
  try simp only [Act.put, List.setIfInBounds_toArray, List.set_cons_zero, List.set_cons_succ]
  refine wpAnyH_take (i := 5) (oi := ({ dst := some 38, op := Go.Op.move (Go.Operand.tmp 12), type := 46, pos := "law.go:30", after := #[{ on := 4, ground := Go.Ground.guard }], guard := some (4, false) } : Oper)) (v := ?_) rfl (by kernel_rfl) (by kernel_rfl) (by kernel_rfl) (fun _ _ _ h => h) (Or.inl ⟨by rfl, ?_⟩) (by assumption) ?_
  rotate_left
  · (intro w hSw; (try dsimp only at hSw); obtain ⟨y0, y1, y2, y3, y4, y5, y6, y7, y8⟩ := (H2.out _ (HR0.out.trans hSw)).1.c9'; obtain ⟨z0, z1, z2, z3, z4, z5, z6, z7, z8⟩ := (H2.out _ (HR0.out.trans hSw)).2.1.c9';  go_simp; try with_reducible rfl)
  try simp only [Act.put, List.setIfInBounds_toArray, List.set_cons_zero, List.set_cons_succ]
  refine wpAnyH_take (i := 7) (oi := ({ dst := some 40, op := Go.Op.move (Go.Operand.tmp 14), type := 3, pos := "law.go:30", after := #[{ on := 4, ground := Go.Ground.guard }], guard := some (4, false) } : Oper)) (v := ?_) rfl (by kernel_rfl) (by kernel_rfl) (by kernel_rfl) (fun _ _ _ h => h) (Or.inl ⟨by rfl, ?_⟩) (by assumption) ?_
  rotate_left
  · (intro w hSw; (try dsimp only at hSw); obtain ⟨y0, y1, y2, y3, y4, y5, y6, y7, y8⟩ := (H2.out _ (HR0.out.trans hSw)).1.c9'; obtain ⟨z0, z1, z2, z3, z4, z5, z6, z7, z8⟩ := (H2.out _ (HR0.out.trans hSw)).2.1.c9';  go_simp; try with_reducible rfl)
  try simp only [Act.put, List.setIfInBounds_toArray, List.set_cons_zero, List.set_cons_succ]
  refine wpAnyH_ready (rs := [6]) (by kernel_rfl) (List.cons_ne_nil _ _) ?_
  refine AllReadyH.cons (o := ({ dst := some 39, op := Go.Op.call { callee := Go.Callee.value (Go.Operand.func 32), args := #[Go.Operand.tmp 38], argTypes := #[46] }, type := 3, pos := "law.go:30", after := #[{ on := 5, ground := Go.Ground.data }, { on := 4, ground := Go.Ground.chain }, { on := 4, ground := Go.Ground.guard }], guard := some (4, false) } : Oper)) rfl (fun K hK => ?_) AllReadyH.nil
  refine Eq.mpr (if_pos (by rfl)) ?_
  go_simp
  (go_at_call 32; refine (num16 _ _).mono ?_; rintro e w6 ⟨rfl, rfl⟩)
  refine hK.out _ _ (HR.out) (fun hHeld => ?_)
  clear hK K
  try simp only [Act.put, List.setIfInBounds_toArray, List.set_cons_zero, List.set_cons_succ]
  refine wpAnyH_take (i := 8) (oi := ({ dst := some 41, op := Go.Op.binOp Go.BinOp.neq 3 (Go.Operand.tmp 39) (Go.Operand.tmp 40) 3, type := 4, pos := "law.go:30", after := #[{ on := 6, ground := Go.Ground.data }, { on := 7, ground := Go.Ground.data }, { on := 4, ground := Go.Ground.guard }], guard := some (4, false) } : Oper)) (v := ?_) rfl (by kernel_rfl) (by kernel_rfl) (by kernel_rfl) (fun _ _ _ h => h) (Or.inl ⟨by rfl, ?_⟩) (by assumption) ?_
  rotate_left
  · (intro w hSw; (try dsimp only at hSw); obtain ⟨y0, y1, y2, y3, y4, y5, y6, y7, y8⟩ := (H2.out _ (HR0.out.trans hSw)).1.c9'; obtain ⟨z0, z1, z2, z3, z4, z5, z6, z7, z8⟩ := (H2.out _ (HR0.out.trans hSw)).2.1.c9';  go_simp; try with_reducible rfl)
  try simp only [Act.put, List.setIfInBounds_toArray, List.set_cons_zero, List.set_cons_succ]
  refine wpAnyH_take (i := 9) (oi := ({ dst := some 42, op := Go.Op.pick (Go.Operand.tmp 37) (Go.Operand.const (Go.Value.bool true)) (Go.Operand.tmp 41), type := 4, pos := "law.go:30", after := #[{ on := 4, ground := Go.Ground.data }, { on := 8, ground := Go.Ground.data }], guard := none } : Oper)) (v := ?_) rfl (by kernel_rfl) (by kernel_rfl) (by kernel_rfl) (fun _ _ _ h => h) (Or.inl ⟨by rfl, ?_⟩) (by assumption) ?_
  rotate_left
  · (intro w hSw; (try dsimp only at hSw); obtain ⟨y0, y1, y2, y3, y4, y5, y6, y7, y8⟩ := (H2.out _ (HR0.out.trans hSw)).1.c9'; obtain ⟨z0, z1, z2, z3, z4, z5, z6, z7, z8⟩ := (H2.out _ (HR0.out.trans hSw)).2.1.c9';  go_simp; try with_reducible rfl)
  try simp only [Act.put, List.setIfInBounds_toArray, List.set_cons_zero, List.set_cons_succ]
  refine wpAnyH_take (i := 10) (oi := ({ dst := some 43, op := Go.Op.move (Go.Operand.tmp 42), type := 4, pos := "law.go:30", after := #[{ on := 9, ground := Go.Ground.data }, { on := 6, ground := Go.Ground.chain }], guard := none } : Oper)) (v := ?_) rfl (by kernel_rfl) (by kernel_rfl) (by kernel_rfl) (fun _ _ _ h => h) (Or.inl ⟨by rfl, ?_⟩) (by assumption) ?_
  rotate_left
  · (intro w hSw; (try dsimp only at hSw); obtain ⟨y0, y1, y2, y3, y4, y5, y6, y7, y8⟩ := (H2.out _ (HR0.out.trans hSw)).1.c9'; obtain ⟨z0, z1, z2, z3, z4, z5, z6, z7, z8⟩ := (H2.out _ (HR0.out.trans hSw)).2.1.c9';  go_simp; try with_reducible rfl)
  try simp only [Act.put, List.setIfInBounds_toArray, List.set_cons_zero, List.set_cons_succ]
  refine wpAnyH_take (i := 11) (oi := ({ dst := some 44, op := Go.Op.load 27 (Go.Operand.tmp 9), type := 27, pos := "law.go:30", after := #[{ on := 10, ground := Go.Ground.guard }], guard := some (10, false) } : Oper)) (v := ?_) rfl (by kernel_rfl) (by kernel_rfl) (by kernel_rfl) (fun _ _ _ h => h) (Or.inl ⟨by rfl, ?_⟩) (by assumption) ?_
  rotate_left
  · (intro w hSw; (try dsimp only at hSw); obtain ⟨y0, y1, y2, y3, y4, y5, y6, y7, y8⟩ := (H2.out _ (HR0.out.trans hSw)).1.c9'; obtain ⟨z0, z1, z2, z3, z4, z5, z6, z7, z8⟩ := (H2.out _ (HR0.out.trans hSw)).2.1.c9';  go_simp; try with_reducible rfl)
  try simp only [Act.put, List.setIfInBounds_toArray, List.set_cons_zero, List.set_cons_succ]
  refine wpAnyH_take (i := 12) (oi := ({ dst := some 45, op := Go.Op.move (Go.Operand.tmp 2), type := 3, pos := "law.go:30", after := #[{ on := 10, ground := Go.Ground.guard }], guard := some (10, false) } : Oper)) (v := ?_) rfl (by kernel_rfl) (by kernel_rfl) (by kernel_rfl) (fun _ _ _ h => h) (Or.inl ⟨by rfl, ?_⟩) (by assumption) ?_
  rotate_left
  · (intro w hSw; (try dsimp only at hSw); obtain ⟨y0, y1, y2, y3, y4, y5, y6, y7, y8⟩ := (H2.out _ (HR0.out.trans hSw)).1.c9'; obtain ⟨z0, z1, z2, z3, z4, z5, z6, z7, z8⟩ := (H2.out _ (HR0.out.trans hSw)).2.1.c9';  go_simp; try with_reducible rfl)
  try simp only [Act.put, List.setIfInBounds_toArray, List.set_cons_zero, List.set_cons_succ]
  refine wpAnyH_take (i := 13) (oi := ({ dst := some 46, op := Go.Op.move (Go.Operand.tmp 3), type := 3, pos := "law.go:30", after := #[{ on := 10, ground := Go.Ground.guard }], guard := some (10, false) } : Oper)) (v := ?_) rfl (by kernel_rfl) (by kernel_rfl) (by kernel_rfl) (fun _ _ _ h => h) (Or.inl ⟨by rfl, ?_⟩) (by assumption) ?_
  rotate_left
  · (intro w hSw; (try dsimp only at hSw); obtain ⟨y0, y1, y2, y3, y4, y5, y6, y7, y8⟩ := (H2.out _ (HR0.out.trans hSw)).1.c9'; obtain ⟨z0, z1, z2, z3, z4, z5, z6, z7, z8⟩ := (H2.out _ (HR0.out.trans hSw)).2.1.c9';  go_simp; try with_reducible rfl)
  try simp only [Act.put, List.setIfInBounds_toArray, List.set_cons_zero, List.set_cons_succ]
  refine wpAnyH_take (i := 15) (oi := ({ dst := some 48, op := Go.Op.load 27 (Go.Operand.tmp 4), type := 27, pos := "law.go:30", after := #[{ on := 10, ground := Go.Ground.guard }], guard := some (10, false) } : Oper)) (v := ?_) rfl (by kernel_rfl) (by kernel_rfl) (by kernel_rfl) (fun _ _ _ h => h) (Or.inl ⟨by rfl, ?_⟩) (by assumption) ?_
  rotate_left
  · (intro w hSw; (try dsimp only at hSw); obtain ⟨y0, y1, y2, y3, y4, y5, y6, y7, y8⟩ := (H2.out _ (HR0.out.trans hSw)).1.c9'; obtain ⟨z0, z1, z2, z3, z4, z5, z6, z7, z8⟩ := (H2.out _ (HR0.out.trans hSw)).2.1.c9';  go_simp; try with_reducible rfl)
  try simp only [Act.put, List.setIfInBounds_toArray, List.set_cons_zero, List.set_cons_succ]
  refine wpAnyH_take (i := 16) (oi := ({ dst := some 49, op := Go.Op.move (Go.Operand.tmp 2), type := 3, pos := "law.go:30", after := #[{ on := 10, ground := Go.Ground.guard }], guard := some (10, false) } : Oper)) (v := ?_) rfl (by kernel_rfl) (by kernel_rfl) (by kernel_rfl) (fun _ _ _ h => h) (Or.inl ⟨by rfl, ?_⟩) (by assumption) ?_
  rotate_left
  · (intro w hSw; (try dsimp only at hSw); obtain ⟨y0, y1, y2, y3, y4, y5, y6, y7, y8⟩ := (H2.out _ (HR0.out.trans hSw)).1.c9'; obtain ⟨z0, z1, z2, z3, z4, z5, z6, z7, z8⟩ := (H2.out _ (HR0.out.trans hSw)).2.1.c9';  go_simp; try with_reducible rfl)
  try simp only [Act.put, List.setIfInBounds_toArray, List.set_cons_zero, List.set_cons_succ]
  refine wpAnyH_take (i := 17) (oi := ({ dst := some 50, op := Go.Op.move (Go.Operand.tmp 3), type := 3, pos := "law.go:30", after := #[{ on := 10, ground := Go.Ground.guard }], guard := some (10, false) } : Oper)) (v := ?_) rfl (by kernel_rfl) (by kernel_rfl) (by kernel_rfl) (fun _ _ _ h => h) (Or.inl ⟨by rfl, ?_⟩) (by assumption) ?_
  rotate_left
  · (intro w hSw; (try dsimp only at hSw); obtain ⟨y0, y1, y2, y3, y4, y5, y6, y7, y8⟩ := (H2.out _ (HR0.out.trans hSw)).1.c9'; obtain ⟨z0, z1, z2, z3, z4, z5, z6, z7, z8⟩ := (H2.out _ (HR0.out.trans hSw)).2.1.c9';  go_simp; try with_reducible rfl)
  try simp only [Act.put, List.setIfInBounds_toArray, List.set_cons_zero, List.set_cons_succ]
  refine wpAnyH_ready (rs := [14]) (by kernel_rfl) (List.cons_ne_nil _ _) ?_
  refine AllReadyH.cons (o := ({ dst := some 47, op := Go.Op.call { callee := Go.Callee.value (Go.Operand.func 37), args := #[Go.Operand.tmp 44, Go.Operand.tmp 45, Go.Operand.tmp 46], argTypes := #[27, 3, 3] }, type := 4, pos := "law.go:30", after := #[{ on := 11, ground := Go.Ground.data }, { on := 12, ground := Go.Ground.data }, { on := 13, ground := Go.Ground.data }, { on := 10, ground := Go.Ground.chain }, { on := 10, ground := Go.Ground.guard }], guard := some (10, false) } : Oper)) rfl (fun K hK => ?_) AllReadyH.nil
  refine Eq.mpr (if_pos (by rfl)) ?_
  go_simp
  (go_at_call 37; refine (vFlows fr to_ C _ _ (H2.out _ (HR0.out.trans HR.out)).2.1.2).mono ?_; rintro e w6 ⟨rfl, k6⟩; replace HR := Lib.hid (HR.out.trans k6); clear k6; rw [EF.out])
  refine hK.out _ _ (HR.out) (fun hHeld => ?_)
  clear hK K
  try simp only [Act.put, List.setIfInBounds_toArray, List.set_cons_zero, List.set_cons_succ]
  refine wpAnyH_ready (rs := [18]) (by kernel_rfl) (List.cons_ne_nil _ _) ?_
  refine AllReadyH.cons (o := ({ dst := some 51, op := Go.Op.call { callee := Go.Callee.value (Go.Operand.func 38), args := #[Go.Operand.tmp 48, Go.Operand.tmp 49, Go.Operand.tmp 50], argTypes := #[27, 3, 3] }, type := 4, pos := "law.go:30", after := #[{ on := 15, ground := Go.Ground.data }, { on := 16, ground := Go.Ground.data }, { on := 17, ground := Go.Ground.data }, { on := 14, ground := Go.Ground.chain }, { on := 10, ground := Go.Ground.guard }], guard := some (10, false) } : Oper)) rfl (fun K hK => ?_) AllReadyH.nil
  refine Eq.mpr (if_pos (by rfl)) ?_
  go_simp
  (go_at_call 38; refine (refFlows fr to_ C _ _ (H2.out _ (HR0.out.trans HR.out)).1.2 HB.out.wd).mono ?_; rintro e w6 ⟨rfl, k6⟩; replace HR := Lib.hid (HR.out.trans k6); clear k6; rw [EF.out])
  refine hK.out _ _ (HR.out) (fun hHeld => ?_)
  clear hK K
  try simp only [Act.put, List.setIfInBounds_toArray, List.set_cons_zero, List.set_cons_succ]
  refine wpAnyH_take (i := 19) (oi := ({ dst := some 52, op := Go.Op.binOp Go.BinOp.neq 4 (Go.Operand.tmp 47) (Go.Operand.tmp 51) 4, type := 4, pos := "law.go:30", after := #[{ on := 14, ground := Go.Ground.data }, { on := 18, ground := Go.Ground.data }, { on := 10, ground := Go.Ground.guard }], guard := some (10, false) } : Oper)) (v := ?_) rfl (by kernel_rfl) (by kernel_rfl) (by kernel_rfl) (fun _ _ _ h => h) (Or.inl ⟨by rfl, ?_⟩) (by assumption) ?_
  rotate_left
  · (intro w hSw; (try dsimp only at hSw); obtain ⟨y0, y1, y2, y3, y4, y5, y6, y7, y8⟩ := (H2.out _ (HR0.out.trans hSw)).1.c9'; obtain ⟨z0, z1, z2, z3, z4, z5, z6, z7, z8⟩ := (H2.out _ (HR0.out.trans hSw)).2.1.c9';  go_simp; try with_reducible rfl)
  try simp only [Act.put, List.setIfInBounds_toArray, List.set_cons_zero, List.set_cons_succ]
  refine wpAnyH_take (i := 20) (oi := ({ dst := some 53, op := Go.Op.pick (Go.Operand.tmp 43) (Go.Operand.const (Go.Value.bool true)) (Go.Operand.tmp 52), type := 4, pos := "law.go:30", after := #[{ on := 10, ground := Go.Ground.data }, { on := 19, ground := Go.Ground.data }], guard := none } : Oper)) (v := ?_) rfl (by kernel_rfl) (by kernel_rfl) (by kernel_rfl) (fun _ _ _ h => h) (Or.inl ⟨by rfl, ?_⟩) (by assumption) ?_
  rotate_left
  · (intro w hSw; (try dsimp only at hSw); obtain ⟨y0, y1, y2, y3, y4, y5, y6, y7, y8⟩ := (H2.out _ (HR0.out.trans hSw)).1.c9'; obtain ⟨z0, z1, z2, z3, z4, z5, z6, z7, z8⟩ := (H2.out _ (HR0.out.trans hSw)).2.1.c9';  go_simp; try with_reducible rfl)
  try simp only [Act.put, List.setIfInBounds_toArray, List.set_cons_zero, List.set_cons_succ]
  refine wpAnyH_done (by kernel_rfl) ?_ _
  have HO5 : Hid (OwnC stcell 7 59 _ W0.heap.size v (purgeR C to_ L)) := HO4.out.keep HR.out (fun _ _ => id)
  go_wp2_with fail
  refine (spoilSteps _ v (purgeR C to_ L) _ HO5.out (by have := HKP.out; unfold maxLen at this; omega)).mono ?_
  rintro e w8 ⟨rfl, k8⟩
  have HR8 : Hid (Chg (fun _ => False) W0 w8) := (HR0.out.trans HR.out).trans' k8 (fun k hk e => by have := (own_lt HO5.out e.symm).1; omega)
  clear k8 HR HO5 HO4 HPA HPB HR0
  obtain ⟨y0, y1, y2, y3, y4, y5, y6, y7, y8⟩ := (H2.out _ HR8.out).1.c9'
  obtain ⟨z0, z1, z2, z3, z4, z5, z6, z7, z8⟩ := (H2.out _ HR8.out).2.1.c9'
  go_wp2_with fail
  refine (sameConfig C _ _ _ (H2.out _ HR8.out).2.1.2 (H2.out _ HR8.out).1.2).mono ?_
  rintro e w9 ⟨rfl, k9⟩
  have HR9 := Lib.hid (HR8.out.trans k9)
  clear k9 HR8 y0 y1 y2 y3 y4 y5 y6 y7 y8 z0 z1 z2 z3 z4 z5 z6 z7 z8
  go_wp2_with fail
  refine (keptSteps A c LB lg lcap L _ (H2.out _ HR9.out).2.2.2 (H2.out _ HR9.out).2.2.1 HL.out).mono ?_
  rintro e w10 ⟨rfl, k10⟩
  have HR10 := Lib.hid (HR9.out.trans k10)
  clear k10 HR9
  go_wp2_with fail
  refine (awake23 _).mono ?_
  rintro e w11 ⟨rfl, k11⟩
  have HR11 := Lib.hid (HR10.out.trans k11)
  clear k11 HR10
  go_wp2_with fail
  go_ret
  exact ⟨rfl, HW0.out.trans HR11.out⟩
theorem bytesStep : Try.prog.bytesOf 59 = 64 := by kernel_rfl
theorem views_walk (w : World) (C : Cf) (s : Vs) (h : s.R w C) (hb : CfB C) (A : Option Addr) (c : Nat) (L : List St) (hm : L.length ≤ maxLen) (hl : L.length * Try.prog.bytesOf 59 ≤ reachBytes) (hr : RowC w A (L.flatMap stcell)) (_ : ∀ x ∈ L, x.data.size ≤ maxLen) (fr to_ : Int) :
    Calls Try.prog 8 #[.agg (cfc C s), .slice A L.length c, .int .i64 fr, .int .i64 to_] w fun e w' => e = .returned (.bool true) ∧ Below w.heap.size w w' :=
  (views_c C s A c L fr to_ w h hb hm (by rw [bytesStep] at hl; exact hl) hr).mono fun e w' ⟨h1, h2⟩ => ⟨h1, h2.below (Nat.le_refl _) (fun _ h => h.elim)⟩
end Go.Proofs.Ytncbcjjdnlmjbaa
