/- The law PurgeParts: the walk. Printed by mkpparts.py. -/
import Derived.Test.YtncbcjjdnlmjbaaPurgLaw
import Derived.Test.YtncbcjjdnlmjbaaFlowOrder
set_option linter.unusedSimpArgs false
set_option linter.unusedVariables false
namespace Go.Proofs.Ytncbcjjdnlmjbaa
open Go.RowKit

theorem run_cut_any {P : Program} (t e : TypeId) (ht : P.underlying t = some (.slice e)) (i : TypeInfo) (hi : P.info? e = some i) (A : Option Addr) (len cap n : Nat) (hn : n ≤ cap) (W : World) :
    (Instr.slice t (.slice A len cap) none (some (.int .i64 n)) none).run P W = .ok (.slice A n cap) W := by
  have ht' : P.underlying t = some (.slice (P.elem t)) := by simp [Program.elem, ht]
  have he : P.elem t = e := by simp [Program.elem, ht]
  rw [run_slice_h W t _ _ _ ht' .i64 _ (by omega) (by omega), he]
  have hz : (sizeOf e).run P W = .ok i.size W := by simp [sizeOf, typeInfo, hi]
  rw [hz]
  simp only [Result.andThen, sliced, Nat.zero_mul, Int.toNat_natCast, Nat.sub_zero]
  congr 2
  cases A <;> (split <;> simp [Addr.add])
theorem RdS.take {w : World} {A : Option Addr} {n c : Nat} {L : List St} (h : RdS w (.slice A n c) L) {k : Nat} (hk : k ≤ L.length) : RdS w (.slice A k c) (L.take k) := by
  obtain ⟨hm, A', c', e, h⟩ := h
  injection e with e1 e2 e3
  subst e1 e3
  have hl : (L.take k).length = k := by simp; omega
  refine ⟨by rw [hl]; omega, A, c, by rw [hl], fun j hj => ?_⟩
  rw [hl] at hj
  obtain ⟨g, o, rfl, h0⟩ := h j (by omega)
  exact ⟨g, o, rfl, fun i hi => by rw [List.getElem_take]; exact h0 i hi⟩
theorem OwnC.capLe {α : Type} {cells : α → List Value} {C e : Nat} {w : World} {base : Nat} {L : List α} {A : Option Addr} {n c : Nat} (h : OwnC cells C e w base (.slice A n c) L) : n ≤ c := by
  rcases h.2 with ⟨hv, _⟩ | ⟨g, cap, cur, hv, _, _, h1, _⟩
  · injection hv with _ e1 e2; omega
  · injection hv with _ e1 e2; omega
set_option maxRecDepth 100000 in
set_option maxHeartbeats 8000000 in
theorem purgeParts_c (C : Cf) (s : Vs) (A : Option Addr) (c : Nat) (L : List St) (p cut : Int) (w : World) (h : s.R w C) (hm : L.length ≤ maxLen) (hl : L.length * 64 ≤ 140737488351232) (hr : RowC w A (L.flatMap stcell)) (hcap : L.length ≤ c) :
    Calls Try.prog 14 #[.agg (cfc C s), .slice A L.length c, .int .i64 p, .int .i64 cut] w fun e w' => e = .returned (.bool true) ∧ Chg (fun _ => False) w w' := by
  have HA := Lib.hid ((Chg.refl (fun _ => False) w).alloc (.cells (cfc C s) 27))
  have HP : Hid (∀ W, Chg (fun _ => False) (w.alloc (.cells (cfc C s) 27)) W → CfP W w.heap.size C s) := byVal h
  have HS : Hid (∀ W, Chg (fun _ => False) (w.alloc (.cells (cfc C s) 27)) W → RdS W (.slice A L.length c) L) := fun W hW => (RdS.ofRow hr hm).keepN (((Chg.refl (fun _ => False) w).alloc _).trans hW)
  have HM := Lib.hid hm
  have HL1 : Hid (L.length * 64 ≤ 140737488355328) := by unfold Hid; omega
  have l0 : (L.length : Int) + 1 ≤ 9223372036854775807 := by omega
  have ux := uidxL cut (L.length + 1) (by omega) l0
  have hu : IntKind.u64.wrap ((L.length : Int) + 1) = (L.length : Int) + 1 := u64_same (by omega) l0
  have hne : ((L.length : Int) + 1 == 0) = false := by simp; omega
  obtain ⟨i0, ii, _⟩ := info_parts Try.infoStep
  clear h hr hm hl
  obtain ⟨A1, k1, A2, k2, A3, k3, A4, k4, rfl, m1, m2, m3, m4⟩ := (HP.out _ (Chg.refl _ _)).open
  unfold cfc at *
  go_enter Try.func14, Try.ntmps14
  go_upto_region 1 with fail
  generalize (w.alloc (.cells #[.int .i64 C.frames, .slice A1 C.parts.length k1, .slice A2 C.devs.length k2, .int .i64 C.major, .slice A3 C.wins.length k3, .slice A4 C.grants.length k4, .int .i64 C.sectors, .int .i64 C.quota, .int .i64 C.quiet] 27)) = W0 at *
  generalize w.heap.size = B at *
  go_wp2_with fail
  refine (awake23 _).mono ?_
  rintro e w1 ⟨rfl, k1'⟩
  have HR := Lib.hid k1'; clear k1'
  obtain ⟨y0, y1, y2, y3, y4, y5, y6, y7, y8⟩ := (HP.out _ HR.out).c9'
  go_wp2_with fail
  refine (vPurge p C _ _ L _ (HP.out _ HR.out).2 (HS.out _ HR.out) HL1.out).mono ?_
  rintro e w2 hpost
  have hpo := hpost.any
  obtain ⟨v, rfl, ho, k2'⟩ := hpo
  clear hpost y0 y1 y2 y3 y4 y5 y6 y7 y8
  replace HR := Lib.hid (HR.out.trans k2'); clear k2'
  obtain ⟨cE, hE⟩ : ∃ x, purgeE C p = x := ⟨_, rfl⟩
  have EE := Lib.hid hE
  rw [hE]
  clear hE
  have hrl := purgeR_len C p L
  have hvl : (purgeR C p L).length ≤ maxLen := Nat.le_trans hrl HM.out
  have HRA : Hid (∀ W, Chg (fun _ => False) w2 W → RdS W v (purgeR C p L)) := fun W hW => (rdStepsOf ho hvl).keepN hW
  obtain ⟨AA, ac, rfl⟩ := ho.slice
  have HCL := Lib.hid (ho.capLe)
  have HR2 := Lib.hid (Chg.refl (fun _ => False) w2)
  have HVL := Lib.hid hvl
  clear ho hrl hvl
  obtain ⟨y0, y1, y2, y3, y4, y5, y6, y7, y8⟩ := (HP.out _ HR.out).c9'
  go_upto_region 5 with fail
  generalize wrap64 ((IntKind.u64.wrap cut).tmod ((L.length : Int) + 1)) = K at *
  obtain ⟨kn, rfl⟩ := Int.eq_ofNat_of_zero_le ux.1
  have hkn : kn ≤ L.length := by have := ux.2; omega
  have hcut := fun W => run_cut_any (P := Try.prog) 49 59 Try.underlying49 i0 ii A L.length c kn (by omega) W
  have HKN := Lib.hid hkn
  have kk0 : (0 : Int) ≤ kn := by omega
  have kk1 : (kn : Int) ≤ L.length := by omega
  have kk2 : (kn : Int) ≤ c := by omega
  clear hu hne ux hkn
  clear y0 y1 y2 y3 y4 y5 y6 y7 y8
  refine wp_region_held_drew (S := fun W => Chg (fun _ => False) w2 W) (by kernel_rfl) ((Chg.refl _ _).drew) (fun hHeld => ?_)
  replace HR2 : Hid (Chg (fun _ => False) w2 _) := hHeld
  refine wpAnyH_take (i := 0) (oi := ({ dst := some 32, op := Go.Op.load 27 (Go.Operand.tmp 4), type := 27, pos := "deep.go:17", after := #[], guard := none } : Oper)) (v := ?_) rfl (by kernel_rfl) (by kernel_rfl) (by kernel_rfl) (fun _ _ _ h => h) (Or.inl ⟨by rfl, ?_⟩) (by assumption) ?_
  rotate_left
  · (intro w hSw; (try dsimp only at hSw); obtain ⟨y0, y1, y2, y3, y4, y5, y6, y7, y8⟩ := (HP.out _ (HR.out.trans hSw)).c9';  go_simp; try with_reducible rfl)
  try simp only [Act.put, List.setIfInBounds_toArray, List.set_cons_zero, List.set_cons_succ]
  refine wpAnyH_take (i := 1) (oi := ({ dst := some 33, op := Go.Op.move (Go.Operand.tmp 1), type := 49, pos := "deep.go:17", after := #[], guard := none } : Oper)) (v := ?_) rfl (by kernel_rfl) (by kernel_rfl) (by kernel_rfl) (fun _ _ _ h => h) (Or.inl ⟨by rfl, ?_⟩) (by assumption) ?_
  rotate_left
  · (intro w hSw; (try dsimp only at hSw); obtain ⟨y0, y1, y2, y3, y4, y5, y6, y7, y8⟩ := (HP.out _ (HR.out.trans hSw)).c9';  go_simp; try with_reducible rfl)
  try simp only [Act.put, List.setIfInBounds_toArray, List.set_cons_zero, List.set_cons_succ]
  refine wpAnyH_take (i := 2) (oi := ({ dst := some 34, op := Go.Op.move (Go.Operand.tmp 11), type := 3, pos := "deep.go:17", after := #[], guard := none } : Oper)) (v := ?_) rfl (by kernel_rfl) (by kernel_rfl) (by kernel_rfl) (fun _ _ _ h => h) (Or.inl ⟨by rfl, ?_⟩) (by assumption) ?_
  rotate_left
  · (intro w hSw; (try dsimp only at hSw); obtain ⟨y0, y1, y2, y3, y4, y5, y6, y7, y8⟩ := (HP.out _ (HR.out.trans hSw)).c9';  go_simp; try with_reducible rfl)
  try simp only [Act.put, List.setIfInBounds_toArray, List.set_cons_zero, List.set_cons_succ]
  refine wpAnyH_take (i := 3) (oi := ({ dst := some 35, op := Go.Op.slice 49 (Go.Operand.tmp 33) none (some (Go.Operand.tmp 34)) none, type := 49, pos := "deep.go:17", after := #[{ on := 1, ground := Go.Ground.data }, { on := 2, ground := Go.Ground.data }], guard := none } : Oper)) (v := ?_) rfl (by kernel_rfl) (by kernel_rfl) (by kernel_rfl) (fun _ _ _ h => h) (Or.inl ⟨by rfl, ?_⟩) (by assumption) ?_
  rotate_left
  · (intro w hSw; (try dsimp only at hSw); obtain ⟨y0, y1, y2, y3, y4, y5, y6, y7, y8⟩ := (HP.out _ (HR.out.trans hSw)).c9';  go_simp; try with_reducible rfl)
  try simp only [Act.put, List.setIfInBounds_toArray, List.set_cons_zero, List.set_cons_succ]
  refine wpAnyH_take (i := 4) (oi := ({ dst := some 36, op := Go.Op.move (Go.Operand.tmp 2), type := 3, pos := "deep.go:17", after := #[], guard := none } : Oper)) (v := ?_) rfl (by kernel_rfl) (by kernel_rfl) (by kernel_rfl) (fun _ _ _ h => h) (Or.inl ⟨by rfl, ?_⟩) (by assumption) ?_
  rotate_left
  · (intro w hSw; (try dsimp only at hSw); obtain ⟨y0, y1, y2, y3, y4, y5, y6, y7, y8⟩ := (HP.out _ (HR.out.trans hSw)).c9';  go_simp; try with_reducible rfl)
  try simp only [Act.put, List.setIfInBounds_toArray, List.set_cons_zero, List.set_cons_succ]
  refine wpAnyH_ready (rs := [5]) (by kernel_rfl) (List.cons_ne_nil _ _) ?_
  refine AllReadyH.cons (o := ({ dst := some 37, op := Go.Op.call { callee := Go.Callee.value (Go.Operand.func 34), args := #[Go.Operand.tmp 32, Go.Operand.tmp 35, Go.Operand.tmp 36], argTypes := #[27, 49, 3] }, type := 51, pos := "deep.go:17", after := #[{ on := 0, ground := Go.Ground.data }, { on := 3, ground := Go.Ground.data }, { on := 4, ground := Go.Ground.data }], guard := none } : Oper)) rfl (fun K hK => ?_) AllReadyH.nil
  refine Eq.mpr (if_pos (by rfl)) ?_
  go_simp
  (go_at_call 34; refine (vPurge p C _ _ (L.take kn) _ (HP.out _ (HR.out.trans HR2.out)).2 ((HS.out _ (HR.out.trans HR2.out)).take HKN.out) (by have := HL1.out; have := HKN.out; rw [List.length_take]; omega)).mono ?_; rintro e w3 hpost; obtain ⟨v, rfl, ho, k3'⟩ := hpost.any; rw [EE.out])
  refine hK.out _ _ (HR2.out.trans k3') (fun hHeld => ?_)
  clear hK K
  try simp only [Act.put, List.setIfInBounds_toArray, List.set_cons_zero, List.set_cons_succ]
  refine wpAnyH_take (i := 6) (oi := ({ dst := some 31, op := Go.Op.move (Go.Operand.tmp 37), type := 51, pos := "deep.go:17", after := #[{ on := 5, ground := Go.Ground.data }], guard := none } : Oper)) (v := ?_) rfl (by kernel_rfl) (by kernel_rfl) (by kernel_rfl) (fun _ _ _ h => h) (Or.inl ⟨by rfl, ?_⟩) (by assumption) ?_
  rotate_left
  · (intro w hSw; (try dsimp only at hSw); obtain ⟨y0, y1, y2, y3, y4, y5, y6, y7, y8⟩ := (HP.out _ (HR.out.trans hSw)).c9';  go_simp; try with_reducible rfl)
  try simp only [Act.put, List.setIfInBounds_toArray, List.set_cons_zero, List.set_cons_succ]
  refine wpAnyH_take (i := 7) (oi := ({ dst := some 38, op := Go.Op.extract (Go.Operand.tmp 31) 0, type := 49, pos := "deep.go:17", after := #[{ on := 6, ground := Go.Ground.data }], guard := none } : Oper)) (v := ?_) rfl (by kernel_rfl) (by kernel_rfl) (by kernel_rfl) (fun _ _ _ h => h) (Or.inl ⟨by rfl, ?_⟩) (by assumption) ?_
  rotate_left
  · (intro w hSw; (try dsimp only at hSw); obtain ⟨y0, y1, y2, y3, y4, y5, y6, y7, y8⟩ := (HP.out _ (HR.out.trans hSw)).c9';  go_simp; try with_reducible rfl)
  try simp only [Act.put, List.setIfInBounds_toArray, List.set_cons_zero, List.set_cons_succ]
  refine wpAnyH_take (i := 8) (oi := ({ dst := some 39, op := Go.Op.extract (Go.Operand.tmp 31) 1, type := 46, pos := "deep.go:17", after := #[{ on := 6, ground := Go.Ground.data }, { on := 9, ground := Go.Ground.gcOnly Go.Departure.lateStores }], guard := none } : Oper)) (v := ?_) rfl (by kernel_rfl) (by kernel_rfl) (by kernel_rfl) (fun _ _ _ h => h) (Or.inl ⟨by rfl, ?_⟩) (by assumption) ?_
  rotate_left
  · (intro w hSw; (try dsimp only at hSw); obtain ⟨y0, y1, y2, y3, y4, y5, y6, y7, y8⟩ := (HP.out _ (HR.out.trans hSw)).c9';  go_simp; try with_reducible rfl)
  try simp only [Act.put, List.setIfInBounds_toArray, List.set_cons_zero, List.set_cons_succ]
  refine wpAnyH_take (i := 9) (oi := ({ dst := some 12, op := Go.Op.assign (Go.Operand.tmp 38), type := 49, pos := "deep.go:17", after := #[{ on := 7, ground := Go.Ground.data }, { on := 5, ground := Go.Ground.chain }, { on := 0, ground := Go.Ground.phase }, { on := 1, ground := Go.Ground.phase }, { on := 2, ground := Go.Ground.phase }, { on := 3, ground := Go.Ground.phase }, { on := 4, ground := Go.Ground.phase }, { on := 5, ground := Go.Ground.phase }, { on := 6, ground := Go.Ground.phase }, { on := 7, ground := Go.Ground.phase }, { on := 8, ground := Go.Ground.textOnly Go.Departure.lateStores }], guard := none } : Oper)) (v := ?_) rfl (by kernel_rfl) (by kernel_rfl) (by kernel_rfl) (fun _ _ _ h => h) (Or.inl ⟨by rfl, ?_⟩) (by assumption) ?_
  rotate_left
  · (intro w hSw; (try dsimp only at hSw); obtain ⟨y0, y1, y2, y3, y4, y5, y6, y7, y8⟩ := (HP.out _ (HR.out.trans hSw)).c9';  go_simp; try with_reducible rfl)
  try simp only [Act.put, List.setIfInBounds_toArray, List.set_cons_zero, List.set_cons_succ]
  refine wpAnyH_take (i := 10) (oi := ({ dst := some 13, op := Go.Op.assign (Go.Operand.tmp 39), type := 46, pos := "deep.go:17", after := #[{ on := 8, ground := Go.Ground.data }, { on := 9, ground := Go.Ground.chain }, { on := 0, ground := Go.Ground.phase }, { on := 1, ground := Go.Ground.phase }, { on := 2, ground := Go.Ground.phase }, { on := 3, ground := Go.Ground.phase }, { on := 4, ground := Go.Ground.phase }, { on := 5, ground := Go.Ground.phase }, { on := 6, ground := Go.Ground.phase }, { on := 7, ground := Go.Ground.phase }, { on := 8, ground := Go.Ground.phase }, { on := 9, ground := Go.Ground.phase }], guard := none } : Oper)) (v := ?_) rfl (by kernel_rfl) (by kernel_rfl) (by kernel_rfl) (fun _ _ _ h => h) (Or.inl ⟨by rfl, ?_⟩) (by assumption) ?_
  rotate_left
  · (intro w hSw; (try dsimp only at hSw); obtain ⟨y0, y1, y2, y3, y4, y5, y6, y7, y8⟩ := (HP.out _ (HR.out.trans hSw)).c9';  go_simp; try with_reducible rfl)
  try simp only [Act.put, List.setIfInBounds_toArray, List.set_cons_zero, List.set_cons_succ]
  refine wpAnyH_done (by kernel_rfl) ?_ _
  clear hpost hcut
  have HRB : Hid (∀ W, Chg (fun _ => False) w3 W → RdS W v (purgeR C p (L.take kn))) := fun W hW => (rdStepsOf ho (Nat.le_trans (purgeR_len C p (L.take kn)) (by have := HM.out; have := HKN.out; rw [List.length_take]; omega))).keepN hW
  obtain ⟨AB, bc, rfl⟩ := ho.slice
  have HR3 := Lib.hid (Chg.refl (fun _ => False) w3)
  replace HR2 := Lib.hid (HR2.out.trans k3')
  replace HR := Lib.hid (HR.out.trans HR2.out)
  clear k3' ho
  go_wp2_with fail
  refine (num16 _ _).mono ?_
  rintro e x9 ⟨rfl, rfl⟩
  go_wp2_with fail
  refine (num16 _ _).mono ?_
  rintro e x9 ⟨rfl, rfl⟩
  by_cases hmp : MayP C ∧ C.there p
  · have e0 : cE = 0 := by rw [← EE.out]; unfold purgeE; rw [if_pos hmp]
    subst e0
    have e1 : (purgeR C p L).length = L.length := by unfold purgeR; rw [if_pos hmp]; exact purgeC_len _ _ _
    have e2 : (purgeR C p (L.take kn)).length = kn := by unfold purgeR; rw [if_pos hmp, purgeC_len]; have := HKN.out; simp; omega
    have e3 : (purgeR C p L).take kn = purgeR C p (L.take kn) := by unfold purgeR; rw [if_pos hmp, if_pos hmp, purgeC_take]
    rw [e1] at HRA HCL ⊢
    rw [e2] at HRB ⊢
    have HRA2 : Hid (∀ W, Chg (fun _ => False) w2 W → RdS W (.slice AA kn ac) (purgeR C p (L.take kn))) := fun W hW => by rw [← e3]; exact (HRA.out W hW).take (by rw [e1]; exact HKN.out)
    have hca := HCL.out
    have hcut := fun W => run_cut_any (P := Try.prog) 49 59 Try.underlying49 i0 ii AA L.length ac kn (by have := HKN.out; omega) W
    have kk3 : (kn : Int) ≤ ac := by omega
    clear e1 e2 e3 hmp hca
    go_wp2_with fail
    refine (num16 _ _).mono ?_
    rintro e x9 ⟨rfl, rfl⟩
    go_wp2_with fail
    refine (sameSteps _ _ (purgeR C p (L.take kn)) _ (HRA2.out _ HR2.out) (HRB.out _ HR3.out)).mono ?_
    rintro e w4 ⟨rfl, k4'⟩
    replace HR := Lib.hid (HR.out.trans k4')
    clear k4' hcut
    go_wp2_with fail
    go_ret
    exact ⟨rfl, HA.out.trans HR.out⟩
  · have e0 : cE = 2300 := by rw [← EE.out]; unfold purgeE; rw [if_neg hmp]
    subst e0
    have e1 : (purgeR C p L).length = 0 := by unfold purgeR; rw [if_neg hmp]; rfl
    have e2 : (purgeR C p (L.take kn)).length = 0 := by unfold purgeR; rw [if_neg hmp]; rfl
    rw [e1, e2]
    clear e1 e2 hmp
    go_wp2_with fail
    refine (num16 _ _).mono ?_
    rintro e x9 ⟨rfl, rfl⟩
    go_wp2_with fail
    go_ret
    exact ⟨rfl, HA.out.trans HR.out⟩
theorem purgeParts_walk (w : World) (C : Cf) (s : Vs) (h : s.R w C) (_ : True) (A : Option Addr) (c : Nat) (L : List St) (hm : L.length ≤ maxLen) (hl : L.length * Try.prog.bytesOf 59 ≤ reachBytes) (hr : RowC w A (L.flatMap stcell)) (_ : ∀ x ∈ L, x.data.size ≤ maxLen) (hc : L.length ≤ c) (p cut : Int) :
    Calls Try.prog 14 #[.agg (cfc C s), .slice A L.length c, .int .i64 p, .int .i64 cut] w fun e w' => e = .returned (.bool true) ∧ Below w.heap.size w w' :=
  (purgeParts_c C s A c L p cut w h hm (by rw [bytesStep] at hl; exact hl) hr hc).mono fun e w' ⟨h1, h2⟩ => ⟨h1, h2.below (Nat.le_refl _) (fun _ h => h.elim)⟩
end Go.Proofs.Ytncbcjjdnlmjbaa
