/- A purge: the walk. Printed by mkpurg4.py. -/
import Derived.Test.YtncbcjjdnlmjbaaLendS
set_option linter.unusedSimpArgs false
set_option linter.unusedVariables false
namespace Go.Proofs.Ytncbcjjdnlmjbaa
open Go.RowKit

theorem OwnC.baseLe' {α : Type} {cells : α → List Value} {C e : Nat} {w : World} {base base' : Nat} {v : Value} {L : List α} (h : OwnC cells C e w base v L) (hb : base' ≤ base) : OwnC cells C e w base' v L :=
  ⟨h.1, h.2.imp id (fun ⟨g, cap, cur, hv, hg, r⟩ => ⟨g, cap, cur, hv, Nat.le_trans hb hg, r⟩)⟩
theorem PurAt.ta {w : World} {base b a r : Nat} {v : Value} {F : List Bool} {q np : Int} {A : AL} {tk : Int} (h : PurAt w base b a r v F q np A tk) : ∃ cs, w.heap[a]? = some (.cells cs 180 (0, 0)) := by
  obtain ⟨cap, h1, _⟩ := h.2.2; exact ⟨_, h1⟩
theorem PurAt.tr {w : World} {base b a r : Nat} {v : Value} {F : List Bool} {q np : Int} {A : AL} {tk : Int} (h : PurAt w base b a r v F q np A tk) : ∃ cs, w.heap[r]? = some (.cells cs 182 (0, 0)) := by
  obtain ⟨cap, _, h2⟩ := h.2.2
  rcases h2.2 with ⟨hv, _⟩ | ⟨g, cap', cur, hv, _, hg, _⟩
  · cases hv
  · injection hv with e1; injection e1 with e1; injection e1 with e1
    subst e1; exact ⟨_, hg⟩
theorem PurAt.far {w w' : World} {base b a r : Nat} {v : Value} {F : List Bool} {q np : Int} {A : AL} {tk : Int} (h : PurAt w base b a r v F q np A tk) {base2 : Nat} {vo : Value} {PP : List St} (ho : OwnC stcell 7 59 w base2 vo PP) (hC : Chg (fun k => k = b ∨ k = r) w w') : OwnC stcell 7 59 w' base2 vo PP := by
  obtain ⟨cs, hr⟩ := h.tr
  refine ho.keep hC (fun k hk e => ?_)
  rcases e with rfl | rfl
  · exact own_ne ho h.1 (by decide) hk
  · exact own_ne ho hr (by decide) hk
theorem PurAt.row {w w' : World} {base b a r : Nat} {v : Value} {F : List Bool} {q np : Int} {A : AL} {tk : Int} (h : PurAt w base b a r v F q np A tk) {base2 : Nat} {vo : Value} {PP : List St} (ho : OwnC stcell 7 59 w base2 vo PP) (hC : Chg (fun k => some k = vo.ownBlock) w w') : PurAt w' base b a r v F q np A tk := by
  obtain ⟨cs, hr⟩ := h.tr
  obtain ⟨ca, ha⟩ := h.ta
  refine ⟨hC.at h.1 (fun e => own_ne ho h.1 (by decide) e.symm), h.2.1.keep hC (fun k hk e => ?_), h.2.2.keep hC (fun e => own_ne ho ha (by decide) e.symm) (fun e => own_ne ho hr (by decide) e.symm)⟩
  rcases h.2.1.2 with ⟨hv, _⟩ | ⟨g, cap', cur, hv, _, hg, _⟩
  · rw [hv] at hk; cases hk
  · rw [hv] at hk; simp only [Value.ownBlock, Option.some.injEq] at hk; subst hk
    exact own_ne ho hg (by decide) e.symm
theorem PurAt.farT {w w' : World} {base b a r : Nat} {v : Value} {F : List Bool} {q np : Int} {A : AL} {tk : Int} (h : PurAt w base b a r v F q np A tk) {k : Nat} {cs : Array Value} {t : TypeId} {fr : Nat × Nat} (hk : w.heap[k]? = some (.cells cs t fr)) (h1 : t ≠ 133) (h2 : t ≠ 4) (h3 : t ≠ 180) (h4 : t ≠ 182) (hC : Chg (fun j => j = k) w w') : PurAt w' base b a r v F q np A tk := by
  have ne : ∀ {j : Nat} {ca : Array Value} {ta : TypeId} {fa : Nat × Nat}, w.heap[j]? = some (.cells ca ta fa) → t ≠ ta → ¬ j = k := by
    rintro j ca ta fa hj ht rfl
    rw [hk] at hj; injection hj with hj; injection hj with _ h2; exact ht h2
  obtain ⟨cr, hr⟩ := h.tr
  obtain ⟨ca, ha⟩ := h.ta
  refine ⟨hC.at h.1 (ne h.1 h1), h.2.1.keep hC (fun j hj e => ?_), h.2.2.keep hC (ne ha h3) (ne hr h4)⟩
  subst e
  exact own_ne h.2.1 hk h2 hj
set_option maxRecDepth 100000 in
set_option maxHeartbeats 8000000 in
theorem vPurge (p : Int) (C : Cf) (s : Vs) (sv : Value) (L : List St) (w : World) (h : s.R w C) (hL : RdS w sv L) (hML : L.length * 64 ≤ 140737488355328) :
    Calls Try.prog 34 #[.agg (cfc C s), sv, .int .i64 p] w (PurgePost C p L w) := by
  have HA := Lib.hid ((Chg.refl (fun _ => False) w).alloc (.cells (cfc C s) 27))
  have HP : Hid (∀ W, Chg (fun _ => False) (w.alloc (.cells (cfc C s) 27)) W → CfP W w.heap.size C s) := byVal h
  have HM := Lib.hid (cMay C s _ (h.keepN ((Chg.refl (fun _ => False) w).alloc (.cells (cfc C s) 27))))
  obtain ⟨hSm, SA, sc, rfl⟩ := hL.len
  unfold maxLen at hSm
  have HS := Lib.hid hL
  have HLM := Lib.hid hML; clear hML
  clear h hL
  obtain ⟨A1, k1, A2, k2, A3, k3, A4, k4, rfl, m1, m2, m3, m4⟩ := (HP.out _ (Chg.refl _ _)).open
  unfold cfc at *
  by_cases hm : MayP C
  · rw [decide_eq_true hm] at HM
    have hl := hm.1.2.2
    by_cases hp : C.there p
    · obtain ⟨pn, rfl⟩ := Int.eq_ofNat_of_zero_le hp.1
      have hpn : pn < C.parts.length := by have := hp.2; omega
      have RP := Lib.hid (decide_eq_true hp)
      have EP := Lib.hid (show MayP C ∧ C.there pn from ⟨hm, hp⟩)
      have HD := hm.2.1
      have hnd : C.devs.length ≤ 4 := HD.2.2
      have HML := Lib.hid (show (ownersL C).length ≤ maxLen by unfold ownersL maxLen; simp; omega)
      have HNM : Hid (1 ≤ C.quiet ∧ C.quiet ≤ 8 ∧ 1 ≤ (C.parts.length : Int) ∧ (C.parts.length : Int) ≤ 4 ∧ 1 ≤ (ownersL C).length ∧ (ownersL C).length ≤ 4 ∧ ∀ x ∈ ownersL C, 0 ≤ x ∧ x < C.parts.length) := by
        refine ⟨hm.2.2.2.2.2.2.2.2.1, hm.2.2.2.2.2.2.2.2.2, by omega, by omega, by unfold ownersL; simp; exact HD.2.1, by unfold ownersL; simp; omega, fun x hx => ?_⟩
        obtain ⟨d, hd, rfl⟩ := List.mem_map.1 hx
        obtain ⟨i, hi, rfl⟩ := List.mem_iff_getElem.1 hd
        exact (HD.1 i hi).1
      clear hm hp HD
      go_enter Try.func34, Try.ntmps34
      go_wp2_with fail
      refine HM.out.mono ?_
      rintro e w1 ⟨rfl, k1'⟩
      have K1 := Lib.hid k1'; clear k1'
      go_wp2_with fail
      refine (vThere _ _ C _ _ (HP.out _ K1.out)).mono ?_
      rintro e w2 ⟨rfl, rfl⟩
      rw [RP.out]
      go_wp2_with fail
      go_upto_region 3 with fail
      obtain ⟨W0, hW0⟩ : ∃ W, W = w1 := ⟨_, rfl⟩
      rw [← hW0]
      have HPC : Hid (∀ W, Chg (fun _ => False) W0 W → CfP W w.heap.size C ⟨.slice A1 C.parts.length k1, .slice A2 C.devs.length k2, .slice A3 C.wins.length k3, .slice A4 C.grants.length k4⟩) := fun W hW => HP.out W (K1.out.trans (by rw [← hW0]; exact hW))
      have HC0 : Hid (Chg (fun _ => False) w W0) := by rw [hW0]; exact HA.out.trans K1.out
      have HR := Lib.hid (Chg.refl (fun _ => False) W0)
      clear hW0 HP HA K1
      refine wp_region_held_drew (S := fun W => Chg (fun _ => False) W0 W) (by kernel_rfl) ((Chg.refl _ _).drew) (fun hHeld => ?_)
      replace HR : Hid (Chg (fun _ => False) W0 _) := hHeld
      refine wpAnyH_take (i := 0) (oi := ({ dst := some 24, op := Go.Op.fieldAddr 27 (Go.Operand.tmp 3) 8, type := 0, pos := "view.go:83", after := #[], guard := none } : Oper)) (v := ?_) rfl (by kernel_rfl) (by kernel_rfl) (by kernel_rfl) (fun _ _ _ h => h) (Or.inl ⟨by rfl, ?_⟩) (by assumption) ?_
      rotate_left
      · (intro w hSw; (try dsimp only at hSw); obtain ⟨y0, y1, y2, y3, y4, y5, y6, y7, y8⟩ := (HPC.out _ hSw).c9';  go_simp; try with_reducible rfl)
      try simp only [Act.put, List.setIfInBounds_toArray, List.set_cons_zero, List.set_cons_succ]
      refine wpAnyH_take (i := 1) (oi := ({ dst := some 25, op := Go.Op.load 3 (Go.Operand.tmp 24), type := 3, pos := "view.go:83", after := #[{ on := 0, ground := Go.Ground.data }], guard := none } : Oper)) (v := ?_) rfl (by kernel_rfl) (by kernel_rfl) (by kernel_rfl) (fun _ _ _ h => h) (Or.inl ⟨by rfl, ?_⟩) (by assumption) ?_
      rotate_left
      · (intro w hSw; (try dsimp only at hSw); obtain ⟨y0, y1, y2, y3, y4, y5, y6, y7, y8⟩ := (HPC.out _ hSw).c9';  go_simp; try with_reducible rfl)
      try simp only [Act.put, List.setIfInBounds_toArray, List.set_cons_zero, List.set_cons_succ]
      refine wpAnyH_take (i := 2) (oi := ({ dst := some 26, op := Go.Op.fieldAddr 27 (Go.Operand.tmp 3) 1, type := 0, pos := "view.go:83", after := #[], guard := none } : Oper)) (v := ?_) rfl (by kernel_rfl) (by kernel_rfl) (by kernel_rfl) (fun _ _ _ h => h) (Or.inl ⟨by rfl, ?_⟩) (by assumption) ?_
      rotate_left
      · (intro w hSw; (try dsimp only at hSw); obtain ⟨y0, y1, y2, y3, y4, y5, y6, y7, y8⟩ := (HPC.out _ hSw).c9';  go_simp; try with_reducible rfl)
      try simp only [Act.put, List.setIfInBounds_toArray, List.set_cons_zero, List.set_cons_succ]
      refine wpAnyH_take (i := 3) (oi := ({ dst := some 27, op := Go.Op.load 22 (Go.Operand.tmp 26), type := 22, pos := "view.go:83", after := #[{ on := 2, ground := Go.Ground.data }], guard := none } : Oper)) (v := ?_) rfl (by kernel_rfl) (by kernel_rfl) (by kernel_rfl) (fun _ _ _ h => h) (Or.inl ⟨by rfl, ?_⟩) (by assumption) ?_
      rotate_left
      · (intro w hSw; (try dsimp only at hSw); obtain ⟨y0, y1, y2, y3, y4, y5, y6, y7, y8⟩ := (HPC.out _ hSw).c9';  go_simp; try with_reducible rfl)
      try simp only [Act.put, List.setIfInBounds_toArray, List.set_cons_zero, List.set_cons_succ]
      refine wpAnyH_take (i := 4) (oi := ({ dst := some 28, op := Go.Op.call { callee := Go.Callee.builtin Go.Builtin.len, args := #[Go.Operand.tmp 27], argTypes := #[22] }, type := 3, pos := "view.go:83", after := #[{ on := 3, ground := Go.Ground.data }], guard := none } : Oper)) (v := ?_) rfl (by kernel_rfl) (by kernel_rfl) (by kernel_rfl) (fun _ _ _ h => h) (Or.inl ⟨by rfl, ?_⟩) (by assumption) ?_
      rotate_left
      · (intro w hSw; (try dsimp only at hSw); obtain ⟨y0, y1, y2, y3, y4, y5, y6, y7, y8⟩ := (HPC.out _ hSw).c9';  go_simp; try with_reducible rfl)
      try simp only [Act.put, List.setIfInBounds_toArray, List.set_cons_zero, List.set_cons_succ]
      refine wpAnyH_ready (rs := [5]) (by kernel_rfl) (List.cons_ne_nil _ _) ?_
      refine AllReadyH.cons (o := ({ dst := some 29, op := Go.Op.call { callee := Go.Callee.value (Go.Operand.func 75), args := #[Go.Operand.tmp 3], argTypes := #[115] }, type := 38, pos := "view.go:83", after := #[], guard := none } : Oper)) rfl (fun K hK => ?_) AllReadyH.nil
      refine Eq.mpr (if_pos (by rfl)) ?_
      go_simp
      (go_at_call 75; refine (vOwners _ C _ _ (HPC.out _ HR.out) hnd).mono ?_; rintro e w6 ⟨ov, rfl, ho6, k6⟩; have HO6 := Lib.hid ho6; clear ho6; replace HR := Lib.hid (HR.out.trans k6); clear k6)
      refine hK.out _ _ (HR.out) (fun hHeld => ?_)
      clear hK K
      try simp only [Act.put, List.setIfInBounds_toArray, List.set_cons_zero, List.set_cons_succ]
      refine wpAnyH_ready (rs := [6]) (by kernel_rfl) (List.cons_ne_nil _ _) ?_
      refine AllReadyH.cons (o := ({ dst := some 30, op := Go.Op.call { callee := Go.Callee.value (Go.Operand.func 74), args := #[Go.Operand.tmp 25, Go.Operand.tmp 28, Go.Operand.tmp 29], argTypes := #[3, 3, 38] }, type := 128, pos := "view.go:83", after := #[{ on := 1, ground := Go.Ground.data }, { on := 4, ground := Go.Ground.data }, { on := 5, ground := Go.Ground.data }, { on := 5, ground := Go.Ground.chain }], guard := none } : Oper)) rfl (fun K hK => ?_) AllReadyH.nil
      refine Eq.mpr (if_pos (by rfl)) ?_
      go_simp
      (go_at_call 74; refine (asgNew _ C.quiet C.parts.length (ownersL C) _ (rdn_own HO6.out HML.out) HNM.out.1 HNM.out.2.1 HNM.out.2.2.1 HNM.out.2.2.2.1 HNM.out.2.2.2.2.1 HNM.out.2.2.2.2.2.1 HNM.out.2.2.2.2.2.2).mono ?_; rintro e w7 ⟨ta, tr, rfl, hA7, hta, htr, k7⟩; have HA7 := Lib.hid hA7; clear hA7; have HTR : Hid (W0.heap.size ≤ tr) := Nat.le_trans HR.out.size htr; replace HR := Lib.hid (HR.out.trans k7); clear k7)
      refine hK.out _ _ (HR.out) (fun hHeld => ?_)
      clear hK K
      try simp only [Act.put, List.setIfInBounds_toArray, List.set_cons_zero, List.set_cons_succ]
      refine wpAnyH_take (i := 7) (oi := ({ dst := some 23, op := Go.Op.move (Go.Operand.tmp 30), type := 128, pos := "view.go:83", after := #[{ on := 6, ground := Go.Ground.data }], guard := none } : Oper)) (v := ?_) rfl (by kernel_rfl) (by kernel_rfl) (by kernel_rfl) (fun _ _ _ h => h) (Or.inl ⟨by rfl, ?_⟩) (by assumption) ?_
      rotate_left
      · (intro w hSw; (try dsimp only at hSw); obtain ⟨y0, y1, y2, y3, y4, y5, y6, y7, y8⟩ := (HPC.out _ hSw).c9';  go_simp; try with_reducible rfl)
      try simp only [Act.put, List.setIfInBounds_toArray, List.set_cons_zero, List.set_cons_succ]
      refine wpAnyH_take (i := 8) (oi := ({ dst := some 31, op := Go.Op.extract (Go.Operand.tmp 23) 0, type := 127, pos := "view.go:83", after := #[{ on := 7, ground := Go.Ground.data }], guard := none } : Oper)) (v := ?_) rfl (by kernel_rfl) (by kernel_rfl) (by kernel_rfl) (fun _ _ _ h => h) (Or.inl ⟨by rfl, ?_⟩) (by assumption) ?_
      rotate_left
      · (intro w hSw; (try dsimp only at hSw); obtain ⟨y0, y1, y2, y3, y4, y5, y6, y7, y8⟩ := (HPC.out _ hSw).c9';  go_simp; try with_reducible rfl)
      try simp only [Act.put, List.setIfInBounds_toArray, List.set_cons_zero, List.set_cons_succ]
      refine wpAnyH_take (i := 9) (oi := ({ dst := some 32, op := Go.Op.extract (Go.Operand.tmp 23) 1, type := 46, pos := "view.go:83", after := #[{ on := 7, ground := Go.Ground.data }, { on := 10, ground := Go.Ground.gcOnly Go.Departure.lateStores }], guard := none } : Oper)) (v := ?_) rfl (by kernel_rfl) (by kernel_rfl) (by kernel_rfl) (fun _ _ _ h => h) (Or.inl ⟨by rfl, ?_⟩) (by assumption) ?_
      rotate_left
      · (intro w hSw; (try dsimp only at hSw); obtain ⟨y0, y1, y2, y3, y4, y5, y6, y7, y8⟩ := (HPC.out _ hSw).c9';  go_simp; try with_reducible rfl)
      try simp only [Act.put, List.setIfInBounds_toArray, List.set_cons_zero, List.set_cons_succ]
      refine wpAnyH_take (i := 10) (oi := ({ dst := some 8, op := Go.Op.assign (Go.Operand.tmp 31), type := 127, pos := "view.go:83", after := #[{ on := 8, ground := Go.Ground.data }, { on := 6, ground := Go.Ground.chain }, { on := 0, ground := Go.Ground.phase }, { on := 1, ground := Go.Ground.phase }, { on := 2, ground := Go.Ground.phase }, { on := 3, ground := Go.Ground.phase }, { on := 4, ground := Go.Ground.phase }, { on := 5, ground := Go.Ground.phase }, { on := 6, ground := Go.Ground.phase }, { on := 7, ground := Go.Ground.phase }, { on := 8, ground := Go.Ground.phase }, { on := 9, ground := Go.Ground.textOnly Go.Departure.lateStores }], guard := none } : Oper)) (v := ?_) rfl (by kernel_rfl) (by kernel_rfl) (by kernel_rfl) (fun _ _ _ h => h) (Or.inl ⟨by rfl, ?_⟩) (by assumption) ?_
      rotate_left
      · (intro w hSw; (try dsimp only at hSw); obtain ⟨y0, y1, y2, y3, y4, y5, y6, y7, y8⟩ := (HPC.out _ hSw).c9';  go_simp; try with_reducible rfl)
      try simp only [Act.put, List.setIfInBounds_toArray, List.set_cons_zero, List.set_cons_succ]
      refine wpAnyH_take (i := 11) (oi := ({ dst := some 9, op := Go.Op.assign (Go.Operand.tmp 32), type := 46, pos := "view.go:83", after := #[{ on := 9, ground := Go.Ground.data }, { on := 10, ground := Go.Ground.chain }, { on := 0, ground := Go.Ground.phase }, { on := 1, ground := Go.Ground.phase }, { on := 2, ground := Go.Ground.phase }, { on := 3, ground := Go.Ground.phase }, { on := 4, ground := Go.Ground.phase }, { on := 5, ground := Go.Ground.phase }, { on := 6, ground := Go.Ground.phase }, { on := 7, ground := Go.Ground.phase }, { on := 8, ground := Go.Ground.phase }, { on := 9, ground := Go.Ground.phase }, { on := 10, ground := Go.Ground.phase }], guard := none } : Oper)) (v := ?_) rfl (by kernel_rfl) (by kernel_rfl) (by kernel_rfl) (fun _ _ _ h => h) (Or.inl ⟨by rfl, ?_⟩) (by assumption) ?_
      rotate_left
      · (intro w hSw; (try dsimp only at hSw); obtain ⟨y0, y1, y2, y3, y4, y5, y6, y7, y8⟩ := (HPC.out _ hSw).c9';  go_simp; try with_reducible rfl)
      try simp only [Act.put, List.setIfInBounds_toArray, List.set_cons_zero, List.set_cons_succ]
      refine wpAnyH_done (by kernel_rfl) ?_ _
      have HW7 : Hid (Chg (fun _ => False) w w7) := HC0.out.trans HR.out
      have HO0 := Lib.hid (OwnC.nil (cells := bcell) (C := 1) (e := 4) w7 w7.heap.size)
      have hbl : w.heap.size < w7.heap.size := lt_of_heap (HPC.out _ HR.out).1
      have y1 : w7.cell? ⟨w.heap.size, 1, none⟩ = some (.slice A1 C.parts.length k1) := (HPC.out _ HR.out).cell 1
      go_wp2_with fail
      go_loopw [39] (fun s39 wr => ∃ (i : Nat) (v : Value), i ≤ C.parts.length ∧ s39 = .int .i64 i ∧ PurAt wr w7.heap.size w7.heap.size ta tr v ((toL C pn).take i) C.quiet C.parts.length (asgOf C) 0 ∧ Chg (fun _ => False) W0 wr) (fun s39 _ => (C.parts.length - intOf s39).toNat)
      case atStart =>
        have hC := HW7.out.alloc (.cells #[.slice none 0 0, .pointer (some ⟨ta, 0, none⟩), .int .i64 0] 133)
        exact ⟨0, _, by omega, rfl, ⟨blk_new _ _, by simpa using HO0.out.keep ((Chg.refl (fun _ => False) w7).alloc _) (fun _ _ => id), HA7.out.keepN ((Chg.refl _ _).alloc _)⟩, HR.out.alloc _⟩
      case round =>
        clear HO0 HA7 y1
        obtain ⟨i, v, hi, rfl, hpu, hC⟩ := hrel
        obtain ⟨BB, kk, rfl⟩ := hpu.2.1.slice
        by_cases hlt : i < C.parts.length
        · have i0 : (0 : Int) ≤ i := by omega
          have i1 : (i : Int) < C.parts.length := by omega
          have HCW := Lib.hid hC; clear hC
          have HTK : Hid ((toL C pn).take (i + 1) = (toL C pn).take i ++ [pathB C i pn]) := by
            unfold Hid toL; rw [List.take_succ_eq_append_getElem (by simpa using hlt)]; simp
          generalize hLL : (toL C pn).take i = LL at *
          have HC0q : Hid (∀ W, Chg (fun k => some k = Value.ownBlock (.slice BB LL.length kk)) wr W → W.cell? ⟨w7.heap.size, 0, none⟩ = some (.slice BB LL.length kk)) := fun W hW => blk_cell (hW.at hpu.1 (fun e => hpu.neb _ e.symm rfl)) 0
          go_wp2_with fail
          go_upto_region 8 with fail
          have HOL := Lib.hid hpu.2.1
          obtain ⟨b0, bi, bz0, bz1, bz2⟩ := info_parts Try.info4
          have hll : LL.length = i := by rw [← hLL]; simp [toL]; omega
          have HM := Lib.hid (show LL.length + 1 ≤ maxLen by unfold maxLen; omega)
          have HY := Lib.hid (show (LL.length + 1) * 1 ≤ 140737488355328 by omega)
          have HLN := Lib.hid hll; clear hll
          have HBS : Hid (w7.heap.size ≤ wr.heap.size) := Nat.le_of_lt (lt_of_heap hpu.1)
          refine wp_region_E (S := fun W => Chg (fun k => some k = Value.ownBlock (.slice BB LL.length kk)) wr W) 14 (by kernel_rfl) ((Chg.refl _ _).drew) (fun hHeld => ?_)
          refine wpAnyE_take (i := 0) (oi := ({ dst := some 42, op := Go.Op.move (Go.Operand.tmp 10), type := 131, pos := "view.go:86", after := #[], guard := none } : Oper)) (v := ?_) rfl (by kernel_rfl) (by kernel_rfl) (by kernel_rfl) (by kernel_rfl) (fun _ _ _ h => h) (Or.inl ⟨by rfl, ?_⟩) (by assumption) ?_
          rotate_left
          · (intro w hSw; (try dsimp only at hSw);  go_simp; try with_reducible rfl)
          try simp only [Act.put, List.setIfInBounds_toArray, List.set_cons_zero, List.set_cons_succ]
          refine wpAnyE_take (i := 1) (oi := ({ dst := some 43, op := Go.Op.move (Go.Operand.tmp 10), type := 131, pos := "view.go:86", after := #[], guard := none } : Oper)) (v := ?_) rfl (by kernel_rfl) (by kernel_rfl) (by kernel_rfl) (by kernel_rfl) (fun _ _ _ h => h) (Or.inl ⟨by rfl, ?_⟩) (by assumption) ?_
          rotate_left
          · (intro w hSw; (try dsimp only at hSw);  go_simp; try with_reducible rfl)
          try simp only [Act.put, List.setIfInBounds_toArray, List.set_cons_zero, List.set_cons_succ]
          refine wpAnyE_take (i := 2) (oi := ({ dst := some 44, op := Go.Op.nilCheck (Go.Operand.tmp 43), type := 0, pos := "view.go:86", after := #[{ on := 1, ground := Go.Ground.data }], guard := none } : Oper)) (v := ?_) rfl (by kernel_rfl) (by kernel_rfl) (by kernel_rfl) (by kernel_rfl) (fun _ _ _ h => h) (Or.inl ⟨by rfl, ?_⟩) (by assumption) ?_
          rotate_left
          · (intro w hSw; (try dsimp only at hSw);  go_simp; try with_reducible rfl)
          try simp only [Act.put, List.setIfInBounds_toArray, List.set_cons_zero, List.set_cons_succ]
          refine wpAnyE_take (i := 3) (oi := ({ dst := some 45, op := Go.Op.fieldAddr 133 (Go.Operand.tmp 44) 0, type := 0, pos := "view.go:86", after := #[{ on := 2, ground := Go.Ground.data }], guard := none } : Oper)) (v := ?_) rfl (by kernel_rfl) (by kernel_rfl) (by kernel_rfl) (by kernel_rfl) (fun _ _ _ h => h) (Or.inl ⟨by rfl, ?_⟩) (by assumption) ?_
          rotate_left
          · (intro w hSw; (try dsimp only at hSw);  go_simp; try with_reducible rfl)
          try simp only [Act.put, List.setIfInBounds_toArray, List.set_cons_zero, List.set_cons_succ]
          refine wpAnyE_take (i := 4) (oi := ({ dst := some 46, op := Go.Op.load 64 (Go.Operand.tmp 45), type := 64, pos := "view.go:86", after := #[{ on := 3, ground := Go.Ground.data }], guard := none } : Oper)) (v := ?_) rfl (by kernel_rfl) (by kernel_rfl) (by kernel_rfl) (by kernel_rfl) (fun _ _ _ h => h) (Or.inl ⟨by rfl, ?_⟩) (by assumption) ?_
          rotate_left
          · (intro w hSw; (try dsimp only at hSw); have y := HC0q.out _ hSw;  go_simp; try with_reducible rfl)
          try simp only [Act.put, List.setIfInBounds_toArray, List.set_cons_zero, List.set_cons_succ]
          refine wpAnyE_take (i := 5) (oi := ({ dst := some 47, op := Go.Op.move (Go.Operand.tmp 11), type := 3, pos := "view.go:86", after := #[], guard := none } : Oper)) (v := ?_) rfl (by kernel_rfl) (by kernel_rfl) (by kernel_rfl) (by kernel_rfl) (fun _ _ _ h => h) (Or.inl ⟨by rfl, ?_⟩) (by assumption) ?_
          rotate_left
          · (intro w hSw; (try dsimp only at hSw);  go_simp; try with_reducible rfl)
          try simp only [Act.put, List.setIfInBounds_toArray, List.set_cons_zero, List.set_cons_succ]
          refine wpAnyE_take (i := 7) (oi := ({ dst := some 49, op := Go.Op.move (Go.Operand.tmp 2), type := 3, pos := "view.go:86", after := #[], guard := none } : Oper)) (v := ?_) rfl (by kernel_rfl) (by kernel_rfl) (by kernel_rfl) (by kernel_rfl) (fun _ _ _ h => h) (Or.inl ⟨by rfl, ?_⟩) (by assumption) ?_
          rotate_left
          · (intro w hSw; (try dsimp only at hSw);  go_simp; try with_reducible rfl)
          try simp only [Act.put, List.setIfInBounds_toArray, List.set_cons_zero, List.set_cons_succ]
          refine wpAnyE_one (i := 6) (o := ({ dst := some 48, op := Go.Op.call { callee := Go.Callee.value (Go.Operand.func 76), args := #[Go.Operand.tmp 3, Go.Operand.tmp 47], argTypes := #[115, 3] }, type := 64, pos := "view.go:86", after := #[{ on := 5, ground := Go.Ground.data }], guard := none } : Oper)) (by kernel_rfl) rfl (fun K hK => ?_)
          refine Eq.mpr (if_pos (by rfl)) ?_
          go_simp
          (go_at_call 76; refine (vReached _ i C _ _ (HPC.out _ (HCW.out.drew)) hlt hl).mono ?_; rintro e w6 ⟨rr, rfl, harr, hge, k6⟩; have HARR := Lib.hid harr; clear harr; have K6 := Lib.hid ((Chg.refl (fun _ => False) wr).drew.trans k6); clear k6; have HBK : Hid (∀ o, OwnC bcell 1 4 (w6.alloc o) w7.heap.size (.slice BB LL.length kk) LL) := fun o => HOL.out.keep (K6.out.alloc o) (fun _ _ => id); have HN := Lib.hid (rowc_blk (blk_new w6 (.cells #[.bool (pathB C i pn)] 4))))
          refine hK.out _ _ (fun _ => (K6.out.mono (fun _ _ h => h.elim))) (fun hHeld => ?_)
          clear hK K
          try simp only [Act.put, List.setIfInBounds_toArray, List.set_cons_zero, List.set_cons_succ]
          replace hHeld := hHeld (by decide)
          have HRC : Hid (∀ W, Chg (fun k => some k = Value.ownBlock (.slice BB LL.length kk)) w6 W → W.cell? ⟨rr, pn, none⟩ = some (.bool (pathB C i pn))) := fun W hW => hW.cell (by have := HARR.out.cell (k := pn) hpn (j := 0) (by omega); simpa [bcell] using this) (fun e => by have h1 : rr < wr.heap.size := (own_lt HOL.out e.symm).2; have h2 : wr.heap.size ≤ rr := hge; omega); have hHeld := Chg.refl (fun k => some k = Value.ownBlock (.slice BB LL.length kk)) w6; refine wpAnyE_weak (S1 := fun W => Chg (fun k => some k = Value.ownBlock (.slice BB LL.length kk)) w6 W) (fun W h => (K6.out.mono (fun _ _ h => h.elim)).trans h) _ _ _ _ ?_
          refine wpAnyE_take (i := 8) (oi := ({ dst := some 50, op := Go.Op.indexAddr 64 (Go.Operand.tmp 48) (Go.Operand.tmp 49), type := 0, pos := "view.go:86", after := #[{ on := 6, ground := Go.Ground.data }, { on := 7, ground := Go.Ground.data }], guard := none } : Oper)) (v := ?_) rfl (by kernel_rfl) (by kernel_rfl) (by kernel_rfl) (by kernel_rfl) (fun _ _ _ h => h) (Or.inl ⟨by rfl, ?_⟩) (by assumption) ?_
          rotate_left
          · (intro w hSw; (try dsimp only at hSw);  go_simp; try with_reducible rfl)
          try simp only [Act.put, List.setIfInBounds_toArray, List.set_cons_zero, List.set_cons_succ]
          refine wpAnyE_take (i := 9) (oi := ({ dst := some 51, op := Go.Op.load 4 (Go.Operand.tmp 50), type := 4, pos := "view.go:86", after := #[{ on := 8, ground := Go.Ground.data }], guard := none } : Oper)) (v := ?_) rfl (by kernel_rfl) (by kernel_rfl) (by kernel_rfl) (by kernel_rfl) (fun _ _ _ h => h) (Or.inl ⟨by rfl, ?_⟩) (by assumption) ?_
          rotate_left
          · (intro w hSw; (try dsimp only at hSw); have y := HRC.out _ hSw;  go_simp; try with_reducible rfl)
          try simp only [Act.put, List.setIfInBounds_toArray, List.set_cons_zero, List.set_cons_succ]
          refine wpAnyE_one (i := 10) (o := ({ dst := some 52, op := Go.Op.buildSlice 64 1 #[(0, Go.Operand.tmp 51)], type := 64, pos := "view.go:86", after := #[{ on := 9, ground := Go.Ground.data }], guard := none } : Oper)) (by kernel_rfl) rfl (fun K hK => ?_)
          refine Eq.mpr (if_pos (by rfl)) ?_
          go_simp
          skip
          refine hK.out _ _ (fun _ => (hHeld.alloc _)) (fun hHeld => ?_)
          clear hK K
          try simp only [Act.put, List.setIfInBounds_toArray, List.set_cons_zero, List.set_cons_succ]
          replace hHeld := hHeld (by decide)
          refine wpAnyE_one (i := 11) (o := ({ dst := some 53, op := Go.Op.call { callee := Go.Callee.builtin Go.Builtin.append, args := #[Go.Operand.tmp 46, Go.Operand.tmp 52], argTypes := #[64, 64] }, type := 64, pos := "view.go:86", after := #[{ on := 4, ground := Go.Ground.data }, { on := 10, ground := Go.Ground.data }, { on := 6, ground := Go.Ground.chain }], guard := none } : Oper)) (by kernel_rfl) rfl (fun K hK => ?_)
          refine Eq.mpr (if_pos (by rfl)) ?_
          skip
          (refine wp_append_row _ _ _ 64 rfl w7.heap.size 4 b0 (.bool false) 1 1 Try.underlying64 bi bz0 bz1 bz2 rfl (by decide) (.slice BB LL.length kk) LL.length (LL.flatMap bcell) rfl (HBK.out _) (some ⟨w6.heap.size, 0, none⟩) 1 1 [.bool (pathB C i pn)] rfl rfl HN.out (by intro u hu; simp at hu; subst hu; rfl) HM.out HY.out (by have h1 := HBS.out; have h2 := K6.out.size; simp; omega) ?_; intro v5 w5 hown5 hgr hat5)
          refine hK.out _ _ (fun _ => (Chg.grown hHeld hgr (fun k hk _ => hk.symm))) (fun hHeld => ?_)
          clear hK K
          try simp only [Act.put, List.setIfInBounds_toArray, List.set_cons_zero, List.set_cons_succ]
          replace hHeld := hHeld (by decide)
          have hO5 : OwnC bcell 1 4 w5 w7.heap.size v5 (LL ++ [pathB C i pn]) := by simpa [OwnC, bcell] using hown5
          obtain ⟨B5, k5, hv5⟩ := hO5.slice
          rw [List.length_append, List.length_singleton] at hv5
          subst hv5
          refine wpAnyE_one (i := 12) (o := ({ dst := some 54, op := Go.Op.nilCheck (Go.Operand.tmp 42), type := 0, pos := "view.go:86", after := #[{ on := 0, ground := Go.Ground.data }, { on := 0, ground := Go.Ground.phase }, { on := 1, ground := Go.Ground.phase }, { on := 2, ground := Go.Ground.phase }, { on := 3, ground := Go.Ground.phase }, { on := 4, ground := Go.Ground.phase }, { on := 5, ground := Go.Ground.phase }, { on := 6, ground := Go.Ground.phase }, { on := 7, ground := Go.Ground.phase }, { on := 8, ground := Go.Ground.phase }, { on := 9, ground := Go.Ground.phase }, { on := 10, ground := Go.Ground.phase }, { on := 11, ground := Go.Ground.phase }], guard := none } : Oper)) (by kernel_rfl) rfl (fun K hK => ?_)
          refine Eq.mpr (if_pos (by rfl)) ?_
          go_simp
          skip
          refine hK.out _ _ (fun _ => hHeld) (fun hHeld => ?_)
          clear hK K
          try simp only [Act.put, List.setIfInBounds_toArray, List.set_cons_zero, List.set_cons_succ]
          replace hHeld := hHeld (by decide)
          refine wpAnyE_one (i := 13) (o := ({ dst := some 55, op := Go.Op.fieldAddr 133 (Go.Operand.tmp 54) 0, type := 0, pos := "view.go:86", after := #[{ on := 12, ground := Go.Ground.data }, { on := 0, ground := Go.Ground.phase }, { on := 1, ground := Go.Ground.phase }, { on := 2, ground := Go.Ground.phase }, { on := 3, ground := Go.Ground.phase }, { on := 4, ground := Go.Ground.phase }, { on := 5, ground := Go.Ground.phase }, { on := 6, ground := Go.Ground.phase }, { on := 7, ground := Go.Ground.phase }, { on := 8, ground := Go.Ground.phase }, { on := 9, ground := Go.Ground.phase }, { on := 10, ground := Go.Ground.phase }, { on := 11, ground := Go.Ground.phase }], guard := none } : Oper)) (by kernel_rfl) rfl (fun K hK => ?_)
          refine Eq.mpr (if_pos (by rfl)) ?_
          go_simp
          skip
          refine hK.out _ _ (fun _ => hHeld) (fun hHeld => ?_)
          clear hK K
          try simp only [Act.put, List.setIfInBounds_toArray, List.set_cons_zero, List.set_cons_succ]
          replace hHeld := hHeld (by decide)
          have hcb5 := ((K6.out.mono (fun _ _ h => h.elim)).trans hHeld).at hpu.1 (fun e => hpu.neb _ e.symm rfl); have y := blk_cell hcb5 0; have yf := blk_free hcb5 0; have yl := lt_of_heap hcb5; simp only [List.getElem?_toArray, List.getElem?_cons_zero] at y
          refine wpAnyE_one (i := 14) (o := ({ dst := none, op := Go.Op.store 64 (Go.Operand.tmp 55) (Go.Operand.tmp 53), type := 0, pos := "view.go:86", after := #[{ on := 13, ground := Go.Ground.data }, { on := 11, ground := Go.Ground.data }, { on := 11, ground := Go.Ground.chain }, { on := 0, ground := Go.Ground.phase }, { on := 1, ground := Go.Ground.phase }, { on := 2, ground := Go.Ground.phase }, { on := 3, ground := Go.Ground.phase }, { on := 4, ground := Go.Ground.phase }, { on := 5, ground := Go.Ground.phase }, { on := 6, ground := Go.Ground.phase }, { on := 7, ground := Go.Ground.phase }, { on := 8, ground := Go.Ground.phase }, { on := 9, ground := Go.Ground.phase }, { on := 10, ground := Go.Ground.phase }, { on := 11, ground := Go.Ground.phase }], guard := none } : Oper)) (by kernel_rfl) rfl (fun K hK => ?_)
          refine Eq.mpr (if_pos (by rfl)) ?_
          go_simp
          skip
          refine hK.out _ _ (fun hne => absurd rfl hne) (fun _ => ?_)
          clear hK K
          try simp only [Act.put, List.setIfInBounds_toArray, List.set_cons_zero, List.set_cons_succ]
          refine wpAnyE_done (by kernel_rfl) ?_ _
          have HO5 := Lib.hid hO5
          have HST : Hid (∀ u, Chg (fun k => k = w7.heap.size) w5 (w5.setCell ⟨w7.heap.size, 0, none⟩ u)) := fun u => (Chg.refl _ _).set1 _
          have HCB5 := Lib.hid hcb5
          have HK5 : Hid (Chg (fun k => some k = Value.ownBlock (.slice BB LL.length kk)) wr w5) := (K6.out.mono (fun _ _ h => h.elim)).trans (by assumption)
          have HPU := Lib.hid hpu
          clear hpu hO5 hcb5 y yf yl hown5 hgr hat5 HBK HN HM HY HRC HARR K6 HC0q
          go_wp2_with fail
          go_roundw
          case rel =>
            have hne : ∀ k, some k = Value.ownBlock (.slice BB LL.length kk) → w7.heap.size ≤ k ∧ k ≠ w7.heap.size ∧ k ≠ tr := fun k hk => ⟨(own_lt HOL.out hk.symm).1, HPU.out.neb k hk.symm, HPU.out.ner k hk.symm⟩
            have hta' : ¬ some ta = Value.ownBlock (.slice BB LL.length kk) := fun e => by
              obtain ⟨cap, h1, _⟩ := HPU.out.2.2
              exact own_ne HOL.out h1 (by decide) e.symm
            have hA5 := (HPU.out.2.2.keep HK5.out hta' (fun e => (hne _ e).2.2 rfl)).keep (HST.out (.slice B5 (LL.length + 1) k5)) (Ne.symm HPU.out.neba) (Ne.symm HPU.out.nebr)
            have hW07 := HR.out.size
            exact ⟨i + 1, _, by omega, by go_num, ⟨blk_set HCB5.out 0 _, by rw [HTK.out]; exact HO5.out.far HCB5.out (by decide) (HST.out _), hA5⟩, (HCW.out.trans' HK5.out (fun k hk e => by have := (hne k e).1; omega)).trans' (HST.out _) (fun k hk e => by omega)⟩
          case measure => simp [intOf]; omega
        · obtain rfl : i = C.parts.length := by omega
          have HF4 : Hid ((toL C pn).length ≤ 4) := by unfold Hid toL; simp; omega
          have HPC2 : Hid (purgeC C pn L = purgeL (pfl (toL C pn)) C.quiet C.parts.length (asgOf C, 0) L) := rfl
          have hte : (toL C pn).take C.parts.length = toL C pn := List.take_of_length_le (by simp [toL])
          rw [hte] at hpu
          clear hte
          generalize hFF : toL C pn = FF at *
          clear hFF
          have HCW := Lib.hid hC; clear hC
          have HPU := Lib.hid hpu; clear hpu
          have HQ : Hid (0 ≤ C.quiet ∧ C.quiet ≤ 8) := by have := HNM.out; exact ⟨by omega, by omega⟩
          have HAOK : Hid (AOk (asgOf C)) := by
            refine ⟨by unfold asgOf ownersL; simp; exact hnd, fun x hx => ?_⟩
            obtain ⟨y, _, rfl⟩ := List.mem_map.1 hx
            exact ⟨Int.le_refl 0, by show (0 : Int) ≤ 8; omega⟩
          have HO1 := Lib.hid (OwnC.nil (cells := stcell) (C := 7) (e := 59) wr w7.heap.size)
          go_wp2_with fail
          go_loopw [12, 59] (fun s12 s59 wr2 => ∃ (j : Nat) (v : Value) (A : AL) (tk : Int), j ≤ L.length ∧ s59 = .int .i64 j ∧ s12 = v ∧ OwnC stcell 7 59 wr2 w7.heap.size v (purgeL (pfl FF) C.quiet C.parts.length (asgOf C, 0) (L.take j)) ∧ PurAt wr2 w7.heap.size w7.heap.size ta tr (.slice BB FF.length kk) FF C.quiet C.parts.length A tk ∧ (A, tk) = runA C.quiet C.parts.length (asgOf C, 0) (L.take j) ∧ AOk A ∧ 0 ≤ tk ∧ Chg (fun _ => False) W0 wr2) (fun _ s59 _ => L.length - (intOf s59).toNat)
          case atStart => exact ⟨0, _, _, _, by omega, rfl, rfl, HO1.out, HPU.out, rfl, HAOK.out, by omega, HCW.out⟩
          case round =>
            clear HO1 HPU HAOK HCW
            obtain ⟨j, v, A, tk, hj, rfl, rfl, ho, hpu, hrun, hok, htk, hC⟩ := hrel
            have j0 : (0 : Int) ≤ j := by omega
            obtain ⟨OB, ok, rfl⟩ := ho.slice
            by_cases hlt : j < L.length
            · have j1 : (j : Int) < L.length := by omega
              have HPN : Hid ((purgeL (pfl FF) C.quiet C.parts.length (asgOf C, 0) (L.take j)).length = j) := by unfold Hid; rw [purgeL_length]; simp; omega
              obtain ⟨g, o, rfl, a0, a1, a2, a3, a4, a5, a6⟩ := (HS.out.keepN (HC0.out.trans hC)).at7 hlt
              have htl := List.take_succ_eq_append_getElem hlt
              obtain ⟨X, hX⟩ : ∃ X, X = L[j] := ⟨_, rfl⟩
              rw [← hX] at a0 a1 a2 a3 a4 a5 a6 htl
              clear hX
              have HPL : Hid (purgeL (pfl FF) C.quiet C.parts.length (asgOf C, 0) (L.take (j + 1)) = purgeL (pfl FF) C.quiet C.parts.length (asgOf C, 0) (L.take j) ++ [if keepP (pfl FF) A X then X else St.zero]) := by
                unfold Hid; rw [htl, purgeL_append, ← hrun]; rfl
              have HRN : Hid ((stepA C.quiet C.parts.length A tk X, stepT tk X) = runA C.quiet C.parts.length (asgOf C, 0) (L.take (j + 1))) := by
                unfold Hid; rw [htl, runA_append, ← hrun]; rfl
              have HOK2 := Lib.hid (hok.step HQ.out.1 HQ.out.2 tk X (np := C.parts.length))
              have HTK2 : Hid (0 ≤ stepT tk X) := by unfold Hid stepT; split <;> omega
              generalize purgeL (pfl FF) C.quiet C.parts.length (asgOf C, 0) (L.take j) = PP at *
              clear htl hrun
              obtain ⟨W1, hW1⟩ : ∃ W, W = wr.alloc (.cells #[.int .i64 X.kind, .int .i64 X.part, .int .i64 X.dev, .int .i64 X.a, .int .i64 X.b, .int .i64 X.c, .string X.data] 59) := ⟨_, rfl⟩
              have hA : Chg (fun _ => False) wr W1 := by rw [hW1]; exact (Chg.refl _ _).alloc _
              have HB1 : Hid (W1.heap[wr.heap.size]? = some (.cells (stcell X).toArray 59 (0, 0))) := by rw [hW1]; exact blk_new wr _
              have HO1 : Hid (OwnC stcell 7 59 W1 w7.heap.size (.slice OB PP.length ok) PP) := ho.keep hA (fun _ _ => id)
              have HPU1 := Lib.hid (hpu.keepN hA)
              have HC1 : Hid (Chg (fun _ => False) W0 W1) := hC.trans hA
              have HG : Hid (∀ k, (k = w7.heap.size ∨ k = tr) → k < wr.heap.size) := fun k hk => by
                rcases hk with rfl | rfl
                · exact lt_of_heap hpu.1
                · exact hpu.2.2.lt.2
              have HOL : Hid (∀ k, Value.ownBlock (.slice OB PP.length ok) = some k → k < wr.heap.size) := fun k hk => (own_lt ho hk).2
              have HST := Lib.hid (vStays w7.heap.size w7.heap.size ta tr wr.heap.size _ FF C.quiet C.parts.length A tk X W1 HPU1.out HF4.out hok htk HB1.out)
              have HWS : Hid (w7.heap.size ≤ wr.heap.size) := Nat.le_of_lt (lt_of_heap hpu.1)
              clear ho hpu hC hok htk hA
              go_upto_region 14 with fail
              rw [← hW1]
              clear hW1 a0 a1 a2 a3 a4 a5 a6
              go_wp2_with fail
              refine HST.out.mono ?_
              rintro e w2 ⟨rfl, hpu2, hC2⟩
              have HB2 : Hid (w2.heap[wr.heap.size]? = some (.cells (stcell X).toArray 59 (0, 0))) := hC2.at HB1.out (fun e => by have := HG.out _ e; omega)
              have HO2 : Hid (OwnC stcell 7 59 w2 w7.heap.size (.slice OB PP.length ok) PP) := HPU1.out.far HO1.out hC2
              have HC2 : Hid (Chg (fun _ => False) W0 w2) := HC1.out.trans' hC2 (fun k hk e => by rcases e with rfl | rfl <;> (have := HR.out.size; have := HTR.out; omega))
              have HG2 : Hid (wr.heap.size ≤ w2.heap.size) := by have h1 := lt_of_heap HB2.out; exact Nat.le_of_lt h1
              have HPU2 := Lib.hid hpu2
              clear hpu2 hC2 HST HB1 HO1 HPU1 HC1
              by_cases hk : keepP (pfl FF) A X = true
              · rw [hk, if_pos rfl] at HPL
                rw [hk]
                clear hk
                obtain ⟨y0, y1, y2, y3, y4, y5, y6⟩ := X
                obtain ⟨W3, hW3⟩ : ∃ W, W = w2 := ⟨_, rfl⟩
                rw [← hW3] at HO2 HPU2 HC2 HG2 HB2
                rw [← hW3]
                clear hW3
                have z0 := blk_cell HB2.out 0
                have z1 := blk_cell HB2.out 1
                have z2 := blk_cell HB2.out 2
                have z3 := blk_cell HB2.out 3
                have z4 := blk_cell HB2.out 4
                have z5 := blk_cell HB2.out 5
                have z6 := blk_cell HB2.out 6
                simp only [stcell, List.getElem?_toArray, List.getElem?_cons_zero, List.getElem?_cons_succ] at z0 z1 z2 z3 z4 z5 z6
                have HO3 := HO2
                have HPU3 := HPU2
                have HC3 := HC2
                have HG3 : Hid (w7.heap.size ≤ W3.heap.size) := Nat.le_trans HWS.out HG2.out
                clear HO2 HPU2 HC2 HB2
                obtain ⟨s0', si, sz0, sz1, sz2⟩ := info_parts Try.infoStep
                have HBK : Hid (∀ o, OwnC stcell 7 59 (W3.alloc o) w7.heap.size (.slice OB PP.length ok) PP) := fun o => HO3.out.keep ((Chg.refl (fun _ => False) _).alloc o) (fun _ _ => id)
                have HN := Lib.hid (rowc_blk (blk_new W3 (.cells #[.int .i64 y0, .int .i64 y1, .int .i64 y2, .int .i64 y3, .int .i64 y4, .int .i64 y5, .string y6] 59)))
                have HM := Lib.hid (show PP.length + 1 ≤ maxLen by have := HPN.out; unfold maxLen; omega)
                have HY := Lib.hid (show (PP.length + 1) * 64 ≤ 140737488355328 by have := HPN.out; have := HLM.out; omega)
                have HBS : Hid (∀ o, w7.heap.size ≤ (W3.alloc o).heap.size) := fun o => by have := HG3.out; simp; omega
                go_wp2_with (at_builtin; refine wpList_append_row _ rfl _ _ 49 rfl w7.heap.size 59 s0' (.agg #[.int .i64 0, .int .i64 0, .int .i64 0, .int .i64 0, .int .i64 0, .int .i64 0, .string ByteArray.empty]) 7 64 Try.underlying49 si sz0 sz1 sz2 rfl (by decide) (.slice OB PP.length ok) PP.length (PP.flatMap stcell) rfl (HBK.out _) (some ⟨W3.heap.size, 0, none⟩) 1 1 [.int .i64 y0, .int .i64 y1, .int .i64 y2, .int .i64 y3, .int .i64 y4, .int .i64 y5, .string y6] rfl rfl HN.out (by simp [Value.oneCell']) HM.out HY.out (HBS.out _) ?_)
                intro v5 w5 hown5 hgr hat5
                have hO5 : OwnC stcell 7 59 w5 w7.heap.size v5 (PP ++ [⟨y0, y1, y2, y3, y4, y5, y6⟩]) := by simpa [OwnC, stcell] using hown5
                have hC5 : Chg (fun k => some k = Value.ownBlock (.slice OB PP.length ok)) W3 w5 := Chg.grown ((Chg.refl _ _).alloc _) hgr (fun k hk _ => hk.symm)
                have HPU5 : Hid (PurAt w5 w7.heap.size w7.heap.size ta tr (.slice BB FF.length kk) FF C.quiet C.parts.length (stepA C.quiet C.parts.length A tk ⟨y0, y1, y2, y3, y4, y5, y6⟩) (stepT tk ⟨y0, y1, y2, y3, y4, y5, y6⟩)) := HPU3.out.row HO3.out hC5
                have HC5 : Hid (Chg (fun _ => False) W0 w5) := HC3.out.trans' hC5 (fun k hk e => by have := (own_lt HO3.out e.symm).1; have := HR.out.size; omega)
                have HO5 := Lib.hid hO5
                clear hO5 hC5 hown5 hgr hat5 HBK HN HM HY HBS HO3 HPU3 HC3 z0 z1 z2 z3 z4 z5 z6
                go_wp2_with fail
                go_roundw
                case rel => exact ⟨j + 1, _, _, _, by omega, by go_num, rfl, by rw [HPL.out]; exact HO5.out, HPU5.out, HRN.out, HOK2.out, HTK2.out, HC5.out⟩
                case measure => simp [intOf]; omega
              · have hkf : keepP (pfl FF) A X = false := by simpa using hk
                rw [hkf, if_neg (by decide)] at HPL
                rw [hkf]
                clear hk hkf
                have zl := lt_of_heap HB2.out
                have z0 := blk_cell HB2.out 0
                have f0 := blk_free HB2.out 0
                have z1 := blk_cell HB2.out 1
                have f1 := blk_free HB2.out 1
                have z2 := blk_cell HB2.out 2
                have f2 := blk_free HB2.out 2
                have z3 := blk_cell HB2.out 3
                have f3 := blk_free HB2.out 3
                have z4 := blk_cell HB2.out 4
                have f4 := blk_free HB2.out 4
                have z5 := blk_cell HB2.out 5
                have f5 := blk_free HB2.out 5
                have z6 := blk_cell HB2.out 6
                have f6 := blk_free HB2.out 6
                simp only [stcell, List.getElem?_toArray, List.getElem?_cons_zero, List.getElem?_cons_succ] at z0 z1 z2 z3 z4 z5 z6
                go_upto_region 16 with fail
                have hS3 : Chg (fun k => k = wr.heap.size) w2 (((((((w2.setCell ⟨wr.heap.size, 0, none⟩ (.int .i64 0)).setCell ⟨wr.heap.size, 1, none⟩ (.int .i64 0)).setCell ⟨wr.heap.size, 2, none⟩ (.int .i64 0)).setCell ⟨wr.heap.size, 3, none⟩ (.int .i64 0)).setCell ⟨wr.heap.size, 4, none⟩ (.int .i64 0)).setCell ⟨wr.heap.size, 5, none⟩ (.int .i64 0)).setCell ⟨wr.heap.size, 6, none⟩ (.string ByteArray.empty)) := (((((((Chg.refl _ _).set1 _).set1 _).set1 _).set1 _).set1 _).set1 _).set1 _
                have hB3 := blk_set (blk_set (blk_set (blk_set (blk_set (blk_set (blk_set HB2.out 0 (.int .i64 0)) 1 (.int .i64 0)) 2 (.int .i64 0)) 3 (.int .i64 0)) 4 (.int .i64 0)) 5 (.int .i64 0)) 6 (.string ByteArray.empty)
                obtain ⟨W3, hW3⟩ : ∃ W, W = (((((((w2.setCell ⟨wr.heap.size, 0, none⟩ (.int .i64 0)).setCell ⟨wr.heap.size, 1, none⟩ (.int .i64 0)).setCell ⟨wr.heap.size, 2, none⟩ (.int .i64 0)).setCell ⟨wr.heap.size, 3, none⟩ (.int .i64 0)).setCell ⟨wr.heap.size, 4, none⟩ (.int .i64 0)).setCell ⟨wr.heap.size, 5, none⟩ (.int .i64 0)).setCell ⟨wr.heap.size, 6, none⟩ (.string ByteArray.empty)) := ⟨_, rfl⟩
                change Code.wp _ _ _ _ (((((((w2.setCell ⟨wr.heap.size, 0, none⟩ (.int .i64 0)).setCell ⟨wr.heap.size, 1, none⟩ (.int .i64 0)).setCell ⟨wr.heap.size, 2, none⟩ (.int .i64 0)).setCell ⟨wr.heap.size, 3, none⟩ (.int .i64 0)).setCell ⟨wr.heap.size, 4, none⟩ (.int .i64 0)).setCell ⟨wr.heap.size, 5, none⟩ (.int .i64 0)).setCell ⟨wr.heap.size, 6, none⟩ (.string ByteArray.empty))
                rw [← hW3] at hS3 hB3 ⊢
                clear hW3 zl z0 z1 z2 z3 z4 z5 z6 f0 f1 f2 f3 f4 f5 f6
                have z0 := blk_cell hB3 0
                have z1 := blk_cell hB3 1
                have z2 := blk_cell hB3 2
                have z3 := blk_cell hB3 3
                have z4 := blk_cell hB3 4
                have z5 := blk_cell hB3 5
                have z6 := blk_cell hB3 6
                simp [stcell] at z0 z1 z2 z3 z4 z5 z6
                have HO3 : Hid (OwnC stcell 7 59 W3 w7.heap.size (.slice OB PP.length ok) PP) := HO2.out.keep hS3 (fun k hk e => by have := HOL.out k hk; omega)
                have HPU3 := Lib.hid (HPU2.out.farT HB2.out (by decide) (by decide) (by decide) (by decide) hS3)
                have HC3 : Hid (Chg (fun _ => False) W0 W3) := HC2.out.trans' hS3 (fun k hk e => by have := HR.out.size; have := HWS.out; omega)
                have HG3 : Hid (w7.heap.size ≤ W3.heap.size) := Nat.le_trans HWS.out (Nat.le_trans HG2.out hS3.size)
                clear HO2 HPU2 HC2 HB2 hS3 hB3
                obtain ⟨s0', si, sz0, sz1, sz2⟩ := info_parts Try.infoStep
                have HBK : Hid (∀ o, OwnC stcell 7 59 (W3.alloc o) w7.heap.size (.slice OB PP.length ok) PP) := fun o => HO3.out.keep ((Chg.refl (fun _ => False) _).alloc o) (fun _ _ => id)
                have HN := Lib.hid (rowc_blk (blk_new W3 (.cells #[.int .i64 0, .int .i64 0, .int .i64 0, .int .i64 0, .int .i64 0, .int .i64 0, .string ByteArray.empty] 59)))
                have HM := Lib.hid (show PP.length + 1 ≤ maxLen by have := HPN.out; unfold maxLen; omega)
                have HY := Lib.hid (show (PP.length + 1) * 64 ≤ 140737488355328 by have := HPN.out; have := HLM.out; omega)
                have HBS : Hid (∀ o, w7.heap.size ≤ (W3.alloc o).heap.size) := fun o => by have := HG3.out; simp; omega
                go_wp2_with (at_builtin; refine wpList_append_row _ rfl _ _ 49 rfl w7.heap.size 59 s0' (.agg #[.int .i64 0, .int .i64 0, .int .i64 0, .int .i64 0, .int .i64 0, .int .i64 0, .string ByteArray.empty]) 7 64 Try.underlying49 si sz0 sz1 sz2 rfl (by decide) (.slice OB PP.length ok) PP.length (PP.flatMap stcell) rfl (HBK.out _) (some ⟨W3.heap.size, 0, none⟩) 1 1 [.int .i64 0, .int .i64 0, .int .i64 0, .int .i64 0, .int .i64 0, .int .i64 0, .string ByteArray.empty] rfl rfl HN.out (by simp [Value.oneCell']) HM.out HY.out (HBS.out _) ?_)
                intro v5 w5 hown5 hgr hat5
                have hO5 : OwnC stcell 7 59 w5 w7.heap.size v5 (PP ++ [⟨0, 0, 0, 0, 0, 0, ByteArray.empty⟩]) := by simpa [OwnC, stcell] using hown5
                have hC5 : Chg (fun k => some k = Value.ownBlock (.slice OB PP.length ok)) W3 w5 := Chg.grown ((Chg.refl _ _).alloc _) hgr (fun k hk _ => hk.symm)
                have HPU5 : Hid (PurAt w5 w7.heap.size w7.heap.size ta tr (.slice BB FF.length kk) FF C.quiet C.parts.length (stepA C.quiet C.parts.length A tk X) (stepT tk X)) := HPU3.out.row HO3.out hC5
                have HC5 : Hid (Chg (fun _ => False) W0 w5) := HC3.out.trans' hC5 (fun k hk e => by have := (own_lt HO3.out e.symm).1; have := HR.out.size; omega)
                have HO5 := Lib.hid hO5
                clear hO5 hC5 hown5 hgr hat5 HBK HN HM HY HBS HO3 HPU3 HC3 z0 z1 z2 z3 z4 z5 z6
                go_wp2_with fail
                go_roundw
                case rel => exact ⟨j + 1, _, _, _, by omega, by go_num, rfl, by rw [HPL.out]; exact HO5.out, HPU5.out, HRN.out, HOK2.out, HTK2.out, HC5.out⟩
                case measure => simp [intOf]; omega
            · obtain rfl : j = L.length := by omega
              have hE : purgeL (pfl FF) C.quiet C.parts.length (asgOf C, 0) (L.take L.length) = purgeL (pfl FF) C.quiet C.parts.length (asgOf C, 0) L := by rw [List.take_length]
              have HO : Hid (OwnC stcell 7 59 wr w7.heap.size (.slice OB (purgeL (pfl FF) C.quiet C.parts.length (asgOf C, 0) (L.take L.length)).length ok) (purgeC C pn L)) := by unfold Hid; rw [HPC2.out, ← hE]; exact ho
              clear ho hpu hrun hok htk hE
              have HC := Lib.hid hC; clear hC
              go_wp2_with fail
              go_ret2
              unfold PurgePost
              rw [if_pos EP.out]
              exact ⟨_, rfl, HO.out.baseLe' (HW7.out.size), HC0.out.trans HC.out⟩
    · have RP := Lib.hid (decide_eq_false hp)
      have EP := Lib.hid (show ¬ (MayP C ∧ C.there p) from fun h => hp h.2)
      clear hm hp
      go_enter Try.func34, Try.ntmps34
      go_wp2_with fail
      refine HM.out.mono ?_
      rintro e w1 ⟨rfl, k1'⟩
      have K1 := Lib.hid k1'; clear k1'
      go_wp2_with fail
      refine (vThere _ _ C _ _ (HP.out _ K1.out)).mono ?_
      rintro e w2 ⟨rfl, rfl⟩
      rw [RP.out]
      go_wp2_with fail
      go_ret2
      unfold PurgePost
      rw [if_neg EP.out]
      exact ⟨rfl, HA.out.trans K1.out⟩
  · rw [decide_eq_false hm] at HM
    have EP := Lib.hid (show ¬ (MayP C ∧ C.there p) from fun h => hm h.1)
    clear hm
    go_enter Try.func34, Try.ntmps34
    go_wp2_with fail
    refine HM.out.mono ?_
    rintro e w1 ⟨rfl, k1'⟩
    have K1 := Lib.hid k1'; clear k1'
    go_wp2_with fail
    go_ret2
    unfold PurgePost
    rw [if_neg EP.out]
    exact ⟨rfl, HA.out.trans K1.out⟩
end Go.Proofs.Ytncbcjjdnlmjbaa
