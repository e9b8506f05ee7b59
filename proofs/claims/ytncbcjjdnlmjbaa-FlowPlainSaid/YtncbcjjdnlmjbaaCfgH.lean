/- Configs: all rules; who reaches a frame. Printed by mkcfgh.py. -/
import Derived.Test.YtncbcjjdnlmjbaaCfgG
set_option linter.unusedSimpArgs false
set_option linter.unusedVariables false
namespace Go.Proofs.Ytncbcjjdnlmjbaa
open Go.RowKit

def ruleCells : Array Value := #[.func (.func 113) #[] #[], .func (.func 114) #[] #[], .func (.func 115) #[] #[], .func (.func 116) #[] #[], .func (.func 117) #[] #[], .func (.func 118) #[] #[]]
set_option maxRecDepth 100000 in
theorem cRules (w : World) : Calls Try.prog 61 #[] w fun e w' => ∃ g, e = .returned (.slice (some ⟨g, 0, none⟩) 6 6) ∧ w'.heap[g]? = some (.cells ruleCells 114 (0, 0)) ∧ Chg (fun _ => False) w w' := by
  go_enter Try.func61, Try.ntmps61
  go_wp2
  go_ret
  exact ⟨_, rfl, blk_new _ _, (Chg.refl _ _).alloc _⟩

set_option maxRecDepth 100000 in
set_option maxHeartbeats 4000000 in
theorem cMay (C : Cf) (s : Vs) (w : World) (h : s.R w C) :
    Calls Try.prog 23 #[.agg (cfc C s)] w fun e w' => e = .returned (.bool (decide (MayP C))) ∧ Chg (fun _ => False) w w' := by
  have hA : Chg (fun _ => False) w (w.alloc (.cells (cfc C s) 27)) := (Chg.refl _ _).alloc _
  have HP : Hid (∀ wr, Chg (fun _ => False) (w.alloc (.cells (cfc C s) 27)) wr → CfP wr w.heap.size C s) := fun wr hC => CfP.keepN ⟨blk_new w _, h.keepN hA⟩ hC
  have HA := Lib.hid hA; clear hA h
  generalize hcf : cfc C s = cf at *
  clear hcf
  go_enter Try.func23, Try.ntmps23
  go_wp2_with fail
  refine (cRules _).mono ?_
  rintro e w0 ⟨g, rfl, hg, k⟩
  have RC : Hid (∀ wr, Chg (fun _ => False) (w.alloc (.cells cf 27)) wr → True) := fun _ _ => trivial
  have hg' := hg
  have RC : Hid (∀ wr, Chg (fun _ => False) w0 wr → ∀ i, wr.cell? ⟨g, i, none⟩ = ruleCells[i]?) := fun wr hC i => blk_cell (hC.at hg id) i
  have HQ := Lib.hid k
  have HP2 : Hid (∀ wr, Chg (fun _ => False) w0 wr → CfP wr w.heap.size C s) := fun wr hC => HP.out wr (HQ.out.trans hC)
  have H0 := Lib.hid (Chg.refl (fun _ => False) w0)
  clear hg hg' k HP
  have HP := HP2; clear HP2
  go_wp2_with fail
  refine wp_loop_rounds 7 ?_
  have c0 := RC.out _ H0.out 0
  simp only [ruleCells] at c0
  rw [rounds_succ]
  go_wp2_with fail
  refine (cParts _ C s _ (HP.out _ H0.out)).mono ?_
  rintro e w1 ⟨rfl, k0⟩
  have H1 := Lib.hid (H0.out.trans k0); clear k0 c0 H0
  by_cases p0 : PartsOk C
  · rw [decide_eq_true p0]
    have P0 := Lib.hid p0; clear p0
    go_wp2_with fail
    have c1 := RC.out _ H1.out 1
    simp only [ruleCells] at c1
    rw [rounds_succ]
    go_wp2_with fail
    refine (cDevices _ C s _ (HP.out _ H1.out)).mono ?_
    rintro e w2 ⟨rfl, k1⟩
    have H2 := Lib.hid (H1.out.trans k1); clear k1 c1 H1
    by_cases p1 : DevsOk C
    · rw [decide_eq_true p1]
      have P1 := Lib.hid p1; clear p1
      go_wp2_with fail
      have c2 := RC.out _ H2.out 2
      simp only [ruleCells] at c2
      rw [rounds_succ]
      go_wp2_with fail
      refine (cFrames _ C s _ (HP.out _ H2.out)).mono ?_
      rintro e w3 ⟨rfl, k2⟩
      have H3 := Lib.hid (H2.out.trans k2); clear k2 c2 H2
      by_cases p2 : FramesOk C
      · rw [decide_eq_true p2]
        have P2 := Lib.hid p2; clear p2
        go_wp2_with fail
        have c3 := RC.out _ H3.out 3
        simp only [ruleCells] at c3
        rw [rounds_succ]
        go_wp2_with fail
        refine (cWindows _ C s _ (HP.out _ H3.out)).mono ?_
        rintro e w4 ⟨rfl, k3⟩
        have H4 := Lib.hid (H3.out.trans k3); clear k3 c3 H3
        by_cases p3 : WinsOk C.wins C.major C.parts.length
        · rw [decide_eq_true p3]
          have P3 := Lib.hid p3; clear p3
          go_wp2_with fail
          have c4 := RC.out _ H4.out 4
          simp only [ruleCells] at c4
          rw [rounds_succ]
          go_wp2_with fail
          refine (cGrants _ C s _ (HP.out _ H4.out)).mono ?_
          rintro e w5 ⟨rfl, k4⟩
          have H5 := Lib.hid (H4.out.trans k4); clear k4 c4 H4
          by_cases p4 : GrsOk C
          · rw [decide_eq_true p4]
            have P4 := Lib.hid p4; clear p4
            go_wp2_with fail
            have c5 := RC.out _ H5.out 5
            simp only [ruleCells] at c5
            rw [rounds_succ]
            go_wp2_with fail
            refine (cNumbers _ C s _ (HP.out _ H5.out)).mono ?_
            rintro e w6 ⟨rfl, k5⟩
            have H6 := Lib.hid (H5.out.trans k5); clear k5 c5 H5
            by_cases p5 : NumsOk C
            · rw [decide_eq_true p5]
              have P5 := Lib.hid p5; clear p5
              go_wp2_with fail
              have HY : Hid (MayP C) := ⟨P0.out, P1.out, P2.out, P3.out, P4.out, P5.out⟩
              clear P0 P1 P2 P3 P4 P5
              rw [rounds_succ]
              go_wp2_with fail
              go_ret
              exact ⟨retB (decide_eq_true HY.out).symm, HA.out.trans (HQ.out.trans H6.out)⟩
            · rw [decide_eq_false p5]
              have HNO : Hid (¬ MayP C) := fun h => p5 h.2.2.2.2.2
              clear p5
              go_wp2_with fail
              go_ret
              exact ⟨retB (decide_eq_false HNO.out).symm, HA.out.trans (HQ.out.trans H6.out)⟩
          · rw [decide_eq_false p4]
            have HNO : Hid (¬ MayP C) := fun h => p4 h.2.2.2.2.1
            clear p4
            go_wp2_with fail
            go_ret
            exact ⟨retB (decide_eq_false HNO.out).symm, HA.out.trans (HQ.out.trans H5.out)⟩
        · rw [decide_eq_false p3]
          have HNO : Hid (¬ MayP C) := fun h => p3 h.2.2.2.1
          clear p3
          go_wp2_with fail
          go_ret
          exact ⟨retB (decide_eq_false HNO.out).symm, HA.out.trans (HQ.out.trans H4.out)⟩
      · rw [decide_eq_false p2]
        have HNO : Hid (¬ MayP C) := fun h => p2 h.2.2.1
        clear p2
        go_wp2_with fail
        go_ret
        exact ⟨retB (decide_eq_false HNO.out).symm, HA.out.trans (HQ.out.trans H3.out)⟩
    · rw [decide_eq_false p1]
      have HNO : Hid (¬ MayP C) := fun h => p1 h.2.1
      clear p1
      go_wp2_with fail
      go_ret
      exact ⟨retB (decide_eq_false HNO.out).symm, HA.out.trans (HQ.out.trans H2.out)⟩
  · rw [decide_eq_false p0]
    have HNO : Hid (¬ MayP C) := fun h => p0 h.1
    clear p0
    go_wp2_with fail
    go_ret
    exact ⟨retB (decide_eq_false HNO.out).symm, HA.out.trans (HQ.out.trans H1.out)⟩

def GrantP (p f : Int) (iw : Bool) (g : Gr) : Prop := g.frame = f ∧ g.to = p ∧ (g.write = true ∨ iw = false)
instance (p f : Int) (iw : Bool) (g : Gr) : Decidable (GrantP p f iw g) := by unfold GrantP; infer_instance
set_option maxHeartbeats 1000000 in
theorem reachClo (p f : Int) (iw : Bool) (bf bp bw : Nat) (g : Gr) (w : World) (h0 : w.cell? ⟨bf, 0, none⟩ = some (.int .i64 f)) (h1 : w.cell? ⟨bp, 0, none⟩ = some (.int .i64 p)) (h2 : w.cell? ⟨bw, 0, none⟩ = some (.bool iw)) :
    Calls Try.prog 164 (#[.agg #[.int .i64 g.frame, .int .i64 g.to, .bool g.write]] ++ #[.pointer (some ⟨bf, 0, none⟩), .pointer (some ⟨bp, 0, none⟩), .pointer (some ⟨bw, 0, none⟩)]) w fun e w' => e = .returned (.bool (decide (GrantP p f iw g))) ∧ Chg (fun _ => False) w w' := by
  have l0 := World.block_lt_of_cell? w _ h0
  have l1 := World.block_lt_of_cell? w _ h1
  have l2 := World.block_lt_of_cell? w _ h2
  simp only at l0 l1 l2
  obtain ⟨gf, gt, gw⟩ := g
  simp only
  by_cases e0 : gf = f
  · have d0 : (gf == f) = true := by simpa using e0
    by_cases e1 : gt = p
    · have d1 : (gt == p) = true := by simpa using e1
      cases gw <;> cases iw <;>
      · go_enter Try.func164, Try.ntmps164
        go_wp2
        go_ret
        exact ⟨retB (by rw [Bool.eq_iff_iff]; simp [GrantP, e0, e1]), (Chg.refl _ _).alloc _⟩
    · have d1 : (gt == p) = false := by simpa using e1
      go_enter Try.func164, Try.ntmps164
      go_wp2
      go_ret
      exact ⟨retB (by rw [Bool.eq_iff_iff]; simp [GrantP, e0, e1]), (Chg.refl _ _).alloc _⟩
  · have d0 : (gf == f) = false := by simpa using e0
    go_enter Try.func164, Try.ntmps164
    go_wp2
    go_ret
    exact ⟨retB (by rw [Bool.eq_iff_iff]; simp [GrantP, e0]), (Chg.refl _ _).alloc _⟩

set_option maxRecDepth 100000 in
set_option maxHeartbeats 1000000 in
theorem reachIdx (p f : Int) (iw : Bool) (bf bp bw : Nat) (v : Value) (L : List Gr) (w : World) (h : RdG w v L)
    (hclo : ∀ (j : Nat) (h : j < L.length) (W : World), Chg (fun _ => False) w W → Calls Try.prog 164 (#[.agg #[.int .i64 L[j].frame, .int .i64 L[j].to, .bool L[j].write]] ++ #[.pointer (some ⟨bf, 0, none⟩), .pointer (some ⟨bp, 0, none⟩), .pointer (some ⟨bw, 0, none⟩)]) W fun e w' => e = .returned (.bool (decide ((GrantP p f iw) L[j]))) ∧ Chg (fun _ => False) W w') :
    Calls Try.prog 184 #[v, .func (.func 164) #[] #[.pointer (some ⟨bf, 0, none⟩), .pointer (some ⟨bp, 0, none⟩), .pointer (some ⟨bw, 0, none⟩)]] w (IxPost (GrantP p f iw) L w) := by
  obtain ⟨hm, A, c, rfl, h⟩ := h
  have hm' : (L.length : Int) ≤ 9223372036854775807 := by unfold maxLen at hm; first | omega | (have := hm.1; omega)
  have HO := Lib.hid h; clear h hm
  have HCLO := Lib.hid hclo; clear hclo
  go_enter Try.func184, Try.ntmps184
  go_wp2_with fail
  go_loopw [8] (fun s wr => ∃ j : Nat, j ≤ L.length ∧ s = .int .i64 j ∧ (∀ k (hk : k < L.length), k < j → ¬ (GrantP p f iw) L[k]) ∧ Chg (fun _ => False) w wr) (fun s _ => L.length - (intOf s).toNat)
  case atStart => exact ⟨0, by omega, rfl, by intro k hk h; omega, Chg.refl _ _⟩
  case round =>
    obtain ⟨j, hj, rfl, hne, hC⟩ := hrel
    have j0 : (0 : Int) ≤ j := by omega
    by_cases hlt : j < L.length
    · have j1 : (j : Int) < L.length := by omega
      obtain ⟨g, o, rfl, a0, a1, a2⟩ := HO.out j hlt
      have A0 := hC.cell a0 id
      have A1 := hC.cell a1 id
      have A2 := hC.cell a2 id
      have hcl := HCLO.out j hlt wr hC
      have HCL := Lib.hid hcl; clear hcl
      have HC := Lib.hid hC; clear hC
      have HN := Lib.hid hne; clear hne
      clear a0 a1 a2
      go_wp2_with fail
      refine HCL.out.mono ?_
      rintro e w1 ⟨rfl, hD⟩
      have hC1 := HC.out.trans hD
      have H1 := Lib.hid hC1; clear hC1 hD
      clear HCL A0 A1 A2
      by_cases hp : (GrantP p f iw) L[j]
      · rw [decide_eq_true hp]
        have HP := Lib.hid hp; clear hp
        go_wp2_with fail
        go_ret
        exact ⟨⟨_, rfl, .inr ⟨j, hlt, rfl, HP.out, HN.out⟩⟩, H1.out⟩
      · rw [decide_eq_false hp]
        have HN2 := Lib.hid (show ∀ k (hk : k < L.length), k < j + 1 → ¬ (GrantP p f iw) L[k] from fun k hk hkj => by
          by_cases e : k = j
          · subst e; exact hp
          · exact HN.out k hk (by omega)); clear hp HN
        go_wp2_with fail
        go_roundw
        case rel => exact ⟨j + 1, by omega, by go_num, HN2.out, H1.out⟩
        case measure => simp [intOf]; omega
    · obtain rfl : j = L.length := by omega
      have HC := Lib.hid hC; clear hC
      have HN := Lib.hid hne; clear hne hlt hj
      go_wp2_with fail
      go_ret
      exact ⟨⟨_, rfl, .inl ⟨rfl, fun k hk => HN.out k hk hk⟩⟩, HC.out⟩
set_option maxRecDepth 100000 in
theorem reachHas (p f : Int) (iw : Bool) (bf bp bw : Nat) (v : Value) (L : List Gr) (w : World) (h : RdG w v L)
    (hclo : ∀ (j : Nat) (h : j < L.length) (W : World), Chg (fun _ => False) w W → Calls Try.prog 164 (#[.agg #[.int .i64 L[j].frame, .int .i64 L[j].to, .bool L[j].write]] ++ #[.pointer (some ⟨bf, 0, none⟩), .pointer (some ⟨bp, 0, none⟩), .pointer (some ⟨bw, 0, none⟩)]) W fun e w' => e = .returned (.bool (decide ((GrantP p f iw) L[j]))) ∧ Chg (fun _ => False) W w') :
    Calls Try.prog 165 #[v, .func (.func 164) #[] #[.pointer (some ⟨bf, 0, none⟩), .pointer (some ⟨bp, 0, none⟩), .pointer (some ⟨bw, 0, none⟩)]] w fun e w' => e = .returned (.bool (decide (∃ z0 ∈ L, (GrantP p f iw) z0))) ∧ Chg (fun _ => False) w w' := by
  have hix := reachIdx p f iw bf bp bw v L w h hclo
  have HIX := Lib.hid hix; clear hix hclo h
  go_enter Try.func165, Try.ntmps165
  go_wp2_with fail
  refine HIX.out.mono ?_
  rintro e w1 ⟨⟨r, rfl, hr⟩, hC⟩
  have hb := hr.has
  have HB := Lib.hid hb; clear hb hr
  go_wp2_with fail
  go_ret
  exact ⟨by rw [← HB.out]; exact retB (by first | rfl | simp [Bool.eq_iff_iff]), hC⟩

set_option maxRecDepth 100000 in
set_option maxHeartbeats 4000000 in
theorem cReach (b : Nat) (p f : Int) (iw : Bool) (C : Cf) (s : Vs) (w : World) (h : CfP w b C s) :
    Calls Try.prog 123 #[.pointer (some ⟨b, 0, none⟩), .int .i64 p, .int .i64 f, .bool iw] w fun e w' => e = .returned (.bool (decide (ReachP C p f iw))) ∧ Chg (fun _ => False) w w' := by
  have hA : Chg (fun _ => False) w (((w.alloc (.cells #[.int .i64 p] 3)).alloc (.cells #[.int .i64 f] 3)).alloc (.cells #[.bool iw] 4)) := (((Chg.refl _ _).alloc _).alloc _).alloc _
  have HF : Hid (∀ W, Chg (fun _ => False) (((w.alloc (.cells #[.int .i64 p] 3)).alloc (.cells #[.int .i64 f] 3)).alloc (.cells #[.bool iw] 4)) W → CfP W b C s ∧ W.cell? ⟨w.heap.size, 0, none⟩ = some (.int .i64 p) ∧ W.cell? ⟨w.heap.size + 1, 0, none⟩ = some (.int .i64 f) ∧ W.cell? ⟨w.heap.size + 1 + 1, 0, none⟩ = some (.bool iw)) := fun W hC =>
    ⟨h.keepN (hA.trans hC), blk_cell (hC.at ((((Chg.refl (fun _ => False) _).alloc _).alloc _).at (blk_new w _) id) id) 0, blk_cell (hC.at (((Chg.refl (fun _ => False) _).alloc _).at (blk_new2 w _ _) id) id) 0, blk_cell (hC.at (blk_new3 w _ _ _) id) 0⟩
  obtain ⟨A1, k1, A2, k2, A3, k3, A4, k4, rfl, m1, m2, m3, m4⟩ := h.open
  have HOW : Hid (∀ W, Chg (fun _ => False) (((w.alloc (.cells #[.int .i64 p] 3)).alloc (.cells #[.int .i64 f] 3)).alloc (.cells #[.bool iw] 4)) W → Calls Try.prog 162 #[.pointer (some ⟨b, 0, none⟩), .int .i64 f] W fun e w' => e = .returned (.int .i64 (C.own f)) ∧ Chg (fun _ => False) W w') := fun W hW => ownerOf b f C _ W (HF.out W hW).1
  have HGR : Hid (∀ W, Chg (fun _ => False) (((w.alloc (.cells #[.int .i64 p] 3)).alloc (.cells #[.int .i64 f] 3)).alloc (.cells #[.bool iw] 4)) W → Calls Try.prog 165 #[.slice A4 C.grants.length k4, .func (.func 164) #[] #[.pointer (some ⟨w.heap.size + 1, 0, none⟩), .pointer (some ⟨w.heap.size, 0, none⟩), .pointer (some ⟨w.heap.size + 1 + 1, 0, none⟩)]] W fun e w' => e = .returned (.bool (decide (∃ z0 ∈ C.grants, (GrantP p f iw) z0))) ∧ Chg (fun _ => False) W w') := fun W hW =>
    reachHas p f iw _ _ _ _ C.grants W (HF.out W hW).1.2.2.2.2 (fun j hj W2 hC2 => reachClo p f iw _ _ _ C.grants[j] W2 (HF.out W2 (hW.trans hC2)).2.2.1 (HF.out W2 (hW.trans hC2)).2.1 (HF.out W2 (hW.trans hC2)).2.2.2)
  have HS : Hid (∀ W, Chg (fun _ => False) (((w.alloc (.cells #[.int .i64 p] 3)).alloc (.cells #[.int .i64 f] 3)).alloc (.cells #[.bool iw] 4)) W → W.cell? ⟨w.heap.size, 0, none⟩ = some (.int .i64 p) ∧ W.cell? ⟨w.heap.size + 1, 0, none⟩ = some (.int .i64 f) ∧ W.cell? ⟨b, 5, none⟩ = some (.slice A4 C.grants.length k4)) := fun W hW => ⟨(HF.out W hW).2.1, (HF.out W hW).2.2.1, (HF.out W hW).1.cell 5⟩
  have HA := Lib.hid hA
  have HR := Lib.hid (Chg.refl (fun _ => False) (((w.alloc (.cells #[.int .i64 p] 3)).alloc (.cells #[.int .i64 f] 3)).alloc (.cells #[.bool iw] 4)))
  obtain ⟨d0, d1, d2⟩ := HS.out _ HR.out
  have HE : Hid (ReachP C p f iw ↔ (C.own f = p ∨ ∃ z0 ∈ C.grants, GrantP p f iw z0)) := Iff.rfl
  clear hA HF h
  by_cases he : C.own f = p
  · have hY := Lib.hid (HE.out.2 (.inl he))
    rw [he] at HOW
    clear HE he HGR
    go_enter Try.func123, Try.ntmps123
    go_wp2_with fail
    refine wp_region_held_drew (S := fun W => W.cell? ⟨w.heap.size, 0, none⟩ = some (.int .i64 p) ∧ W.cell? ⟨w.heap.size + 1, 0, none⟩ = some (.int .i64 f) ∧ W.cell? ⟨b, 5, none⟩ = some (.slice A4 C.grants.length k4)) (by kernel_rfl) (HS.out _ HR.out.drew) (fun hHeld => ?_)
    refine wpAnyH_take (i := 0) (oi := ({ dst := some 11, op := Go.Op.move (Go.Operand.tmp 0), type := 115, pos := "config.go:108", after := #[], guard := none } : Oper)) (v := ?_) rfl (by kernel_rfl) (by kernel_rfl) (by kernel_rfl) (fun _ _ _ h => h) (Or.inl ⟨by rfl, ?_⟩) (by assumption) ?_
    rotate_left
    · (intro w hSw; (try dsimp only at hSw); (try obtain ⟨x0, x1, x2⟩ := hSw); go_simp; try with_reducible rfl)
    try simp only [Act.put, List.setIfInBounds_toArray, List.set_cons_zero, List.set_cons_succ]
    refine wpAnyH_take (i := 1) (oi := ({ dst := some 12, op := Go.Op.load 3 (Go.Operand.tmp 6), type := 3, pos := "config.go:108", after := #[], guard := none } : Oper)) (v := ?_) rfl (by kernel_rfl) (by kernel_rfl) (by kernel_rfl) (fun _ _ _ h => h) (Or.inl ⟨by rfl, ?_⟩) (by assumption) ?_
    rotate_left
    · (intro w hSw; (try dsimp only at hSw); (try obtain ⟨x0, x1, x2⟩ := hSw); go_simp; try with_reducible rfl)
    try simp only [Act.put, List.setIfInBounds_toArray, List.set_cons_zero, List.set_cons_succ]
    refine wpAnyH_take (i := 3) (oi := ({ dst := some 14, op := Go.Op.load 3 (Go.Operand.tmp 5), type := 3, pos := "config.go:108", after := #[], guard := none } : Oper)) (v := ?_) rfl (by kernel_rfl) (by kernel_rfl) (by kernel_rfl) (fun _ _ _ h => h) (Or.inl ⟨by rfl, ?_⟩) (by assumption) ?_
    rotate_left
    · (intro w hSw; (try dsimp only at hSw); (try obtain ⟨x0, x1, x2⟩ := hSw); go_simp; try with_reducible rfl)
    try simp only [Act.put, List.setIfInBounds_toArray, List.set_cons_zero, List.set_cons_succ]
    refine wpAnyH_ready (rs := [2]) (by kernel_rfl) (by simp) ?_
    refine AllReadyH.cons rfl (fun K hK => ?_) AllReadyH.nil
    go_simp
    (go_at_call 162; (with_reducible refine (HOW.out _ HR.out.drew).mono ?_); rintro e w6 ⟨rfl, k6⟩; have H6 := HR.out.drew.trans k6; have HQ := Lib.hid (HA.out.trans H6))
    refine hK.out _ _ (HS.out _ H6) (fun hHeld => ?_)
    clear hK K
    try simp only [Act.put, List.setIfInBounds_toArray, List.set_cons_zero, List.set_cons_succ]
    refine wpAnyH_take (i := 4) (oi := ({ dst := some 15, op := Go.Op.binOp Go.BinOp.eql 3 (Go.Operand.tmp 13) (Go.Operand.tmp 14) 3, type := 4, pos := "config.go:108", after := #[{ on := 2, ground := Go.Ground.data }, { on := 3, ground := Go.Ground.data }], guard := none } : Oper)) (v := ?_) rfl (by kernel_rfl) (by kernel_rfl) (by kernel_rfl) (fun _ _ _ h => h) (Or.inl ⟨by rfl, ?_⟩) (by assumption) ?_
    rotate_left
    · (intro w hSw; (try dsimp only at hSw); (try obtain ⟨x0, x1, x2⟩ := hSw); go_simp; try with_reducible rfl)
    try simp only [Act.put, List.setIfInBounds_toArray, List.set_cons_zero, List.set_cons_succ]
    refine wpAnyH_take (i := 5) (oi := ({ dst := some 16, op := Go.Op.move (Go.Operand.tmp 15), type := 4, pos := "config.go:108", after := #[{ on := 4, ground := Go.Ground.data }, { on := 2, ground := Go.Ground.chain }], guard := none } : Oper)) (v := ?_) rfl (by kernel_rfl) (by kernel_rfl) (by kernel_rfl) (fun _ _ _ h => h) (Or.inl ⟨by rfl, ?_⟩) (by assumption) ?_
    rotate_left
    · (intro w hSw; (try dsimp only at hSw); (try obtain ⟨x0, x1, x2⟩ := hSw); go_simp; try with_reducible rfl)
    try simp only [Act.put, List.setIfInBounds_toArray, List.set_cons_zero, List.set_cons_succ]
    refine wpAnyH_take (i := 6) (oi := ({ dst := some 17, op := Go.Op.move (Go.Operand.tmp 0), type := 115, pos := "config.go:108", after := #[{ on := 5, ground := Go.Ground.guard }], guard := some (5, false) } : Oper)) (v := undef) rfl (by kernel_rfl) (by kernel_rfl) (by kernel_rfl) (fun _ _ _ h => h) (Or.inr ⟨by rfl, rfl⟩) (by assumption) ?_
    try simp only [Act.put, List.setIfInBounds_toArray, List.set_cons_zero, List.set_cons_succ]
    refine wpAnyH_take (i := 7) (oi := ({ dst := some 18, op := Go.Op.nilCheck (Go.Operand.tmp 17), type := 0, pos := "config.go:108", after := #[{ on := 6, ground := Go.Ground.data }, { on := 5, ground := Go.Ground.guard }], guard := some (5, false) } : Oper)) (v := undef) rfl (by kernel_rfl) (by kernel_rfl) (by kernel_rfl) (fun _ _ _ h => h) (Or.inr ⟨by rfl, rfl⟩) (by assumption) ?_
    try simp only [Act.put, List.setIfInBounds_toArray, List.set_cons_zero, List.set_cons_succ]
    refine wpAnyH_take (i := 8) (oi := ({ dst := some 19, op := Go.Op.fieldAddr 27 (Go.Operand.tmp 18) 5, type := 0, pos := "config.go:108", after := #[{ on := 7, ground := Go.Ground.data }, { on := 5, ground := Go.Ground.guard }], guard := some (5, false) } : Oper)) (v := undef) rfl (by kernel_rfl) (by kernel_rfl) (by kernel_rfl) (fun _ _ _ h => h) (Or.inr ⟨by rfl, rfl⟩) (by assumption) ?_
    try simp only [Act.put, List.setIfInBounds_toArray, List.set_cons_zero, List.set_cons_succ]
    refine wpAnyH_take (i := 9) (oi := ({ dst := some 20, op := Go.Op.load 25 (Go.Operand.tmp 19), type := 25, pos := "config.go:108", after := #[{ on := 8, ground := Go.Ground.data }, { on := 5, ground := Go.Ground.guard }], guard := some (5, false) } : Oper)) (v := undef) rfl (by kernel_rfl) (by kernel_rfl) (by kernel_rfl) (fun _ _ _ h => h) (Or.inr ⟨by rfl, rfl⟩) (by assumption) ?_
    try simp only [Act.put, List.setIfInBounds_toArray, List.set_cons_zero, List.set_cons_succ]
    refine wpAnyH_take (i := 10) (oi := ({ dst := some 21, op := Go.Op.move (Go.Operand.tmp 9), type := 216, pos := "config.go:108", after := #[{ on := 5, ground := Go.Ground.guard }], guard := some (5, false) } : Oper)) (v := undef) rfl (by kernel_rfl) (by kernel_rfl) (by kernel_rfl) (fun _ _ _ h => h) (Or.inr ⟨by rfl, rfl⟩) (by assumption) ?_
    try simp only [Act.put, List.setIfInBounds_toArray, List.set_cons_zero, List.set_cons_succ]
    refine wpAnyH_ready (rs := [11]) (by kernel_rfl) (by simp) ?_
    refine AllReadyH.cons (o := ({ dst := some 22, op := Go.Op.call { callee := Go.Callee.value (Go.Operand.func 165), args := #[Go.Operand.tmp 20, Go.Operand.tmp 21], argTypes := #[25, 216] }, type := 4, pos := "config.go:108", after := #[{ on := 9, ground := Go.Ground.data }, { on := 10, ground := Go.Ground.data }, { on := 5, ground := Go.Ground.chain }, { on := 5, ground := Go.Ground.guard }], guard := some (5, false) } : Oper)) rfl (fun K hK => ?_) AllReadyH.nil
    change if false = true then _ else _
    rw [if_neg Bool.false_ne_true]
    refine hK.out _ _ (HS.out _ H6) (fun hHeld => ?_)
    clear hK K
    try simp only [Act.put, List.setIfInBounds_toArray, List.set_cons_zero, List.set_cons_succ]
    refine wpAnyH_take (i := 12) (oi := ({ dst := some 23, op := Go.Op.pick (Go.Operand.tmp 16) (Go.Operand.const (Go.Value.bool true)) (Go.Operand.tmp 22), type := 4, pos := "config.go:108", after := #[{ on := 5, ground := Go.Ground.data }, { on := 11, ground := Go.Ground.data }], guard := none } : Oper)) (v := ?_) rfl (by kernel_rfl) (by kernel_rfl) (by kernel_rfl) (fun _ _ _ h => h) (Or.inl ⟨by rfl, ?_⟩) (by assumption) ?_
    rotate_left
    · (intro w hSw; (try dsimp only at hSw); (try obtain ⟨x0, x1, x2⟩ := hSw); go_simp; try with_reducible rfl)
    try simp only [Act.put, List.setIfInBounds_toArray, List.set_cons_zero, List.set_cons_succ]
    refine wpAnyH_take (i := 13) (oi := ({ dst := some 8, op := Go.Op.assign (Go.Operand.tmp 23), type := 4, pos := "config.go:108", after := #[{ on := 12, ground := Go.Ground.data }, { on := 11, ground := Go.Ground.chain }, { on := 0, ground := Go.Ground.phase }, { on := 1, ground := Go.Ground.phase }, { on := 2, ground := Go.Ground.phase }, { on := 3, ground := Go.Ground.phase }, { on := 4, ground := Go.Ground.phase }, { on := 5, ground := Go.Ground.phase }, { on := 6, ground := Go.Ground.phase }, { on := 7, ground := Go.Ground.phase }, { on := 8, ground := Go.Ground.phase }, { on := 9, ground := Go.Ground.phase }, { on := 10, ground := Go.Ground.phase }, { on := 11, ground := Go.Ground.phase }, { on := 12, ground := Go.Ground.phase }], guard := none } : Oper)) (v := ?_) rfl (by kernel_rfl) (by kernel_rfl) (by kernel_rfl) (fun _ _ _ h => h) (Or.inl ⟨by rfl, ?_⟩) (by assumption) ?_
    rotate_left
    · (intro w hSw; (try dsimp only at hSw); (try obtain ⟨x0, x1, x2⟩ := hSw); go_simp; try with_reducible rfl)
    try simp only [Act.put, List.setIfInBounds_toArray, List.set_cons_zero, List.set_cons_succ]
    refine wpAnyH_done (by kernel_rfl) ?_ _
    go_wp2_with fail
    go_ret
    exact ⟨retB (decide_eq_true hY.out).symm, HQ.out⟩
  · have q0 : (C.own f == p) = false := by simpa using he
    have hd0 : decide (∃ z0 ∈ C.grants, GrantP p f iw z0) = decide (ReachP C p f iw) := by
      rw [Bool.eq_iff_iff]
      simp only [decide_eq_true_eq]
      rw [HE.out]
      exact ⟨fun h => .inr h, fun h => h.resolve_left he⟩
    have hd := Lib.hid hd0
    clear HE he hd0
    go_enter Try.func123, Try.ntmps123
    go_wp2_with fail
    go_region_held3 (fun W => W.cell? ⟨w.heap.size, 0, none⟩ = some (.int .i64 p) ∧ W.cell? ⟨w.heap.size + 1, 0, none⟩ = some (.int .i64 f) ∧ W.cell? ⟨b, 5, none⟩ = some (.slice A4 C.grants.length k4)) (first | exact ⟨d0, d1, d2⟩ | exact HS.out _ HR.out.drew | exact HS.out _ H6 | exact HS.out _ H6.drew | exact HS.out _ H7 | exact HS.out _ H7.drew) (first
      | (go_at_call 162; (with_reducible refine (HOW.out _ HR.out.drew).mono ?_); rintro e w6 ⟨rfl, k6⟩; have H6 := HR.out.drew.trans k6)
      | (go_at_call 165; (with_reducible refine (HGR.out _ H6).mono ?_); rintro e w7 ⟨rfl, k7⟩; have H7 := H6.trans k7; have HQ := Lib.hid (HA.out.trans H7)))
    all_goals
      go_wp2_with fail
      go_ret
      exact ⟨retB hd.out, HQ.out⟩
end Go.Proofs.Ytncbcjjdnlmjbaa
