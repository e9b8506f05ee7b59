/- Configs: may a partition read bytes, or write them? Printed by mkcfgj.py. -/
import Derived.Test.YtncbcjjdnlmjbaaCfgI
set_option linter.unusedSimpArgs false
set_option linter.unusedVariables false
namespace Go.Proofs.Ytncbcjjdnlmjbaa
open Go.RowKit

def WithinP (C : Cf) (p a n : Int) (iw : Bool) : Prop := C.there p ∧ RunP a n (C.frames * 64) ∧ ∀ k : Nat, k < n.toNat → ReachP C p ((a + k) / 64) iw
instance (C : Cf) (p a n : Int) (iw : Bool) : Decidable (WithinP C p a n iw) := by unfold WithinP; infer_instance
def ReadsP (C : Cf) (p a n : Int) (iw : Bool) : Prop := MayP C ∧ WithinP C p a n iw
instance (C : Cf) (p a n : Int) (iw : Bool) : Decidable (ReadsP C p a n iw) := by unfold ReadsP; infer_instance
set_option maxRecDepth 100000 in
theorem withClo (C : Cf) (s : Vs) (p : Int) (iw : Bool) (b bc bp bw : Nat) (q : Pc) (w : World) (h : CfP w b C s) (h0 : w.cell? ⟨bc, 0, none⟩ = some (.pointer (some ⟨b, 0, none⟩))) (h1 : w.cell? ⟨bp, 0, none⟩ = some (.int .i64 p)) (h2 : w.cell? ⟨bw, 0, none⟩ = some (.bool iw)) :
    Calls Try.prog 122 (#[.agg #[.int .i64 q.frame, .int .i64 q.off, .int .i64 q.len]] ++ #[.pointer (some ⟨bc, 0, none⟩), .pointer (some ⟨bp, 0, none⟩), .pointer (some ⟨bw, 0, none⟩)]) w fun e w' => e = .returned (.bool (decide (¬ ReachP C p q.frame iw))) ∧ Chg (fun _ => False) w w' := by
  have l0 := World.block_lt_of_cell? w _ h0
  have l1 := World.block_lt_of_cell? w _ h1
  have l2 := World.block_lt_of_cell? w _ h2
  simp only at l0 l1 l2
  have hr := cReach b p q.frame iw C s (w.alloc (.cells #[.int .i64 q.frame, .int .i64 q.off, .int .i64 q.len] 81)) (h.keepN ((Chg.refl _ _).alloc _))
  have HR := Lib.hid hr; clear hr h
  go_enter Try.func122, Try.ntmps122
  go_wp2_with fail
  refine HR.out.mono ?_
  rintro e w1 ⟨rfl, hC⟩
  go_wp2_with fail
  go_ret
  exact ⟨retB (by simp), ((Chg.refl _ _).alloc _).trans hC⟩

set_option maxRecDepth 100000 in
set_option maxHeartbeats 1000000 in
theorem withIdx (C : Cf) (p : Int) (iw : Bool) (bc bp bw : Nat) (v : Value) (L : List Pc) (w : World) (h : RdQ w v L)
    (hclo : ∀ (j : Nat) (h : j < L.length) (W : World), Chg (fun _ => False) w W → Calls Try.prog 122 (#[.agg #[.int .i64 L[j].frame, .int .i64 L[j].off, .int .i64 L[j].len]] ++ #[.pointer (some ⟨bc, 0, none⟩), .pointer (some ⟨bp, 0, none⟩), .pointer (some ⟨bw, 0, none⟩)]) W fun e w' => e = .returned (.bool (decide ((fun q : Pc => ¬ ReachP C p q.frame iw) L[j]))) ∧ Chg (fun _ => False) W w') :
    Calls Try.prog 166 #[v, .func (.func 122) #[] #[.pointer (some ⟨bc, 0, none⟩), .pointer (some ⟨bp, 0, none⟩), .pointer (some ⟨bw, 0, none⟩)]] w (IxPost (fun q : Pc => ¬ ReachP C p q.frame iw) L w) := by
  obtain ⟨hm, A, c, rfl, h⟩ := h
  have hm' : (L.length : Int) ≤ 9223372036854775807 := by unfold maxLen at hm; first | omega | (have := hm.1; omega)
  have HO := Lib.hid h; clear h hm
  have HCLO := Lib.hid hclo; clear hclo
  go_enter Try.func166, Try.ntmps166
  go_wp2_with fail
  go_loopw [8] (fun s wr => ∃ j : Nat, j ≤ L.length ∧ s = .int .i64 j ∧ (∀ k (hk : k < L.length), k < j → ¬ (fun q : Pc => ¬ ReachP C p q.frame iw) L[k]) ∧ Chg (fun _ => False) w wr) (fun s _ => L.length - (intOf s).toNat)
  case atStart => exact ⟨0, by omega, rfl, by intro k hk h; omega, Chg.refl _ _⟩
  case round =>
    obtain ⟨j, hj, rfl, hne, hC⟩ := hrel
    have j0 : (0 : Int) ≤ j := by omega
    by_cases hlt : j < L.length
    · have j1 : (j : Int) < L.length := by omega
      obtain ⟨g, o, rfl, a0, a1, a2⟩ := HO.out j hlt
      have A0 := hC.cell a0 id
      have A1 := hC.cell a1 id
      have A2 := hC.cell a2 id
      have hcl := HCLO.out j hlt wr hC
      have HCL := Lib.hid hcl; clear hcl
      have HC := Lib.hid hC; clear hC
      have HN := Lib.hid hne; clear hne
      clear a0 a1 a2
      go_wp2_with fail
      refine HCL.out.mono ?_
      rintro e w1 ⟨rfl, hD⟩
      have hC1 := HC.out.trans hD
      have H1 := Lib.hid hC1; clear hC1 hD
      clear HCL A0 A1 A2
      by_cases hp : (fun q : Pc => ¬ ReachP C p q.frame iw) L[j]
      · rw [decide_eq_true hp]
        have HP := Lib.hid hp; clear hp
        go_wp2_with fail
        go_ret
        exact ⟨⟨_, rfl, .inr ⟨j, hlt, rfl, HP.out, HN.out⟩⟩, H1.out⟩
      · rw [decide_eq_false hp]
        have HN2 := Lib.hid (show ∀ k (hk : k < L.length), k < j + 1 → ¬ (fun q : Pc => ¬ ReachP C p q.frame iw) L[k] from fun k hk hkj => by
          by_cases e : k = j
          · subst e; exact hp
          · exact HN.out k hk (by omega)); clear hp HN
        go_wp2_with fail
        go_roundw
        case rel => exact ⟨j + 1, by omega, by go_num, HN2.out, H1.out⟩
        case measure => simp [intOf]; omega
    · obtain rfl : j = L.length := by omega
      have HC := Lib.hid hC; clear hC
      have HN := Lib.hid hne; clear hne hlt hj
      go_wp2_with fail
      go_ret
      exact ⟨⟨_, rfl, .inl ⟨rfl, fun k hk => HN.out k hk hk⟩⟩, HC.out⟩
set_option maxRecDepth 100000 in
theorem withHas (C : Cf) (p : Int) (iw : Bool) (bc bp bw : Nat) (v : Value) (L : List Pc) (w : World) (h : RdQ w v L)
    (hclo : ∀ (j : Nat) (h : j < L.length) (W : World), Chg (fun _ => False) w W → Calls Try.prog 122 (#[.agg #[.int .i64 L[j].frame, .int .i64 L[j].off, .int .i64 L[j].len]] ++ #[.pointer (some ⟨bc, 0, none⟩), .pointer (some ⟨bp, 0, none⟩), .pointer (some ⟨bw, 0, none⟩)]) W fun e w' => e = .returned (.bool (decide ((fun q : Pc => ¬ ReachP C p q.frame iw) L[j]))) ∧ Chg (fun _ => False) W w') :
    Calls Try.prog 124 #[v, .func (.func 122) #[] #[.pointer (some ⟨bc, 0, none⟩), .pointer (some ⟨bp, 0, none⟩), .pointer (some ⟨bw, 0, none⟩)]] w fun e w' => e = .returned (.bool (decide (∃ z0 ∈ L, (fun q : Pc => ¬ ReachP C p q.frame iw) z0))) ∧ Chg (fun _ => False) w w' := by
  have hix := withIdx C p iw bc bp bw v L w h hclo
  have HIX := Lib.hid hix; clear hix hclo h
  go_enter Try.func124, Try.ntmps124
  go_wp2_with fail
  refine HIX.out.mono ?_
  rintro e w1 ⟨⟨r, rfl, hr⟩, hC⟩
  have hb := hr.has
  have HB := Lib.hid hb; clear hb hr
  go_wp2_with fail
  go_ret
  exact ⟨by rw [← HB.out]; exact retB (by first | rfl | simp [Bool.eq_iff_iff]), hC⟩

theorem within_ex {C : Cf} {p a n : Int} {iw : Bool} {L : List Pc} (h : Cover L a (a + n)) (hn : 0 ≤ n) (ht : C.there p) (hr : RunP a n (C.frames * 64)) : (¬ ∃ q ∈ L, ¬ ReachP C p q.frame iw) ↔ WithinP C p a n iw := by
  constructor
  · intro hno
    refine ⟨ht, hr, fun k hk => ?_⟩
    obtain ⟨q, q1, q2⟩ := h.2 (a + k) (by omega) (by omega)
    rw [← q2]
    by_cases hq : ReachP C p q.frame iw
    · exact hq
    · exact absurd ⟨q, q1, hq⟩ hno
  · rintro ⟨_, _, hall⟩ ⟨q, q1, q2⟩
    obtain ⟨k, k1, k2, k3⟩ := h.1 q q1
    obtain ⟨m, hm⟩ := Int.eq_ofNat_of_zero_le (show 0 ≤ k - a by omega)
    refine q2 ?_
    rw [k3, show k = a + m from by omega]
    exact hall m (by omega)
set_option maxRecDepth 100000 in
set_option maxHeartbeats 2000000 in
theorem cWithin (b : Nat) (p a n : Int) (iw : Bool) (C : Cf) (s : Vs) (w : World) (h : CfP w b C s) (f0 : 1 ≤ C.frames) (f1 : C.frames ≤ 64) :
    Calls Try.prog 67 #[.pointer (some ⟨b, 0, none⟩), .int .i64 p, .int .i64 a, .int .i64 n, .bool iw] w fun e w' => e = .returned (.bool (decide (WithinP C p a n iw))) ∧ Chg (fun _ => False) w w' := by
  have hbl : b < w.heap.size := lt_of_heap h.1
  have hA : Chg (fun _ => False) w (((w.alloc (.cells #[.pointer (some ⟨b, 0, none⟩)] 115)).alloc (.cells #[.int .i64 p] 3)).alloc (.cells #[.bool iw] 4)) := (((Chg.refl _ _).alloc _).alloc _).alloc _
  have HF : Hid (∀ W, Chg (fun _ => False) (((w.alloc (.cells #[.pointer (some ⟨b, 0, none⟩)] 115)).alloc (.cells #[.int .i64 p] 3)).alloc (.cells #[.bool iw] 4)) W → CfP W b C s ∧ W.cell? ⟨w.heap.size, 0, none⟩ = some (.pointer (some ⟨b, 0, none⟩)) ∧ W.cell? ⟨w.heap.size + 1, 0, none⟩ = some (.int .i64 p) ∧ W.cell? ⟨w.heap.size + 1 + 1, 0, none⟩ = some (.bool iw)) := fun W hC =>
    ⟨h.keepN (hA.trans hC), blk_cell (hC.at ((((Chg.refl (fun _ => False) _).alloc _).alloc _).at (blk_new w _) id) id) 0, blk_cell (hC.at (((Chg.refl (fun _ => False) _).alloc _).at (blk_new2 w _ _) id) id) 0, blk_cell (hC.at (blk_new3 w _ _ _) id) 0⟩
  have hT := cThere b p C s _ (HF.out _ (Chg.refl _ _)).1
  have c0 : (((w.alloc (.cells #[.pointer (some ⟨b, 0, none⟩)] 115)).alloc (.cells #[.int .i64 p] 3)).alloc (.cells #[.bool iw] 4)).cell? ⟨b, 0, none⟩ = some (.int .i64 C.frames) := (HF.out _ (Chg.refl _ _)).1.cell 0
  obtain ⟨d0, d1, d2⟩ := (HF.out _ (Chg.refl _ _)).2
  have HT := Lib.hid hT; clear hT h
  have HA := Lib.hid hA; clear hA
  by_cases ht : C.there p
  · rw [decide_eq_true ht] at HT
    by_cases hr : RunP a n (C.frames * 64)
    · have hrd := decide_eq_true hr
      have hr' := hr
      obtain ⟨r0, r1, r2, r3, r4⟩ := hr
      have HW : Hid (∀ L, Cover L a (a + n) → ((¬ ∃ q ∈ L, ¬ ReachP C p q.frame iw) ↔ WithinP C p a n iw)) := fun L hL => within_ex hL r1 ht hr'
      have hr2 := Lib.hid hr'
      clear ht hr'
      go_enter Try.func67, Try.ntmps67
      go_wp2_with fail
      refine HT.out.mono ?_
      rintro e w1 ⟨rfl, rfl⟩
      go_wp2_with fail
      refine (addrMay _ _ _ _ (by omega)).mono ?_
      rintro e w1 ⟨rfl, rfl⟩
      rw [hrd]
      go_wp2_with fail
      refine (aSplit a n _ r0 r1 (by omega)).mono ?_
      rintro e w1 ⟨v, L, rfl, hq, hcov, hC⟩
      have hh := withHas C p iw w.heap.size (w.heap.size + 1) (w.heap.size + 1 + 1) v L w1 hq (fun j hj W hCW => by
        obtain ⟨g0, g1, g2, g3⟩ := HF.out W (hC.trans hCW)
        exact withClo C s p iw b _ _ _ L[j] W g0 g1 g2 g3)
      have hw := HW.out L hcov
      have HH := Lib.hid hh; clear hh
      have HC := Lib.hid (HA.out.trans hC)
      have HW2 := Lib.hid hw
      obtain ⟨_, A, c, rfl, _⟩ := hq
      clear hw hcov hC HT HF c0 d0 d1 d2 HW
      go_wp2_with fail
      refine HH.out.mono ?_
      rintro e w2 ⟨rfl, hC2⟩
      have HC2 := Lib.hid (HC.out.trans hC2); clear hC2 HH
      go_wp2_with fail
      go_ret
      exact ⟨retB (by rw [Bool.eq_iff_iff]; simp only [Bool.not_eq_true', decide_eq_false_iff_not, decide_eq_true_eq]; exact HW2.out), HC2.out⟩
    · have hrd := decide_eq_false hr
      have HNO : Hid (¬ WithinP C p a n iw) := fun h => hr h.2.1
      clear ht hr
      go_enter Try.func67, Try.ntmps67
      go_wp2_with fail
      refine HT.out.mono ?_
      rintro e w1 ⟨rfl, rfl⟩
      go_wp2_with fail
      refine (addrMay _ _ _ _ (by omega)).mono ?_
      rintro e w1 ⟨rfl, rfl⟩
      rw [hrd]
      go_wp2_with fail
      go_ret
      exact ⟨retB (decide_eq_false HNO.out).symm, HA.out⟩
  · rw [decide_eq_false ht] at HT
    have HNO : Hid (¬ WithinP C p a n iw) := fun h => ht h.1
    clear ht
    go_enter Try.func67, Try.ntmps67
    go_wp2_with fail
    refine HT.out.mono ?_
    rintro e w1 ⟨rfl, rfl⟩
    go_wp2_with fail
    go_ret
    exact ⟨retB (decide_eq_false HNO.out).symm, HA.out⟩

set_option maxRecDepth 100000 in
set_option maxHeartbeats 2000000 in
theorem cReads (p a n : Int) (C : Cf) (s : Vs) (w : World) (h : s.R w C) :
    Calls Try.prog 25 #[.agg (cfc C s), .int .i64 p, .int .i64 a, .int .i64 n] w fun e w' => e = .returned (.bool (decide (ReadsP C p a n false))) ∧ Chg (fun _ => False) w w' := by
  have hA : Chg (fun _ => False) w (w.alloc (.cells (cfc C s) 27)) := (Chg.refl _ _).alloc _
  have hM := cMay C s (w.alloc (.cells (cfc C s) 27)) (h.keepN hA)
  have HP : Hid (∀ wr, Chg (fun _ => False) (w.alloc (.cells (cfc C s) 27)) wr → CfP wr w.heap.size C s) := fun wr hC => CfP.keepN ⟨blk_new w _, h.keepN hA⟩ hC
  have HA := Lib.hid hA; clear hA h
  have HM := Lib.hid hM; clear hM
  unfold cfc at *
  go_enter Try.func25, Try.ntmps25
  go_wp2_with fail
  refine HM.out.mono ?_
  rintro e w1 ⟨rfl, hC⟩
  by_cases hm : MayP C
  · rw [decide_eq_true hm]
    have hw := cWithin w.heap.size p a n false C s w1 (HP.out w1 hC) hm.2.2.1.1 hm.2.2.1.2.1
    have hd : decide (WithinP C p a n false) = decide (ReadsP C p a n false) := by
      rw [Bool.eq_iff_iff]; simp only [decide_eq_true_eq]
      exact ⟨fun h => ⟨hm, h⟩, fun h => h.2⟩
    rw [hd] at hw
    have HW := Lib.hid hw
    have HC := Lib.hid (HA.out.trans hC)
    clear hm hw hd hC HM HP
    go_wp2_with fail
    refine HW.out.mono ?_
    rintro e w2 ⟨rfl, hC2⟩
    have HC2 := Lib.hid (HC.out.trans hC2); clear hC2
    go_wp2_with fail
    go_ret
    exact ⟨rfl, HC2.out⟩
  · rw [decide_eq_false hm]
    have HNO : Hid (¬ ReadsP C p a n false) := fun h => hm h.1
    have HC := Lib.hid (HA.out.trans hC)
    clear hm hC HM HP
    go_wp2_with fail
    go_ret
    exact ⟨retB (decide_eq_false HNO.out).symm, HC.out⟩

set_option maxRecDepth 100000 in
set_option maxHeartbeats 2000000 in
theorem cWrites (p a n : Int) (C : Cf) (s : Vs) (w : World) (h : s.R w C) :
    Calls Try.prog 27 #[.agg (cfc C s), .int .i64 p, .int .i64 a, .int .i64 n] w fun e w' => e = .returned (.bool (decide (ReadsP C p a n true))) ∧ Chg (fun _ => False) w w' := by
  have hA : Chg (fun _ => False) w (w.alloc (.cells (cfc C s) 27)) := (Chg.refl _ _).alloc _
  have hM := cMay C s (w.alloc (.cells (cfc C s) 27)) (h.keepN hA)
  have HP : Hid (∀ wr, Chg (fun _ => False) (w.alloc (.cells (cfc C s) 27)) wr → CfP wr w.heap.size C s) := fun wr hC => CfP.keepN ⟨blk_new w _, h.keepN hA⟩ hC
  have HA := Lib.hid hA; clear hA h
  have HM := Lib.hid hM; clear hM
  unfold cfc at *
  go_enter Try.func27, Try.ntmps27
  go_wp2_with fail
  refine HM.out.mono ?_
  rintro e w1 ⟨rfl, hC⟩
  by_cases hm : MayP C
  · rw [decide_eq_true hm]
    have hw := cWithin w.heap.size p a n true C s w1 (HP.out w1 hC) hm.2.2.1.1 hm.2.2.1.2.1
    have hd : decide (WithinP C p a n true) = decide (ReadsP C p a n true) := by
      rw [Bool.eq_iff_iff]; simp only [decide_eq_true_eq]
      exact ⟨fun h => ⟨hm, h⟩, fun h => h.2⟩
    rw [hd] at hw
    have HW := Lib.hid hw
    have HC := Lib.hid (HA.out.trans hC)
    clear hm hw hd hC HM HP
    go_wp2_with fail
    refine HW.out.mono ?_
    rintro e w2 ⟨rfl, hC2⟩
    have HC2 := Lib.hid (HC.out.trans hC2); clear hC2
    go_wp2_with fail
    go_ret
    exact ⟨rfl, HC2.out⟩
  · rw [decide_eq_false hm]
    have HNO : Hid (¬ ReadsP C p a n true) := fun h => hm h.1
    have HC := Lib.hid (HA.out.trans hC)
    clear hm hC HM HP
    go_wp2_with fail
    go_ret
    exact ⟨retB (decide_eq_false HNO.out).symm, HC.out⟩
end Go.Proofs.Ytncbcjjdnlmjbaa
