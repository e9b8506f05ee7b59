/- The law Logs. -/
import Derived.Test.YtochadejlglfgaaLog6
namespace Go.Proofs.Ytochadejlglfgaa
open Go.RowKit
attribute [local go_sem] i64_and31 i64_and3


set_option maxRecDepth 100000 in
set_option maxHeartbeats 1000000 in
theorem logs_bad (most : Int) (fs : List Flt) (A : Option Addr) (c : Nat) (takes : Int) (w : World) (h : ¬ (1 ≤ most ∧ most ≤ 16)) :
    Calls Try.prog 3 #[.int .i64 most, .slice A fs.length c, .int .i64 takes] w fun e w' => e = .returned (.bool true) ∧ Chg (fun _ => False) w w' := by
  go_enter Try.func3, Try.ntmps3
  go_wp2_with fail
  refine (new14_no most w h).mono ?_
  rintro e w1 ⟨rfl, rfl⟩
  go_wp2_with fail
  refine (new15_no most w h).mono ?_
  rintro e w1 ⟨rfl, rfl⟩
  go_wp2_with fail
  refine (num16 _ _).mono ?_
  rintro e w1 ⟨rfl, rfl⟩
  go_wp2_with fail
  refine (awake17 _).mono ?_
  rintro e w1 ⟨rfl, hC⟩
  go_wp2
  go_ret
  exact ⟨rfl, hC⟩

set_option maxRecDepth 100000 in
set_option maxHeartbeats 1000000 in
theorem logs_good (most : Int) (fs : List Flt) (A : Option Addr) (c : Nat) (takes : Int) (w : World) (h1 : 1 ≤ most) (h2 : most ≤ 16) (hn : fs.length ≤ 9223372036854775807) (hr : RowC w A (fs.flatMap Flt.cells)) :
    Calls Try.prog 3 #[.int .i64 most, .slice A fs.length c, .int .i64 takes] w fun e w' => e = .returned (.bool true) ∧ Chg (fun _ => False) w w' := by
  go_enter Try.func3, Try.ntmps3
  go_wp2_with fail
  refine (new14_ok most w.heap.size w h1 h2).mono ?_
  rintro e w1 ⟨rfl, hL, hw1⟩
  have hC1 : Chg (fun _ => False) w w1 := by rw [hw1]; exact (Chg.refl _ _).alloc _
  have hs1 : w1.heap.size = w.heap.size + 1 := by rw [hw1]; simp
  clear hw1
  go_wp2_with fail
  refine (new15_ok most w.heap.size w1 h1 h2).mono ?_
  rintro e w2 ⟨rfl, hR, hw2⟩
  have hC2 : Chg (fun _ => False) w1 w2 := by rw [hw2]; exact (Chg.refl _ _).alloc _
  clear hw2
  have hL2 := hL.keep hC2 (fun h => h) (fun _ _ h => h)
  have hC3 := hC1.trans hC2
  rw [hs1] at hR ⊢
  clear hL hC1 hC2 hs1
  go_wp2_with fail
  refine (num16 _ _).mono ?_
  rintro e w3 ⟨rfl, rfl⟩
  go_wp2_with fail
  have hA : fs.length = 0 ∨ ∃ b o, A = some ⟨b, o, none⟩ := by
    cases fs with
    | nil => exact .inl rfl
    | cons x xs => obtain ⟨b, o, e, _⟩ := hr 0 (.int .i64 x.tick) rfl; exact .inr ⟨b, o, e⟩
  go_loopw [11] (fun i wr => ∃ k : Nat, k ≤ fs.length ∧ i = .int .i64 k ∧ ∃ xs count, Two wr w.heap.size w.heap.size (w.heap.size + 1) most xs count ∧ 0 ≤ count ∧ count ≤ 65535 ∧ xs.length ≤ 16 ∧ Chg (fun _ => False) w wr) (fun i _ => fs.length - (intOf i).toNat)
  case atStart => exact ⟨0, by omega, rfl, [], 0, ⟨none, none, hL2, hR, fun _ h => by cases h⟩, by omega, by omega, by simp, hC3⟩
  case round =>
    obtain ⟨k, hk, rfl, xs, count, ⟨g1, g2, hl, hr', hd⟩, hb0, hb1, hx, hC⟩ := hrel
    by_cases hlt : k < fs.length
    · obtain ⟨b, o, rfl⟩ := hA.resolve_left (by omega)
      have hf := fltCell hr k hlt
      by_cases h60 : k < 60
      · generalize fs[k] = f at hf
        have lay : ∀ {W : World}, Chg (fun _ => False) w W → W.cell? ⟨b, o + k * 5, none⟩ = some (.int .i64 f.tick) ∧ W.cell? ⟨b, o + k * 5 + 1, none⟩ = some (.int .i64 f.device) ∧ W.cell? ⟨b, o + k * 5 + 2, none⟩ = some (.int .i64 f.iova) ∧ W.cell? ⟨b, o + k * 5 + 3, none⟩ = some (.bool f.write) ∧ W.cell? ⟨b, o + k * 5 + 4, none⟩ = some (.int .i64 f.code) :=
          fun hW => ⟨hW.cell hf.1 id, hW.cell hf.2.1 id, hW.cell hf.2.2.1 id, hW.cell hf.2.2.2.1 id, hW.cell hf.2.2.2.2 id⟩
        clear hf
        have Lay := @lay; clear lay
        have Hd := Lib.hid hd; clear hd
        obtain ⟨c0, c1, c2, c3, c4⟩ := Lay hC
        go_wp2_with fail
        refine (add18 w.heap.size w.heap.size g1 most count xs f wr hl h2 hC.size hb0 hb1).mono ?_
        rintro e w4 ⟨rfl, g1', hl4, hg1, hC4⟩
        clear c0 c1 c2 c3 c4
        have hr4 := two_first hl hr' Hd.out (by omega) hC4
        have hCw4 : Chg (fun _ => False) w w4 := hC.trans' hC4 (fun j hj h => by
          rcases h with h | h
          · omega
          · have := (hl.bge h.symm).1; omega)
        obtain ⟨c0, c1, c2, c3, c4⟩ := Lay hCw4
        have hm4 := hCw4.size
        have Hg1 := Lib.hid hg1; clear hg1
        go_wp2_with fail
        refine (add19 w.heap.size (w.heap.size + 1) g2 most count xs f w4 hr4 h2 hm4 hb0 hb1).mono ?_
        rintro e w5 ⟨rfl, g2', hr5, hg2, hC5⟩
        clear c0 c1 c2 c3 c4
        have hT := two_second hl hr' Hd.out (by omega) hl4 Hg1.out hr4 hr5 hg2 hC5
        have hCw5 : Chg (fun _ => False) w w5 := chg_two hC hC4 hC5 (Nat.le_refl _) (Nat.le_refl _) (by omega) (fun k h => (hl.bge h).1) (fun k h => (hr'.bge h).1)
        have hb2 : 0 ≤ addN most xs count ∧ addN most xs count ≤ 65535 := by unfold addN; split <;> omega
        have hx2 : (addX most xs f).length ≤ 16 := by unfold addX; split; (simp; omega); exact hx
        have Hg2 := Lib.hid hg2; clear hg2
        have hk32 : (0 : Int) ≤ (k : Int) % 32 := by omega
        generalize addX most xs f = ys at *
        generalize addN most xs count = cnt at *
        clear hl4 hC4 hr4 hm4 Hg1 hr5 hC5 Hg2 hl hr' hC Hd hb0 hb1 hx hCw4
        go_wp2_with fail
        · obtain ⟨g1, g2, hl, hr', hd⟩ := hT
          have Hd := Lib.hid hd; clear hd
          refine (take20 w.heap.size w.heap.size g1 most cnt ys w5 hl).mono ?_
          rintro e w6 ⟨A1, c1, rfl, hA1, ho1, hl6, hC6⟩
          have hr6 : LogAt w6 98 w.heap.size (w.heap.size + 1) g2 most ys cnt := hr'.keep hC6 (by omega) (fun k hk h => hr'.ne hl (by decide) (h ▸ hk))
          have hC7 : Chg (fun _ => False) w w6 := hCw5.trans' hC6 (fun j hj h => by omega)
          have HA1 := Lib.hid hA1; clear hA1
          go_wp2_with fail
          refine (take21 w.heap.size (w.heap.size + 1) g2 most cnt ys w6 hr6).mono ?_
          rintro e w7 ⟨A2, c2, rfl, hA2, ho2, hr7, hC8⟩
          have HA2 := Lib.hid hA2; clear hA2
          have hC9 : Chg (fun _ => False) w w7 := hC7.trans' hC8 (fun j hj h => by omega)
          have hl7 := hl6.keep hC8 (by omega) (fun _ h => by cases h)
          have ho1' := hC8.own ho1 (fun k hk h => hl.ne hr' (by decide) (HA1.out.symm.trans (h ▸ hk)))
          go_wp2_with fail
          refine (same22 A1 A2 c1 c2 ys w7 (by omega) (RowC_own ho1') (RowC_own ho2)).mono ?_
          rintro e w8 ⟨rfl, nq, rfl⟩
          go_wp2_with fail
          refine (spoil23 A1 c1 w.heap.size ys (w7.drewN nq) (by omega) ho1').mono ?_
          rintro e w9 ⟨rfl, hC10⟩
          have hCz : Chg (fun _ => False) w w9 := (hC9.drewN nq).trans' hC10 (fun j hj h => by
            have := (own_lt ho1' h.symm).1; omega)
          have hT : Two w9 w.heap.size w.heap.size (w.heap.size + 1) most [] 0 :=
            ⟨none, none, LogAt.keep (w := w7.drewN nq) hl7 hC10 (fun h => hl.ne hl (by decide) (HA1.out.symm.trans h.symm)) (fun _ h => by cases h),
              LogAt.keep (w := w7.drewN nq) hr7 hC10 (fun h => hl.ne hr' (by decide) (HA1.out.symm.trans h.symm)) (fun _ h => by cases h), fun _ h => by cases h⟩
          clear hC10 ho1' ho2 hl7 hC9 hr7 hC8 hr6 hC7 hl6 ho1 hC6 hl hr' Hd
          go_wp2
          go_roundw
          case rel => exact ⟨k + 1, by omega, by go_num, [], 0, hT, by omega, by omega, by simp, hCz⟩
          case measure => simp [intOf]; omega
        · go_roundw
          case rel => exact ⟨k + 1, by omega, by go_num, ys, cnt, hT, hb2.1, hb2.2, hx2, hCw5⟩
          case measure => simp [intOf]; omega
      · go_wp2_with fail
        refine (take20 w.heap.size w.heap.size g1 most count xs wr hl).mono ?_
        rintro e w6 ⟨A1, c1, rfl, hA1, ho1, hl6, hC6⟩
        have hr6 : LogAt w6 98 w.heap.size (w.heap.size + 1) g2 most xs count := hr'.keep hC6 (by omega) (fun k hk h => hr'.ne hl (by decide) (h ▸ hk))
        have hC7 : Chg (fun _ => False) w w6 := hC.trans' hC6 (fun j hj h => by omega)
        have HA1 := Lib.hid hA1; clear hA1
        go_wp2_with fail
        refine (take21 w.heap.size (w.heap.size + 1) g2 most count xs w6 hr6).mono ?_
        rintro e w7 ⟨A2, c2, rfl, hA2, ho2, hr7, hC8⟩
        clear hA2
        have hC9 : Chg (fun _ => False) w w7 := hC7.trans' hC8 (fun j hj h => by omega)
        have ho1' := hC8.own ho1 (fun k hk h => hl.ne hr' (by decide) (HA1.out.symm.trans (h ▸ hk)))
        go_wp2_with fail
        refine (same22 A1 A2 c1 c2 xs w7 (by omega) (RowC_own ho1') (RowC_own ho2)).mono ?_
        rintro e w8 ⟨rfl, nq, rfl⟩
        go_wp2_with fail
        refine (awake17 _).mono ?_
        rintro e w9 ⟨rfl, hC10⟩
        have hCz : Chg (fun _ => False) w w9 := (hC9.drewN nq).trans hC10
        clear hC10 ho1' ho2 hC9 hr7 hC8 hr6 hC7 hl6 ho1 hC6 hl hr' hd
        go_wp2
        go_ret
        exact ⟨rfl, hCz⟩
    · go_wp2_with fail
      refine (take20 w.heap.size w.heap.size g1 most count xs wr hl).mono ?_
      rintro e w6 ⟨A1, c1, rfl, hA1, ho1, hl6, hC6⟩
      have hr6 : LogAt w6 98 w.heap.size (w.heap.size + 1) g2 most xs count := hr'.keep hC6 (by omega) (fun k hk h => hr'.ne hl (by decide) (h ▸ hk))
      have hC7 : Chg (fun _ => False) w w6 := hC.trans' hC6 (fun j hj h => by omega)
      have HA1 := Lib.hid hA1; clear hA1
      go_wp2_with fail
      refine (take21 w.heap.size (w.heap.size + 1) g2 most count xs w6 hr6).mono ?_
      rintro e w7 ⟨A2, c2, rfl, hA2, ho2, hr7, hC8⟩
      clear hA2
      have hC9 : Chg (fun _ => False) w w7 := hC7.trans' hC8 (fun j hj h => by omega)
      have ho1' := hC8.own ho1 (fun k hk h => hl.ne hr' (by decide) (HA1.out.symm.trans (h ▸ hk)))
      go_wp2_with fail
      refine (same22 A1 A2 c1 c2 xs w7 (by omega) (RowC_own ho1') (RowC_own ho2)).mono ?_
      rintro e w8 ⟨rfl, nq, rfl⟩
      go_wp2_with fail
      refine (awake17 _).mono ?_
      rintro e w9 ⟨rfl, hC10⟩
      have hCz : Chg (fun _ => False) w w9 := (hC9.drewN nq).trans hC10
      clear hC10 ho1' ho2 hC9 hr7 hC8 hr6 hC7 hl6 ho1 hC6 hl hr' hd
      go_wp2
      go_ret
      exact ⟨rfl, hCz⟩

/-- The walk of Logs. -/
theorem logs_walk (w : World) (most : Int) (A : Option Addr) (c : Nat) (fs : List Flt) (hm : fs.length ≤ maxLen) (hr : RowC w A (fs.flatMap Flt.cells)) (_hw : ∀ x ∈ fs, True) (takes : Int) :
    Calls Try.prog 3 #[.int .i64 most, .slice A fs.length c, .int .i64 takes] w fun e w' => e = .returned (.bool true) ∧ Below w.heap.size w w' := by
  by_cases h : 1 ≤ most ∧ most ≤ 16
  · exact (logs_good most fs A c takes w h.1 h.2 (by unfold maxLen at hm; omega) hr).mono fun e w' ⟨h1, h2⟩ => ⟨h1, h2.below (Nat.le_refl _) (fun _ h => h.elim)⟩
  · exact (logs_bad most fs A c takes w h).mono fun e w' ⟨h1, h2⟩ => ⟨h1, h2.below (Nat.le_refl _) (fun _ h => h.elim)⟩

end Go.Proofs.Ytochadejlglfgaa
