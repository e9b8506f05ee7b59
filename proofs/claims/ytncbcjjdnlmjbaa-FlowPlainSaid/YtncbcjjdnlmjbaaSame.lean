/- The laws' comparisons of rows that are the same. Printed by mksame.py. -/
import Derived.Test.YtncbcjjdnlmjbaaRefG
import Derived.Deep.QuietTactic
import Derived.BigQuiet
import Derived.Deep.DeepCutAuto
set_option linter.unusedSimpArgs false
set_option linter.unusedVariables false
namespace Go.Proofs.Ytncbcjjdnlmjbaa
open Go.RowKit

set_option maxRecDepth 100000 in
set_option maxHeartbeats 1000000 in
theorem sameInts (v1 v2 : Value) (L : List Int) (w : World) (h1 : RdN w v1 L) (h2 : RdN w v2 L) :
    Calls Try.prog 71 #[v1, v2] w fun e w' => e = .returned (.bool true) ∧ ∃ n, w' = w.drewN n := by
  have hn : L.length ≤ 9223372036854775807 := by have := h1.1; unfold maxLen at this; omega
  obtain ⟨_, A, c, rfl, h1⟩ := h1
  obtain ⟨_, B, d, rfl, h2⟩ := h2
  have H1 := Lib.hid h1; clear h1
  have H2 := Lib.hid h2; clear h2
  go_enter Try.func71, Try.ntmps71
  go_wp2_with fail
  go_loopw [5] (fun s wr => ∃ (j n : Nat), j ≤ L.length ∧ s = .int .i64 j ∧ wr = w.drewN n) (fun s _ => L.length - (intOf s).toNat)
  case atStart => exact ⟨0, 0, by omega, rfl, rfl⟩
  case round =>
    obtain ⟨j, n, hj, rfl, rfl⟩ := hrel
    have j0 : (0 : Int) ≤ j := by omega
    by_cases hlt : j < L.length
    · have j1 : (j : Int) < L.length := by omega
      obtain ⟨g, o, rfl, a0⟩ := H1.out j hlt
      obtain ⟨g', o', rfl, b0⟩ := H2.out j hlt
      generalize L[j] = x0 at *
      go_wp2_with fail
      go_quiet (fail)
      go_wp2_with fail
      go_roundw
      case rel => exact ⟨j + 1, _, by omega, by go_num, rfl⟩
      case measure => simp [intOf]; omega
    · obtain rfl : j = L.length := by omega
      clear hlt hj
      go_wp2_with fail
      go_ret
      exact ⟨rfl, _, rfl⟩
set_option maxRecDepth 100000 in
set_option maxHeartbeats 1000000 in
theorem sameWins (v1 v2 : Value) (L : List Wn) (w : World) (h1 : RdW w v1 L) (h2 : RdW w v2 L) :
    Calls Try.prog 70 #[v1, v2] w fun e w' => e = .returned (.bool true) ∧ ∃ n, w' = w.drewN n := by
  have hn : L.length ≤ 9223372036854775807 := by have := h1.1; have := this.1; unfold maxLen at this; omega
  obtain ⟨_, A, c, rfl, h1⟩ := h1
  obtain ⟨_, B, d, rfl, h2⟩ := h2
  have H1 := Lib.hid h1; clear h1
  have H2 := Lib.hid h2; clear h2
  go_enter Try.func70, Try.ntmps70
  go_wp2_with fail
  go_loopw [5] (fun s wr => ∃ (j n : Nat), j ≤ L.length ∧ s = .int .i64 j ∧ wr = w.drewN n) (fun s _ => L.length - (intOf s).toNat)
  case atStart => exact ⟨0, 0, by omega, rfl, rfl⟩
  case round =>
    obtain ⟨j, n, hj, rfl, rfl⟩ := hrel
    have j0 : (0 : Int) ≤ j := by omega
    by_cases hlt : j < L.length
    · have j1 : (j : Int) < L.length := by omega
      obtain ⟨g, o, rfl, a0, a1, a2, a3⟩ := H1.out j hlt
      obtain ⟨g', o', rfl, b0, b1, b2, b3⟩ := H2.out j hlt
      generalize L[j].part = x0 at *
      generalize L[j].start = x1 at *
      generalize L[j].len = x2 at *
      generalize L[j].deliver = x3 at *
      go_wp2_with fail
      go_quiet (fail)
      go_wp2_with fail
      go_roundw
      case rel => exact ⟨j + 1, _, by omega, by go_num, rfl⟩
      case measure => simp [intOf]; omega
    · obtain rfl : j = L.length := by omega
      clear hlt hj
      go_wp2_with fail
      go_ret
      exact ⟨rfl, _, rfl⟩
set_option maxRecDepth 100000 in
set_option maxHeartbeats 2000000 in
theorem sameParts (v1 v2 : Value) (L : List Prt) (w : World) (h1 : RdP w v1 L) (h2 : RdP w v2 L) :
    Calls Try.prog 69 #[v1, v2] w fun e w' => e = .returned (.bool true) ∧ ∃ n, w' = w.drewN n := by
  have hn : L.length ≤ 9223372036854775807 := by have := h1.1; unfold maxLen at this; omega
  have H1 : Hid (∀ W, Chg (fun _ => False) w W → RdP W v1 L) := fun W hW => h1.keepN hW
  have H2 : Hid (∀ W, Chg (fun _ => False) w W → RdP W v2 L) := fun W hW => h2.keepN hW
  obtain ⟨_, A, c, rfl, _⟩ := h1
  obtain ⟨_, B, d, rfl, _⟩ := h2
  go_enter Try.func69, Try.ntmps69
  go_wp2_with fail
  go_loopw [5] (fun s wr => ∃ (j n : Nat), j ≤ L.length ∧ s = .int .i64 j ∧ wr = w.drewN n) (fun s _ => L.length - (intOf s).toNat)
  case atStart => exact ⟨0, 0, by omega, rfl, rfl⟩
  case round =>
    obtain ⟨j, n, hj, rfl, hw⟩ := hrel
    have hC : Chg (fun _ => False) w wr := by rw [hw]; exact (Chg.refl _ _).drewN _
    have HW := Lib.hid hw; clear hw
    have j0 : (0 : Int) ≤ j := by omega
    by_cases hlt : j < L.length
    · have j1 : (j : Int) < L.length := by omega
      obtain ⟨_, A', c', hv, hel⟩ := H1.out wr hC
      injection hv with e1 e2 e3
      subst e1 e3
      obtain ⟨g, o, F, rfl, a0, a1, a2, a3, a4, hF⟩ := hel j hlt
      clear hel e2
      obtain ⟨_, B', d', hv, hel⟩ := H2.out wr hC
      injection hv with e1 e2 e3
      subst e1 e3
      obtain ⟨g', o', F', rfl, b0, b1, b2, b3, b4, hF'⟩ := hel j hlt
      clear hel e2 hC
      have hsi := fun q => sameInts F F' L[j].fr (wr.drewN q) (hF.keepN ((Chg.refl _ _).drewN _)) (hF'.keepN ((Chg.refl _ _).drewN _))
      have HSI := Lib.hid hsi; clear hsi hF hF'
      generalize L[j].lv = x0 at *
      generalize L[j].cats = x1 at *
      generalize L[j].first = x2 at *
      generalize L[j].count = x3 at *
      go_upto_region 6 with fail

      go_quiet ((go_at_call 71; exact Calls.quiet_of (HSI.out _)))
      go_wp2_with fail
      go_roundw
      case rel => exact ⟨j + 1, n + nq, by omega, by go_num, by rw [HW.out]; exact World.drewN_drewN _ _ _⟩
      case measure => simp [intOf]; omega
    · obtain rfl : j = L.length := by omega
      clear hlt hj hC
      go_wp2_with fail
      go_ret
      exact ⟨rfl, n, HW.out⟩
set_option maxRecDepth 100000 in
set_option maxHeartbeats 4000000 in
theorem sameConfig (C : Cf) (s1 s2 : Vs) (w : World) (h1 : s1.R w C) (h2 : s2.R w C) :
    Calls Try.prog 29 #[.agg (cfc C s1), .agg (cfc C s2)] w fun e w' => e = .returned (.bool true) ∧ Chg (fun _ => False) w w' := by
  have hA : Chg (fun _ => False) w ((w.alloc (.cells (cfc C s1) 27)).alloc (.cells (cfc C s2) 27)) := ((Chg.refl _ _).alloc _).alloc _
  have HP : Hid (∀ W, Chg (fun _ => False) ((w.alloc (.cells (cfc C s1) 27)).alloc (.cells (cfc C s2) 27)) W → CfP W w.heap.size C s1 ∧ CfP W (w.heap.size + 1) C s2) := fun W hW =>
    ⟨⟨hW.at (((Chg.refl (fun _ => False) _).alloc _).at (blk_new w _) id) id, (h1.keepN hA).keepN hW⟩, ⟨hW.at (blk_new2 w _ _) id, (h2.keepN hA).keepN hW⟩⟩
  have HA := Lib.hid hA; clear hA h1 h2
  obtain ⟨A1, k1, A2, k2, A3, k3, A4, k4, rfl, m1, m2, m3, m4⟩ := (HP.out _ (Chg.refl _ _)).1.open
  obtain ⟨B1, l1, B2, l2, B3, l3, B4, l4, rfl, _, _, _, _⟩ := (HP.out _ (Chg.refl _ _)).2.open
  unfold cfc at *
  go_enter Try.func29, Try.ntmps29
  go_upto_region 1 with fail
  generalize ((w.alloc (.cells #[.int .i64 C.frames, .slice A1 C.parts.length k1, .slice A2 C.devs.length k2, .int .i64 C.major, .slice A3 C.wins.length k3, .slice A4 C.grants.length k4, .int .i64 C.sectors, .int .i64 C.quota, .int .i64 C.quiet] 27)).alloc (.cells #[.int .i64 C.frames, .slice B1 C.parts.length l1, .slice B2 C.devs.length l2, .int .i64 C.major, .slice B3 C.wins.length l3, .slice B4 C.grants.length l4, .int .i64 C.sectors, .int .i64 C.quota, .int .i64 C.quiet] 27)) = W0 at *
  generalize hb2 : w.heap.size + 1 = b2 at *
  generalize w.heap.size = b1 at *
  clear hb2
  have HR := Lib.hid (Chg.refl (fun _ => False) W0)
  obtain ⟨y0, y1, y2, y3, y4, y5, y6, y7, y8⟩ := (HP.out _ HR.out).1.c9'
  obtain ⟨z0, z1, z2, z3, z4, z5, z6, z7, z8⟩ := (HP.out _ HR.out).2.c9'
  have HSP := Lib.hid (sameParts _ _ C.parts _ (HP.out _ HR.out).1.2.1 (HP.out _ HR.out).2.2.1)
  go_wp2_with fail
  refine HSP.out.mono ?_
  rintro e w1 ⟨rfl, n1, hw1⟩
  have HR1 : Hid (Chg (fun _ => False) W0 w1) := by rw [hw1]; exact HR.out.drewN _
  clear hw1 HSP y0 y1 y2 y3 y4 y5 y6 y7 y8 z0 z1 z2 z3 z4 z5 z6 z7 z8 HR
  obtain ⟨y0, y1, y2, y3, y4, y5, y6, y7, y8⟩ := (HP.out _ HR1.out).1.c9'
  obtain ⟨z0, z1, z2, z3, z4, z5, z6, z7, z8⟩ := (HP.out _ HR1.out).2.c9'
  have HSW := Lib.hid (sameWins _ _ C.wins _ (HP.out _ HR1.out).1.2.2.2.1 (HP.out _ HR1.out).2.2.2.2.1)
  go_wp2_with fail
  refine HSW.out.mono ?_
  rintro e w2 ⟨rfl, n2, hw2⟩
  have HR2 : Hid (Chg (fun _ => False) W0 w2) := by rw [hw2]; exact HR1.out.drewN _
  clear hw2 HSW y0 y1 y2 y3 y4 y5 y6 y7 y8 z0 z1 z2 z3 z4 z5 z6 z7 z8 HR1
  obtain ⟨y0, y1, y2, y3, y4, y5, y6, y7, y8⟩ := (HP.out _ HR2.out).1.c9'
  obtain ⟨z0, z1, z2, z3, z4, z5, z6, z7, z8⟩ := (HP.out _ HR2.out).2.c9'
  go_wp2_with fail
  clear y0 y1 y2 y3 y4 y5 y6 y7 y8 z0 z1 z2 z3 z4 z5 z6 z7 z8
  go_loopw [5] (fun s5 wr => ∃ j : Nat, j ≤ C.devs.length ∧ s5 = .int .i64 j ∧ Chg (fun _ => False) W0 wr) (fun s5 _ => (C.devs.length - intOf s5).toNat)
  case atStart => exact ⟨0, by omega, rfl, HR2.out⟩
  case round =>
    clear HR2
    obtain ⟨j, hj, rfl, hC⟩ := hrel
    have j0 : (0 : Int) ≤ j := by omega
    have y2 : wr.cell? ⟨b1, 2, none⟩ = some (.slice A2 C.devs.length k2) := (HP.out _ hC).1.cell 2
    have z2 : wr.cell? ⟨b2, 2, none⟩ = some (.slice B2 C.devs.length l2) := (HP.out _ hC).2.cell 2
    have HC := Lib.hid hC
    by_cases hlt : j < C.devs.length
    · have j1 : (j : Int) < C.devs.length := by omega
      obtain ⟨_, A', c', hv, hel⟩ := (HP.out _ hC).1.2.2.1
      injection hv with e1 e2 e3
      subst e1 e3
      obtain ⟨g, o, F, rfl, a0, a1, hF⟩ := hel j hlt
      clear hel e2
      obtain ⟨_, B', d', hv, hel⟩ := (HP.out _ hC).2.2.2.1
      injection hv with e1 e2 e3
      subst e1 e3
      obtain ⟨g', o', F', rfl, b0, b1', hF'⟩ := hel j hlt
      clear hel e2 hC
      have hsi := fun q => sameInts F F' C.devs[j].pool (wr.drewN q) (hF.keepN ((Chg.refl _ _).drewN _)) (hF'.keepN ((Chg.refl _ _).drewN _))
      have HSI := Lib.hid hsi; clear hsi hF hF'
      generalize C.devs[j].part = x0 at *
      go_upto_region 6 with fail
      go_quiet ((go_at_call 71; exact Calls.quiet_of (HSI.out _)))
      clear y2 z2 a0 a1 b0 b1'
      go_wp2_with fail
      go_roundw
      case rel => exact ⟨j + 1, by omega, by go_num, HC.out.drewN _⟩
      case measure => simp [intOf]; omega
    · obtain rfl : j = C.devs.length := by omega
      clear hC
      go_wp2_with fail
      clear y2 z2
      go_loopw [6] (fun s6 wr => ∃ j : Nat, j ≤ C.grants.length ∧ s6 = .int .i64 j ∧ Chg (fun _ => False) W0 wr) (fun s6 _ => (C.grants.length - intOf s6).toNat)
      case atStart => exact ⟨0, by omega, rfl, HC.out⟩
      case round =>
        clear HC
        obtain ⟨j, hj, rfl, hC⟩ := hrel
        have j0 : (0 : Int) ≤ j := by omega
        have y5 : wr.cell? ⟨b1, 5, none⟩ = some (.slice A4 C.grants.length k4) := (HP.out _ hC).1.cell 5
        have z5 : wr.cell? ⟨b2, 5, none⟩ = some (.slice B4 C.grants.length l4) := (HP.out _ hC).2.cell 5
        have HC := Lib.hid hC
        by_cases hlt : j < C.grants.length
        · have j1 : (j : Int) < C.grants.length := by omega
          obtain ⟨_, A', c', hv, hel⟩ := (HP.out _ hC).1.2.2.2.2
          injection hv with e1 e2 e3
          subst e1 e3
          obtain ⟨g, o, rfl, a0, a1, a2⟩ := hel j hlt
          clear hel e2
          obtain ⟨_, B', d', hv, hel⟩ := (HP.out _ hC).2.2.2.2.2
          injection hv with e1 e2 e3
          subst e1 e3
          obtain ⟨g', o', rfl, b0, b1', b2'⟩ := hel j hlt
          clear hel e2 hC
          generalize C.grants[j].frame = x0 at *
          generalize C.grants[j].to = x1 at *
          generalize C.grants[j].write = x2 at *
          go_upto_region 11 with fail
          go_quiet (fail)
          clear y5 z5 a0 a1 a2 b0 b1' b2'
          go_wp2_with fail
          go_roundw
          case rel => exact ⟨j + 1, by omega, by go_num, HC.out.drewN _⟩
          case measure => simp [intOf]; omega
        · obtain rfl : j = C.grants.length := by omega
          clear hC
          go_wp2_with fail
          go_ret
          exact ⟨rfl, HA.out.trans HC.out⟩
end Go.Proofs.Ytncbcjjdnlmjbaa
