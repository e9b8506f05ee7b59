/- The law WalkStays. -/
import Derived.Test.YtpnhdiajiieonaaWalks
set_option linter.unusedSimpArgs false
set_option linter.unusedVariables false
namespace Go.Proofs.Ytpnhdiajiieonaa
open Go.RowKit Go.ChangeShapes Go.WideShapes Go.Deep
attribute [local go_sem] i64_and255

set_option maxRecDepth 100000 in
set_option maxHeartbeats 4000000 in
theorem walkStays_good (A B : Option Addr) (ca cb : Nat) (xs ys : List Int) (page : Int) (w0 : World) (hx : xs.length ≤ 9223372036854775807) (hy : ys.length ≤ 9223372036854775807) (rx : RowC w0 A (xs.flatMap icell)) (ry : RowC w0 B (ys.flatMap icell)) :
    Calls Try.prog 8 #[.slice A xs.length ca, .slice B ys.length cb, .int .i64 page] w0 fun e w' => e = .returned (.bool true) ∧ Chg (fun _ => False) w0 w' := by
  go_enter Try.func8, Try.ntmps8
  go_wp2_with fail
  refine (awake5 _).mono ?_
  rintro e w ⟨rfl, hC0⟩
  go_wp2_with fail
  refine (filled_ok 10 A B ca cb xs ys w (by omega) (by omega) hx hy (rx.keepF hC0) (ry.keepF hC0)).mono ?_
  rintro e w1 ⟨rfl, m1, m2, hC⟩
  have hl : (fillB 10 (zipT xs ys (nPut xs ys)) (List.replicate (10 * 64) 0)).length = 640 := by rw [fillB_len, List.length_replicate]
  generalize fillB 10 (zipT xs ys (nPut xs ys)) (List.replicate (10 * 64) 0) = bs at *
  generalize w.heap.size = H at *
  replace hC := hC0.trans hC
  clear rx ry hx hy hC0
  have hl4 : bs.length ≤ 4096 := by omega
  have m0 : mayP 0 640 bs.length := by rw [hl]; decide
  have hall2 : errC bs 0 640 = 0 := if_pos m0
  generalize hRS : readS bs 0 640 = RS
  have HL := Lib.hid hl4; clear hl4 hl m0
  have HR := Lib.hid hRS; clear hRS
  have HA2 := Lib.hid hall2; clear hall2
  go_wp2_with fail
  refine (read47 _ _ bs 0 640 _ m1 HL.out).mono ?_
  rintro e w4 ⟨rfl, rfl⟩
  rw [HA2.out, HR.out]
  go_wp2_with fail
  go_loopw [11] (fun i wr => ∃ k : Nat, k ≤ 10 ∧ i = .int .i64 k ∧ MemAt wr 141 (H + 1) H bs ∧ MemAt wr 35 (H + 2 + 1) (H + 2) bs ∧ Chg (fun _ => False) w0 wr) (fun i _ => 10 - (intOf i).toNat)
  case atStart => exact ⟨0, by omega, rfl, m1, m2, hC⟩
  case round =>
    clear m1 m2 hC
    obtain ⟨k, hk, rfl, m1, m2, hC⟩ := hrel
    have hk0 : (0 : Int) ≤ k := by omega
    by_cases hlt : k < 10
    · have hk1 : (k : Int) < 10 := by omega
      go_wp2_with fail
      generalize hE : walkE bs k (page % 256) = E
      have HE := Lib.hid hE
      clear hE
      refine (wWalk _ _ bs k (page % 256) _ m1 HL.out).mono ?_
      rintro e v ⟨rfl, hD⟩
      rw [HE.out]
      go_wp2_with fail
      refine calls_abs (fun W => MemAt W 141 (H + 1) H bs ∧ MemAt W 35 (H + 2 + 1) (H + 2) bs ∧ W.heap[v.heap.size]? = some (.cells #[.int .i64 E.1.1, .int .i64 E.1.2] 57 (0, 0)) ∧ Chg (fun _ => False) w0 W) ⟨(m1.keep hD id id).keep (S := fun _ => False) ((Chg.refl _ _).alloc _) id id, (m2.keep hD id id).keep (S := fun _ => False) ((Chg.refl _ _).alloc _) id id, blk_new _ _, (hC.trans hD).alloc _⟩ ?_
      clear m1 m2 hD hC
      generalize v.heap.size = q at *
      rintro W ⟨m1, m2, hA, hC⟩
      refine (wWalk _ _ bs k (page % 256) _ m1 HL.out).mono ?_
      rintro e v ⟨rfl, hD⟩
      rw [HE.out]
      go_wp2_with fail
      have hq : q < v.heap.size := by have := lt_of_heap hA; have := hD.size; omega
      refine calls_abs (fun W => MemAt W 141 (H + 1) H bs ∧ MemAt W 35 (H + 2 + 1) (H + 2) bs ∧ W.heap[q]? = some (.cells #[.int .i64 E.1.1, .int .i64 E.1.2] 57 (0, 0)) ∧ W.heap[v.heap.size]? = some (.cells #[.int .i64 E.1.1, .int .i64 E.1.2] 57 (0, 0)) ∧ Chg (fun _ => False) w0 W) ⟨(m1.keep hD id id).keep (S := fun _ => False) ((Chg.refl _ _).alloc _) id id, (m2.keep hD id id).keep (S := fun _ => False) ((Chg.refl _ _).alloc _) id id, blk_alloc (hD.at hA id) _, blk_new _ _, (hC.trans hD).alloc _⟩ ?_
      clear m1 m2 hD hC hA
      generalize v.heap.size = q2 at *
      rintro W ⟨m1, m2, hA, hA2, hC⟩
      refine (rWalk _ _ bs k (page % 256) _ m2 HL.out).mono ?_
      rintro e v2 ⟨rfl, hD⟩
      rw [HE.out]
      replace hA := hD.at hA id
      replace hA2 := hD.at hA2 id
      replace m1 := m1.keep hD id id
      replace m2 := m2.keep hD id id
      replace hC := hC.trans hD
      clear hD HE
      have a0 := blk_cell hA 0
      have a1 := blk_cell hA 1
      have b0 := blk_cell hA2 0
      have b1 := blk_cell hA2 1
      have hlt1 := lt_of_heap hA
      have hlt2 := lt_of_heap hA2
      have M1 := Lib.hid m1; clear m1
      have M2 := Lib.hid m2; clear m2
      have HC := Lib.hid hC; clear hC hA hA2
      go_wp2_with ((refine (num16 _ _).mono ?_; rintro e w6 ⟨rfl, rfl⟩))
      go_roundw
      case rel => exact ⟨k + 1, by omega, by go_num, M1.out.keep (S := fun _ => False) ((Chg.refl _ _).alloc _) id id, M2.out.keep (S := fun _ => False) ((Chg.refl _ _).alloc _) id id, HC.out.alloc _⟩
      case measure => simp [intOf]; omega
    · obtain rfl : k = 10 := by omega
      clear hk hlt hk0
      have HC := Lib.hid hC; clear hC
      go_wp2_with fail
      refine (read47 _ _ bs 0 640 _ m1 HL.out).mono ?_
      rintro e w4 ⟨rfl, rfl⟩
      rw [HA2.out, HR.out]
      clear HR HA2 m1 m2
      go_wp2_with ((refine (num16 _ _).mono ?_; rintro e w6 ⟨rfl, rfl⟩))
      go_ret
      exact ⟨rfl, HC.out⟩
theorem walkStays_walk (w : World) (A : Option Addr) (ca : Nat) (xs : List Int) (hmx : xs.length ≤ maxLen) (rx : RowC w A (xs.flatMap icell)) (_hw : ∀ x ∈ xs, True) (B : Option Addr) (cb : Nat) (ys : List Int) (hmy : ys.length ≤ maxLen) (ry : RowC w B (ys.flatMap icell)) (_hw2 : ∀ x ∈ ys, True) (page : Int) :
    Calls Try.prog 8 #[.slice A xs.length ca, .slice B ys.length cb, .int .i64 page] w fun e w' => e = .returned (.bool true) ∧ Below w.heap.size w w' := by
  unfold maxLen at hmx hmy
  exact (walkStays_good A B ca cb xs ys page w (by omega) (by omega) rx ry).mono fun e w' ⟨h1, h2⟩ => ⟨h1, h2.below (Nat.le_refl _) (fun _ h => h.elim)⟩
end Go.Proofs.Ytpnhdiajiieonaa
