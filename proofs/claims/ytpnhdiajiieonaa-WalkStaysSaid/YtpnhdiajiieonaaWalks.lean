/- The laws Walks and WalkStays: the walks. -/
import Derived.Test.YtpnhdiajiieonaaLaw5
set_option linter.unusedSimpArgs false
set_option linter.unusedVariables false
namespace Go.Proofs.Ytpnhdiajiieonaa
open Go.RowKit Go.ChangeShapes Go.WideShapes Go.Deep

theorem neq_same (a b : Int) : (a != a) = false := by simp
set_option maxRecDepth 100000 in
set_option maxHeartbeats 4000000 in
theorem walks_good (n : Nat) (A B : Option Addr) (ca cb : Nat) (xs ys : List Int) (root page : Int) (w : World) (h1 : 1 ≤ n) (h2 : n ≤ 64) (hx : xs.length ≤ 9223372036854775807) (hy : ys.length ≤ 9223372036854775807) (rx : RowC w A (xs.flatMap icell)) (ry : RowC w B (ys.flatMap icell)) :
    Calls Try.prog 7 #[.int .i64 n, .slice A xs.length ca, .slice B ys.length cb, .int .i64 root, .int .i64 page] w fun e w' => e = .returned (.bool true) ∧ Chg (fun _ => False) w w' := by
  go_enter Try.func7, Try.ntmps7
  go_wp2_with fail
  refine (filled_ok n A B ca cb xs ys w h1 h2 hx hy rx ry).mono ?_
  rintro e w1 ⟨rfl, m1, m2, hC⟩
  have hl : (fillB n (zipT xs ys (nPut xs ys)) (List.replicate (n * 64) 0)).length ≤ 4096 := by rw [fillB_len, List.length_replicate]; omega
  generalize fillB n (zipT xs ys (nPut xs ys)) (List.replicate (n * 64) 0) = bs at *
  generalize w.heap.size = H at *
  clear rx ry hx hy
  have HL := Lib.hid hl; clear hl
  go_wp2_with fail
  go_loopw [13] (fun i wr => ∃ k : Nat, k ≤ 20 ∧ i = .int .i64 k ∧ MemAt wr 141 (H + 1) H bs ∧ MemAt wr 35 (H + 2 + 1) (H + 2) bs ∧ Chg (fun _ => False) w wr) (fun i _ => 20 - (intOf i).toNat)
  case atStart => exact ⟨0, by omega, rfl, m1, m2, hC⟩
  case round =>
    clear m1 m2 hC
    obtain ⟨k, hk, rfl, m1, m2, hC⟩ := hrel
    have hk0 : (0 : Int) ≤ k := by omega
    by_cases hlt : k < 20
    · have hk1 : (k : Int) < 20 := by omega
      go_wp2_with fail
      generalize wrap64 (page + (k : Int) * 13) = pg
      refine (wWalk _ _ bs root pg _ m1 HL.out).mono ?_
      rintro e v ⟨rfl, hD⟩
      go_wp2_with fail
      generalize hE : walkE bs root pg = E
      have HE := Lib.hid hE
      clear hE
      refine calls_abs (fun W => MemAt W 141 (H + 1) H bs ∧ MemAt W 35 (H + 2 + 1) (H + 2) bs ∧ W.heap[v.heap.size]? = some (.cells #[.int .i64 E.1.1, .int .i64 E.1.2] 57 (0, 0)) ∧ Chg (fun _ => False) w W) ⟨(m1.keep hD id id).keep (S := fun _ => False) ((Chg.refl _ _).alloc _) id id, (m2.keep hD id id).keep (S := fun _ => False) ((Chg.refl _ _).alloc _) id id, blk_new _ _, (hC.trans hD).alloc _⟩ ?_
      clear m1 m2 hD hC
      generalize v.heap.size = q at *
      rintro W ⟨m1, m2, hA, hC⟩
      refine (rWalk _ _ bs root pg _ m2 HL.out).mono ?_
      rintro e v2 ⟨rfl, hD⟩
      rw [HE.out]
      replace hA := hD.at hA id
      replace m1 := m1.keep hD id id
      replace m2 := m2.keep hD id id
      replace hC := hC.trans hD
      clear hD HE
      have a0 := blk_cell hA 0
      have a1 := blk_cell hA 1
      have hlt2 := lt_of_heap hA
      have M1 := Lib.hid m1; clear m1
      have M2 := Lib.hid m2; clear m2
      have HC := Lib.hid hC; clear hC hA
      go_wp2_with ((refine (num16 _ _).mono ?_; rintro e w6 ⟨rfl, rfl⟩))
      go_roundw
      case rel => exact ⟨k + 1, by omega, by go_num, M1.out.keep (S := fun _ => False) ((Chg.refl _ _).alloc _) id id, M2.out.keep (S := fun _ => False) ((Chg.refl _ _).alloc _) id id, HC.out.alloc _⟩
      case measure => simp [intOf]; omega
    · obtain rfl : k = 20 := by omega
      clear hk hlt hk0
      have d0 := m2.hdr
      have hcv := mem_string m2 0 bs.length bs.length (by omega)
      rw [List.drop_zero, List.take_of_length_le (Nat.le_refl _)] at hcv
      have m0 : mayP 0 bs.length bs.length := by unfold mayP; omega
      have hall : readS bs 0 bs.length = str bs := by rw [readS, if_pos m0, Int.toNat_natCast, show (0 : Int).toNat = 0 from rfl, List.drop_zero, List.take_of_length_le (Nat.le_refl _)]
      have hall2 : errC bs 0 bs.length = 0 := if_pos m0
      have HA := Lib.hid hall; clear hall
      have HA2 := Lib.hid hall2; clear hall2 m0
      have HC := Lib.hid hC; clear hC
      go_wp2_with fail
      refine (read47 _ _ bs 0 bs.length _ m1 HL.out).mono ?_
      rintro e w4 ⟨rfl, rfl⟩
      rw [HA.out, HA2.out]
      clear HA HA2 m1 m2
      go_wp2_with fail
      refine (num16 _ _).mono ?_
      rintro e w6 ⟨rfl, rfl⟩
      go_wp2_with fail
      refine (awake5 _).mono ?_
      rintro e w7 ⟨rfl, hD⟩
      go_wp2
      go_ret
      exact ⟨rfl, HC.out.trans hD⟩
set_option maxRecDepth 100000 in
theorem walks_bad (n : Int) (a b : Value) (root page : Int) (w : World) (h : ¬ (1 ≤ n ∧ n ≤ 64)) :
    Calls Try.prog 7 #[.int .i64 n, a, b, .int .i64 root, .int .i64 page] w fun e w' => e = .returned (.bool true) ∧ Chg (fun _ => False) w w' := by
  go_enter Try.func7, Try.ntmps7
  go_wp2_with fail
  refine (filled_no n a b w h).mono ?_
  rintro e w1 ⟨rfl, rfl⟩
  go_wp2_with fail
  refine (awake5 _).mono ?_
  rintro e w7 ⟨rfl, hD⟩
  go_wp2
  go_ret
  exact ⟨rfl, hD⟩
theorem walks_walk (w : World) (n : Int) (A : Option Addr) (ca : Nat) (xs : List Int) (hmx : xs.length ≤ maxLen) (rx : RowC w A (xs.flatMap icell)) (_hw : ∀ x ∈ xs, True) (B : Option Addr) (cb : Nat) (ys : List Int) (hmy : ys.length ≤ maxLen) (ry : RowC w B (ys.flatMap icell)) (_hw2 : ∀ x ∈ ys, True) (root page : Int) :
    Calls Try.prog 7 #[.int .i64 n, .slice A xs.length ca, .slice B ys.length cb, .int .i64 root, .int .i64 page] w fun e w' => e = .returned (.bool true) ∧ Below w.heap.size w w' := by
  unfold maxLen at hmx hmy
  by_cases h : 1 ≤ n ∧ n ≤ 64
  · obtain ⟨m, rfl⟩ := Int.eq_ofNat_of_zero_le (show 0 ≤ n by omega)
    exact (walks_good m A B ca cb xs ys root page w (by omega) (by omega) (by omega) (by omega) rx ry).mono fun e w' ⟨h1, h2⟩ => ⟨h1, h2.below (Nat.le_refl _) (fun _ h => h.elim)⟩
  · exact (walks_bad n _ _ root page w h).mono fun e w' ⟨h1, h2⟩ => ⟨h1, h2.below (Nat.le_refl _) (fun _ h => h.elim)⟩
end Go.Proofs.Ytpnhdiajiieonaa
