/- The contracts of the two logs, the other half. -/
import Derived.Test.YtochadejlglfgaaLog
namespace Go.Proofs.Ytochadejlglfgaa
open Go.RowKit

theorem num16 (a : Int) (w : World) : Calls Try.prog 16 #[.int .i64 a] w fun e w' => e = .returned (.int .i64 a) ∧ w = w' := by
  go_enter Try.func16, Try.ntmps16
  go_wp2
  all_goals go_ret
  all_goals exact ⟨rfl, rfl⟩

theorem new14_ok (most : Int) (base : Nat) (w : World) (h1 : 1 ≤ most) (h2 : most ≤ 16) :
    Calls Try.prog 14 #[.int .i64 most] w fun e w' => e = .returned (.tuple #[.pointer (some ⟨w.heap.size, 0, none⟩), .int .i64 0]) ∧ LogAt w' 96 base w.heap.size none most [] 0 ∧ w' = w.alloc (.cells #[.int .i64 most, .slice none 0 0, .int .i64 0] 96) := by
  go_enter Try.func14, Try.ntmps14
  go_wp2
  all_goals go_ret2
  all_goals exact ⟨rfl, ⟨none, 0, blk_new _ _, rfl, World.ownsRow_nil _ _ _ _⟩, rfl⟩
theorem new14_no (most : Int) (w : World) (h1 : ¬ (1 ≤ most ∧ most ≤ 16)) :
    Calls Try.prog 14 #[.int .i64 most] w fun e w' => e = .returned (.tuple #[.pointer none, .int .i64 800]) ∧ w = w' := by
  by_cases h : 1 ≤ most
  · have h2 : ¬ most ≤ 16 := by omega
    go_enter Try.func14, Try.ntmps14
    go_wp2
    all_goals go_ret2
    all_goals exact ⟨rfl, rfl⟩
  · go_enter Try.func14, Try.ntmps14
    go_wp2
    all_goals go_ret2
    all_goals exact ⟨rfl, rfl⟩

theorem new15_ok (most : Int) (base : Nat) (w : World) (h1 : 1 ≤ most) (h2 : most ≤ 16) :
    Calls Try.prog 15 #[.int .i64 most] w fun e w' => e = .returned (.tuple #[.pointer (some ⟨w.heap.size, 0, none⟩), .int .i64 0]) ∧ LogAt w' 98 base w.heap.size none most [] 0 ∧ w' = w.alloc (.cells #[.int .i64 most, .slice none 0 0, .int .i64 0] 98) := by
  go_enter Try.func15, Try.ntmps15
  go_wp2
  all_goals go_ret2
  all_goals exact ⟨rfl, ⟨none, 0, blk_new _ _, rfl, World.ownsRow_nil _ _ _ _⟩, rfl⟩
theorem new15_no (most : Int) (w : World) (h1 : ¬ (1 ≤ most ∧ most ≤ 16)) :
    Calls Try.prog 15 #[.int .i64 most] w fun e w' => e = .returned (.tuple #[.pointer none, .int .i64 800]) ∧ w = w' := by
  by_cases h : 1 ≤ most
  · have h2 : ¬ most ≤ 16 := by omega
    go_enter Try.func15, Try.ntmps15
    go_wp2
    all_goals go_ret2
    all_goals exact ⟨rfl, rfl⟩
  · go_enter Try.func15, Try.ntmps15
    go_wp2
    all_goals go_ret2
    all_goals exact ⟨rfl, rfl⟩

set_option maxRecDepth 100000 in
set_option maxHeartbeats 1000000 in
theorem add18_full (base p : Nat) (g : Option Nat) (most count : Int) (xs : List Flt) (f : Flt) (w : World) (h : LogAt w 96 base p g most xs count)
    (hroom : ¬ (xs.length : Int) < most) (hc0 : 0 ≤ count) (hc1 : count ≤ 65535) :
    Calls Try.prog 18 #[.pointer (some ⟨p, 0, none⟩), f.val] w fun e w' => e = .returned (.tuple #[]) ∧
      LogAt w' 96 base p g most xs (min (count + 1) 65535) ∧ Chg (fun k => k = p) w w' := by
  obtain ⟨A, c, hp, hg, hown⟩ := h
  have c0 : w.cell? ⟨p, 0, none⟩ = some (.int .i64 most) := blk_cell hp 0
  have c1 : w.cell? ⟨p, 1, none⟩ = some (.slice A xs.length c) := blk_cell hp 1
  have c2 : w.cell? ⟨p, 2, none⟩ = some (.int .i64 count) := blk_cell hp 2
  have f2 : w.frozen? ⟨p, 2, none⟩ = false := blk_free hp 2
  have lp := lt_of_heap hp
  have Hp := Lib.hid hp; clear hp
  have Hg := Lib.hid hg; clear hg
  have hne : (Value.slice A xs.length c).ownBlock ≠ some p := own_ne hown Hp.out (by decide)
  unfold Flt.val
  go_enter Try.func18, Try.ntmps18
  go_wp2_with fail
  go_quiet (fail)
  rename_i nq
  go_wp2
  all_goals first | go_end0 | refine bodyPost_ret (v := .tuple #[]) (by simp [results, Try.results18, go_sem]) rfl ?_
  all_goals
    refine ⟨rfl, ⟨A, c, ?_, Hg.out, own_setCell_far (w := (w.alloc _).drewN nq) (hown.alloc _) hne⟩, Chg.set1 (((Chg.refl _ _).alloc _).drewN nq) _⟩
    rw [blk_set (w := (w.alloc _).drewN nq) (blk_alloc Hp.out _)]
    simp
    omega

set_option maxRecDepth 100000 in
set_option maxHeartbeats 1000000 in
theorem add19_full (base p : Nat) (g : Option Nat) (most count : Int) (xs : List Flt) (f : Flt) (w : World) (h : LogAt w 98 base p g most xs count)
    (hroom : ¬ (xs.length : Int) < most) (hc0 : 0 ≤ count) (hc1 : count ≤ 65535) :
    Calls Try.prog 19 #[.pointer (some ⟨p, 0, none⟩), f.val] w fun e w' => e = .returned (.tuple #[]) ∧
      LogAt w' 98 base p g most xs (min (count + 1) 65535) ∧ Chg (fun k => k = p) w w' := by
  obtain ⟨A, c, hp, hg, hown⟩ := h
  have c0 : w.cell? ⟨p, 0, none⟩ = some (.int .i64 most) := blk_cell hp 0
  have c1 : w.cell? ⟨p, 1, none⟩ = some (.slice A xs.length c) := blk_cell hp 1
  have c2 : w.cell? ⟨p, 2, none⟩ = some (.int .i64 count) := blk_cell hp 2
  have f2 : w.frozen? ⟨p, 2, none⟩ = false := blk_free hp 2
  have lp := lt_of_heap hp
  have Hp := Lib.hid hp; clear hp
  have Hg := Lib.hid hg; clear hg
  have hne : (Value.slice A xs.length c).ownBlock ≠ some p := own_ne hown Hp.out (by decide)
  unfold Flt.val
  go_enter Try.func19, Try.ntmps19
  go_wp2_with fail
  go_quiet (fail)
  rename_i nq
  go_wp2
  all_goals first | go_end0 | refine bodyPost_ret (v := .tuple #[]) (by simp [results, Try.results19, go_sem]) rfl ?_
  all_goals
    refine ⟨rfl, ⟨A, c, ?_, Hg.out, own_setCell_far (w := (w.alloc _).drewN nq) (hown.alloc _) hne⟩, Chg.set1 (((Chg.refl _ _).alloc _).drewN nq) _⟩
    rw [blk_set (w := (w.alloc _).drewN nq) (blk_alloc Hp.out _)]
    simp
    omega

set_option maxRecDepth 100000 in
set_option maxHeartbeats 1000000 in
theorem take20 (base p : Nat) (g : Option Nat) (most count : Int) (xs : List Flt) (w : World) (h : LogAt w 96 base p g most xs count) :
    Calls Try.prog 20 #[.pointer (some ⟨p, 0, none⟩)] w fun e w' => ∃ A c, e = .returned (.tuple #[.slice A xs.length c, .int .i64 count]) ∧ (Value.slice A xs.length c).ownBlock = g ∧ w'.ownsRow base 34 5 (.slice A xs.length c) xs.length (xs.flatMap Flt.cells) ∧
      LogAt w' 96 base p none most [] 0 ∧ Chg (fun k => k = p) w w' := by
  obtain ⟨A, c, hp, hg, hown⟩ := h
  have c1 : w.cell? ⟨p, 1, none⟩ = some (.slice A xs.length c) := blk_cell hp 1
  have c2 : w.cell? ⟨p, 2, none⟩ = some (.int .i64 count) := blk_cell hp 2
  have Hp := Lib.hid hp; clear hp
  have Hg := Lib.hid hg; clear hg
  have hne : (Value.slice A xs.length c).ownBlock ≠ some p := own_ne hown Hp.out (by decide)
  go_enter Try.func20, Try.ntmps20
  go_wp2_with fail
  go_quiet (fail)
  rename_i nq
  have f1 : w.frozen? ⟨p, 1, none⟩ = false := blk_free Hp.out 1
  have f2 : w.frozen? ⟨p, 2, none⟩ = false := blk_free Hp.out 2
  go_wp2
  all_goals go_ret2
  all_goals
    refine ⟨A, c, rfl, Hg.out, own_setCell_far (own_setCell_far (w := w.drewN nq) hown hne) hne, ⟨none, 0, ?_, rfl, World.ownsRow_nil _ _ _ _⟩, Chg.set1 (Chg.set1 ((Chg.refl _ _).drewN nq) _) _⟩
    rw [blk_set (blk_set (w := w.drewN nq) Hp.out _ _)]
    simp

set_option maxRecDepth 100000 in
set_option maxHeartbeats 1000000 in
theorem take21 (base p : Nat) (g : Option Nat) (most count : Int) (xs : List Flt) (w : World) (h : LogAt w 98 base p g most xs count) :
    Calls Try.prog 21 #[.pointer (some ⟨p, 0, none⟩)] w fun e w' => ∃ A c, e = .returned (.tuple #[.slice A xs.length c, .int .i64 count]) ∧ (Value.slice A xs.length c).ownBlock = g ∧ w'.ownsRow base 34 5 (.slice A xs.length c) xs.length (xs.flatMap Flt.cells) ∧
      LogAt w' 98 base p none most [] 0 ∧ Chg (fun k => k = p) w w' := by
  obtain ⟨A, c, hp, hg, hown⟩ := h
  have c1 : w.cell? ⟨p, 1, none⟩ = some (.slice A xs.length c) := blk_cell hp 1
  have c2 : w.cell? ⟨p, 2, none⟩ = some (.int .i64 count) := blk_cell hp 2
  have Hp := Lib.hid hp; clear hp
  have Hg := Lib.hid hg; clear hg
  have hne : (Value.slice A xs.length c).ownBlock ≠ some p := own_ne hown Hp.out (by decide)
  go_enter Try.func21, Try.ntmps21
  go_wp2_with fail
  go_quiet (fail)
  rename_i nq
  have f1 : w.frozen? ⟨p, 1, none⟩ = false := blk_free Hp.out 1
  have f2 : w.frozen? ⟨p, 2, none⟩ = false := blk_free Hp.out 2
  go_wp2
  all_goals go_ret2
  all_goals
    refine ⟨A, c, rfl, Hg.out, own_setCell_far (own_setCell_far (w := w.drewN nq) hown hne) hne, ⟨none, 0, ?_, rfl, World.ownsRow_nil _ _ _ _⟩, Chg.set1 (Chg.set1 ((Chg.refl _ _).drewN nq) _) _⟩
    rw [blk_set (blk_set (w := w.drewN nq) Hp.out _ _)]
    simp

end Go.Proofs.Ytochadejlglfgaa
