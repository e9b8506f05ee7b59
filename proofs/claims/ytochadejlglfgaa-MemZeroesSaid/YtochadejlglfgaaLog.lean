/- The contracts of the two logs. -/
import Derived.Test.YtochadejlglfgaaBase
namespace Go.Proofs.Ytochadejlglfgaa
open Go.RowKit

structure Flt where
  tick : Int
  device : Int
  iova : Int
  write : Bool
  code : Int

def Flt.cells (f : Flt) : List Value := [.int .i64 f.tick, .int .i64 f.device, .int .i64 f.iova, .bool f.write, .int .i64 f.code]
def Flt.val (f : Flt) : Value := .agg #[.int .i64 f.tick, .int .i64 f.device, .int .i64 f.iova, .bool f.write, .int .i64 f.code]

/-- A log at block p: its row of faults is in block g. -/
def LogAt (w : World) (T : TypeId) (base p : Nat) (g : Option Nat) (most : Int) (xs : List Flt) (count : Int) : Prop :=
  ∃ A c, w.heap[p]? = some (.cells #[.int .i64 most, .slice A xs.length c, .int .i64 count] T (0, 0)) ∧ (Value.slice A xs.length c).ownBlock = g ∧ w.ownsRow base 34 5 (.slice A xs.length c) xs.length (xs.flatMap Flt.cells)

theorem Try.info34 : (Try.prog.info? 34).map (fun i => (i.zero, i.size, i.bytes)) = some (some (.agg #[.int .i64 0, .int .i64 0, .int .i64 0, .bool false, .int .i64 0]), 5, 40) := by kernel_rfl

theorem LogAt.put {w w1 : World} {T base p g most xs count f} {W : World} {gg cap : Nat} {A : Option Addr} {c : Nat} (hT : T ≠ 34) (hC : Chg (fun k => k = p ∨ some k = g) w W) (hp : W.heap[p]? = some (.cells #[.int .i64 most, .slice A xs.length c, .int .i64 count] T (0, 0)))
    (hg : (Value.slice A xs.length c).ownBlock = g) 
    (hown : w1.ownsRow base 34 5 (.slice (some ⟨gg, 0, none⟩) (xs.length + 1) cap) (xs.length + 1) (xs.flatMap Flt.cells ++ Flt.cells f)) (hk : Chg (fun k => some k = (Value.slice A xs.length c).ownBlock) W w1)
    (hat : (Value.slice A xs.length c).ownBlock = some gg ∨ w.heap.size ≤ gg) (hne : (Value.slice A xs.length c).ownBlock ≠ some p) :
    ∃ g', LogAt (w1.setCell ⟨p, 1, none⟩ (.slice (some ⟨gg, 0, none⟩) (xs.length + 1) cap)) T base p g' most (xs ++ [f]) count ∧ (g' = g ∨ ∃ k, g' = some k ∧ w.heap.size ≤ k) ∧ Chg (fun k => k = p ∨ some k = g) w (w1.setCell ⟨p, 1, none⟩ (.slice (some ⟨gg, 0, none⟩) (xs.length + 1) cap)) := by
  subst hg
  have hp1 := hk.at hp (fun h => hne h.symm)
  have hC1 : Chg (fun k => k = p ∨ some k = (Value.slice A xs.length c).ownBlock) w w1 := hC.trans (hk.mono (fun k _ h => .inr h))
  refine ⟨some gg, ⟨some ⟨gg, 0, none⟩, cap, ?_, rfl, ?_⟩, ?_, hC1.setCell (fun _ => .inl rfl) _⟩
  · rw [blk_set hp1]; simp
  · have e := own_ne hown hp1 hT
    have := own_setCell_far hown (p := p) (i := 1) (u := .slice (some ⟨gg, 0, none⟩) (xs.length + 1) cap) e
    simpa using this
  · rcases hat with h | h
    · exact .inl h.symm
    · exact .inr ⟨gg, rfl, h⟩
/-! ## Add -/

set_option maxRecDepth 100000 in
set_option maxHeartbeats 1000000 in
theorem add18_room (base p : Nat) (g : Option Nat) (most count : Int) (xs : List Flt) (f : Flt) (w : World) (h : LogAt w 96 base p g most xs count)
    (hroom : (xs.length : Int) < most) (hm : most ≤ 16) (hbase : base ≤ w.heap.size) :
    Calls Try.prog 18 #[.pointer (some ⟨p, 0, none⟩), f.val] w fun e w' => e = .returned (.tuple #[]) ∧
      ∃ g', LogAt w' 96 base p g' most (xs ++ [f]) count ∧ (g' = g ∨ ∃ k, g' = some k ∧ w.heap.size ≤ k) ∧ Chg (fun k => k = p ∨ some k = g) w w' := by
  obtain ⟨A, c, hp, hg, hown⟩ := h
  have c0 : w.cell? ⟨p, 0, none⟩ = some (.int .i64 most) := blk_cell hp 0
  have c1 : w.cell? ⟨p, 1, none⟩ = some (.slice A xs.length c) := blk_cell hp 1
  have f1 : w.frozen? ⟨p, 1, none⟩ = false := blk_free hp 1
  have lp := lt_of_heap hp
  have Hp := Lib.hid hp; clear hp
  have Hg := Lib.hid hg; clear hg
  have hne : (Value.slice A xs.length c).ownBlock ≠ some p := own_ne hown Hp.out (by decide)
  unfold Flt.val
  go_enter Try.func18, Try.ntmps18
  go_wp2_with fail
  go_quiet (fail)
  go_wp2_with fail
  refine wp_abs (fun W => W.heap[p]? = some (.cells #[.int .i64 most, .slice A xs.length c, .int .i64 count] 96 (0, 0)) ∧ W.heap[w.heap.size]? = some (.cells #[.int .i64 f.tick, .int .i64 f.device, .int .i64 f.iova, .bool f.write, .int .i64 f.code] 34 (0, 0)) ∧ W.heap.size = w.heap.size + 1 ∧ Chg (fun k => k = p ∨ some k = g) w W ∧ W.ownsRow base 34 5 (.slice A xs.length c) xs.length (xs.flatMap Flt.cells)) ⟨blk_alloc Hp.out _, blk_new _ _, by simp, ((Chg.refl _ _).alloc _).drewN _, hown.alloc _⟩ ?_
  rintro W ⟨hp, hn, hs, hC, hown0⟩
  have Hs := Lib.hid hs; clear hs
  have c1 : W.cell? ⟨p, 1, none⟩ = some (.slice A xs.length c) := blk_cell hp 1
  have f1 : W.frozen? ⟨p, 1, none⟩ = false := blk_free hp 1
  have lW : p < W.heap.size := lt_of_heap hp
  have n0 : W.cell? ⟨w.heap.size, 0, none⟩ = some (.int .i64 f.tick) := blk_cell hn 0
  have n1 : W.cell? ⟨w.heap.size, 1, none⟩ = some (.int .i64 f.device) := blk_cell hn 1
  have n2 : W.cell? ⟨w.heap.size, 2, none⟩ = some (.int .i64 f.iova) := blk_cell hn 2
  have n3 : W.cell? ⟨w.heap.size, 3, none⟩ = some (.bool f.write) := blk_cell hn 3
  have n4 : W.cell? ⟨w.heap.size, 4, none⟩ = some (.int .i64 f.code) := blk_cell hn 4
  have hm2 : base ≤ W.heap.size := by have := Hs.out; omega
  have Hn := Lib.hid hn; clear hn
  have HP := Lib.hid hp; clear hp
  go_region_law ((refine step_app _ _ _ (by rfl) rfl 34 Try.info34 Try.underlying22 rfl (by decide) (by decide) base (.slice A xs.length c) xs.length (xs.flatMap Flt.cells) (by rfl) ((hown0.drew).alloc _) W.heap.size 1 #[.int .i64 f.tick, .int .i64 f.device, .int .i64 f.iova, .bool f.write, .int .i64 f.code] (by rfl) (heap_alloc_new W _) rfl (by simp [Value.oneCell']) (by omega) (by simp; omega) ?_; intro gg cap w1 hown1 hk0 hat hlt; have hk : Chg (fun k => some k = (Value.slice A xs.length c).ownBlock) W w1 := Chg.trans (by first | exact ((Chg.refl _ _).drew).alloc _ | exact ((Chg.refl _ _).alloc _).drew) hk0; have k1 := hk.cell c1 (fun h => hne h.symm); have k2 := (hk.frz (p := ⟨p, 1, none⟩) lW (fun h => hne h.symm)).trans f1))
  all_goals
    go_wp2
    go_end0
    exact ⟨rfl, LogAt.put (by decide) hC HP.out Hg.out hown1 hk (by first | exact hat.imp id (fun h => by have := Hs.out; simp at h; omega)) hne⟩


set_option maxRecDepth 100000 in
set_option maxHeartbeats 1000000 in
theorem add19_room (base p : Nat) (g : Option Nat) (most count : Int) (xs : List Flt) (f : Flt) (w : World) (h : LogAt w 98 base p g most xs count)
    (hroom : (xs.length : Int) < most) (hm : most ≤ 16) (hbase : base ≤ w.heap.size) :
    Calls Try.prog 19 #[.pointer (some ⟨p, 0, none⟩), f.val] w fun e w' => e = .returned (.tuple #[]) ∧
      ∃ g', LogAt w' 98 base p g' most (xs ++ [f]) count ∧ (g' = g ∨ ∃ k, g' = some k ∧ w.heap.size ≤ k) ∧ Chg (fun k => k = p ∨ some k = g) w w' := by
  obtain ⟨A, c, hp, hg, hown⟩ := h
  have c0 : w.cell? ⟨p, 0, none⟩ = some (.int .i64 most) := blk_cell hp 0
  have c1 : w.cell? ⟨p, 1, none⟩ = some (.slice A xs.length c) := blk_cell hp 1
  have f1 : w.frozen? ⟨p, 1, none⟩ = false := blk_free hp 1
  have lp := lt_of_heap hp
  have Hp := Lib.hid hp; clear hp
  have Hg := Lib.hid hg; clear hg
  have hne : (Value.slice A xs.length c).ownBlock ≠ some p := own_ne hown Hp.out (by decide)
  unfold Flt.val
  go_enter Try.func19, Try.ntmps19
  go_wp2_with fail
  go_quiet (fail)
  go_wp2_with fail
  refine wp_abs (fun W => W.heap[p]? = some (.cells #[.int .i64 most, .slice A xs.length c, .int .i64 count] 98 (0, 0)) ∧ W.heap[w.heap.size]? = some (.cells #[.int .i64 f.tick, .int .i64 f.device, .int .i64 f.iova, .bool f.write, .int .i64 f.code] 34 (0, 0)) ∧ W.heap.size = w.heap.size + 1 ∧ Chg (fun k => k = p ∨ some k = g) w W ∧ W.ownsRow base 34 5 (.slice A xs.length c) xs.length (xs.flatMap Flt.cells)) ⟨blk_alloc Hp.out _, blk_new _ _, by simp, ((Chg.refl _ _).alloc _).drewN _, hown.alloc _⟩ ?_
  rintro W ⟨hp, hn, hs, hC, hown0⟩
  have Hs := Lib.hid hs; clear hs
  have c1 : W.cell? ⟨p, 1, none⟩ = some (.slice A xs.length c) := blk_cell hp 1
  have f1 : W.frozen? ⟨p, 1, none⟩ = false := blk_free hp 1
  have lW : p < W.heap.size := lt_of_heap hp
  have n0 : W.cell? ⟨w.heap.size, 0, none⟩ = some (.int .i64 f.tick) := blk_cell hn 0
  have n1 : W.cell? ⟨w.heap.size, 1, none⟩ = some (.int .i64 f.device) := blk_cell hn 1
  have n2 : W.cell? ⟨w.heap.size, 2, none⟩ = some (.int .i64 f.iova) := blk_cell hn 2
  have n3 : W.cell? ⟨w.heap.size, 3, none⟩ = some (.bool f.write) := blk_cell hn 3
  have n4 : W.cell? ⟨w.heap.size, 4, none⟩ = some (.int .i64 f.code) := blk_cell hn 4
  have hm2 : base ≤ W.heap.size := by have := Hs.out; omega
  have Hn := Lib.hid hn; clear hn
  have HP := Lib.hid hp; clear hp
  go_region_law ((refine step_app _ _ _ (by rfl) rfl 34 Try.info34 Try.underlying22 rfl (by decide) (by decide) base (.slice A xs.length c) xs.length (xs.flatMap Flt.cells) (by rfl) ((hown0.drew).alloc _) W.heap.size 1 #[.int .i64 f.tick, .int .i64 f.device, .int .i64 f.iova, .bool f.write, .int .i64 f.code] (by rfl) (heap_alloc_new W _) rfl (by simp [Value.oneCell']) (by omega) (by simp; omega) ?_; intro gg cap w1 hown1 hk0 hat hlt; have hk : Chg (fun k => some k = (Value.slice A xs.length c).ownBlock) W w1 := Chg.trans (by first | exact ((Chg.refl _ _).drew).alloc _ | exact ((Chg.refl _ _).alloc _).drew) hk0; have k1 := hk.cell c1 (fun h => hne h.symm); have k2 := (hk.frz (p := ⟨p, 1, none⟩) lW (fun h => hne h.symm)).trans f1))
  all_goals
    go_wp2
    go_end0
    exact ⟨rfl, LogAt.put (by decide) hC HP.out Hg.out hown1 hk (by first | exact hat.imp id (fun h => by have := Hs.out; simp at h; omega)) hne⟩


end Go.Proofs.Ytochadejlglfgaa
