/- The law's own check of the logs. -/
import Derived.Test.YtochadejlglfgaaLog4
namespace Go.Proofs.Ytochadejlglfgaa
open Go.RowKit

def addX (most : Int) (xs : List Flt) (f : Flt) : List Flt := if (xs.length : Int) < most then xs ++ [f] else xs
def addN (most : Int) (xs : List Flt) (count : Int) : Int := if (xs.length : Int) < most then count else min (count + 1) 65535
/-- What a log's Add leaves. -/
def Added (T base p : Nat) (g : Option Nat) (most count : Int) (xs : List Flt) (f : Flt) (w : World) (e : Ending) (w' : World) : Prop :=
  e = .returned (.tuple #[]) ∧ ∃ g', LogAt w' T base p g' most (addX most xs f) (addN most xs count) ∧ (g' = g ∨ ∃ k, g' = some k ∧ w.heap.size ≤ k) ∧ Chg (fun k => k = p ∨ some k = g) w w'

theorem add18 (base p : Nat) (g : Option Nat) (most count : Int) (xs : List Flt) (f : Flt) (w : World) (h : LogAt w 96 base p g most xs count)
    (hm : most ≤ 16) (hbase : base ≤ w.heap.size) (hc0 : 0 ≤ count) (hc1 : count ≤ 65535) :
    Calls Try.prog 18 #[.pointer (some ⟨p, 0, none⟩), f.val] w (Added 96 base p g most count xs f w) := by
  by_cases hr : (xs.length : Int) < most
  · refine (add18_room base p g most count xs f w h hr hm hbase).mono ?_
    rintro e w' ⟨rfl, g', hL, hg, hC⟩
    exact ⟨rfl, g', by unfold addX addN; rw [if_pos hr, if_pos hr]; exact hL, hg, hC⟩
  · refine (add18_full base p g most count xs f w h hr hc0 hc1).mono ?_
    rintro e w' ⟨rfl, hL, hC⟩
    exact ⟨rfl, g, by unfold addX addN; rw [if_neg hr, if_neg hr]; exact hL, .inl rfl, hC.mono fun k _ h => .inl h⟩
theorem add19 (base p : Nat) (g : Option Nat) (most count : Int) (xs : List Flt) (f : Flt) (w : World) (h : LogAt w 98 base p g most xs count)
    (hm : most ≤ 16) (hbase : base ≤ w.heap.size) (hc0 : 0 ≤ count) (hc1 : count ≤ 65535) :
    Calls Try.prog 19 #[.pointer (some ⟨p, 0, none⟩), f.val] w (Added 98 base p g most count xs f w) := by
  by_cases hr : (xs.length : Int) < most
  · refine (add19_room base p g most count xs f w h hr hm hbase).mono ?_
    rintro e w' ⟨rfl, g', hL, hg, hC⟩
    exact ⟨rfl, g', by unfold addX addN; rw [if_pos hr, if_pos hr]; exact hL, hg, hC⟩
  · refine (add19_full base p g most count xs f w h hr hc0 hc1).mono ?_
    rintro e w' ⟨rfl, hL, hC⟩
    exact ⟨rfl, g, by unfold addX addN; rw [if_neg hr, if_neg hr]; exact hL, .inl rfl, hC.mono fun k _ h => .inl h⟩

def fT (n : Int) : Flt := ⟨n, 0, 0, false, 0⟩
def aw : Nat → List Flt × Int
  | 0 => ([], 0)
  | n + 1 => (addX 2 (aw n).1 (fT (n + 1)), addN 2 (aw n).1 (aw n).2)
theorem aw_le : ∀ n, 0 ≤ (aw n).2 ∧ (aw n).2 ≤ 65535
  | 0 => by simp [aw]
  | n + 1 => by
    have := aw_le n
    simp only [aw, addN]
    split <;> omega

set_option maxRecDepth 100000 in
set_option maxHeartbeats 1000000 in
theorem awake17 (w : World) : Calls Try.prog 17 #[] w fun e w' => e = .returned (.bool true) ∧ Chg (fun _ => False) w w' := by
  go_enter Try.func17, Try.ntmps17
  go_wp2_with fail
  refine (new14_ok 2 w.heap.size w (by omega) (by omega)).mono ?_
  rintro e w1 ⟨rfl, hL, hw1⟩
  have hC1 : Chg (fun _ => False) w w1 := by rw [hw1]; exact (Chg.refl _ _).alloc _
  have hs1 : w.heap.size < w1.heap.size := hL.lt.1
  clear hw1
  go_wp2_with fail
  refine (new14_no 0 w1 (by omega)).mono ?_
  rintro e w2 ⟨rfl, rfl⟩
  go_wp2_with fail
  refine (num16 _ _).mono ?_
  rintro e w2 ⟨rfl, rfl⟩
  go_wp2_with fail
  go_loopw [5] (fun i wr => ∃ k : Nat, k ≤ 4 ∧ i = .int .i64 (k + 1 : Nat) ∧ ∃ g, LogAt wr 96 w.heap.size w.heap.size g 2 (aw k).1 (aw k).2 ∧ Chg (fun _ => False) w wr) (fun i _ => 5 - (intOf i).toNat)
  case atStart => exact ⟨0, by omega, rfl, none, hL, hC1⟩
  case round =>
    obtain ⟨k, hk, rfl, g, hL, hC⟩ := hrel
    have hb := aw_le k
    by_cases hlt : k < 4
    · have hlt' : ((k + 1 : Nat) : Int) < 5 := by omega
      go_wp2_with fail
      refine (add18 w.heap.size w.heap.size g 2 _ _ (fT (k + 1)) wr hL (by omega) hC.size hb.1 hb.2).mono ?_
      rintro e w2 ⟨rfl, g', hL2, hg', hC2⟩
      have hC3 : Chg (fun _ => False) w w2 := hC.trans' hC2 (fun j hj h => by
        rcases h with h | h
        · omega
        · have := hL.lt.2 j h.symm; omega)
      have Hg := Lib.hid hg'; clear hg'
      go_wp2
      go_roundw
      case rel => exact ⟨k + 1, by omega, by go_num, g', hL2, hC3⟩
      case measure => simp [intOf]; omega
    · obtain rfl : k = 4 := by omega
      clear hb hlt hk
      go_wp2_with fail
      refine (take20 w.heap.size w.heap.size g 2 _ _ wr hL).mono ?_
      rintro e w2 ⟨A, c, rfl, hA, hown, hL2, hC2⟩
      have hC3 : Chg (fun _ => False) w w2 := hC.trans' hC2 (fun j hj h => by omega)
      have hlen : (aw 4).1.length = 2 := rfl
      have hAg := hL2.lt.1
      clear hA
      go_wp2_with fail
      refine (take20 w.heap.size w.heap.size none 2 _ _ w2 hL2).mono ?_
      rintro e w3 ⟨A', c', rfl, hA', _, _, hC4⟩
      have hC5 : Chg (fun _ => False) w w3 := hC3.trans' hC4 (fun j hj h => by omega)
      go_wp2_with fail
      refine (num16 _ _).mono ?_
      rintro e w4 ⟨rfl, rfl⟩
      go_wp2_with fail
      have hown3 : w3.ownsRow w.heap.size 34 5 (.slice A 2 c) 2 ((aw 4).1.flatMap Flt.cells) := by
        refine hC4.own (by simpa [hlen] using hown) (fun k hk h => ?_)
        subst h
        obtain ⟨A1, c1, h1, _⟩ := hL2
        exact own_ne (by simpa [hlen] using hown) h1 (by decide) hk
      have r1 := RowC_own (hown3.alloc (.cells #[.int .i64 1, .int .i64 0, .int .i64 0, .bool false, .int .i64 0, .int .i64 2, .int .i64 0, .int .i64 0, .bool false, .int .i64 0] 34))
      have r2 : RowC (w3.alloc (.cells #[.int .i64 1, .int .i64 0, .int .i64 0, .bool false, .int .i64 0, .int .i64 2, .int .i64 0, .int .i64 0, .bool false, .int .i64 0] 34)) (some ⟨w3.heap.size, 0, none⟩) ((aw 4).1.flatMap Flt.cells) := by
        intro j u hu
        refine ⟨_, _, rfl, ?_⟩
        rw [blk_cell (blk_new _ _), Nat.zero_add]
        rw [show (aw 4).1.flatMap Flt.cells = [.int .i64 1, .int .i64 0, .int .i64 0, .bool false, .int .i64 0, .int .i64 2, .int .i64 0, .int .i64 0, .bool false, .int .i64 0] from by simp [aw, addX, fT, Flt.cells]] at hu
        simpa using hu
      refine (same22 A (some ⟨w3.heap.size, 0, none⟩) c 2 (aw 4).1 _ (by omega) r1 r2).mono ?_
      rintro e w4 ⟨rfl, nq, rfl⟩
      have hC6 : Chg (fun _ => False) w (w3.alloc (.cells #[.int .i64 1, .int .i64 0, .int .i64 0, .bool false, .int .i64 0, .int .i64 2, .int .i64 0, .int .i64 0, .bool false, .int .i64 0] 34)) := hC5.alloc _
      have h2 : (aw 4).2 = 2 := rfl
      rw [h2]
      clear r1 r2 h2 hlen
      go_wp2
      go_ret
      exact ⟨rfl, hC6.drewN nq⟩

end Go.Proofs.Ytochadejlglfgaa
