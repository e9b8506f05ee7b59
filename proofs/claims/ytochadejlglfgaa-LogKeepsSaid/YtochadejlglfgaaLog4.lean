/- Spoiling, and the law's own check. -/
import Derived.Test.YtochadejlglfgaaLog3
namespace Go.Proofs.Ytochadejlglfgaa
open Go.RowKit

theorem RowC_own {w : World} {base e size n : Nat} {A : Option Addr} {k c : Nat} {xs : List Value} (h : w.ownsRow base e size (.slice A k c) n xs) : RowC w A xs := by
  intro j u hu
  rcases h.2 with ⟨e1, e2⟩ | ⟨g, cap, cur, hv, hg, hh, h1, h2, h3, h4⟩
  · exfalso
    have := h.1
    have hj := (List.getElem?_eq_some_iff.1 hu).1
    subst e2; simp at this; subst this; simp at hj
  · injection hv with hA
    refine ⟨g, 0, hA, ?_⟩
    rw [blk_cell hh, Nat.zero_add]
    rw [← h4, List.getElem?_take] at hu
    split at hu
    · simpa using hu
    · cases hu

set_option maxHeartbeats 400000 in
theorem spoil23 (A : Option Addr) (c base : Nat) (xs : List Flt) (w : World) (hn : xs.length ≤ 1000000) (h1 : w.ownsRow base 34 5 (.slice A xs.length c) xs.length (xs.flatMap Flt.cells)) :
    Calls Try.prog 23 #[.slice A xs.length c] w fun e w' => e = .returned (.tuple #[]) ∧ Chg (fun k => some k = (Value.slice A xs.length c).ownBlock) w w' := by
  have hrow := RowC_own h1
  rcases h1.2 with ⟨_, hz⟩ | ⟨g, cap, cur, hv, hg, hh, hcap, _, hsz, ht⟩
  · rw [hz]
    go_enter Try.func23, Try.ntmps23
    go_wp2
    refine wp_loop_rounds 1 ?_
    rw [rounds_succ]
    go_wp2
    go_end0
    exact ⟨rfl, Chg.refl _ _⟩
  · injection hv with hA hl hc
    subst hA
    have hI : ∃ cr : Array Value, w.heap[g]? = some (.cells cr 34 (0, 0)) ∧ (∀ j, j < xs.length → ∃ v, cr[j * 5]? = some (.int .i64 v)) ∧ Chg (fun k => some k = (Value.slice (some ⟨g, 0, none⟩) xs.length c).ownBlock) w w := by
      refine ⟨cur, hh, fun j hj => ?_, Chg.refl _ _⟩
      have := (fltCell hrow j hj).1
      rw [blk_cell hh, Nat.zero_add] at this
      exact ⟨_, this⟩
    clear hcap hsz ht hh hl hc
    go_enter Try.func23, Try.ntmps23
    go_wp2
    go_loopw [2] (fun i wr => ∃ k : Nat, k ≤ xs.length ∧ i = .int .i64 k ∧ ∃ cr : Array Value, wr.heap[g]? = some (.cells cr 34 (0, 0)) ∧ (∀ j, j < xs.length → ∃ v, cr[j * 5]? = some (.int .i64 v)) ∧ Chg (fun k => some k = (Value.slice (some ⟨g, 0, none⟩) xs.length c).ownBlock) w wr) (fun i _ => xs.length - (intOf i).toNat)
    case atStart => exact ⟨0, Nat.zero_le _, rfl, hI⟩
    case round =>
      obtain ⟨k, hk, rfl, cr, hb, hj, hC⟩ := hrel
      by_cases hlt : k < xs.length
      · obtain ⟨v, hv⟩ := hj k hlt
        have c0 : wr.cell? ⟨g, k * 5, none⟩ = some (.int .i64 v) := (blk_cell hb _).trans hv
        have f0 : wr.frozen? ⟨g, k * 5, none⟩ = false := blk_free hb _
        have Hb := Lib.hid hb; clear hb
        have Hj := Lib.hid hj; clear hj
        have Hv := Lib.hid hv; clear hv
        go_wp2
        go_roundw
        case rel =>
          refine ⟨k + 1, by omega, by go_num, _, blk_set Hb.out _ _, fun j hj => ?_, hC.setCell (p := ⟨g, k * 5, none⟩) (fun _ => rfl) _⟩
          rw [Array.getElem?_setIfInBounds]
          split
          · rw [if_pos (by rename_i e; rw [e]; exact (Array.getElem?_eq_some_iff.1 ((Hj.out j hj).choose_spec)).1)]
            exact ⟨_, rfl⟩
          · exact Hj.out j hj
        case measure => simp [intOf]; omega
      · have Hj := Lib.hid hj; clear hj
        go_wp2
        go_end0
        exact ⟨rfl, hC⟩

/-- What is kept: a log whose blocks are not touched. -/
theorem LogAt.keep {S : Nat → Prop} {w w' : World} {T base p : Nat} {g : Option Nat} {most count : Int} {xs : List Flt} (h : LogAt w T base p g most xs count) (hC : Chg S w w') (hp : ¬ S p) (hg : ∀ k, g = some k → ¬ S k) :
    LogAt w' T base p g most xs count := by
  obtain ⟨A, c, h1, h2, h3⟩ := h
  exact ⟨A, c, hC.at h1 hp, h2, hC.own h3 (fun k hk => hg k (h2.symm.trans hk))⟩
theorem LogAt.lt {w : World} {T base p : Nat} {g : Option Nat} {most count : Int} {xs : List Flt} (h : LogAt w T base p g most xs count) : p < w.heap.size ∧ ∀ k, g = some k → base ≤ k ∧ k < w.heap.size := by
  obtain ⟨A, c, h1, h2, h3⟩ := h
  exact ⟨lt_of_heap h1, fun k hk => own_lt h3 (h2.trans hk)⟩

end Go.Proofs.Ytochadejlglfgaa
