/- The walks of the table of vectors. -/
import Derived.Test.YtpnhdiajiieonaaRemap
set_option linter.unusedSimpArgs false
set_option linter.unusedVariables false
namespace Go.Proofs.Ytpnhdiajiieonaa
open Go.RowKit

theorem vmay_yes (a : Int) (w : World) (h0 : 0 ≤ a) (h1 : a < 8) :
    Calls Try.prog 92 #[.int .i64 a] w fun e w' => e = .returned (.bool true) ∧ w = w' := by
  go_enter Try.func92, Try.ntmps92
  go_wp2
  all_goals go_ret
  exact ⟨rfl, rfl⟩
theorem vmay_no (a : Int) (w : World) (h0 : ¬ (0 ≤ a ∧ a < 8)) :
    Calls Try.prog 92 #[.int .i64 a] w fun e w' => e = .returned (.bool false) ∧ w = w' := by
  by_cases h : 0 ≤ a
  · have h1 : ¬ a < 8 := by omega
    go_enter Try.func92, Try.ntmps92
    go_wp2
    all_goals go_ret
    exact ⟨rfl, rfl⟩
  · go_enter Try.func92, Try.ntmps92
    go_wp2
    all_goals go_ret
    exact ⟨rfl, rfl⟩
theorem pmay_yes (a : Int) (w : World) (h0 : 0 ≤ a) (h1 : a < 4) :
    Calls Try.prog 152 #[.int .i64 a] w fun e w' => e = .returned (.bool true) ∧ w = w' := by
  go_enter Try.func152, Try.ntmps152
  go_wp2
  all_goals go_ret
  exact ⟨rfl, rfl⟩
theorem pmay_no (a : Int) (w : World) (h0 : ¬ (0 ≤ a ∧ a < 4)) :
    Calls Try.prog 152 #[.int .i64 a] w fun e w' => e = .returned (.bool false) ∧ w = w' := by
  by_cases h : 0 ≤ a
  · have h1 : ¬ a < 4 := by omega
    go_enter Try.func152, Try.ntmps152
    go_wp2
    all_goals go_ret
    exact ⟨rfl, rfl⟩
  · go_enter Try.func152, Try.ntmps152
    go_wp2
    all_goals go_ret
    exact ⟨rfl, rfl⟩

set_option maxHeartbeats 400000 in
theorem at51_in (p r n : Nat) (f : Nat → Ent) (d v : Int) (w : World) (h : TabAt w 214 229 p r n f) (hin : inR n d v) :
    Calls Try.prog 151 #[.pointer (some ⟨p, 0, none⟩), .int .i64 d, .int .i64 v] w fun e w' => e = .returned (.pointer (some ⟨r, d.toNat * 24 + v.toNat * 3, none⟩)) ∧ w = w' := by
  have c0 : w.cell? ⟨p, 0, none⟩ = some (.slice (some ⟨r, 0, none⟩) n n) := blk_cell h.1 0
  clear h
  obtain ⟨⟨hd0, hd1⟩, h0, h1⟩ := hin
  go_enter Try.func151, Try.ntmps151
  go_wp2_with (go_at_call 92; refine (vmay_yes _ _ (by omega) (by omega)).mono ?_; rintro e w' ⟨rfl, rfl⟩)
  go_ret
  exact ⟨rfl, rfl⟩
set_option maxHeartbeats 400000 in
theorem at51_out (p r n : Nat) (f : Nat → Ent) (d v : Int) (w : World) (h : TabAt w 214 229 p r n f) (hin : ¬ inR n d v) :
    Calls Try.prog 151 #[.pointer (some ⟨p, 0, none⟩), .int .i64 d, .int .i64 v] w fun e w' => e = .returned (.pointer none) ∧ w = w' := by
  have c0 : w.cell? ⟨p, 0, none⟩ = some (.slice (some ⟨r, 0, none⟩) n n) := blk_cell h.1 0
  clear h
  unfold inR at hin
  by_cases hd : 0 ≤ d
  · by_cases hd1 : d < n
    · have hv : ¬ (0 ≤ v ∧ v < 8) := by omega
      clear hin
      go_enter Try.func151, Try.ntmps151
      go_wp2_with (go_at_call 92; refine (vmay_no _ _ hv).mono ?_; rintro e w' ⟨rfl, rfl⟩)
      go_ret
      exact ⟨rfl, rfl⟩
    · clear hin
      go_enter Try.func151, Try.ntmps151
      go_wp2
      go_ret
      exact ⟨rfl, rfl⟩
  · clear hin
    go_enter Try.func151, Try.ntmps151
    go_wp2
    go_ret
    exact ⟨rfl, rfl⟩

set_option maxHeartbeats 400000 in
theorem there54 (p r n : Nat) (f : Nat → Ent) (d v : Int) (w : World) (h : TabAt w 214 229 p r n f) :
    Calls Try.prog 150 #[.pointer (some ⟨p, 0, none⟩), .int .i64 d, .int .i64 v] w fun e w' => e = .returned (.tuple #[.pointer (if entE n d v f = 0 then some ⟨r, d.toNat * 24 + v.toNat * 3, none⟩ else none), .int .i64 (entE n d v f)]) ∧ w = w' := by
  by_cases hin : inR n d v
  · have hh := h
    obtain ⟨_, cs, hb, he⟩ := hh
    have hc := (ix_cells hin hb he).1
    cases his : (f (ix d v)).is with
    | true =>
      rw [his] at hc
      have e0 : entE n d v f = 0 := by unfold entE; rw [if_pos hin, if_pos his]
      rw [e0]
      clear e0 his
      go_enter Try.func150, Try.ntmps150
      go_wp2_with fail
      refine (at51_in p r n f d v w h hin).mono ?_
      rintro e w' ⟨rfl, rfl⟩
      clear h hin hb he
      go_wp2
      go_ret2
      exact ⟨rfl, rfl⟩
    | false =>
      rw [his] at hc
      have e0 : entE n d v f = 1101 := by unfold entE; rw [if_pos hin, if_neg (by rw [his]; decide)]
      rw [e0]
      clear e0 his
      go_enter Try.func150, Try.ntmps150
      go_wp2_with fail
      refine (at51_in p r n f d v w h hin).mono ?_
      rintro e w' ⟨rfl, rfl⟩
      clear h hin hb he
      go_wp2
      go_ret2
      exact ⟨rfl, rfl⟩
  · have e0 : entE n d v f = 1100 := by unfold entE; rw [if_neg hin]
    rw [e0]
    clear e0
    go_enter Try.func150, Try.ntmps150
    go_wp2_with fail
    refine (at51_out p r n f d v w h hin).mono ?_
    rintro e w' ⟨rfl, rfl⟩
    clear h hin
    go_wp2
    go_ret2
    exact ⟨rfl, rfl⟩

end Go.Proofs.Ytpnhdiajiieonaa
