/- Configs: tests that are one chain each. Printed by mkpure.py. -/
import Derived.Test.YtncbcjjdnlmjbaaCfg
set_option linter.unusedSimpArgs false
set_option linter.unusedVariables false
namespace Go.Proofs.Ytncbcjjdnlmjbaa
open Go.RowKit

theorem chg0 (w : World) : Chg (fun _ => False) w w := Chg.refl _ _
set_option maxHeartbeats 1000000 in
theorem latMay (lv cats : Int) (w : World)  : Calls Try.prog 157 #[.agg #[.int .i64 lv, .int .i64 cats]] w fun e w' => e = .returned (.bool (decide (LabP lv cats))) ∧ Chg (fun _ => False) w w' := by
  have key : ∀ bb : Bool, bb = decide (LabP lv cats) → Ending.returned (.bool bb) = Ending.returned (.bool (decide (LabP lv cats))) := fun bb h => by rw [h]
  · by_cases h0 : 0 ≤ lv
    · by_cases h1 : lv ≤ 3
      · by_cases h2 : 0 ≤ cats
        · by_cases h3 : cats ≤ 15
          · go_enter Try.func157, Try.ntmps157
            go_wp2
            go_ret
            exact ⟨key _ (by unfold LabP; first | exact (decide_eq_false (by omega)).symm | exact (decide_eq_true (by omega)).symm | (rw [Bool.eq_iff_iff]; simp [*]; try omega)), by first | rfl | exact Chg.refl _ _ | exact (Chg.refl _ _).alloc _ | exact ((Chg.refl _ _).alloc _).alloc _⟩
          · go_enter Try.func157, Try.ntmps157
            go_wp2
            go_ret
            exact ⟨key _ (by unfold LabP; first | exact (decide_eq_false (by omega)).symm | exact (decide_eq_true (by omega)).symm | (rw [Bool.eq_iff_iff]; simp [*]; try omega)), by first | rfl | exact Chg.refl _ _ | exact (Chg.refl _ _).alloc _ | exact ((Chg.refl _ _).alloc _).alloc _⟩
        · go_enter Try.func157, Try.ntmps157
          go_wp2
          go_ret
          exact ⟨key _ (by unfold LabP; first | exact (decide_eq_false (by omega)).symm | exact (decide_eq_true (by omega)).symm | (rw [Bool.eq_iff_iff]; simp [*]; try omega)), by first | rfl | exact Chg.refl _ _ | exact (Chg.refl _ _).alloc _ | exact ((Chg.refl _ _).alloc _).alloc _⟩
      · go_enter Try.func157, Try.ntmps157
        go_wp2
        go_ret
        exact ⟨key _ (by unfold LabP; first | exact (decide_eq_false (by omega)).symm | exact (decide_eq_true (by omega)).symm | (rw [Bool.eq_iff_iff]; simp [*]; try omega)), by first | rfl | exact Chg.refl _ _ | exact (Chg.refl _ _).alloc _ | exact ((Chg.refl _ _).alloc _).alloc _⟩
    · go_enter Try.func157, Try.ntmps157
      go_wp2
      go_ret
      exact ⟨key _ (by unfold LabP; first | exact (decide_eq_false (by omega)).symm | exact (decide_eq_true (by omega)).symm | (rw [Bool.eq_iff_iff]; simp [*]; try omega)), by first | rfl | exact Chg.refl _ _ | exact (Chg.refl _ _).alloc _ | exact ((Chg.refl _ _).alloc _).alloc _⟩
set_option maxHeartbeats 1000000 in
theorem labMay (lv cats : Int) (w : World)  : Calls Try.prog 66 #[.agg #[.int .i64 lv, .int .i64 cats]] w fun e w' => e = .returned (.bool (decide (LabP lv cats))) ∧ Chg (fun _ => False) w w' := by
  have key : ∀ bb : Bool, bb = decide (LabP lv cats) → Ending.returned (.bool bb) = Ending.returned (.bool (decide (LabP lv cats))) := fun bb h => by rw [h]
  · by_cases h0 : 0 ≤ lv
    · by_cases h1 : lv ≤ 3
      · by_cases h2 : 0 ≤ cats
        · by_cases h3 : cats ≤ 15
          · go_enter Try.func66, Try.ntmps66
            go_wp2
            go_ret
            exact ⟨key _ (by unfold LabP; first | exact (decide_eq_false (by omega)).symm | exact (decide_eq_true (by omega)).symm | (rw [Bool.eq_iff_iff]; simp [*]; try omega)), by first | rfl | exact Chg.refl _ _ | exact (Chg.refl _ _).alloc _ | exact ((Chg.refl _ _).alloc _).alloc _⟩
          · go_enter Try.func66, Try.ntmps66
            go_wp2
            go_ret
            exact ⟨key _ (by unfold LabP; first | exact (decide_eq_false (by omega)).symm | exact (decide_eq_true (by omega)).symm | (rw [Bool.eq_iff_iff]; simp [*]; try omega)), by first | rfl | exact Chg.refl _ _ | exact (Chg.refl _ _).alloc _ | exact ((Chg.refl _ _).alloc _).alloc _⟩
        · go_enter Try.func66, Try.ntmps66
          go_wp2
          go_ret
          exact ⟨key _ (by unfold LabP; first | exact (decide_eq_false (by omega)).symm | exact (decide_eq_true (by omega)).symm | (rw [Bool.eq_iff_iff]; simp [*]; try omega)), by first | rfl | exact Chg.refl _ _ | exact (Chg.refl _ _).alloc _ | exact ((Chg.refl _ _).alloc _).alloc _⟩
      · go_enter Try.func66, Try.ntmps66
        go_wp2
        go_ret
        exact ⟨key _ (by unfold LabP; first | exact (decide_eq_false (by omega)).symm | exact (decide_eq_true (by omega)).symm | (rw [Bool.eq_iff_iff]; simp [*]; try omega)), by first | rfl | exact Chg.refl _ _ | exact (Chg.refl _ _).alloc _ | exact ((Chg.refl _ _).alloc _).alloc _⟩
    · go_enter Try.func66, Try.ntmps66
      go_wp2
      go_ret
      exact ⟨key _ (by unfold LabP; first | exact (decide_eq_false (by omega)).symm | exact (decide_eq_true (by omega)).symm | (rw [Bool.eq_iff_iff]; simp [*]; try omega)), by first | rfl | exact Chg.refl _ _ | exact (Chg.refl _ _).alloc _ | exact ((Chg.refl _ _).alloc _).alloc _⟩
set_option maxHeartbeats 1000000 in
theorem addrMay (p n size : Int) (w : World) (hs : size ≤ 9223372036854775807) : Calls Try.prog 96 #[.int .i64 p, .int .i64 n, .int .i64 size] w fun e w' => e = .returned (.bool (decide (RunP p n size))) ∧ w' = w := by
  have key : ∀ bb : Bool, bb = decide (RunP p n size) → Ending.returned (.bool bb) = Ending.returned (.bool (decide (RunP p n size))) := fun bb h => by rw [h]
  · by_cases h0 : 0 ≤ p
    · by_cases h1 : 0 ≤ n
      · by_cases h2 : 0 ≤ size
        · by_cases h3 : p ≤ size
          · by_cases h4 : n ≤ size - p
            · go_enter Try.func96, Try.ntmps96
              go_wp2
              go_ret
              exact ⟨key _ (by unfold RunP; first | exact (decide_eq_false (by omega)).symm | exact (decide_eq_true (by omega)).symm | (rw [Bool.eq_iff_iff]; simp [*]; try omega)), by first | rfl | exact Chg.refl _ _ | exact (Chg.refl _ _).alloc _ | exact ((Chg.refl _ _).alloc _).alloc _⟩
            · go_enter Try.func96, Try.ntmps96
              go_wp2
              go_ret
              exact ⟨key _ (by unfold RunP; first | exact (decide_eq_false (by omega)).symm | exact (decide_eq_true (by omega)).symm | (rw [Bool.eq_iff_iff]; simp [*]; try omega)), by first | rfl | exact Chg.refl _ _ | exact (Chg.refl _ _).alloc _ | exact ((Chg.refl _ _).alloc _).alloc _⟩
          · go_enter Try.func96, Try.ntmps96
            go_wp2
            go_ret
            exact ⟨key _ (by unfold RunP; first | exact (decide_eq_false (by omega)).symm | exact (decide_eq_true (by omega)).symm | (rw [Bool.eq_iff_iff]; simp [*]; try omega)), by first | rfl | exact Chg.refl _ _ | exact (Chg.refl _ _).alloc _ | exact ((Chg.refl _ _).alloc _).alloc _⟩
        · go_enter Try.func96, Try.ntmps96
          go_wp2
          go_ret
          exact ⟨key _ (by unfold RunP; first | exact (decide_eq_false (by omega)).symm | exact (decide_eq_true (by omega)).symm | (rw [Bool.eq_iff_iff]; simp [*]; try omega)), by first | rfl | exact Chg.refl _ _ | exact (Chg.refl _ _).alloc _ | exact ((Chg.refl _ _).alloc _).alloc _⟩
      · go_enter Try.func96, Try.ntmps96
        go_wp2
        go_ret
        exact ⟨key _ (by unfold RunP; first | exact (decide_eq_false (by omega)).symm | exact (decide_eq_true (by omega)).symm | (rw [Bool.eq_iff_iff]; simp [*]; try omega)), by first | rfl | exact Chg.refl _ _ | exact (Chg.refl _ _).alloc _ | exact ((Chg.refl _ _).alloc _).alloc _⟩
    · go_enter Try.func96, Try.ntmps96
      go_wp2
      go_ret
      exact ⟨key _ (by unfold RunP; first | exact (decide_eq_false (by omega)).symm | exact (decide_eq_true (by omega)).symm | (rw [Bool.eq_iff_iff]; simp [*]; try omega)), by first | rfl | exact Chg.refl _ _ | exact (Chg.refl _ _).alloc _ | exact ((Chg.refl _ _).alloc _).alloc _⟩
set_option maxHeartbeats 1000000 in
theorem refRun (p n size : Int) (w : World) (hs : size ≤ 9223372036854775807) : Calls Try.prog 103 #[.int .i64 p, .int .i64 n, .int .i64 size] w fun e w' => e = .returned (.bool (decide (RunP p n size))) ∧ w' = w := by
  have key : ∀ bb : Bool, bb = decide (RunP p n size) → Ending.returned (.bool bb) = Ending.returned (.bool (decide (RunP p n size))) := fun bb h => by rw [h]
  · by_cases h0 : 0 ≤ p
    · by_cases h1 : 0 ≤ n
      · by_cases h2 : 0 ≤ size
        · by_cases h3 : p ≤ size
          · by_cases h4 : n ≤ size - p
            · go_enter Try.func103, Try.ntmps103
              go_wp2
              go_ret
              exact ⟨key _ (by unfold RunP; first | exact (decide_eq_false (by omega)).symm | exact (decide_eq_true (by omega)).symm | (rw [Bool.eq_iff_iff]; simp [*]; try omega)), by first | rfl | exact Chg.refl _ _ | exact (Chg.refl _ _).alloc _ | exact ((Chg.refl _ _).alloc _).alloc _⟩
            · go_enter Try.func103, Try.ntmps103
              go_wp2
              go_ret
              exact ⟨key _ (by unfold RunP; first | exact (decide_eq_false (by omega)).symm | exact (decide_eq_true (by omega)).symm | (rw [Bool.eq_iff_iff]; simp [*]; try omega)), by first | rfl | exact Chg.refl _ _ | exact (Chg.refl _ _).alloc _ | exact ((Chg.refl _ _).alloc _).alloc _⟩
          · go_enter Try.func103, Try.ntmps103
            go_wp2
            go_ret
            exact ⟨key _ (by unfold RunP; first | exact (decide_eq_false (by omega)).symm | exact (decide_eq_true (by omega)).symm | (rw [Bool.eq_iff_iff]; simp [*]; try omega)), by first | rfl | exact Chg.refl _ _ | exact (Chg.refl _ _).alloc _ | exact ((Chg.refl _ _).alloc _).alloc _⟩
        · go_enter Try.func103, Try.ntmps103
          go_wp2
          go_ret
          exact ⟨key _ (by unfold RunP; first | exact (decide_eq_false (by omega)).symm | exact (decide_eq_true (by omega)).symm | (rw [Bool.eq_iff_iff]; simp [*]; try omega)), by first | rfl | exact Chg.refl _ _ | exact (Chg.refl _ _).alloc _ | exact ((Chg.refl _ _).alloc _).alloc _⟩
      · go_enter Try.func103, Try.ntmps103
        go_wp2
        go_ret
        exact ⟨key _ (by unfold RunP; first | exact (decide_eq_false (by omega)).symm | exact (decide_eq_true (by omega)).symm | (rw [Bool.eq_iff_iff]; simp [*]; try omega)), by first | rfl | exact Chg.refl _ _ | exact (Chg.refl _ _).alloc _ | exact ((Chg.refl _ _).alloc _).alloc _⟩
    · go_enter Try.func103, Try.ntmps103
      go_wp2
      go_ret
      exact ⟨key _ (by unfold RunP; first | exact (decide_eq_false (by omega)).symm | exact (decide_eq_true (by omega)).symm | (rw [Bool.eq_iff_iff]; simp [*]; try omega)), by first | rfl | exact Chg.refl _ _ | exact (Chg.refl _ _).alloc _ | exact ((Chg.refl _ _).alloc _).alloc _⟩
set_option maxHeartbeats 1000000 in
theorem winMay (x : Wn) (major parts : Int) (w : World) (h1 : 1 ≤ major) (h2 : major ≤ 64) : Calls Try.prog 177 #[wnv x, .int .i64 major, .int .i64 parts] w fun e w' => e = .returned (.bool (decide (WinP x major parts))) ∧ Chg (fun _ => False) w w' := by
  have key : ∀ bb : Bool, bb = decide (WinP x major parts) → Ending.returned (.bool bb) = Ending.returned (.bool (decide (WinP x major parts))) := fun bb h => by rw [h]
  unfold wnv
  · by_cases h0 : 0 ≤ x.part
    · by_cases h1 : x.part < parts
      · by_cases h2 : 1 ≤ x.len
        · by_cases h3 : 0 ≤ x.start
          · by_cases h4 : x.start ≤ major
            · by_cases h5 : x.len ≤ major - x.start
              · by_cases h6 : x.start ≤ x.deliver
                · by_cases h7 : x.deliver < x.start + x.len
                  · go_enter Try.func177, Try.ntmps177
                    go_wp2
                    go_ret
                    exact ⟨key _ (by unfold WinP; first | exact (decide_eq_false (by omega)).symm | exact (decide_eq_true (by omega)).symm | (rw [Bool.eq_iff_iff]; simp [*]; try omega)), by first | rfl | exact Chg.refl _ _ | exact (Chg.refl _ _).alloc _ | exact ((Chg.refl _ _).alloc _).alloc _⟩
                  · go_enter Try.func177, Try.ntmps177
                    go_wp2
                    go_ret
                    exact ⟨key _ (by unfold WinP; first | exact (decide_eq_false (by omega)).symm | exact (decide_eq_true (by omega)).symm | (rw [Bool.eq_iff_iff]; simp [*]; try omega)), by first | rfl | exact Chg.refl _ _ | exact (Chg.refl _ _).alloc _ | exact ((Chg.refl _ _).alloc _).alloc _⟩
                · go_enter Try.func177, Try.ntmps177
                  go_wp2
                  go_ret
                  exact ⟨key _ (by unfold WinP; first | exact (decide_eq_false (by omega)).symm | exact (decide_eq_true (by omega)).symm | (rw [Bool.eq_iff_iff]; simp [*]; try omega)), by first | rfl | exact Chg.refl _ _ | exact (Chg.refl _ _).alloc _ | exact ((Chg.refl _ _).alloc _).alloc _⟩
              · go_enter Try.func177, Try.ntmps177
                go_wp2
                go_ret
                exact ⟨key _ (by unfold WinP; first | exact (decide_eq_false (by omega)).symm | exact (decide_eq_true (by omega)).symm | (rw [Bool.eq_iff_iff]; simp [*]; try omega)), by first | rfl | exact Chg.refl _ _ | exact (Chg.refl _ _).alloc _ | exact ((Chg.refl _ _).alloc _).alloc _⟩
            · go_enter Try.func177, Try.ntmps177
              go_wp2
              go_ret
              exact ⟨key _ (by unfold WinP; first | exact (decide_eq_false (by omega)).symm | exact (decide_eq_true (by omega)).symm | (rw [Bool.eq_iff_iff]; simp [*]; try omega)), by first | rfl | exact Chg.refl _ _ | exact (Chg.refl _ _).alloc _ | exact ((Chg.refl _ _).alloc _).alloc _⟩
          · go_enter Try.func177, Try.ntmps177
            go_wp2
            go_ret
            exact ⟨key _ (by unfold WinP; first | exact (decide_eq_false (by omega)).symm | exact (decide_eq_true (by omega)).symm | (rw [Bool.eq_iff_iff]; simp [*]; try omega)), by first | rfl | exact Chg.refl _ _ | exact (Chg.refl _ _).alloc _ | exact ((Chg.refl _ _).alloc _).alloc _⟩
        · go_enter Try.func177, Try.ntmps177
          go_wp2
          go_ret
          exact ⟨key _ (by unfold WinP; first | exact (decide_eq_false (by omega)).symm | exact (decide_eq_true (by omega)).symm | (rw [Bool.eq_iff_iff]; simp [*]; try omega)), by first | rfl | exact Chg.refl _ _ | exact (Chg.refl _ _).alloc _ | exact ((Chg.refl _ _).alloc _).alloc _⟩
      · go_enter Try.func177, Try.ntmps177
        go_wp2
        go_ret
        exact ⟨key _ (by unfold WinP; first | exact (decide_eq_false (by omega)).symm | exact (decide_eq_true (by omega)).symm | (rw [Bool.eq_iff_iff]; simp [*]; try omega)), by first | rfl | exact Chg.refl _ _ | exact (Chg.refl _ _).alloc _ | exact ((Chg.refl _ _).alloc _).alloc _⟩
    · go_enter Try.func177, Try.ntmps177
      go_wp2
      go_ret
      exact ⟨key _ (by unfold WinP; first | exact (decide_eq_false (by omega)).symm | exact (decide_eq_true (by omega)).symm | (rw [Bool.eq_iff_iff]; simp [*]; try omega)), by first | rfl | exact Chg.refl _ _ | exact (Chg.refl _ _).alloc _ | exact ((Chg.refl _ _).alloc _).alloc _⟩
set_option maxHeartbeats 1000000 in
theorem winApart (a b : Wn) (w : World) (a0 : 0 ≤ a.start) (a1 : a.start + a.len ≤ 64) (a2 : 1 ≤ a.len) (b0 : 0 ≤ b.start) (b1 : b.start + b.len ≤ 64) (b2 : 1 ≤ b.len) : Calls Try.prog 179 #[wnv a, wnv b] w fun e w' => e = .returned (.bool (decide (WinApart a b))) ∧ Chg (fun _ => False) w w' := by
  have key : ∀ bb : Bool, bb = decide (WinApart a b) → Ending.returned (.bool bb) = Ending.returned (.bool (decide (WinApart a b))) := fun bb h => by rw [h]
  unfold wnv
  · by_cases h0 : a.start + a.len ≤ b.start
    · go_enter Try.func179, Try.ntmps179
      go_wp2
      go_ret
      exact ⟨key _ (by unfold WinApart; first | exact (decide_eq_false (by omega)).symm | exact (decide_eq_true (by omega)).symm | (rw [Bool.eq_iff_iff]; simp [*]; try omega)), by first | rfl | exact Chg.refl _ _ | exact (Chg.refl _ _).alloc _ | exact ((Chg.refl _ _).alloc _).alloc _⟩
    · by_cases h1 : b.start + b.len ≤ a.start
      · go_enter Try.func179, Try.ntmps179
        go_wp2
        go_ret
        exact ⟨key _ (by unfold WinApart; first | exact (decide_eq_false (by omega)).symm | exact (decide_eq_true (by omega)).symm | (rw [Bool.eq_iff_iff]; simp [*]; try omega)), by first | rfl | exact Chg.refl _ _ | exact (Chg.refl _ _).alloc _ | exact ((Chg.refl _ _).alloc _).alloc _⟩
      · go_enter Try.func179, Try.ntmps179
        go_wp2
        go_ret
        exact ⟨key _ (by unfold WinApart; first | exact (decide_eq_false (by omega)).symm | exact (decide_eq_true (by omega)).symm | (rw [Bool.eq_iff_iff]; simp [*]; try omega)), by first | rfl | exact Chg.refl _ _ | exact (Chg.refl _ _).alloc _ | exact ((Chg.refl _ _).alloc _).alloc _⟩

end Go.Proofs.Ytncbcjjdnlmjbaa
