/- The Iommu: no Iommu; Translate's refusals. -/
import Derived.Test.YtnallfehffhaeaaIomH
set_option linter.unusedSimpArgs false
set_option linter.unusedVariables false
namespace Go.Proofs.Ytnallfehffhaeaa
open Go.RowKit

set_option maxRecDepth 100000 in
theorem iMap_nil (d page f q : Int) (w : World) : Calls Try.prog 13 #[.pointer none, .int .i64 d, .int .i64 page, .agg #[.int .i64 f, .int .i64 q]] w fun e w' => e = .returned (.int .i64 1) ∧ Chg (fun _ => False) w w' := by
  go_enter Try.func13, Try.ntmps13
  go_wp2
  go_ret
  exact ⟨rfl, (Chg.refl _ _).alloc _⟩
set_option maxRecDepth 100000 in
theorem iUnmap_nil (d page : Int) (w : World) : Calls Try.prog 11 #[.pointer none, .int .i64 d, .int .i64 page] w fun e w' => e = .returned (.int .i64 1) ∧ w = w' := by
  go_enter Try.func11, Try.ntmps11
  go_wp2
  go_ret
  exact ⟨rfl, rfl⟩
set_option maxRecDepth 100000 in
theorem iClear_nil (d : Int) (w : World) : Calls Try.prog 17 #[.pointer none, .int .i64 d] w fun e w' => e = .returned (.int .i64 1) ∧ w = w' := by
  go_enter Try.func17, Try.ntmps17
  go_wp2
  go_ret
  exact ⟨rfl, rfl⟩
set_option maxRecDepth 100000 in
theorem iTrans_nil (d iova n : Int) (b : Bool) (w : World) : Calls Try.prog 14 #[.pointer none, .int .i64 d, .int .i64 iova, .int .i64 n, .bool b] w fun e w' => e = .returned (.tuple #[.slice none 0 0, .int .i64 1]) ∧ w = w' := by
  go_enter Try.func14, Try.ntmps14
  go_wp2
  go_ret2
  exact ⟨rfl, rfl⟩
/-- May Translate be asked so? -/
def TransP (L : Pls) (d iova n : Int) : Prop := devIn L d ∧ 1 ≤ n ∧ n ≤ 256 ∧ 0 ≤ iova ∧ iova + n ≤ 16384
instance decTransP (L : Pls) (d iova n : Int) : Decidable (TransP L d iova n) := by unfold TransP; infer_instance
set_option maxRecDepth 100000 in
set_option maxHeartbeats 2000000 in
theorem iTrans_no (x p tb : Nat) (L : Pls) (nf : Int) (v : Value) (P T : Nat → Prop) (d iova n : Int) (wri : Bool) (w : World) (h : IomV w x p tb L nf v P T) (hn : ¬ TransP L d iova n) :
    Calls Try.prog 14 #[.pointer (some ⟨x, 0, none⟩), .int .i64 d, .int .i64 iova, .int .i64 n, .bool wri] w fun e w' => e = .returned (.tuple #[.slice none 0 0, .int .i64 700]) ∧ w = w' := by
  have HT := Lib.hid (iThere x p tb L nf v P T d w h)
  clear h
  by_cases hd : devIn L d
  · rw [decide_eq_true hd] at HT
    by_cases h1 : 1 ≤ n
    · have b1 : decide (n < 1) = false := decide_eq_false (by omega)
      by_cases h2 : n ≤ 256
      · have b2 : decide (256 < n) = false := decide_eq_false (by omega)
        have hm : ¬ mayP iova n 16384 := fun hm => hn ⟨hd, h1, h2, hm.1, by have := hm.2.2.2.2; omega⟩
        have HMN := Lib.hid hm
        clear hn hd h1 h2 hm
        go_enter Try.func14, Try.ntmps14
        go_wp2_with fail
        refine HT.out.mono ?_
        rintro e w1 ⟨rfl, rfl⟩
        go_wp2_with fail
        refine (may56_no iova n 16384 _ HMN.out (by omega)).mono ?_
        rintro e w1 ⟨rfl, rfl⟩
        go_wp2_with fail
        go_ret2
        exact ⟨rfl, rfl⟩
      · have b2 : decide (256 < n) = true := decide_eq_true (by omega)
        clear hn hd
        go_enter Try.func14, Try.ntmps14
        go_wp2_with fail
        refine HT.out.mono ?_
        rintro e w1 ⟨rfl, rfl⟩
        go_wp2_with fail
        go_ret2
        exact ⟨rfl, rfl⟩
    · have b1 : decide (n < 1) = true := decide_eq_true (by omega)
      clear hn hd
      go_enter Try.func14, Try.ntmps14
      go_wp2_with fail
      refine HT.out.mono ?_
      rintro e w1 ⟨rfl, rfl⟩
      go_wp2_with fail
      go_ret2
      exact ⟨rfl, rfl⟩
  · rw [decide_eq_false hd] at HT
    clear hn hd
    go_enter Try.func14, Try.ntmps14
    go_wp2_with fail
    refine HT.out.mono ?_
    rintro e w1 ⟨rfl, rfl⟩
    go_wp2_with fail
    go_ret2
    exact ⟨rfl, rfl⟩
end Go.Proofs.Ytnallfehffhaeaa
