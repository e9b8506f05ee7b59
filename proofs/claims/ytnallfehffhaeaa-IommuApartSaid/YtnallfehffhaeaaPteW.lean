/- Walks over the words of a table: what may be one, how it is put, how it is read. -/
import Derived.Test.YtnallfehffhaeaaPte
set_option linter.unusedSimpArgs false
set_option linter.unusedVariables false
namespace Go.Proofs.Ytnallfehffhaeaa
open Go.RowKit
attribute [local go_sem] i64_and3

theorem pteMay (f p : Int) (w : World) : Calls Try.prog 35 #[.agg #[.int .i64 f, .int .i64 p]] w fun e w' => e = .returned (.bool (decide (mayE f p))) ∧ Chg (fun _ => False) w w' := by
  have key : ∀ b : Bool, b = decide (mayE f p) → Ending.returned (.bool b) = Ending.returned (.bool (decide (mayE f p))) := fun b h => by rw [h]
  by_cases hp : p = 0
  · subst hp
    go_enter Try.func35, Try.ntmps35
    go_wp2
    go_ret
    exact ⟨key _ (by rw [Bool.eq_iff_iff]; simp [mayE]), (Chg.refl _ _).alloc _⟩
  · have h0 : (p == 0) = false := by simpa using hp
    by_cases h1 : 1 ≤ p
    · by_cases h2 : p ≤ 3
      · by_cases h3 : 0 ≤ f
        · go_enter Try.func35, Try.ntmps35
          go_wp2
          go_ret
          exact ⟨key _ (by rw [Bool.eq_iff_iff]; simp [mayE, hp, *]; try omega), (Chg.refl _ _).alloc _⟩
        · go_enter Try.func35, Try.ntmps35
          go_wp2
          go_ret
          exact ⟨key _ (by rw [Bool.eq_iff_iff]; simp [mayE, hp, *]; try omega), (Chg.refl _ _).alloc _⟩
      · go_enter Try.func35, Try.ntmps35
        go_wp2
        go_ret
        exact ⟨key _ (by rw [Bool.eq_iff_iff]; simp [mayE, hp, *]; try omega), (Chg.refl _ _).alloc _⟩
    · go_enter Try.func35, Try.ntmps35
      go_wp2
      go_ret
      exact ⟨key _ (by rw [Bool.eq_iff_iff]; simp [mayE, hp, *]; try omega), (Chg.refl _ _).alloc _⟩

theorem shl1 (p : Int) (h1 : 1 ≤ p) (h2 : p ≤ 3) : IntKind.i64.wrap (p * 2) = p * 2 := by rw [IntKind.wrap_i64]; omega
theorem ptePut (f p : Int) (w : World) : Calls Try.prog 38 #[.agg #[.int .i64 f, .int .i64 p]] w fun e w' => e = .returned (.tuple #[.int .i64 (if mayE f p then putE f p else 0), .int .i64 (if mayE f p then 0 else 400)]) ∧ Chg (fun _ => False) w w' := by
  by_cases h : mayE f p
  · rw [if_pos h, if_pos h]
    have hd : decide (mayE f p) = true := decide_eq_true h
    have hq : putE f p = if p = 0 then 0 else 1 + 2 * p + 4096 * f := rfl
    unfold mayE at h
    by_cases hp : p = 0
    · subst hp
      rw [if_pos rfl] at hq
      rw [hq]
      clear hq
      have HD := Lib.hid hd; clear hd
      go_enter Try.func38, Try.ntmps38
      go_wp2_with fail
      refine (pteMay _ _ _).mono ?_
      rintro e w1 ⟨rfl, hC⟩
      rw [HD.out]
      have hb := hC.new id
      have c0 := blk_cell hb 0
      have c1 := blk_cell hb 1
      go_wp2
      go_ret2
      exact ⟨rfl, ((Chg.refl _ _).alloc _).trans hC⟩
    · rw [if_neg hp, show 1 + 2 * p + 4096 * f = 1 + p * 2 + f * 4096 from by omega] at hq
      rw [hq]
      clear hq
      have HD := Lib.hid hd; clear hd
      have h0 : (p == 0) = false := by simpa using hp
      have b1 : 1 ≤ p := by omega
      have b2 : p ≤ 3 := by omega
      have b3 : 0 ≤ f := by omega
      have b4 : f < 64 := by omega
      have o1 : bits .or .i64 1 (p * 2) = 1 + p * 2 := or_join 1 (p * 2) 1 2 (by decide) (by omega) (by omega) (by omega) (by omega) (by omega) (by omega)
      have o2 : bits .or .i64 (1 + p * 2) (f * 4096) = 1 + p * 2 + f * 4096 := or_join (1 + p * 2) (f * 4096) 12 4096 (by decide) (by omega) (by omega) (by omega) (by omega) (by omega) (by omega)
      have s1 := shl1 p b1 b2
      clear h hp
      go_enter Try.func38, Try.ntmps38
      go_wp2_with fail
      refine (pteMay _ _ _).mono ?_
      rintro e w1 ⟨rfl, hC⟩
      rw [HD.out]
      have hb := hC.new id
      have c0 := blk_cell hb 0
      have c1 := blk_cell hb 1
      go_wp2
      go_ret2
      exact ⟨rfl, ((Chg.refl _ _).alloc _).trans hC⟩
  · rw [if_neg h, if_neg h]
    have hd : decide (mayE f p) = false := decide_eq_false h
    clear h
    have HD := Lib.hid hd; clear hd
    go_enter Try.func38, Try.ntmps38
    go_wp2_with fail
    refine (pteMay _ _ _).mono ?_
    rintro e w1 ⟨rfl, hC⟩
    rw [HD.out]
    go_wp2
    go_ret2
    exact ⟨rfl, ((Chg.refl _ _).alloc _).trans hC⟩

def codeG (w : Int) : Int := if (getE w).isSome then 0 else 400
def entG (w : Int) : Int × Int := (getE w).getD (0, 0)
def entV (e : Int × Int) : Value := .agg #[.int .i64 e.1, .int .i64 e.2]
theorem pteGet (x : Int) (w : World) (hx : x < 4294967296) : Calls Try.prog 75 #[.int .i64 x] w fun e w' => e = .returned (.tuple #[.agg #[.int .i64 (entG x).1, .int .i64 (entG x).2], .int .i64 (codeG x)]) ∧ Chg (fun _ => False) w w' := by
  by_cases h0 : x < 0
  · have he : getE x = none := by
      unfold getE; rw [if_neg (by omega), if_neg (by omega)]
    rw [show entG x = (0, 0) from by unfold entG; rw [he]; rfl, show codeG x = 400 from by unfold codeG; rw [he]; rfl]
    clear he
    go_enter Try.func75, Try.ntmps75
    go_wp2
    exact bodyPost_ret (v := .tuple #[.agg #[.int .i64 0, .int .i64 0], .int .i64 400]) (by simp [results, Try.results75, go_sem]) rfl ⟨rfl, (Chg.refl _ _).alloc _⟩
  · have hb0 : 0 ≤ x := by omega
    have d1 : 0 ≤ x / 4096 := by omega
    have d2 : x / 4096 < 1048576 := by omega
    have d3 : 0 ≤ x / 2 % 4 := by omega
    have d4 : x / 2 % 4 ≤ 3 := by omega
    by_cases hm : mayE (x / 4096) (x / 2 % 4)
    · by_cases hw : putE (x / 4096) (x / 2 % 4) = x
      · have he : getE x = some (x / 4096, x / 2 % 4) := by have := getE_put hm; rwa [hw] at this
        rw [show entG x = (x / 4096, x / 2 % 4) from by unfold entG; rw [he]; rfl, show codeG x = 0 from by unfold codeG; rw [he]; rfl]
        clear he
        have HM := Lib.hid hm; clear hm
        have HW := Lib.hid hw; clear hw
        go_enter Try.func75, Try.ntmps75
        go_wp2_with fail
        refine (ptePut _ _ _).mono ?_
        rintro e w1 ⟨rfl, hC⟩
        rw [if_pos HM.out, if_pos HM.out, HW.out]
        have hb := hC.new2 id id
        have k0 := blk_cell hb.1 0
        have k1 := blk_cell hb.1 1
        have f0 := blk_free hb.1 0
        have f1 := blk_free hb.1 1
        have c0 := blk_cell hb.2 0
        have c1 := blk_cell hb.2 1
        have hr := blk_set (blk_set hb.1 0 (.int .i64 (x / 4096))) 1 (.int .i64 (x / 2 % 4))
        have r0 := blk_cell hr 0
        have r1 := blk_cell hr 1
        have hD := ((((Chg.refl (fun _ => False) w).alloc _).alloc _).trans hC)
        clear hr hC hb
        go_wp2
        exact bodyPost_ret (v := .tuple #[.agg #[.int .i64 (x / 4096), .int .i64 (x / 2 % 4)], .int .i64 0]) (by simp [results, Try.results75, go_sem, k0, k1]) rfl ⟨rfl, (hD.setCell (fun h => absurd h (Nat.lt_irrefl _)) _).setCell (fun h => absurd h (Nat.lt_irrefl _)) _⟩
      · have he : getE x = none := by
          unfold getE
          by_cases hz : x = 0
          · exfalso; subst hz; exact hw rfl
          · rw [if_neg hz, if_neg]
            intro hh
            apply hw
            unfold putE
            rw [if_neg (by omega)]
            omega
        rw [show entG x = (0, 0) from by unfold entG; rw [he]; rfl, show codeG x = 400 from by unfold codeG; rw [he]; rfl]
        clear he
        have hw' : (putE (x / 4096) (x / 2 % 4) != x) = true := bne_iff_ne.2 hw
        have HM := Lib.hid hm; clear hm
        have HW := Lib.hid hw'; clear hw' hw
        go_enter Try.func75, Try.ntmps75
        go_wp2_with fail
        refine (ptePut _ _ _).mono ?_
        rintro e w1 ⟨rfl, hC⟩
        rw [if_pos HM.out, if_pos HM.out]
        have hW := HW.out
        generalize putE (x / 4096) (x / 2 % 4) = y at *
        have hb := hC.new2 id id
        have k0 := blk_cell hb.1 0
        have k1 := blk_cell hb.1 1
        have f0 := blk_free hb.1 0
        have f1 := blk_free hb.1 1
        have hD := ((((Chg.refl (fun _ => False) w).alloc _).alloc _).trans hC)
        clear hC hb HM HW
        go_wp2
        exact bodyPost_ret (v := .tuple #[.agg #[.int .i64 0, .int .i64 0], .int .i64 400]) (by simp [results, Try.results75, go_sem, k0, k1]) rfl ⟨rfl, (hD.setCell (fun h => absurd h (Nat.lt_irrefl _)) _).setCell (fun h => absurd h (Nat.lt_irrefl _)) _⟩
    · have he : getE x = none := by
        unfold getE
        by_cases hz : x = 0
        · exfalso; subst hz; exact hm (by decide)
        · rw [if_neg hz, if_neg]
          intro hh
          apply hm
          unfold mayE
          omega
      rw [show entG x = (0, 0) from by unfold entG; rw [he]; rfl, show codeG x = 400 from by unfold codeG; rw [he]; rfl]
      clear he
      have HM := Lib.hid hm; clear hm
      go_enter Try.func75, Try.ntmps75
      go_wp2_with fail
      refine (ptePut _ _ _).mono ?_
      rintro e w1 ⟨rfl, hC⟩
      rw [if_neg HM.out, if_neg HM.out]
      have hb := hC.new2 id id
      have k0 := blk_cell hb.1 0
      have k1 := blk_cell hb.1 1
      have f0 := blk_free hb.1 0
      have f1 := blk_free hb.1 1
      have hD := ((((Chg.refl (fun _ => False) w).alloc _).alloc _).trans hC)
      clear hC hb HM
      go_wp2
      exact bodyPost_ret (v := .tuple #[.agg #[.int .i64 0, .int .i64 0], .int .i64 400]) (by simp [results, Try.results75, go_sem, k0, k1]) rfl ⟨rfl, (hD.setCell (fun h => absurd h (Nat.lt_irrefl _)) _).setCell (fun h => absurd h (Nat.lt_irrefl _)) _⟩

end Go.Proofs.Ytnallfehffhaeaa
