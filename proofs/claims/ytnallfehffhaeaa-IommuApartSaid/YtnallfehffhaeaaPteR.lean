/- Walks over the words of a table, the document's own answer. -/
import Derived.Test.YtnallfehffhaeaaPteW
import Derived.StillTailTactics
set_option linter.unusedSimpArgs false
set_option linter.unusedVariables false
namespace Go.Proofs.Ytnallfehffhaeaa
open Go.RowKit
attribute [local go_sem] i64_and3

theorem rMay (f p : Int) (w : World) : Calls Try.prog 70 #[.agg #[.int .i64 f, .int .i64 p]] w fun e w' => e = .returned (.bool (decide (mayE f p))) ∧ Chg (fun _ => False) w w' := by
  have key : ∀ b : Bool, b = decide (mayE f p) → Ending.returned (.bool b) = Ending.returned (.bool (decide (mayE f p))) := fun b h => by rw [h]
  by_cases hp : p = 0
  · subst hp
    go_enter Try.func70, Try.ntmps70
    go_wp2
    go_ret
    exact ⟨key _ (by rw [Bool.eq_iff_iff]; simp [mayE]), (Chg.refl _ _).alloc _⟩
  · have h0 : (p == 0) = false := by simpa using hp
    by_cases h1 : 1 ≤ p
    · by_cases h2 : p ≤ 3
      · by_cases h3 : 0 ≤ f
        · go_enter Try.func70, Try.ntmps70
          go_wp2
          go_ret
          exact ⟨key _ (by rw [Bool.eq_iff_iff]; simp [mayE, hp, *]; try omega), (Chg.refl _ _).alloc _⟩
        · go_enter Try.func70, Try.ntmps70
          go_wp2
          go_ret
          exact ⟨key _ (by rw [Bool.eq_iff_iff]; simp [mayE, hp, *]; try omega), (Chg.refl _ _).alloc _⟩
      · go_enter Try.func70, Try.ntmps70
        go_wp2
        go_ret
        exact ⟨key _ (by rw [Bool.eq_iff_iff]; simp [mayE, hp, *]; try omega), (Chg.refl _ _).alloc _⟩
    · go_enter Try.func70, Try.ntmps70
      go_wp2
      go_ret
      exact ⟨key _ (by rw [Bool.eq_iff_iff]; simp [mayE, hp, *]; try omega), (Chg.refl _ _).alloc _⟩


theorem rPut (f p : Int) (w : World) : Calls Try.prog 73 #[.agg #[.int .i64 f, .int .i64 p]] w fun e w' => e = .returned (.tuple #[.int .i64 (if mayE f p then putE f p else 0), .int .i64 (if mayE f p then 0 else 400)]) ∧ Chg (fun _ => False) w w' := by
  by_cases h : mayE f p
  · rw [if_pos h, if_pos h]
    have hd : decide (mayE f p) = true := decide_eq_true h
    have hq : putE f p = if p = 0 then 0 else 1 + 2 * p + 4096 * f := rfl
    unfold mayE at h
    by_cases hp : p = 0
    · subst hp
      rw [if_pos rfl] at hq
      rw [hq]
      clear hq
      have HD := Lib.hid hd; clear hd
      go_enter Try.func73, Try.ntmps73
      go_wp2_with fail
      refine (rMay _ _ _).mono ?_
      rintro e w1 ⟨rfl, hC⟩
      rw [HD.out]
      have hb := hC.new id
      have c0 := blk_cell hb 0
      have c1 := blk_cell hb 1
      go_wp2
      go_ret2
      exact ⟨rfl, ((Chg.refl _ _).alloc _).trans hC⟩
    · rw [if_neg hp] at hq
      rw [hq]
      clear hq
      have HD := Lib.hid hd; clear hd
      have h0 : (p == 0) = false := by simpa using hp
      have b1 : 1 ≤ p := by omega
      have b2 : p ≤ 3 := by omega
      have b3 : 0 ≤ f := by omega
      have b4 : f < 64 := by omega
      clear h hp
      go_enter Try.func73, Try.ntmps73
      go_wp2_with fail
      refine (rMay _ _ _).mono ?_
      rintro e w1 ⟨rfl, hC⟩
      rw [HD.out]
      have hb := hC.new id
      have c0 := blk_cell hb 0
      have c1 := blk_cell hb 1
      go_wp2
      go_ret2
      exact ⟨by congr 5, ((Chg.refl _ _).alloc _).trans hC⟩
  · rw [if_neg h, if_neg h]
    have hd : decide (mayE f p) = false := decide_eq_false h
    clear h
    have HD := Lib.hid hd; clear hd
    go_enter Try.func73, Try.ntmps73
    go_wp2_with fail
    refine (rMay _ _ _).mono ?_
    rintro e w1 ⟨rfl, hC⟩
    rw [HD.out]
    go_wp2
    go_ret2
    exact ⟨rfl, ((Chg.refl _ _).alloc _).trans hC⟩
theorem rGet (x : Int) (w : World) (hx0 : 0 ≤ x) (hx : x < 4294967296) : Calls Try.prog 84 #[.int .i64 x] w fun e w' => e = .returned (.tuple #[.agg #[.int .i64 (entG x).1, .int .i64 (entG x).2], .int .i64 (codeG x)]) ∧ Chg (fun _ => False) w w' := by
  by_cases h0 : x = 0
  · subst h0
    rw [show entG 0 = (0, 0) from rfl, show codeG 0 = 0 from rfl]
    go_enter Try.func84, Try.ntmps84
    go_wp2
    exact bodyPost_ret (v := .tuple #[.agg #[.int .i64 0, .int .i64 0], .int .i64 0]) (by simp [results, Try.results84, go_sem]) rfl ⟨rfl, (Chg.refl _ _).alloc _⟩
  · have hz0 : (x == 0) = false := by simpa using h0
    have hb0 : 0 ≤ x := hx0
    have d1 : 0 ≤ x / 4096 := by omega
    have d2 : x / 4096 < 1048576 := by omega
    have d3 : 0 ≤ x / 2 % 4 := by omega
    have d4 : x / 2 % 4 ≤ 3 := by omega
    by_cases hm : mayE (x / 4096) (x / 2 % 4)
    · by_cases hw : putE (x / 4096) (x / 2 % 4) = x
      · have he : getE x = some (x / 4096, x / 2 % 4) := by have := getE_put hm; rwa [hw] at this
        rw [show entG x = (x / 4096, x / 2 % 4) from by unfold entG; rw [he]; rfl, show codeG x = 0 from by unfold codeG; rw [he]; rfl]
        clear he
        have HM := Lib.hid hm; clear hm
        have HW := Lib.hid hw; clear hw
        go_enter Try.func84, Try.ntmps84
        go_wp2_with fail
        refine (rPut _ _ _).mono ?_
        rintro e w1 ⟨rfl, hC⟩
        rw [if_pos HM.out, if_pos HM.out, HW.out]
        have hb := hC.new2 id id
        have k0 := blk_cell hb.1 0
        have k1 := blk_cell hb.1 1
        have f0 := blk_free hb.1 0
        have f1 := blk_free hb.1 1
        have c0 := blk_cell hb.2 0
        have c1 := blk_cell hb.2 1
        have hr := blk_set (blk_set hb.1 0 (.int .i64 (x / 4096))) 1 (.int .i64 (x / 2 % 4))
        have r0 := blk_cell hr 0
        have r1 := blk_cell hr 1
        have hD := ((((Chg.refl (fun _ => False) w).alloc _).alloc _).trans hC)
        clear hr hC hb
        go_wp2
        exact bodyPost_ret (v := .tuple #[.agg #[.int .i64 (x / 4096), .int .i64 (x / 2 % 4)], .int .i64 0]) (by simp [results, Try.results84, go_sem, k0, k1]) rfl ⟨rfl, (hD.setCell (fun h => absurd h (Nat.lt_irrefl _)) _).setCell (fun h => absurd h (Nat.lt_irrefl _)) _⟩
      · have he : getE x = none := by
          unfold getE
          by_cases hz : x = 0
          · exfalso; subst hz; exact hw rfl
          · rw [if_neg hz, if_neg]
            intro hh
            apply hw
            unfold putE
            rw [if_neg (by omega)]
            omega
        rw [show entG x = (0, 0) from by unfold entG; rw [he]; rfl, show codeG x = 400 from by unfold codeG; rw [he]; rfl]
        clear he
        have hw' : (putE (x / 4096) (x / 2 % 4) != x) = true := bne_iff_ne.2 hw
        have HM := Lib.hid hm; clear hm
        have HW := Lib.hid hw'; clear hw' hw
        go_enter Try.func84, Try.ntmps84
        go_wp2_with fail
        refine (rPut _ _ _).mono ?_
        rintro e w1 ⟨rfl, hC⟩
        rw [if_pos HM.out, if_pos HM.out]
        have hW := HW.out
        generalize putE (x / 4096) (x / 2 % 4) = y at *
        have hb := hC.new2 id id
        have k0 := blk_cell hb.1 0
        have k1 := blk_cell hb.1 1
        have f0 := blk_free hb.1 0
        have f1 := blk_free hb.1 1
        have hD := ((((Chg.refl (fun _ => False) w).alloc _).alloc _).trans hC)
        clear hC hb HM HW
        go_wp2
        exact bodyPost_ret (v := .tuple #[.agg #[.int .i64 0, .int .i64 0], .int .i64 400]) (by simp [results, Try.results84, go_sem, k0, k1]) rfl ⟨rfl, (hD.setCell (fun h => absurd h (Nat.lt_irrefl _)) _).setCell (fun h => absurd h (Nat.lt_irrefl _)) _⟩
    · have he : getE x = none := by
        unfold getE
        by_cases hz : x = 0
        · exfalso; subst hz; exact hm (by decide)
        · rw [if_neg hz, if_neg]
          intro hh
          apply hm
          unfold mayE
          omega
      rw [show entG x = (0, 0) from by unfold entG; rw [he]; rfl, show codeG x = 400 from by unfold codeG; rw [he]; rfl]
      clear he
      have HM := Lib.hid hm; clear hm
      go_enter Try.func84, Try.ntmps84
      go_wp2_with fail
      refine (rPut _ _ _).mono ?_
      rintro e w1 ⟨rfl, hC⟩
      rw [if_neg HM.out, if_neg HM.out]
      have hb := hC.new2 id id
      have k0 := blk_cell hb.1 0
      have k1 := blk_cell hb.1 1
      have f0 := blk_free hb.1 0
      have f1 := blk_free hb.1 1
      have hD := ((((Chg.refl (fun _ => False) w).alloc _).alloc _).trans hC)
      clear hC hb HM
      go_wp2
      exact bodyPost_ret (v := .tuple #[.agg #[.int .i64 0, .int .i64 0], .int .i64 400]) (by simp [results, Try.results84, go_sem, k0, k1]) rfl ⟨rfl, (hD.setCell (fun h => absurd h (Nat.lt_irrefl _)) _).setCell (fun h => absurd h (Nat.lt_irrefl _)) _⟩

theorem rFrames (p r : Nat) (bs : List UInt8) (w : World) (h : MemAt w 71 p r bs) (hl : bs.length ≤ 4096) :
    Calls Try.prog 47 #[.pointer (some ⟨p, 0, none⟩)] w fun e w' => e = .returned (.int .i64 ((bs.length : Int) / 64)) ∧ w' = w := (frames60 p r bs w h hl).mono fun _ _ ⟨h1, h2⟩ => ⟨h1, h2.symm⟩
theorem rFramesC (p r : Nat) (bs : List UInt8) (w : World) (c0 : w.cell? ⟨p, 0, none⟩ = some (.slice (some ⟨r, 0, none⟩) bs.length bs.length)) (hl : bs.length ≤ 4096) :
    Calls Try.prog 47 #[.pointer (some ⟨p, 0, none⟩)] w fun e w' => e = .returned (.int .i64 ((bs.length : Int) / 64)) ∧ w = w' := by
  go_enter Try.func47, Try.ntmps47
  go_wp2
  go_ret
  exact ⟨rfl, rfl⟩
def okR (bs : List UInt8) (frame k : Int) : Bool := (codeG (wordK bs frame k) == 0) && decide ((entG (wordK bs frame k)).1 < (bs.length : Int) / 64)
set_option maxRecDepth 100000 in
theorem rEntry (p r : Nat) (bs : List UInt8) (frame k : Int) (w : World) (h : MemAt w 71 p r bs) (hl : bs.length ≤ 4096) (hf : 0 ≤ frame ∧ frame < 64) (hk : 0 ≤ k ∧ k < 16) :
    Calls Try.prog 79 #[.pointer (some ⟨p, 0, none⟩), .int .i64 frame, .int .i64 k] w fun e w' => e = .returned (.tuple #[.agg #[.int .i64 (entG (wordK bs frame k)).1, .int .i64 (entG (wordK bs frame k)).2], .bool (okR bs frame k)]) ∧ Chg (fun _ => False) w w' := by
  obtain ⟨hf0, hf1⟩ := hf
  obtain ⟨hk0, hk1⟩ := hk
  have hwr := wordR_range bs (frame * 64 + k * 4)
  unfold okR
  change 0 ≤ wordK bs frame k ∧ wordK bs frame k < 4294967296 at hwr
  have hwk : wordR bs (frame * 64 + 4 * k) = wordK bs frame k := by unfold wordK; rw [Int.mul_comm 4 k]
  generalize wordK bs frame k = x at *
  have HW := Lib.hid hwk; clear hwk
  go_enter Try.func79, Try.ntmps79
  go_wp2_with fail
  refine (word49 p r bs _ _ (h.keep (S := fun _ => False) ((Chg.refl _ _).alloc _) id id) hl).mono ?_
  rintro e w1 ⟨rfl, nd, rfl⟩
  rw [HW.out]
  clear HW
  go_wp2_with fail
  refine (rGet _ _ hwr.1 hwr.2).mono ?_
  rintro e w2 ⟨rfl, hC⟩
  go_wp2_with fail
  have hw2 : w.heap.size < w2.heap.size := by have := hC.size; simp at this; omega
  have hpw : p ≠ w.heap.size := by have := h.lt.1; omega
  refine wp_abs (fun W => W.heap[w.heap.size]? = some (.cells #[.int .i64 0, .int .i64 0] 29 (0, 0)) ∧ W.heap[w2.heap.size]? = some (.cells #[.int .i64 (entG x).1, .int .i64 (entG x).2] 29 (0, 0)) ∧ MemAt W 71 p r bs ∧ Chg (fun _ => False) w W) ⟨blk_alloc (hC.at (by simpa using blk_new w _) id) _, blk_new _ _, h.keep (S := fun _ => False) (((((Chg.refl _ _).alloc _).drewN _).trans hC).alloc _) id id, ((((Chg.refl _ _).alloc _).drewN _).trans hC).alloc _⟩ ?_
  generalize w2.heap.size = q at *
  clear h hC
  rintro W ⟨k, k', hM, hD⟩
  have k0 := blk_cell k 0
  have k1 := blk_cell k 1
  have f0 := blk_free k 0
  have f1 := blk_free k 1
  have c0 := blk_cell k' 0
  have c1 := blk_cell k' 1
  have hne : w.heap.size ≠ q := by omega
  clear k k' hw2
  have cp := hM.hdr
  have hpl := hM.lt.1
  have n1 : ¬ q = w.heap.size := fun h => hne h.symm
  have n2 : ¬ w.heap.size = q := hne
  have n3 : ¬ p = w.heap.size := hpw
  have n4 : ¬ w.heap.size = p := fun h => hpw h.symm
  clear hM hpl
  by_cases hc : codeG x = 0
  · have HC := Lib.hid hc
    rw [hc]
    clear hc
    go_region_held3 (fun w' => w'.cell? ⟨q, 0, none⟩ = some (.int .i64 (entG x).1) ∧ w'.cell? ⟨q, 1, none⟩ = some (.int .i64 (entG x).2) ∧ w'.cell? ⟨p, 0, none⟩ = some (.slice (some ⟨r, 0, none⟩) bs.length bs.length)) (go_keep) (first | (go_at_call 47; refine (rFramesC p r bs _ ?_ hl).mono ?_; (simp [*]); rintro e w' ⟨rfl, rfl⟩))
    go_wp2
    exact bodyPost_ret (v := .tuple #[.agg #[.int .i64 (entG x).1, .int .i64 (entG x).2], .bool (decide ((entG x).1 < (bs.length : Int) / 64))]) (by simp [results, Try.results79, go_sem, k0, k1]) rfl ⟨by rw [HC.out]; simp, ((hD.setCell (fun h => absurd h (Nat.lt_irrefl _)) _).setCell (fun h => absurd h (Nat.lt_irrefl _)) _).drew⟩
  · have hc' : (codeG x == 0) = false := by simpa using hc
    have HC := Lib.hid hc'
    clear hc
    go_region
    trace_state
    all_goals
      go_wp2
      exact bodyPost_ret (v := .tuple #[.agg #[.int .i64 (entG x).1, .int .i64 (entG x).2], .bool false]) (by simp [results, Try.results79, go_sem, k0, k1]) rfl ⟨by rw [HC.out]; simp, ((hD.setCell (fun h => absurd h (Nat.lt_irrefl _)) _).setCell (fun h => absurd h (Nat.lt_irrefl _)) _).drew⟩

end Go.Proofs.Ytnallfehffhaeaa
