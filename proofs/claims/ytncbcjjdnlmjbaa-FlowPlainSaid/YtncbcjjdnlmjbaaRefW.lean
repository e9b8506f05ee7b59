/- The document's side: may windows be? -/
import Derived.Test.YtncbcjjdnlmjbaaCfgR
import Derived.Test.YtncbcjjdnlmjbaaCfgE
import Derived.Test.YtncbcjjdnlmjbaaArr
import Derived.Deep.DeepCutAuto
set_option linter.unusedSimpArgs false
set_option linter.unusedVariables false
namespace Go.Proofs.Ytncbcjjdnlmjbaa
open Go.RowKit

theorem arrB_zero {w : World} {q T n : Nat} (h : w.heap[q]? = some (.cells (Array.replicate n (.bool false)) T (0, 0))) : ArrC bcell 1 w q T n (fun _ => false) := by
  refine ⟨_, h, by simp, fun k hk j hj => ?_⟩
  obtain rfl : j = 0 := by omega
  simp [bcell, hk]
/-- A window has an offset. -/
def covW (x : Wn) (j : Nat) : Prop := x.start ≤ j ∧ (j : Int) < x.start + x.len
instance (x : Wn) (j : Nat) : Decidable (covW x j) := by unfold covW; infer_instance
def usedW (ws : List Wn) (i j : Nat) : Bool := decide (∃ x ∈ ws.take i, covW x j)
theorem usedW_succ (ws : List Wn) (i j : Nat) (h : i < ws.length) : usedW ws (i + 1) j = (usedW ws i j || decide (covW ws[i] j)) := by
  unfold usedW
  rw [Bool.eq_iff_iff]
  simp only [decide_eq_true_eq, Bool.or_eq_true]
  rw [List.take_succ_eq_append_getElem h]
  constructor
  · rintro ⟨x, hx, hc⟩
    rcases List.mem_append.1 hx with h' | h'
    · exact .inl ⟨x, h', hc⟩
    · simp at h'; subst h'; exact .inr hc
  · rintro (⟨x, hx, hc⟩ | hc)
    · exact ⟨x, List.mem_append_left _ hx, hc⟩
    · exact ⟨_, List.mem_append_right _ (List.mem_singleton.2 rfl), hc⟩
/-- Apart just if no offset is both's. -/
theorem apart_iff (a b : Wn) (ha : 1 ≤ a.len) (hb : 1 ≤ b.len) (h0 : 0 ≤ a.start) (h1 : 0 ≤ b.start) : WinApart a b ↔ ∀ j : Nat, ¬ (covW a j ∧ covW b j) := by
  unfold WinApart covW
  constructor
  · intro h j; omega
  · intro h
    by_cases hab : a.start ≤ b.start
    · have := h b.start.toNat; omega
    · have := h a.start.toNat; omega
/-- What comes next is apart just if none of its offsets is used. -/
theorem winAt_of (ws : List Wn) (major parts : Int) (i : Nat) (hi : i < ws.length) (hall : ∀ k (h : k < ws.length), k < i → WinAt ws major parts k ws[k]) (hw : WinP ws[i] major parts)
    (hno : ∀ j : Nat, covW ws[i] j → usedW ws i j = false) : WinAt ws major parts i ws[i] := by
  refine ⟨hw, fun k hk hki => ?_⟩
  have hk1 := (hall k hk hki).1
  rw [apart_iff _ _ hk1.2.2.1 hw.2.2.1 hk1.2.2.2.1 hw.2.2.2.1]
  rintro j ⟨h1, h2⟩
  have := hno j h2
  unfold usedW at this
  exact (of_decide_eq_false this) ⟨ws[k], List.mem_take_iff_getElem.2 ⟨k, by omega, rfl⟩, h1⟩
theorem not_wins (ws : List Wn) (major parts : Int) (i j : Nat) (hi : i < ws.length) (hall : ∀ k (h : k < ws.length), k < i → WinAt ws major parts k ws[k])
    (hc : covW ws[i] j) (hu : usedW ws i j = true) : ¬ WinsOk ws major parts := by
  rintro ⟨_, _, _, _, _, _, h⟩
  have hi' := h i hi
  unfold usedW at hu
  obtain ⟨x, hx, hcx⟩ := of_decide_eq_true hu
  obtain ⟨k, hk, rfl⟩ := List.mem_take_iff_getElem.1 hx
  have hk' := h k (by omega)
  have := hi'.2 k (by omega) (by omega)
  rw [apart_iff _ _ hk'.1.2.2.1 hi'.1.2.2.1 hk'.1.2.2.2.1 hi'.1.2.2.2.1] at this
  exact this j ⟨hcx, hc⟩
set_option maxRecDepth 100000 in
set_option maxHeartbeats 4000000 in
theorem refWins_in (v : Value) (ws : List Wn) (major parts : Int) (w : World) (h : RdW w v ws) (h0 : 1 ≤ major) (h1 : major ≤ 64) (h2 : 1 ≤ parts) (h3 : parts ≤ 4) (h4 : 1 ≤ ws.length) (h5 : ws.length ≤ 8)
    (hd : ∀ x ∈ ws, x.deliver ≤ 9223372036854775807) :
    Calls Try.prog 64 #[v, .int .i64 major, .int .i64 parts] w fun e w' => e = .returned (.bool (decide (WinsOk ws major parts))) ∧ Chg (fun _ => False) w w' := by
  have hR : Hid (∀ W, Chg (fun _ => False) w W → RdW W v ws) := fun W hW => h.keepN hW
  obtain ⟨⟨hm, _⟩, AA, cc, rfl, _⟩ := h
  have hz := arrB_zero (w := w.alloc (.cells (Array.replicate 64 (.bool false)) 170 (0, 0))) (blk_new w _)
  have hA : Chg (fun _ => False) w (w.alloc (.cells (Array.replicate 64 (.bool false)) 170 (0, 0))) := (Chg.refl _ _).alloc _
  have HZ := Lib.hid hz; clear hz
  have HA := Lib.hid hA; clear hA
  have HD := Lib.hid hd; clear hd
  have hl : (ws.length : Int) ≤ 9223372036854775807 := by omega
  have g0 : decide (major < 1) = false := decide_eq_false (by omega)
  have g1 : decide (64 < major) = false := decide_eq_false (by omega)
  have g2 : decide (parts < 1) = false := decide_eq_false (by omega)
  have g3 : decide (4 < parts) = false := decide_eq_false (by omega)
  have g4 : decide ((ws.length : Int) < 1) = false := decide_eq_false (by omega)
  have g5 : decide (8 < (ws.length : Int)) = false := decide_eq_false (by omega)
  have G4 : decide (ws.length < 1) = false := decide_eq_false (by omega)
  go_enter Try.func64, Try.ntmps64
  go_upto_region 4 with fail
  refine wp_abs (fun W => ArrC bcell 1 W w.heap.size 170 64 (usedW ws 0) ∧ Chg (fun _ => False) w W) ⟨HZ.out.cong (fun j _ => by unfold usedW; simp), HA.out⟩ ?_
  clear HZ HA
  rintro W0 ⟨hz, hA⟩
  have HZ := Lib.hid hz; clear hz
  have HA := Lib.hid hA; clear hA
  generalize hq : w.heap.size = q at *
  have HQ := Lib.hid hq; clear hq
  clear g0 g1 g2 g3 g4 g5 G4
  go_wp2_with fail
  go_loopw [8] (fun s8 wr => ∃ i : Nat, i ≤ ws.length ∧ s8 = .int .i64 i ∧ ArrC bcell 1 wr q 170 64 (usedW ws i) ∧ (∀ k (h : k < ws.length), k < i → WinAt ws major parts k ws[k]) ∧ Chg (fun _ => False) w wr) (fun s8 _ => (ws.length - intOf s8).toNat)
  case atStart => exact ⟨0, by omega, rfl, HZ.out, by intro k h hk; omega, HA.out⟩
  case round =>
    clear HZ HA
    obtain ⟨i, hi, rfl, hz, hall, hC⟩ := hrel
    have i0 : (0 : Int) ≤ i := by omega
    have HALL := Lib.hid hall; clear hall
    have HC := Lib.hid hC; clear hC
    have HZ := Lib.hid hz; clear hz
    by_cases hlt : i < ws.length
    · have i1 : (i : Int) < ws.length := by omega
      obtain ⟨_, A', c', hv, hel⟩ := hR.out wr HC.out
      injection hv with e1 e2 e3
      subst e1 e3
      obtain ⟨g, o, rfl, a0, a1, a2, a3⟩ := hel i hlt
      clear hel
      have hdl := HD.out ws[i] (List.getElem_mem hlt)
      obtain ⟨X, hX⟩ : ∃ X, X = ws[i] := ⟨_, rfl⟩
      have HX := Lib.hid hX
      rw [← hX] at a0 a1 a2 a3 hdl
      clear hX
      go_upto_region 8 with fail
      obtain ⟨W1, hW1⟩ : ∃ W, W = wr.alloc (.cells #[.int .i64 X.part, .int .i64 X.start, .int .i64 X.len, .int .i64 X.deliver] 119) := ⟨_, rfl⟩
      have hb := blk_new wr (.cells #[.int .i64 X.part, .int .i64 X.start, .int .i64 X.len, .int .i64 X.deliver] 119)
      have hC1 : Chg (fun _ => False) wr W1 := by rw [hW1]; exact (Chg.refl _ _).alloc _
      rw [← hW1] at hb
      rw [← hW1]
      have HZ1 := Lib.hid (HZ.out.keep hC1 id)
      have HC1 := Lib.hid (HC.out.trans hC1)
      have hne : wr.heap.size ≠ q := by have := HZ.out.lt; omega
      have HNE := Lib.hid hne
      have HBX := Lib.hid hb
      have x0 := blk_cell hb 0
      have x1 := blk_cell hb 1
      have x2 := blk_cell hb 2
      have x3 := blk_cell hb 3
      simp only [List.getElem?_toArray, List.getElem?_cons_zero, List.getElem?_cons_succ] at x0 x1 x2 x3
      generalize hbb : wr.heap.size = b at *
      clear hb hC1 hne HZ HC a0 a1 a2 a3 hW1 hbb
      go_cut [84] (fun s wx => s = .bool (!decide (WinP X major parts)) ∧ wx = W1)
      case first =>
        by_cases t0 : X.part < 0
        · skip
          have d0_0 : decide (X.part < 0) = true := by first | (simpa using t0) | (simp; omega)
          have EN := Lib.hid (show true = !decide (WinP X major parts) from by rw [decide_eq_false (fun h => by unfold WinP at h; omega)]; rfl)
          clear t0
          go_wp2_with fail
          go_meet
          exact ⟨congrArg Value.bool EN.out, rfl⟩
        · skip
          have d0_0 : decide (X.part < 0) = false := by first | (simpa using t0) | (simp; omega)
          by_cases t1 : parts ≤ X.part
          · skip
            have d1_0 : decide (parts ≤ X.part) = true := by first | (simpa using t1) | (simp; omega)
            have EN := Lib.hid (show true = !decide (WinP X major parts) from by rw [decide_eq_false (fun h => by unfold WinP at h; omega)]; rfl)
            clear t0 t1
            go_wp2_with fail
            go_meet
            exact ⟨congrArg Value.bool EN.out, rfl⟩
          · skip
            have d1_0 : decide (parts ≤ X.part) = false := by first | (simpa using t1) | (simp; omega)
            by_cases t2 : X.len < 1
            · skip
              have d2_0 : decide (X.len < 1) = true := by first | (simpa using t2) | (simp; omega)
              have EN := Lib.hid (show true = !decide (WinP X major parts) from by rw [decide_eq_false (fun h => by unfold WinP at h; omega)]; rfl)
              clear t0 t1 t2
              go_wp2_with fail
              go_meet
              exact ⟨congrArg Value.bool EN.out, rfl⟩
            · skip
              have d2_0 : decide (X.len < 1) = false := by first | (simpa using t2) | (simp; omega)
              by_cases t3 : ¬ (0 ≤ X.start ∧ X.start ≤ major ∧ X.len ≤ major - X.start)
              · skip
                have EN := Lib.hid (show true = !decide (WinP X major parts) from by rw [decide_eq_false (fun h => by unfold WinP at h; omega)]; rfl)
                have RD := Lib.hid (decide_eq_false (fun h : RunP X.start X.len major => t3 (by unfold RunP at h; omega)))
                clear t0 t1 t2 t3
                go_wp2_with fail
                refine (refRun X.start X.len major _ (by omega)).mono ?_
                rintro e w5 ⟨rfl, rfl⟩
                rw [RD.out]
                go_wp2_with fail
                go_meet
                exact ⟨congrArg Value.bool EN.out, rfl⟩
              · skip
                by_cases t4 : X.deliver < X.start
                · skip
                  have d4_0 : decide (X.deliver < X.start) = true := by first | (simpa using t4) | (simp; omega)
                  have EN := Lib.hid (show true = !decide (WinP X major parts) from by rw [decide_eq_false (fun h => by unfold WinP at h; omega)]; rfl)
                  have RD := Lib.hid (decide_eq_true (show RunP X.start X.len major from by unfold RunP; omega))
                  clear t0 t1 t2 t3 t4
                  go_wp2_with fail
                  refine (refRun X.start X.len major _ (by omega)).mono ?_
                  rintro e w5 ⟨rfl, rfl⟩
                  rw [RD.out]
                  go_wp2_with fail
                  go_meet
                  exact ⟨congrArg Value.bool EN.out, rfl⟩
                · skip
                  have d4_0 : decide (X.deliver < X.start) = false := by first | (simpa using t4) | (simp; omega)
                  by_cases t5 : X.len ≤ X.deliver - X.start
                  · skip
                    have d5_0 : decide (X.len ≤ X.deliver - X.start) = true := by first | (simpa using t5) | (simp; omega)
                    have EN := Lib.hid (show true = !decide (WinP X major parts) from by rw [decide_eq_false (fun h => by unfold WinP at h; omega)]; rfl)
                    have RD := Lib.hid (decide_eq_true (show RunP X.start X.len major from by unfold RunP; omega))
                    have b0 : 0 ≤ X.start := by omega
                    have b1 : X.start ≤ X.deliver := by omega
                    clear t0 t1 t2 t3 t4 t5
                    go_wp2_with fail
                    refine (refRun X.start X.len major _ (by omega)).mono ?_
                    rintro e w5 ⟨rfl, rfl⟩
                    rw [RD.out]
                    go_wp2_with fail
                    go_meet
                    exact ⟨congrArg Value.bool EN.out, rfl⟩
                  · skip
                    have d5_0 : decide (X.len ≤ X.deliver - X.start) = false := by first | (simpa using t5) | (simp; omega)
                    have EN := Lib.hid (show false = !decide (WinP X major parts) from by rw [decide_eq_true (show WinP X major parts from by unfold WinP; omega)]; rfl)
                    have RD := Lib.hid (decide_eq_true (show RunP X.start X.len major from by unfold RunP; omega))
                    have b0 : 0 ≤ X.start := by omega
                    have b1 : X.start ≤ X.deliver := by omega
                    clear t0 t1 t2 t3 t4 t5
                    go_wp2_with fail
                    refine (refRun X.start X.len major _ (by omega)).mono ?_
                    rintro e w5 ⟨rfl, rfl⟩
                    rw [RD.out]
                    go_wp2_with fail
                    go_meet
                    exact ⟨congrArg Value.bool EN.out, rfl⟩
      case rest =>
        obtain ⟨rfl, e0⟩ := hcut
        subst e0
        by_cases hw : WinP X major parts
        · rw [decide_eq_true hw]
          have hw' := hw
          obtain ⟨p0, p1, p2, p3, p4, p5, p6, p7⟩ := hw'
          have HW := Lib.hid hw; clear hw
          obtain ⟨s, hs⟩ := Int.eq_ofNat_of_zero_le p3
          go_wp2_with fail
          go_loopw [10] (fun s10 wr => ∃ (j : Nat) (gg : Nat → Bool), X.start ≤ j ∧ (j : Int) ≤ X.start + X.len ∧ s10 = .int .i64 j ∧ ArrC bcell 1 wr q 170 64 gg ∧ (∀ m : Nat, gg m = (usedW ws i m || decide (X.start ≤ m ∧ m < j))) ∧ (∀ m : Nat, X.start ≤ m → m < j → usedW ws i m = false) ∧ wr.heap[b]? = some (.cells #[.int .i64 X.part, .int .i64 X.start, .int .i64 X.len, .int .i64 X.deliver] 119 (0, 0)) ∧ Chg (fun _ => False) w wr) (fun s10 _ => (X.start + X.len - intOf s10).toNat)
          case atStart => exact ⟨s, _, by omega, by omega, rfl, HZ1.out, fun m => by rw [decide_eq_false (by omega)]; simp, fun m h1 h2 => by omega, HBX.out, HC1.out⟩
          case round =>
            clear HZ1 HC1 HBX x0 x1 x2 x3
            obtain ⟨j, gg, j0, j1, rfl, hz, hgg, hno, hb, hC⟩ := hrel
            have x1 := blk_cell hb 1
            have x2 := blk_cell hb 2
            simp only [List.getElem?_toArray, List.getElem?_cons_zero, List.getElem?_cons_succ] at x1 x2
            have HBX := Lib.hid hb; clear hb
            have HC := Lib.hid hC; clear hC
            have HNO := Lib.hid hno; clear hno
            by_cases hjl : (j : Int) < X.start + X.len
            · have c0 : wr.cell? ⟨q, j, none⟩ = some (.bool (gg j)) := by have := hz.cell (k := j) (by omega) (j := 0) (by omega); simpa [bcell] using this
              have hgj : gg j = usedW ws i j := by rw [hgg]; rw [decide_eq_false (by omega)]; simp
              rw [hgj] at c0
              have hcov : covW ws[i] j := by rw [← HX.out]; exact ⟨j0, hjl⟩
              have jn0 : (0 : Int) ≤ j := by omega
              have jn : (j : Int) < 64 := by omega
              cases hu : usedW ws i j with
              | true =>
                rw [hu] at c0
                have HN := Lib.hid (decide_eq_false (not_wins ws major parts i j hlt HALL.out hcov hu))
                clear hz hgg hgj hcov hu
                go_wp2_with fail
                go_ret
                exact ⟨retB HN.out.symm, HC.out⟩
              | false =>
                rw [hu] at c0
                have fz := hz.free j
                have lz := hz.lt
                have hz2 := hz.set (k := j) (by omega) true rfl
                have HZ2 : Hid (ArrC bcell 1 (wr.setCell ⟨q, j, none⟩ (.bool true)) q 170 64 (upd gg j true)) := by
                  have e : wr.setCells q (j * 1) (bcell true) = wr.setCell ⟨q, j, none⟩ (.bool true) := by rw [Nat.mul_one]; rfl
                  rw [e] at hz2; exact hz2
                have HG : Hid (∀ m : Nat, upd gg j true m = (usedW ws i m || decide (X.start ≤ m ∧ m < j + 1))) := fun m => by
                  unfold upd
                  by_cases e : m = j
                  · subst e; rw [if_pos rfl, decide_eq_true (by omega)]; simp
                  · rw [if_neg e, hgg]; congr 1; rw [Bool.eq_iff_iff]; simp only [decide_eq_true_eq]; omega
                have HN2 : Hid (∀ m : Nat, X.start ≤ m → m < j + 1 → usedW ws i m = false) := fun m h1 h2 => by
                  by_cases e : m = j
                  · subst e; exact hu
                  · exact HNO.out m h1 (by omega)
                have HB2 : Hid ((wr.setCell ⟨q, j, none⟩ (.bool true)).heap[b]? = some (.cells #[.int .i64 X.part, .int .i64 X.start, .int .i64 X.len, .int .i64 X.deliver] 119 (0, 0))) := blk_far HBX.out HNE.out _
                have HC2 : Hid (Chg (fun _ => False) w (wr.setCell ⟨q, j, none⟩ (.bool true))) := HC.out.trans' ((Chg.refl (fun k => k = q) _).set1 _) (fun k hk e => by have := HQ.out; omega)
                clear hz hgg hgj hcov hu hz2
                go_wp2_with fail
                go_roundw
                case rel => exact ⟨j + 1, _, by omega, by omega, by go_num, HZ2.out, HG.out, HN2.out, HB2.out, HC2.out⟩
                case measure => simp [intOf]; omega
            · have hje : (j : Int) = X.start + X.len := by omega
              have hat : WinAt ws major parts i ws[i] := winAt_of ws major parts i hlt HALL.out (by rw [← HX.out]; exact HW.out) (fun m hm => by rw [← HX.out] at hm; unfold covW at hm; exact HNO.out m hm.1 (by omega))
              have HAL2 : Hid (∀ k (h : k < ws.length), k < i + 1 → WinAt ws major parts k ws[k]) := fun k hk hki => by
                by_cases e : k = i
                · subst e; exact hat
                · exact HALL.out k hk (by omega)
              have HZ2 : Hid (ArrC bcell 1 wr q 170 64 (usedW ws (i + 1))) := hz.cong (fun m _ => by
                have hcv : (X.start ≤ m ∧ m < j) ↔ covW X m := by unfold covW; omega
                rw [hgg, usedW_succ ws i m hlt, ← HX.out]; congr 1; exact decide_eq_decide.2 hcv)
              clear hz hgg hat hje hs
              go_wp2_with fail
              go_roundw
              case rel => exact ⟨i + 1, by omega, by go_num, HZ2.out, HAL2.out, HC.out⟩
              case measure => simp [intOf]; omega
        · rw [decide_eq_false hw]
          have hn : ¬ WinsOk ws major parts := fun h => hw (by rw [HX.out]; exact (h.2.2.2.2.2.2 i hlt).1)
          have HN := Lib.hid (decide_eq_false hn)
          clear hn hw
          go_wp2_with fail
          go_ret
          exact ⟨retB HN.out.symm, HC1.out⟩
    · obtain rfl : i = ws.length := by omega
      have hok : WinsOk ws major parts := ⟨h0, h1, h2, h3, h4, h5, fun k hk => HALL.out k hk hk⟩
      have HN := Lib.hid (decide_eq_true hok)
      clear hok
      go_wp2_with fail
      go_ret
      exact ⟨retB HN.out.symm, HC.out⟩
set_option maxRecDepth 100000 in
set_option maxHeartbeats 4000000 in
theorem refWins (v : Value) (ws : List Wn) (major parts : Int) (w : World) (h : RdW w v ws) (hd : ∀ x ∈ ws, x.deliver ≤ 9223372036854775807) :
    Calls Try.prog 64 #[v, .int .i64 major, .int .i64 parts] w fun e w' => e = .returned (.bool (decide (WinsOk ws major parts))) ∧ Chg (fun _ => False) w w' := by
  by_cases t0 : major < 1
  · skip
    have d0_0 : decide (major < 1) = true := by first | (simpa using t0) | (simp; omega)
    have EN := Lib.hid (decide_eq_false (fun h : WinsOk ws major parts => by unfold WinsOk at h; omega))
    obtain ⟨⟨hm, _⟩, AA, cc, rfl, _⟩ := h
    unfold maxLen at hm
    clear hd t0
    go_enter Try.func64, Try.ntmps64
    go_wp2_with fail
    go_ret
    exact ⟨retB EN.out.symm, Chg.refl _ _⟩
  · skip
    have d0_0 : decide (major < 1) = false := by first | (simpa using t0) | (simp; omega)
    by_cases t1 : 64 < major
    · skip
      have d1_0 : decide (64 < major) = true := by first | (simpa using t1) | (simp; omega)
      have EN := Lib.hid (decide_eq_false (fun h : WinsOk ws major parts => by unfold WinsOk at h; omega))
      obtain ⟨⟨hm, _⟩, AA, cc, rfl, _⟩ := h
      unfold maxLen at hm
      clear hd t0 t1
      go_enter Try.func64, Try.ntmps64
      go_wp2_with fail
      go_ret
      exact ⟨retB EN.out.symm, Chg.refl _ _⟩
    · skip
      have d1_0 : decide (64 < major) = false := by first | (simpa using t1) | (simp; omega)
      by_cases t2 : parts < 1
      · skip
        have d2_0 : decide (parts < 1) = true := by first | (simpa using t2) | (simp; omega)
        have EN := Lib.hid (decide_eq_false (fun h : WinsOk ws major parts => by unfold WinsOk at h; omega))
        obtain ⟨⟨hm, _⟩, AA, cc, rfl, _⟩ := h
        unfold maxLen at hm
        clear hd t0 t1 t2
        go_enter Try.func64, Try.ntmps64
        go_wp2_with fail
        go_ret
        exact ⟨retB EN.out.symm, Chg.refl _ _⟩
      · skip
        have d2_0 : decide (parts < 1) = false := by first | (simpa using t2) | (simp; omega)
        by_cases t3 : 4 < parts
        · skip
          have d3_0 : decide (4 < parts) = true := by first | (simpa using t3) | (simp; omega)
          have EN := Lib.hid (decide_eq_false (fun h : WinsOk ws major parts => by unfold WinsOk at h; omega))
          obtain ⟨⟨hm, _⟩, AA, cc, rfl, _⟩ := h
          unfold maxLen at hm
          clear hd t0 t1 t2 t3
          go_enter Try.func64, Try.ntmps64
          go_wp2_with fail
          go_ret
          exact ⟨retB EN.out.symm, Chg.refl _ _⟩
        · skip
          have d3_0 : decide (4 < parts) = false := by first | (simpa using t3) | (simp; omega)
          by_cases t4 : ws.length < 1
          · skip
            have d4_0 : decide (ws.length < 1) = true := by first | (simpa using t4) | (simp; omega)
            have d4_1 : decide ((ws.length : Int) < 1) = true := by first | (simpa using t4) | (simp; omega)
            have EN := Lib.hid (decide_eq_false (fun h : WinsOk ws major parts => by unfold WinsOk at h; omega))
            obtain ⟨⟨hm, _⟩, AA, cc, rfl, _⟩ := h
            unfold maxLen at hm
            clear hd t0 t1 t2 t3 t4
            go_enter Try.func64, Try.ntmps64
            go_wp2_with fail
            go_ret
            exact ⟨retB EN.out.symm, Chg.refl _ _⟩
          · skip
            have d4_0 : decide (ws.length < 1) = false := by first | (simpa using t4) | (simp; omega)
            have d4_1 : decide ((ws.length : Int) < 1) = false := by first | (simpa using t4) | (simp; omega)
            by_cases t5 : 8 < ws.length
            · skip
              have d5_0 : decide (8 < ws.length) = true := by first | (simpa using t5) | (simp; omega)
              have d5_1 : decide (8 < (ws.length : Int)) = true := by first | (simpa using t5) | (simp; omega)
              have EN := Lib.hid (decide_eq_false (fun h : WinsOk ws major parts => by unfold WinsOk at h; omega))
              obtain ⟨⟨hm, _⟩, AA, cc, rfl, _⟩ := h
              unfold maxLen at hm
              clear hd t0 t1 t2 t3 t4 t5
              go_enter Try.func64, Try.ntmps64
              go_wp2_with fail
              go_ret
              exact ⟨retB EN.out.symm, Chg.refl _ _⟩
            · skip
              have d5_0 : decide (8 < ws.length) = false := by first | (simpa using t5) | (simp; omega)
              have d5_1 : decide (8 < (ws.length : Int)) = false := by first | (simpa using t5) | (simp; omega)
              exact refWins_in v ws major parts w h (by omega) (by omega) (by omega) (by omega) (by omega) (by omega) hd
end Go.Proofs.Ytncbcjjdnlmjbaa
