/- The document's side: may shares be? Printed by mkrefx.py. -/
import Derived.Test.YtncbcjjdnlmjbaaRefW
import Derived.IntWalk
import Derived.Deep.QuietTactic
import Derived.BigQuiet
set_option linter.unusedSimpArgs false
set_option linter.unusedVariables false
namespace Go.Proofs.Ytncbcjjdnlmjbaa
open Go.RowKit

/-- A share has a sector. -/
def covX (x : Prt) (j : Nat) : Prop := x.first ≤ j ∧ (j : Int) < x.first + x.count
instance (x : Prt) (j : Nat) : Decidable (covX x j) := by unfold covX; infer_instance
def usedX (ps : List Prt) (i j : Nat) : Bool := decide (∃ x ∈ ps.take i, covX x j)
theorem usedX_succ (ps : List Prt) (i j : Nat) (h : i < ps.length) : usedX ps (i + 1) j = (usedX ps i j || decide (covX ps[i] j)) := by
  unfold usedX
  rw [Bool.eq_iff_iff]
  simp only [decide_eq_true_eq, Bool.or_eq_true]
  rw [List.take_succ_eq_append_getElem h]
  constructor
  · rintro ⟨x, hx, hc⟩
    rcases List.mem_append.1 hx with h' | h'
    · exact .inl ⟨x, h', hc⟩
    · simp at h'; subst h'; exact .inr hc
  · rintro (⟨x, hx, hc⟩ | hc)
    · exact ⟨x, List.mem_append_left _ hx, hc⟩
    · exact ⟨_, List.mem_append_right _ (List.mem_singleton.2 rfl), hc⟩
theorem extApart_iff (a b : Prt) (ha : 0 ≤ a.count) (hb : 0 ≤ b.count) (h0 : 0 ≤ a.first) (h1 : 0 ≤ b.first) : ExtApart a b ↔ ∀ j : Nat, ¬ (covX a j ∧ covX b j) := by
  unfold ExtApart covX
  constructor
  · intro h j; omega
  · intro h
    by_cases hab : a.first ≤ b.first
    · have := h b.first.toNat; omega
    · have := h a.first.toNat; omega
theorem extAt_of (ps : List Prt) (sec : Int) (i : Nat) (hi : i < ps.length) (hall : ∀ k (h : k < ps.length), k < i → ExtAt ps sec k ps[k]) (hw : RunP ps[i].first ps[i].count sec)
    (hno : ∀ j : Nat, covX ps[i] j → usedX ps i j = false) : ExtAt ps sec i ps[i] := by
  refine ⟨hw, fun k hk hki => ?_⟩
  have hk1 := (hall k hk hki).1
  rw [extApart_iff _ _ hw.2.1 hk1.2.1 hw.1 hk1.1]
  rintro j ⟨h1, h2⟩
  have := hno j h1
  unfold usedX at this
  exact (of_decide_eq_false this) ⟨ps[k], List.mem_take_iff_getElem.2 ⟨k, by omega, rfl⟩, h2⟩
theorem not_exts (ps : List Prt) (sec : Int) (i j : Nat) (hi : i < ps.length)
    (hc : covX ps[i] j) (hu : usedX ps i j = true) : ¬ ExtOk ps sec := by
  rintro ⟨_, _, _, _, h⟩
  have hi' := h i hi
  unfold usedX at hu
  obtain ⟨x, hx, hcx⟩ := of_decide_eq_true hu
  obtain ⟨k, hk, rfl⟩ := List.mem_take_iff_getElem.1 hx
  have hk' := h k (by omega)
  have := hi'.2 k (by omega) (by omega)
  rw [extApart_iff _ _ hi'.1.2.1 hk'.1.2.1 hi'.1.1 hk'.1.1] at this
  exact this j ⟨hc, hcx⟩
set_option maxRecDepth 100000 in
set_option maxHeartbeats 4000000 in
theorem refExt_in (v : Value) (ps : List Prt) (sec : Int) (w : World) (h : RdP w v ps) (h4 : 1 ≤ ps.length) (h5 : ps.length ≤ 4) (h0 : 0 ≤ sec) (h1 : sec ≤ 64) :
    Calls Try.prog 65 #[v, .int .i64 sec] w fun e w' => e = .returned (.bool (decide (ExtOk ps sec))) ∧ Chg (fun _ => False) w w' := by
  have hR : Hid (∀ W, Chg (fun _ => False) w W → RdP W v ps) := fun W hW => h.keepN hW
  obtain ⟨hm, AA, cc, rfl, _⟩ := h
  have hz := arrB_zero (w := w.alloc (.cells (Array.replicate 64 (.bool false)) 170 (0, 0))) (blk_new w _)
  have hA : Chg (fun _ => False) w (w.alloc (.cells (Array.replicate 64 (.bool false)) 170 (0, 0))) := (Chg.refl _ _).alloc _
  have HZ := Lib.hid hz; clear hz
  have HA := Lib.hid hA; clear hA
  have hl : (ps.length : Int) ≤ 9223372036854775807 := by omega
  have g0 : decide (sec < 0) = false := decide_eq_false (by omega)
  have g1 : decide (64 < sec) = false := decide_eq_false (by omega)
  have g4 : decide ((ps.length : Int) < 1) = false := decide_eq_false (by omega)
  have g5 : decide (4 < (ps.length : Int)) = false := decide_eq_false (by omega)
  have G4 : decide (ps.length < 1) = false := decide_eq_false (by omega)
  go_enter Try.func65, Try.ntmps65
  go_upto_region 4 with fail
  refine wp_abs (fun W => ArrC bcell 1 W w.heap.size 170 64 (usedX ps 0) ∧ Chg (fun _ => False) w W) ⟨HZ.out.cong (fun j _ => by unfold usedX; simp), HA.out⟩ ?_
  clear HZ HA
  rintro W0 ⟨hz, hA⟩
  have HZ := Lib.hid hz; clear hz
  have HA := Lib.hid hA; clear hA
  generalize hq : w.heap.size = q at *
  have HQ := Lib.hid hq; clear hq
  clear g0 g1 g4 g5 G4
  go_wp2_with fail
  go_loopw [6] (fun s6 wr => ∃ i : Nat, i ≤ ps.length ∧ s6 = .int .i64 i ∧ ArrC bcell 1 wr q 170 64 (usedX ps i) ∧ (∀ k (h : k < ps.length), k < i → ExtAt ps sec k ps[k]) ∧ Chg (fun _ => False) w wr) (fun s6 _ => (ps.length - intOf s6).toNat)
  case atStart => exact ⟨0, by omega, rfl, HZ.out, by intro k h hk; omega, HA.out⟩
  case round =>
    clear HZ HA
    obtain ⟨i, hi, rfl, hz, hall, hC⟩ := hrel
    have i0 : (0 : Int) ≤ i := by omega
    have HALL := Lib.hid hall; clear hall
    have HC := Lib.hid hC; clear hC
    have HZ := Lib.hid hz; clear hz
    by_cases hlt : i < ps.length
    · have i1 : (i : Int) < ps.length := by omega
      obtain ⟨_, A', c', hv, hel⟩ := hR.out wr HC.out
      injection hv with e1 e2 e3
      subst e1 e3
      obtain ⟨g, o, F, rfl, _, _, _, a2, a3, _⟩ := hel i hlt
      clear hel
      obtain ⟨X, hX⟩ : ∃ X, X = ps[i] := ⟨_, rfl⟩
      have HX := Lib.hid hX
      rw [← hX] at a2 a3
      clear hX e2
      have HEL : Hid (∀ W, Chg (fun k => k = q) wr W → W.cell? ⟨g, o + i * 5 + 3, none⟩ = some (.int .i64 X.first) ∧ W.cell? ⟨g, o + i * 5 + 4, none⟩ = some (.int .i64 X.count)) := fun W hW => by
        obtain ⟨_, A', c', hv, hel⟩ := hR.out w (Chg.refl _ _)
        injection hv with e1 e2 e3
        subst e1 e3
        obtain ⟨g', o', F', e4, _, _, _, b2, b3, _⟩ := hel i hlt
        injection e4 with e4; injection e4 with e4 e5
        subst e4 e5
        have hg : g < w.heap.size := World.block_lt_of_cell? w _ b2
        rw [← HX.out] at b2 b3
        exact ⟨hW.cell (HC.out.cell b2 id) (by show ¬ g = q; have := HQ.out; omega), hW.cell (HC.out.cell b3 id) (by show ¬ g = q; have := HQ.out; omega)⟩
      go_upto_region 7 with fail
      by_cases hw : RunP X.first X.count sec
      · have RD := Lib.hid (decide_eq_true hw)
        have hw' := hw
        obtain ⟨p0, p1, p2, p3, p4⟩ := hw'
        have HW := Lib.hid hw; clear hw
        have hwr : IntKind.i64.wrap (X.first + X.count) = X.first + X.count := IntWalk.i64_in _ (by omega)
        have HWR := Lib.hid hwr; clear hwr
        go_quiet ((go_at_call 103; exact Calls.quiet_of_same (refRun X.first X.count sec _ (by omega))))
        rw [RD.out]
        obtain ⟨W1, hW1⟩ : ∃ W, W = wr.drewN nq := ⟨_, rfl⟩
        have hC1 : Chg (fun k => k = q) wr W1 := by rw [hW1]; exact (Chg.refl _ _).drewN _
        have HZ1 : Hid (ArrC bcell 1 W1 q 170 64 (usedX ps i)) := by rw [hW1]; exact HZ.out.keep (S := fun _ => False) ((Chg.refl _ _).drewN _) id
        have HC1 : Hid (Chg (fun _ => False) w W1) := by rw [hW1]; exact HC.out.drewN _
        have HE1 : Hid (∀ W, Chg (fun k => k = q) W1 W → W.cell? ⟨g, o + i * 5 + 3, none⟩ = some (.int .i64 X.first) ∧ W.cell? ⟨g, o + i * 5 + 4, none⟩ = some (.int .i64 X.count)) := fun W hW => HEL.out W (hC1.trans hW)
        rw [← hW1]
        clear hW1 hC1 HZ HC HEL a2 a3
        obtain ⟨a2, a3⟩ := HE1.out W1 (Chg.refl _ _)
        obtain ⟨s, hs⟩ := Int.eq_ofNat_of_zero_le p0
        go_wp2_with fail
        clear a2 a3
        go_loopw [7] (fun s7 wr => ∃ (j : Nat) (gg : Nat → Bool), X.first ≤ j ∧ (j : Int) ≤ X.first + X.count ∧ s7 = .int .i64 j ∧ ArrC bcell 1 wr q 170 64 gg ∧ (∀ m : Nat, gg m = (usedX ps i m || decide (X.first ≤ m ∧ m < j))) ∧ (∀ m : Nat, X.first ≤ m → m < j → usedX ps i m = false) ∧ Chg (fun k => k = q) W1 wr ∧ Chg (fun _ => False) w wr) (fun s7 _ => (X.first + X.count - intOf s7).toNat)
        case atStart => exact ⟨s, _, by omega, by omega, rfl, HZ1.out, fun m => by rw [decide_eq_false (by omega)]; simp, fun m h1 h2 => by omega, Chg.refl _ _, HC1.out⟩
        case round =>
          clear HZ1 HC1 hs
          obtain ⟨j, gg, j0, j1, rfl, hz, hgg, hno, hC1, hC⟩ := hrel
          obtain ⟨a2, a3⟩ := HE1.out _ hC1
          have HC1 := Lib.hid hC1; clear hC1
          have HC := Lib.hid hC; clear hC
          have HNO := Lib.hid hno; clear hno
          have hwr := HWR.out
          go_upto_region 10 with fail
          have hwrap := HWR.out
          go_quiet (fail)
          clear hwrap hwr a2 a3
          obtain ⟨W2, hW2⟩ : ∃ W, W = wr.drewN nq := ⟨_, rfl⟩
          rw [← hW2]
          have hzd : ArrC bcell 1 W2 q 170 64 gg := by rw [hW2]; exact hz.keep (S := fun _ => False) ((Chg.refl _ _).drewN _) id
          have HC1' : Hid (Chg (fun k => k = q) W1 W2) := by rw [hW2]; exact HC1.out.drewN _
          have HC' : Hid (Chg (fun _ => False) w W2) := by rw [hW2]; exact HC.out.drewN _
          clear hz HC1 HC hW2
          have c0 : W2.cell? ⟨q, j, none⟩ = some (.bool (gg j)) ∨ ¬ (j : Int) < X.first + X.count := by
            by_cases hjl : (j : Int) < X.first + X.count
            · left; have := hzd.cell (k := j) (by omega) (j := 0) (by omega); simpa [bcell] using this
            · exact .inr hjl
          by_cases hjl : (j : Int) < X.first + X.count
          · have c0 : W2.cell? ⟨q, j, none⟩ = some (.bool (gg j)) := c0.resolve_right (fun h => h hjl)
            have hgj : gg j = usedX ps i j := by rw [hgg]; rw [decide_eq_false (by omega)]; simp
            rw [hgj] at c0
            have hcov : covX ps[i] j := by rw [← HX.out]; exact ⟨j0, hjl⟩
            have jn0 : (0 : Int) ≤ j := by omega
            have jn : (j : Int) < 64 := by omega
            have hjb : decide ((j : Int) < X.first + X.count) = true := decide_eq_true hjl
            cases hu : usedX ps i j with
            | true =>
              rw [hu] at c0
              have HN := Lib.hid (decide_eq_false (not_exts ps sec i j hlt hcov hu))
              clear hzd hgg hgj hcov hu
              go_wp2_with fail
              go_ret
              exact ⟨retB HN.out.symm, HC'.out⟩
            | false =>
              rw [hu] at c0
              have fz := hzd.free j
              have lz := hzd.lt
              have hz2 := hzd.set (k := j) (by omega) true rfl
              have HZ2 : Hid (ArrC bcell 1 (W2.setCell ⟨q, j, none⟩ (.bool true)) q 170 64 (upd gg j true)) := by
                have e : W2.setCells q (j * 1) (bcell true) = W2.setCell ⟨q, j, none⟩ (.bool true) := by rw [Nat.mul_one]; rfl
                rw [e] at hz2; exact hz2
              have HG : Hid (∀ m : Nat, upd gg j true m = (usedX ps i m || decide (X.first ≤ m ∧ m < j + 1))) := fun m => by
                unfold upd
                by_cases e : m = j
                · subst e; rw [if_pos rfl, decide_eq_true (by omega)]; simp
                · rw [if_neg e, hgg]; congr 1; rw [Bool.eq_iff_iff]; simp only [decide_eq_true_eq]; omega
              have HN2 : Hid (∀ m : Nat, X.first ≤ m → m < j + 1 → usedX ps i m = false) := fun m h1 h2 => by
                by_cases e : m = j
                · subst e; exact hu
                · exact HNO.out m h1 (by omega)
              have HC2 : Hid (Chg (fun _ => False) w (W2.setCell ⟨q, j, none⟩ (.bool true))) := HC'.out.trans' ((Chg.refl (fun k => k = q) _).set1 _) (fun k hk e => by have := HQ.out; omega)
              have HC3 : Hid (Chg (fun k => k = q) W1 (W2.setCell ⟨q, j, none⟩ (.bool true))) := HC1'.out.set1 _
              clear hzd hgg hgj hcov hu hz2
              go_wp2_with fail
              go_roundw
              case rel => exact ⟨j + 1, _, by omega, by omega, by go_num, HZ2.out, HG.out, HN2.out, HC3.out, HC2.out⟩
              case measure => simp [intOf]; omega
          · clear c0
            have hje : (j : Int) = X.first + X.count := by omega
            have hjb : decide ((j : Int) < X.first + X.count) = false := decide_eq_false hjl
            have hat : ExtAt ps sec i ps[i] := extAt_of ps sec i hlt HALL.out (by rw [← HX.out]; exact HW.out) (fun m hm => by rw [← HX.out] at hm; unfold covX at hm; exact HNO.out m hm.1 (by omega))
            have HAL2 : Hid (∀ k (h : k < ps.length), k < i + 1 → ExtAt ps sec k ps[k]) := fun k hk hki => by
              by_cases e : k = i
              · subst e; exact hat
              · exact HALL.out k hk (by omega)
            have HZ2 : Hid (ArrC bcell 1 W2 q 170 64 (usedX ps (i + 1))) := hzd.cong (fun m _ => by
              have hcv : (X.first ≤ m ∧ m < j) ↔ covX X m := by unfold covX; omega
              rw [hgg, usedX_succ ps i m hlt, ← HX.out]; congr 1; exact decide_eq_decide.2 hcv)
            clear hzd hgg hat hje
            go_wp2_with fail
            go_roundw
            case rel => exact ⟨i + 1, by omega, by go_num, HZ2.out, HAL2.out, HC'.out⟩
            case measure => simp [intOf]; omega
      · have RD := Lib.hid (decide_eq_false hw)
        have HN := Lib.hid (decide_eq_false (fun h : ExtOk ps sec => hw (by rw [HX.out]; exact (h.2.2.2.2 i hlt).1)))
        clear hw
        go_quiet ((go_at_call 103; exact Calls.quiet_of_same (refRun X.first X.count sec _ (by omega))))
        rw [RD.out]
        go_wp2_with fail
        go_ret
        exact ⟨retB HN.out.symm, HC.out.drewN _⟩
    · obtain rfl : i = ps.length := by omega
      have hok : ExtOk ps sec := ⟨h4, h5, h0, h1, fun k hk => HALL.out k hk hk⟩
      have HN := Lib.hid (decide_eq_true hok)
      clear hok
      go_wp2_with fail
      go_ret
      exact ⟨retB HN.out.symm, HC.out⟩
set_option maxRecDepth 100000 in
set_option maxHeartbeats 4000000 in
theorem refExt (v : Value) (ps : List Prt) (sec : Int) (w : World) (h : RdP w v ps) :
    Calls Try.prog 65 #[v, .int .i64 sec] w fun e w' => e = .returned (.bool (decide (ExtOk ps sec))) ∧ Chg (fun _ => False) w w' := by
  by_cases t0 : ps.length < 1
  · skip
    have d0_0 : decide (ps.length < 1) = true := by first | (simpa using t0) | (simp; omega)
    have d0_1 : decide ((ps.length : Int) < 1) = true := by first | (simpa using t0) | (simp; omega)
    have EN := Lib.hid (decide_eq_false (fun h : ExtOk ps sec => by unfold ExtOk at h; omega))
    obtain ⟨hm, AA, cc, rfl, _⟩ := h
    unfold maxLen at hm
    clear t0
    go_enter Try.func65, Try.ntmps65
    go_wp2_with fail
    go_ret
    exact ⟨retB EN.out.symm, Chg.refl _ _⟩
  · skip
    have d0_0 : decide (ps.length < 1) = false := by first | (simpa using t0) | (simp; omega)
    have d0_1 : decide ((ps.length : Int) < 1) = false := by first | (simpa using t0) | (simp; omega)
    by_cases t1 : 4 < ps.length
    · skip
      have d1_0 : decide (4 < ps.length) = true := by first | (simpa using t1) | (simp; omega)
      have d1_1 : decide (4 < (ps.length : Int)) = true := by first | (simpa using t1) | (simp; omega)
      have EN := Lib.hid (decide_eq_false (fun h : ExtOk ps sec => by unfold ExtOk at h; omega))
      obtain ⟨hm, AA, cc, rfl, _⟩ := h
      unfold maxLen at hm
      clear t0 t1
      go_enter Try.func65, Try.ntmps65
      go_wp2_with fail
      go_ret
      exact ⟨retB EN.out.symm, Chg.refl _ _⟩
    · skip
      have d1_0 : decide (4 < ps.length) = false := by first | (simpa using t1) | (simp; omega)
      have d1_1 : decide (4 < (ps.length : Int)) = false := by first | (simpa using t1) | (simp; omega)
      by_cases t2 : sec < 0
      · skip
        have d2_0 : decide (sec < 0) = true := by first | (simpa using t2) | (simp; omega)
        have EN := Lib.hid (decide_eq_false (fun h : ExtOk ps sec => by unfold ExtOk at h; omega))
        obtain ⟨hm, AA, cc, rfl, _⟩ := h
        unfold maxLen at hm
        clear t0 t1 t2
        go_enter Try.func65, Try.ntmps65
        go_wp2_with fail
        go_ret
        exact ⟨retB EN.out.symm, Chg.refl _ _⟩
      · skip
        have d2_0 : decide (sec < 0) = false := by first | (simpa using t2) | (simp; omega)
        by_cases t3 : 64 < sec
        · skip
          have d3_0 : decide (64 < sec) = true := by first | (simpa using t3) | (simp; omega)
          have EN := Lib.hid (decide_eq_false (fun h : ExtOk ps sec => by unfold ExtOk at h; omega))
          obtain ⟨hm, AA, cc, rfl, _⟩ := h
          unfold maxLen at hm
          clear t0 t1 t2 t3
          go_enter Try.func65, Try.ntmps65
          go_wp2_with fail
          go_ret
          exact ⟨retB EN.out.symm, Chg.refl _ _⟩
        · skip
          have d3_0 : decide (64 < sec) = false := by first | (simpa using t3) | (simp; omega)
          exact refExt_in v ps sec w h (by omega) (by omega) (by omega) (by omega)
end Go.Proofs.Ytncbcjjdnlmjbaa
