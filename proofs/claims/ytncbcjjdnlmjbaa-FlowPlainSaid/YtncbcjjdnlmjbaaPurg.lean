/- Who owns the devices, who flows: config.Owners, view.Call, purger.flows. Printed by mkpurg.py. -/
import Derived.Test.YtncbcjjdnlmjbaaFlow
import Derived.Test.YtncbcjjdnlmjbaaAsg
set_option linter.unusedSimpArgs false
set_option linter.unusedVariables false
namespace Go.Proofs.Ytncbcjjdnlmjbaa
open Go.RowKit

def ownersL (C : Cf) : List Int := C.devs.map (·.part)
def OwnersPost (C : Cf) (w : World) (e : Ending) (w' : World) : Prop := ∃ v, e = .returned v ∧ OwnC icell 1 3 w' w.heap.size v (ownersL C) ∧ Chg (fun _ => False) w w'
set_option maxRecDepth 100000 in
set_option maxHeartbeats 4000000 in
theorem vOwners (b : Nat) (C : Cf) (s : Vs) (w : World) (h : CfP w b C s) (hn : C.devs.length ≤ 4) :
    Calls Try.prog 75 #[.pointer (some ⟨b, 0, none⟩)] w (OwnersPost C w) := by
  obtain ⟨i0', ii, iz0, iz1, iz2⟩ := info_parts Try.infoInt
  have HP : Hid (∀ W, Chg (fun _ => False) w W → CfP W b C s) := fun W hW => h.keepN hW
  obtain ⟨A1, k1, A2, k2, A3, k3, A4, k4, rfl, m1, m2, m3, m4⟩ := h.open
  have c2 : w.cell? ⟨b, 2, none⟩ = some (.slice A2 C.devs.length k2) := h.cell 2
  have hl4 : (C.devs.length : Int) ≤ 4 := by omega
  have HO0 := Lib.hid (OwnC.nil (cells := icell) (C := 1) (e := 3) w w.heap.size)
  clear h
  go_enter Try.func75, Try.ntmps75
  go_wp2_with fail
  clear c2
  go_loopw [3, 11] (fun s3 s11 wr => ∃ i : Nat, i ≤ C.devs.length ∧ s11 = .int .i64 i ∧ OwnC icell 1 3 wr w.heap.size s3 ((ownersL C).take i) ∧ Chg (fun _ => False) w wr) (fun s3 s11 _ => (C.devs.length - intOf s11).toNat)
  case atStart => exact ⟨0, by omega, rfl, HO0.out, Chg.refl _ _⟩
  case round =>
    clear HO0
    obtain ⟨i, hi, rfl, ho, hC⟩ := hrel
    have i0 : (0 : Int) ≤ i := by omega
    have hml : ((ownersL C).take i).length = i := by simp [ownersL]; omega
    obtain ⟨BB, kk, rfl⟩ := ho.slice
    by_cases hlt : i < C.devs.length
    · have i1 : (i : Int) < C.devs.length := by omega
      obtain ⟨_, A', c', hv, hel⟩ := (HP.out wr hC).2.2.1
      injection hv with e1 e2 e3
      subst e1 e3
      obtain ⟨g, o, F, rfl, a0, a1, hF⟩ := hel i hlt
      obtain ⟨hfm, FA, fc, rfl⟩ := hF.form
      clear hel hF hfm
      have HTK : Hid ((ownersL C).take (i + 1) = (ownersL C).take i ++ [C.devs[i].part]) := by
        unfold Hid ownersL; rw [List.take_succ_eq_append_getElem (by simpa using hlt)]; simp
      generalize hLL : (ownersL C).take i = LL at *
      generalize C.devs[i].part = X at *
      generalize C.devs[i].pool.length = nf at *
      clear hLL
      obtain ⟨W1, hW1⟩ : ∃ W, W = wr.alloc (.cells #[.int .i64 X, .slice FA nf fc] 42) := ⟨_, rfl⟩
      have hA : Chg (fun _ => False) wr W1 := by rw [hW1]; exact (Chg.refl _ _).alloc _
      have y0 : W1.cell? ⟨wr.heap.size, 0, none⟩ = some (.int .i64 X) := by rw [hW1]; exact blk_cell (blk_new wr _) 0
      have HO1 : Hid (OwnC icell 1 3 W1 w.heap.size (.slice BB LL.length kk) LL) := ho.keep hA (fun _ _ => id)
      have HC1 : Hid (Chg (fun _ => False) w W1) := hC.trans hA
      have hBK : ∀ o, OwnC icell 1 3 (W1.alloc o) w.heap.size (.slice BB LL.length kk) LL := fun o => HO1.out.keep ((Chg.refl (fun _ => False) _).alloc o) (fun _ _ => id)
      have HN := Lib.hid (rowc_blk (blk_new W1 (.cells #[.int .i64 X] 3)))
      have HBK := Lib.hid hBK; clear hBK ho
      have HM := Lib.hid (show LL.length + 1 ≤ maxLen by unfold maxLen; omega)
      have HY := Lib.hid (show (LL.length + 1) * 8 ≤ 140737488355328 by omega)
      have HBS : Hid (∀ o, w.heap.size ≤ (W1.alloc o).heap.size) := fun o => by have := HC1.out.size; simp; omega
      have HML := Lib.hid hml; clear hml
      have HC := Lib.hid hC; clear hC hA
      have HWS := Lib.hid (show W1.heap.size = wr.heap.size + 1 by rw [hW1]; simp)
      go_upto_region 5 with fail
      rw [← hW1]
      clear hW1 a0 a1
      go_wp2_with (at_builtin; refine wpList_append_row _ rfl _ _ 38 rfl w.heap.size 3 i0' (.int .i64 0) 1 8 Try.underlying38 ii iz0 iz1 iz2 rfl (by decide) (.slice BB LL.length kk) LL.length (LL.flatMap icell) rfl (HBK.out _) (some ⟨W1.heap.size, 0, none⟩) 1 1 [.int .i64 X] rfl rfl HN.out (by intro u hu; simp at hu; subst hu; rfl) HM.out HY.out (HBS.out _) ?_)
      intro v5 w5 hown5 hgr hat5
      have hO5 : OwnC icell 1 3 w5 w.heap.size v5 (LL ++ [X]) := by simpa [OwnC, icell] using hown5
      have hC5 : Chg (fun k => some k = Value.ownBlock (.slice BB LL.length kk)) W1 w5 := Chg.grown ((Chg.refl _ _).alloc _) hgr (fun k hk _ => hk.symm)
      have HC5 : Hid (Chg (fun _ => False) w w5) := HC1.out.trans' hC5 (fun k hk e => by have := (own_lt HO1.out e.symm).1; omega)
      have HO5 := Lib.hid hO5
      clear hO5 hC5 hown5 hgr hat5 HBK HO1 HC1 HC HN HM HY HBS y0
      go_wp2_with fail
      go_roundw
      case rel => exact ⟨i + 1, by omega, by go_num, by rw [HTK.out]; exact HO5.out, HC5.out⟩
      case measure => simp [intOf]; omega
    · obtain rfl : i = C.devs.length := by omega
      have HO : Hid (OwnC icell 1 3 wr w.heap.size (.slice BB ((ownersL C).take C.devs.length).length kk) (ownersL C)) := by
        have h1 : (ownersL C).take C.devs.length = ownersL C := by unfold ownersL; exact List.take_of_length_le (by simp)
        rw [h1] at ho ⊢; exact ho
      have HC := Lib.hid hC; clear ho hC hml
      go_wp2_with fail
      go_ret
      exact ⟨_, rfl, HO.out, HC.out⟩
/-- A step of a partition's. -/
def callP (k : Int) : Prop := 5 ≤ k ∧ k ≤ 16
instance (k : Int) : Decidable (callP k) := by unfold callP; infer_instance
set_option maxRecDepth 100000 in
theorem vCall (k : Int) (w : World) : Calls Try.prog 129 #[.int .i64 k] w fun e w' => e = .returned (.bool (decide (callP k))) ∧ w = w' := by
  by_cases h0 : 5 ≤ k
  · by_cases h1 : k ≤ 16
    · rw [decide_eq_true (show callP k from ⟨h0, h1⟩)]
      have d0 : decide (5 ≤ k) = true := decide_eq_true h0
      have d1 : decide (k ≤ 16) = true := decide_eq_true h1
      go_enter Try.func129, Try.ntmps129
      go_wp2_with fail
      go_ret
      exact ⟨rfl, rfl⟩
    · rw [decide_eq_false (show ¬ callP k from fun h => h1 h.2)]
      have d0 : decide (5 ≤ k) = true := decide_eq_true h0
      have d1 : decide (k ≤ 16) = false := decide_eq_false h1
      go_enter Try.func129, Try.ntmps129
      go_wp2_with fail
      go_ret
      exact ⟨rfl, rfl⟩
  · rw [decide_eq_false (show ¬ callP k from fun h => h0 h.1)]
    have d0 : decide (5 ≤ k) = false := decide_eq_false h0
    go_enter Try.func129, Try.ntmps129
    go_wp2_with fail
    go_ret
    exact ⟨rfl, rfl⟩
end Go.Proofs.Ytncbcjjdnlmjbaa
