/- view.reached, view.there, view.Flows. Printed by mkflow.py. -/
import Derived.Test.YtncbcjjdnlmjbaaClo
import Derived.Test.YtncbcjjdnlmjbaaCfgJ
set_option linter.unusedSimpArgs false
set_option linter.unusedVariables false
namespace Go.Proofs.Ytncbcjjdnlmjbaa
open Go.RowKit

noncomputable def pathB (C : Cf) (p q : Nat) : Bool := @decide (PathD (DirP C) C.parts.length p q) (Classical.propDecidable _)
theorem pathB_iff (C : Cf) (p q : Nat) : pathB C p q = true ↔ PathD (DirP C) C.parts.length p q := by unfold pathB; exact @decide_eq_true_iff _ (Classical.propDecidable _)
def ReachedPost (C : Cf) (p : Nat) (w : World) (e : Ending) (w' : World) : Prop := ∃ r, e = .returned (.slice (some ⟨r, 0, none⟩) C.parts.length C.parts.length) ∧ ArrC bcell 1 w' r 4 C.parts.length (pathB C p) ∧ w.heap.size ≤ r ∧ Chg (fun _ => False) w w'
theorem run_store_fn {P : Program} {w : World} {a : Addr} {m : Mode} (f : Fn) (ts cs : Array Value) : (store a (.func f ts cs) m).run P w = stored P w a (.func f ts cs) m := run_store P w a _ m rfl
attribute [local go_sem] run_store_fn
set_option maxRecDepth 100000 in
set_option maxHeartbeats 4000000 in
theorem vReached (b p : Nat) (C : Cf) (s : Vs) (w : World) (h : CfP w b C s) (hp : p < C.parts.length) (hn : C.parts.length ≤ 4) :
    Calls Try.prog 76 #[.pointer (some ⟨b, 0, none⟩), .int .i64 p] w (ReachedPost C p w) := by
  have HP : Hid (∀ W, Chg (fun _ => False) w W → CfP W b C s) := fun W hW => h.keepN hW
  obtain ⟨A1, k1, A2, k2, A3, k3, A4, k4, rfl, m1, m2, m3, m4⟩ := h.open
  have hbl : b < w.heap.size := lt_of_heap h.1
  have c1 : w.cell? ⟨b, 1, none⟩ = some (.slice A1 C.parts.length k1) := h.cell 1
  clear h
  have hmk := makeBools C.parts.length (by omega)
  have l4 : (C.parts.length : Int) ≤ 4 := by omega
  go_enter Try.func76, Try.ntmps76
  go_upto_region 4 with fail
  refine wp_abs (fun W => WkAt w W b (w.heap.size + 2) w.heap.size (w.heap.size + 3) (w.heap.size + 1) C ⟨.slice A1 C.parts.length k1, .slice A2 C.devs.length k2, .slice A3 C.wins.length k3, .slice A4 C.grants.length k4⟩ (fun _ => false)) ?_ ?_
  · refine ⟨HP.out, (((((Chg.refl _ _).alloc _).alloc _).alloc _).alloc _), ?_, ?_, ?_, ?_, ⟨by omega, by omega, by omega⟩, by omega⟩
    · have := blk_alloc (blk_new ((w.alloc (.cells #[.pointer (some ⟨b, 0, none⟩)] 115)).alloc (.cells (Array.replicate C.parts.length (.bool false)) 4)) (.cells #[.slice (some ⟨w.heap.size + 1, 0, none⟩) C.parts.length C.parts.length] 64)) (.cells #[.func (.func 127) #[] #[.pointer (some ⟨w.heap.size + 2, 0, none⟩), .pointer (some ⟨w.heap.size, 0, none⟩), .pointer (some ⟨w.heap.size + 3, 0, none⟩)]] 183)
      simpa using this
    · exact blk_alloc (blk_alloc (blk_alloc (blk_new w _) _) _) _
    · have := blk_new (((w.alloc (.cells #[.pointer (some ⟨b, 0, none⟩)] 115)).alloc (.cells (Array.replicate C.parts.length (.bool false)) 4)).alloc (.cells #[.slice (some ⟨w.heap.size + 1, 0, none⟩) C.parts.length C.parts.length] 64)) (.cells #[.func (.func 127) #[] #[.pointer (some ⟨w.heap.size + 2, 0, none⟩), .pointer (some ⟨w.heap.size, 0, none⟩), .pointer (some ⟨w.heap.size + 3, 0, none⟩)]] 183)
      simpa using this
    · exact arrB_zero (blk_alloc (blk_alloc (by have := blk_new (w.alloc (.cells #[.pointer (some ⟨b, 0, none⟩)] 115)) (.cells (Array.replicate C.parts.length (.bool false)) 4); simpa using this) _) _)
  · clear hmk c1 hbl
    intro W hat
    have hcall := vWalk w b (w.heap.size + 2) w.heap.size (w.heap.size + 3) (w.heap.size + 1) C _ _ p _ W (Nat.le_refl _) hp rfl hat
    have cw := blk_cell hat.hw 0
    simp only [List.getElem?_toArray, List.getElem?_cons_zero] at cw
    have HCALL := Lib.hid hcall; clear hcall
    have HAT := Lib.hid hat; clear hat
    go_wp2_with fail
    refine HCALL.out.mono ?_
    rintro e w3 ⟨rfl, g', ha3, hw3, hC3⟩
    have ci := blk_cell ha3.hi 0
    simp only [List.getElem?_toArray, List.getElem?_cons_zero] at ci
    have HARR : Hid (ArrC bcell 1 w3 (w.heap.size + 1) 4 C.parts.length (pathB C p)) := ha3.arr.cong (fun j hj => by rw [Bool.eq_iff_iff, pathB_iff]; exact hw3.path j hj)
    have HCC := Lib.hid ha3.base
    clear ha3 hw3 hC3 HCALL HAT cw
    go_wp2_with fail
    go_ret
    exact ⟨_, rfl, HARR.out, by omega, HCC.out⟩
set_option maxRecDepth 100000 in
theorem vThere (b : Nat) (p : Int) (C : Cf) (s : Vs) (w : World) (h : CfP w b C s) :
    Calls Try.prog 73 #[.pointer (some ⟨b, 0, none⟩), .int .i64 p] w fun e w' => e = .returned (.bool (decide (C.there p))) ∧ w = w' := by
  obtain ⟨A1, k1, A2, k2, A3, k3, A4, k4, rfl, m1, m2, m3, m4⟩ := h.open
  have c1 : w.cell? ⟨b, 1, none⟩ = some (.slice A1 C.parts.length k1) := h.cell 1
  clear h
  by_cases h0 : 0 ≤ p
  · by_cases h1 : p < C.parts.length
    · rw [decide_eq_true (show C.there p from ⟨h0, h1⟩)]
      go_enter Try.func73, Try.ntmps73
      go_wp2
      go_ret
      exact ⟨rfl, rfl⟩
    · rw [decide_eq_false (show ¬ C.there p from fun h => h1 h.2)]
      have h2 : decide (p < (C.parts.length : Int)) = false := decide_eq_false h1
      go_enter Try.func73, Try.ntmps73
      go_wp2
      go_ret
      exact ⟨rfl, rfl⟩
  · rw [decide_eq_false (show ¬ C.there p from fun h => h0 h.1)]
    go_enter Try.func73, Try.ntmps73
    go_wp2
    go_ret
    exact ⟨rfl, rfl⟩
/-- One flows to another one. -/
noncomputable def flowB (C : Cf) (p q : Int) : Bool := decide (MayP C) && decide (C.there p) && decide (C.there q) && pathB C p.toNat q.toNat
set_option maxRecDepth 100000 in
set_option maxHeartbeats 4000000 in
theorem vFlows (p q : Int) (C : Cf) (s : Vs) (w : World) (h : s.R w C) :
    Calls Try.prog 37 #[.agg (cfc C s), .int .i64 p, .int .i64 q] w fun e w' => e = .returned (.bool (flowB C p q)) ∧ Chg (fun _ => False) w w' := by
  have HA := Lib.hid ((Chg.refl (fun _ => False) w).alloc (.cells (cfc C s) 27))
  have HP : Hid (∀ W, Chg (fun _ => False) (w.alloc (.cells (cfc C s) 27)) W → CfP W w.heap.size C s) := byVal h
  have HM := Lib.hid (cMay C s _ (h.keepN ((Chg.refl (fun _ => False) w).alloc (.cells (cfc C s) 27))))
  clear h
  obtain ⟨A1, k1, A2, k2, A3, k3, A4, k4, rfl, m1, m2, m3, m4⟩ := (HP.out _ (Chg.refl _ _)).open
  unfold cfc at *
  by_cases hm : MayP C
  · rw [decide_eq_true hm] at HM
    have hl := hm.1.2.2
    by_cases hp : C.there p
    · by_cases hq : C.there q
      · obtain ⟨pn, rfl⟩ := Int.eq_ofNat_of_zero_le hp.1
        obtain ⟨qn, rfl⟩ := Int.eq_ofNat_of_zero_le hq.1
        have hpn : pn < C.parts.length := by have := hp.2; omega
        have hqn : qn < C.parts.length := by have := hq.2; omega
        have EN : Hid (flowB C pn qn = pathB C pn qn) := by unfold Hid flowB; rw [decide_eq_true hm, decide_eq_true hp, decide_eq_true hq]; rfl
        have RP := Lib.hid (decide_eq_true hp)
        have RQ := Lib.hid (decide_eq_true hq)
        have q0 : (0 : Int) ≤ qn := by omega
        have q1 : (qn : Int) < C.parts.length := by omega
        clear hm hp hq
        go_enter Try.func37, Try.ntmps37
        go_wp2_with fail
        refine HM.out.mono ?_
        rintro e w1 ⟨rfl, k1'⟩
        have K1 := Lib.hid k1'; clear k1'
        go_wp2_with fail
        refine (vThere _ _ C _ _ (HP.out _ K1.out)).mono ?_
        rintro e w2 ⟨rfl, rfl⟩
        rw [RP.out]
        go_wp2_with fail
        refine (vThere _ _ C _ _ (HP.out _ K1.out)).mono ?_
        rintro e w2 ⟨rfl, rfl⟩
        rw [RQ.out]
        go_wp2_with fail
        refine (vReached _ pn C _ _ (HP.out _ K1.out) hpn hl).mono ?_
        rintro e w3 ⟨r, rfl, harr, _, k3'⟩
        have cq : w3.cell? ⟨r, qn, none⟩ = some (.bool (pathB C pn qn)) := by have := harr.cell (k := qn) hqn (j := 0) (by omega); simpa [bcell] using this
        have HC := Lib.hid (HA.out.trans (K1.out.trans k3'))
        clear harr k3'
        generalize pathB C pn qn = bb at *
        go_wp2_with fail
        go_ret
        exact ⟨retB EN.out.symm, HC.out⟩
      · have EN : Hid (flowB C p q = false) := by unfold Hid flowB; rw [decide_eq_false hq]; simp
        have RP := Lib.hid (decide_eq_true hp)
        have RQ := Lib.hid (decide_eq_false hq)
        clear hm hp hq
        go_enter Try.func37, Try.ntmps37
        go_wp2_with fail
        refine HM.out.mono ?_
        rintro e w1 ⟨rfl, k1'⟩
        have K1 := Lib.hid k1'; clear k1'
        go_wp2_with fail
        refine (vThere _ _ C _ _ (HP.out _ K1.out)).mono ?_
        rintro e w2 ⟨rfl, rfl⟩
        rw [RP.out]
        go_wp2_with fail
        refine (vThere _ _ C _ _ (HP.out _ K1.out)).mono ?_
        rintro e w2 ⟨rfl, rfl⟩
        rw [RQ.out]
        go_wp2_with fail
        go_ret
        exact ⟨retB EN.out.symm, HA.out.trans K1.out⟩
    · have EN : Hid (flowB C p q = false) := by unfold Hid flowB; rw [decide_eq_false hp]; simp
      have RP := Lib.hid (decide_eq_false hp)
      clear hm hp
      go_enter Try.func37, Try.ntmps37
      go_wp2_with fail
      refine HM.out.mono ?_
      rintro e w1 ⟨rfl, k1'⟩
      have K1 := Lib.hid k1'; clear k1'
      go_wp2_with fail
      refine (vThere _ _ C _ _ (HP.out _ K1.out)).mono ?_
      rintro e w2 ⟨rfl, rfl⟩
      rw [RP.out]
      go_wp2_with fail
      go_ret
      exact ⟨retB EN.out.symm, HA.out.trans K1.out⟩
  · rw [decide_eq_false hm] at HM
    have EN : Hid (flowB C p q = false) := by unfold Hid flowB; rw [decide_eq_false hm]; simp
    clear hm
    go_enter Try.func37, Try.ntmps37
    go_wp2_with fail
    refine HM.out.mono ?_
    rintro e w1 ⟨rfl, k1'⟩
    have K1 := Lib.hid k1'; clear k1'
    go_wp2_with fail
    go_ret
    exact ⟨retB EN.out.symm, HA.out.trans K1.out⟩
end Go.Proofs.Ytncbcjjdnlmjbaa
