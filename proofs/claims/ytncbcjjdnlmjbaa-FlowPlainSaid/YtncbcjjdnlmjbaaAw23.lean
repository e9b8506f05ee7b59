/- Chapter 23: the law's plain config, who flows in it, what every program answers. Printed by mkaw23.py. -/
import Derived.Test.YtncbcjjdnlmjbaaCfgK
import Derived.Test.YtncbcjjdnlmjbaaPurg4
import Derived.Test.YtncbcjjdnlmjbaaLendS
set_option linter.unusedSimpArgs false
set_option linter.unusedVariables false
namespace Go.Proofs.Ytncbcjjdnlmjbaa
open Go.RowKit

set_option maxRecDepth 100000 in
set_option maxHeartbeats 2000000 in
theorem plain23 (w : World) : Calls Try.prog 42 #[] w (PlainPost w) := by
  go_enter Try.func42, Try.ntmps42
  go_wp2
  refine bodyPost_ret (v := .agg (cfc cPlain (sPlain w.heap.size))) (by simp [results, Try.results42, go_sem, cfc, cPlain, sPlain]) rfl ?_
  exact ⟨rfl, ⟨⟨by repeat (first | exact alloc_at (by simp) | refine alloc_up ?_), by repeat (first | exact alloc_at (by simp) | refine alloc_up ?_), by repeat (first | exact alloc_at (by simp) | refine alloc_up ?_), by repeat (first | exact alloc_at (by simp) | refine alloc_up ?_), by repeat (first | exact alloc_at (by simp) | refine alloc_up ?_), by repeat (first | exact alloc_at (by simp) | refine alloc_up ?_), by repeat (first | exact alloc_at (by simp) | refine alloc_up ?_), by repeat (first | exact alloc_at (by simp) | refine alloc_up ?_)⟩, by repeat (first | exact alloc_at (by simp) | refine alloc_up ?_)⟩, ((((((((((Chg.refl _ _).alloc _).alloc _).alloc _).alloc _).alloc _).alloc _).alloc _).alloc _).alloc _).alloc _, by simp⟩

def dirB (C : Cf) (p q : Nat) : Bool := decide (DirP C p q)
/-- Who flows, told by a closed row. -/
theorem pathB_row {C : Cf} {p : Nat} {g : Nat → Bool} (h0 : g p = true) (hs : ∀ j, j < C.parts.length → g j = true → j = p ∨ (p < C.parts.length ∧ DirP C p j)) (hc : ∀ x, x < C.parts.length → g x = true → ∀ y, y < C.parts.length → DirP C x y → g y = true) (q : Nat) (hq : q < C.parts.length) : pathB C p q = g q := by
  rw [Bool.eq_iff_iff, pathB_iff]
  refine (path_of_closed h0 (fun j hj hg => ?_) hc q hq).symm
  rcases hs j hj hg with rfl | ⟨h1, h2⟩
  · exact .refl
  · exact .step .refl h1 hj h2
theorem dir_plain : ∀ x : Fin 3, ∀ y : Fin 3, decide (DirP cPlain x y) = (decide (x = y) || decide (x.val = 0)) := by decide +kernel
theorem path_plain (p q : Nat) (hp : p < 3) (hq : q < 3) : pathB cPlain p q = (decide (p = q) || decide (p = 0)) := by
  have hd : ∀ x y : Nat, x < 3 → y < 3 → (DirP cPlain x y ↔ (x = y ∨ x = 0)) := fun x y hx hy => by
    have := dir_plain ⟨x, hx⟩ ⟨y, hy⟩
    rw [Bool.eq_iff_iff] at this
    simpa using this
  refine pathB_row (C := cPlain) (g := fun j => decide (p = j) || decide (p = 0)) (by simp) (fun j hj hg => ?_) (fun x hx hg y hy hd' => ?_) q hq
  · simp at hg
    rcases hg with h | h
    · exact .inl h.symm
    · exact .inr ⟨hp, (hd p j hp hj).2 (.inr h)⟩
  · simp at hg ⊢
    rcases (hd x y hx hy).1 hd' with h | h
    · subst h; exact hg
    · rcases hg with h1 | h1
      · exact .inr (h1.trans h)
      · exact .inr h1
theorem may_plainP : MayP cPlain := of_decide_eq_true may_plain
theorem there_plain (p : Int) : cPlain.there p ↔ 0 ≤ p ∧ p < 3 := by unfold Cf.there; rfl
theorem flow_plain (p q : Int) : flowB cPlain p q = decide ((0 ≤ p ∧ p < 3) ∧ (0 ≤ q ∧ q < 3) ∧ (p = q ∨ p = 0)) := by
  unfold flowB
  rw [may_plain]
  by_cases hp : 0 ≤ p ∧ p < 3
  · by_cases hq : 0 ≤ q ∧ q < 3
    · rw [decide_eq_true ((there_plain p).2 hp), decide_eq_true ((there_plain q).2 hq), path_plain _ _ (by omega) (by omega), Bool.eq_iff_iff]
      simp
      omega
    · rw [decide_eq_false (show ¬ cPlain.there q from fun h => hq ((there_plain q).1 h)), decide_eq_false (show ¬ ((0 ≤ p ∧ p < 3) ∧ (0 ≤ q ∧ q < 3) ∧ (p = q ∨ p = 0)) from fun h => hq h.2.1)]; simp
  · rw [decide_eq_false (show ¬ cPlain.there p from fun h => hp ((there_plain p).1 h)), decide_eq_false (show ¬ ((0 ≤ p ∧ p < 3) ∧ (0 ≤ q ∧ q < 3) ∧ (p = q ∨ p = 0)) from fun h => hp h.1)]; simp
/-- To whom flows what, in the plain config. -/
theorem toL_plain (p : Nat) (hp : p < 3) : toL cPlain p = [decide (0 = p) || true, decide (1 = p), decide (2 = p)] := by
  unfold toL
  show [pathB cPlain 0 p, pathB cPlain 1 p, pathB cPlain 2 p] = _
  rw [path_plain 0 p (by omega) hp, path_plain 1 p (by omega) hp, path_plain 2 p (by omega) hp]
  simp
def sA23 : List St := [⟨9, 1, 0, 0, 0, 0, ByteArray.empty⟩, ⟨1, 0, 0, 0, 0, 0, ByteArray.empty⟩, ⟨3, 0, 1, 0, 0, 0, ByteArray.empty⟩, ⟨3, 0, 0, 0, 0, 0, ByteArray.empty⟩, ⟨99, 0, 0, 0, 0, 0, ByteArray.empty⟩]
def sB23 : List St := [⟨0, 0, 0, 0, 0, 0, ByteArray.empty⟩, ⟨1, 0, 0, 0, 0, 0, ByteArray.empty⟩, ⟨0, 0, 0, 0, 0, 0, ByteArray.empty⟩, ⟨3, 0, 0, 0, 0, 0, ByteArray.empty⟩, ⟨99, 0, 0, 0, 0, 0, ByteArray.empty⟩]
theorem purge_plain : purgeC cPlain 0 sA23 = sB23 := by
  unfold purgeC
  rw [toL_plain 0 (by omega)]
  rfl
theorem PurgePost.yes {C : Cf} {p : Int} {L : List St} {w w' : World} {e : Ending} (h : PurgePost C p L w e w') (hm : MayP C) (hp : C.there p) : ∃ v, e = .returned (.tuple #[v, .int .i64 0]) ∧ OwnC stcell 7 59 w' w.heap.size v (purgeC C p.toNat L) ∧ Chg (fun _ => False) w w' := by
  unfold PurgePost at h; rwa [if_pos ⟨hm, hp⟩] at h
theorem PurgePost.no {C : Cf} {p : Int} {L : List St} {w w' : World} {e : Ending} (h : PurgePost C p L w e w') (hn : ¬ (MayP C ∧ C.there p)) : e = .returned (.tuple #[.slice none 0 0, .int .i64 2300]) ∧ Chg (fun _ => False) w w' := by
  unfold PurgePost at h; rwa [if_neg hn] at h
theorem rds_nil (w : World) : RdS w (.slice none 0 0) [] := ⟨by unfold maxLen; simp, none, 0, rfl, fun j hj => absurd hj (by simp)⟩
set_option maxRecDepth 100000 in
set_option maxHeartbeats 4000000 in
theorem awake23 (w : World) : Calls Try.prog 41 #[] w fun e w' => e = .returned (.bool true) ∧ Chg (fun _ => False) w w' := by
  go_enter Try.func41, Try.ntmps41
  go_wp2_with fail
  refine (plain23 _).mono ?_
  rintro e w1 ⟨rfl, hp1, k1, s1⟩
  have HP1 : Hid (∀ W, Chg (fun _ => False) w1 W → (sPlain w.heap.size).R W cPlain) := fun W hW => (hp1.keepN hW).R
  have K1 := Lib.hid k1; clear k1 hp1 s1
  generalize w.heap.size = B at *
  simp only [cfc, cPlain, sPlain]
  obtain ⟨cb, hcb⟩ : ∃ cb, cb = w1.heap.size := ⟨_, rfl⟩
  obtain ⟨W1, hW1⟩ : ∃ W, W = w1.alloc (.cells (cfc cPlain (sPlain B)) 27) := ⟨_, rfl⟩
  have q0 := blk_new w1 (.cells (cfc cPlain (sPlain B)) 27)
  have kA : Chg (fun _ => False) w1 W1 := by rw [hW1]; exact (Chg.refl _ _).alloc _
  rw [← hW1, ← hcb] at q0
  have Y1 : Hid (∀ W, Chg (fun _ => False) W1 W → W.cell? ⟨cb, 0, none⟩ = some (.int .i64 16) ∧ W.cell? ⟨cb, 1, none⟩ = some (.slice (some ⟨B + 4, 0, none⟩) 3 3) ∧ W.cell? ⟨cb, 2, none⟩ = some (.slice (some ⟨B + 7, 0, none⟩) 2 2) ∧ W.cell? ⟨cb, 3, none⟩ = some (.int .i64 6) ∧ W.cell? ⟨cb, 4, none⟩ = some (.slice (some ⟨B + 8, 0, none⟩) 3 3) ∧ W.cell? ⟨cb, 5, none⟩ = some (.slice (some ⟨B + 9, 0, none⟩) 1 1) ∧ W.cell? ⟨cb, 6, none⟩ = some (.int .i64 10) ∧ W.cell? ⟨cb, 7, none⟩ = some (.int .i64 6) ∧ W.cell? ⟨cb, 8, none⟩ = some (.int .i64 2)) := fun W hC => by
    have g := hC.at q0 id
    exact ⟨blk_cell g 0, blk_cell g 1, blk_cell g 2, blk_cell g 3, blk_cell g 4, blk_cell g 5, blk_cell g 6, blk_cell g 7, blk_cell g 8⟩
  have R1 : Hid (∀ W, Chg (fun _ => False) W1 W → (sPlain B).R W cPlain) := fun W hC => HP1.out W (kA.trans hC)
  have KW : Hid (Chg (fun _ => False) w W1) := K1.out.trans kA
  clear HP1 K1 q0 kA
  simp only [cfc, cPlain, sPlain] at hW1
  go_upto_region 2 with fail
  rw [← hW1]
  clear hW1
  rw [← hcb]
  clear hcb
  have C0 := Lib.hid (Chg.refl (fun _ => False) W1)
  obtain ⟨y0, y1, y2, y3, y4, y5, y6, y7, y8⟩ := Y1.out _ C0.out
  have hS : RdS (W1.alloc (.cells (sA23.flatMap stcell).toArray 59)) (.slice (some ⟨W1.heap.size, 0, none⟩) 5 5) sA23 := RdS.ofRow (L := sA23) (rowc_blk (blk_new W1 _)) (by unfold maxLen; decide)
  have HS := Lib.hid hS; clear hS
  go_wp2_with fail
  refine (vPurge 0 cPlain (sPlain B) _ sA23 _ (R1.out _ (C0.out.alloc _)) HS.out (by decide)).mono ?_
  rintro e w2 hpost
  obtain ⟨v, rfl, ho, k2⟩ := hpost.yes may_plainP (by decide)
  rw [show (0 : Int).toNat = 0 from rfl, purge_plain] at ho
  have HO := Lib.hid (rdStepsOf ho (by unfold maxLen; decide))
  have C1 := Lib.hid (((C0.out.alloc _).trans k2)); clear C0 hpost k2 ho HS y0 y1 y2 y3 y4 y5 y6 y7 y8
  obtain ⟨y0, y1, y2, y3, y4, y5, y6, y7, y8⟩ := Y1.out _ C1.out
  go_wp2_with fail
  refine (vPurge 3 cPlain (sPlain B) _ [] _ (R1.out _ C1.out) (rds_nil _) (by decide)).mono ?_
  rintro e w3 hpost
  obtain ⟨rfl, k3⟩ := hpost.no (fun h => absurd h.2 (by decide))
  have HO2 := Lib.hid (HO.out.keepN k3)
  have C2 := Lib.hid (C1.out.trans k3); clear C1 hpost k3 HO y0 y1 y2 y3 y4 y5 y6 y7 y8
  obtain ⟨y0, y1, y2, y3, y4, y5, y6, y7, y8⟩ := Y1.out _ C2.out
  go_wp2_with fail
  refine (vFlows 0 1 cPlain (sPlain B) _ (R1.out _ C2.out)).mono ?_
  rintro e w4 ⟨rfl, k4⟩
  rw [show flowB cPlain 0 1 = true from by rw [flow_plain]; decide]
  have HO3 := Lib.hid (HO2.out.keepN k4)
  have C3 := Lib.hid (C2.out.trans k4); clear k4 C2 HO2 y0 y1 y2 y3 y4 y5 y6 y7 y8
  obtain ⟨y0, y1, y2, y3, y4, y5, y6, y7, y8⟩ := Y1.out _ C3.out
  go_wp2_with fail
  refine (vFlows 1 0 cPlain (sPlain B) _ (R1.out _ C3.out)).mono ?_
  rintro e w5 ⟨rfl, k5⟩
  rw [show flowB cPlain 1 0 = false from by rw [flow_plain]; decide]
  have HO4 := Lib.hid (HO3.out.keepN k5)
  have C4 := Lib.hid (C3.out.trans k5); clear k5 C3 HO3 y0 y1 y2 y3 y4 y5 y6 y7 y8
  obtain ⟨y0, y1, y2, y3, y4, y5, y6, y7, y8⟩ := Y1.out _ C4.out
  go_wp2_with fail
  refine (vFlows 0 2 cPlain (sPlain B) _ (R1.out _ C4.out)).mono ?_
  rintro e w6 ⟨rfl, k6⟩
  rw [show flowB cPlain 0 2 = true from by rw [flow_plain]; decide]
  have HO5 := Lib.hid (HO4.out.keepN k6)
  have C5 := Lib.hid (C4.out.trans k6); clear k6 C4 HO4 y0 y1 y2 y3 y4 y5 y6 y7 y8
  obtain ⟨y0, y1, y2, y3, y4, y5, y6, y7, y8⟩ := Y1.out _ C5.out
  go_wp2_with fail
  refine (vFlows 2 0 cPlain (sPlain B) _ (R1.out _ C5.out)).mono ?_
  rintro e w7 ⟨rfl, k7⟩
  rw [show flowB cPlain 2 0 = false from by rw [flow_plain]; decide]
  have HO6 := Lib.hid (HO5.out.keepN k7)
  have C6 := Lib.hid (C5.out.trans k7); clear k7 C5 HO5 y0 y1 y2 y3 y4 y5 y6 y7 y8
  obtain ⟨y0, y1, y2, y3, y4, y5, y6, y7, y8⟩ := Y1.out _ C6.out
  go_wp2_with fail
  refine (vFlows 2 2 cPlain (sPlain B) _ (R1.out _ C6.out)).mono ?_
  rintro e w8 ⟨rfl, k8⟩
  rw [show flowB cPlain 2 2 = true from by rw [flow_plain]; decide]
  have HO7 := Lib.hid (HO6.out.keepN k8)
  have C7 := Lib.hid (C6.out.trans k8); clear k8 C6 HO6 y0 y1 y2 y3 y4 y5 y6 y7 y8
  obtain ⟨y0, y1, y2, y3, y4, y5, y6, y7, y8⟩ := Y1.out _ C7.out
  go_wp2_with fail
  refine (vFlows 1 2 cPlain (sPlain B) _ (R1.out _ C7.out)).mono ?_
  rintro e w9 ⟨rfl, k9⟩
  rw [show flowB cPlain 1 2 = false from by rw [flow_plain]; decide]
  have HO8 := Lib.hid (HO7.out.keepN k9)
  have C8 := Lib.hid (C7.out.trans k9); clear k9 C7 HO7 y0 y1 y2 y3 y4 y5 y6 y7 y8
  obtain ⟨y0, y1, y2, y3, y4, y5, y6, y7, y8⟩ := Y1.out _ C8.out
  go_wp2_with fail
  refine (vFlows 3 3 cPlain (sPlain B) _ (R1.out _ C8.out)).mono ?_
  rintro e w10 ⟨rfl, k10⟩
  rw [show flowB cPlain 3 3 = false from by rw [flow_plain]; decide]
  have HO9 := Lib.hid (HO8.out.keepN k10)
  have C9 := Lib.hid (C8.out.trans k10); clear k10 C8 HO8 y0 y1 y2 y3 y4 y5 y6 y7 y8
  obtain ⟨W9, hW9⟩ : ∃ W, W = w10 := ⟨_, rfl⟩
  rw [← hW9] at C9 HO9
  rw [← hW9]
  clear hW9
  have hS : RdS (W9.alloc (.cells (sB23.flatMap stcell).toArray 59)) (.slice (some ⟨W9.heap.size, 0, none⟩) 5 5) sB23 := RdS.ofRow (L := sB23) (rowc_blk (blk_new W9 _)) (by unfold maxLen; decide)
  have HS := Lib.hid hS; clear hS
  go_wp2_with fail
  refine (sameSteps _ _ sB23 _ (HO9.out.keepN ((Chg.refl _ _).alloc _)) HS.out).mono ?_
  rintro e w11 ⟨rfl, k11⟩
  have C10 := Lib.hid ((C9.out.alloc _).trans k11); clear k11 C9 HO9 HS
  go_wp2_with fail
  refine (num16 _ _).mono ?_
  rintro e x9 ⟨rfl, rfl⟩
  go_wp2_with fail
  refine (num16 _ _).mono ?_
  rintro e x9 ⟨rfl, rfl⟩
  go_wp2_with fail
  go_ret
  exact ⟨rfl, KW.out.trans C10.out⟩
end Go.Proofs.Ytncbcjjdnlmjbaa
