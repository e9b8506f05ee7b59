/- Configs: the law's plain config; what every program answers. -/
import Derived.Test.YtncbcjjdnlmjbaaCfgJ
set_option linter.unusedSimpArgs false
set_option linter.unusedVariables false
namespace Go.Proofs.Ytncbcjjdnlmjbaa
open Go.RowKit

def cPlain : Cf := ⟨16, [⟨0, 0, [0, 1, 2], 0, 4⟩, ⟨2, 0, [3, 4], 4, 4⟩, ⟨1, 2, [5, 6], 8, 2⟩], [⟨0, [8, 9, 10]⟩, ⟨2, [11, 12]⟩], 6, [⟨0, 0, 2, 1⟩, ⟨1, 2, 2, 2⟩, ⟨2, 4, 2, 5⟩], [⟨2, 2, false⟩], 10, 6, 2⟩
def sPlain (B : Nat) : Vs := ⟨.slice (some ⟨B + 4, 0, none⟩) 3 3, .slice (some ⟨B + 7, 0, none⟩) 2 2, .slice (some ⟨B + 8, 0, none⟩) 3 3, .slice (some ⟨B + 9, 0, none⟩) 1 1⟩
def pn (n : Int) : Value := .int .i64 n
/-- The blocks of the law's plain config. -/
structure Plain8 (w : World) (B : Nat) : Prop where
  h1 : w.heap[B + 1]? = some (.cells #[pn 0, pn 1, pn 2] 3 (0, 0))
  h2 : w.heap[B + 2]? = some (.cells #[pn 3, pn 4] 3 (0, 0))
  h3 : w.heap[B + 3]? = some (.cells #[pn 5, pn 6] 3 (0, 0))
  h4 : w.heap[B + 4]? = some (.cells #[pn 0, pn 0, .slice (some ⟨B + 1, 0, none⟩) 3 3, pn 0, pn 4, pn 2, pn 0, .slice (some ⟨B + 2, 0, none⟩) 2 2, pn 4, pn 4, pn 1, pn 2, .slice (some ⟨B + 3, 0, none⟩) 2 2, pn 8, pn 2] 40 (0, 0))
  h5 : w.heap[B + 5]? = some (.cells #[pn 8, pn 9, pn 10] 3 (0, 0))
  h6 : w.heap[B + 6]? = some (.cells #[pn 11, pn 12] 3 (0, 0))
  h7 : w.heap[B + 7]? = some (.cells #[pn 0, .slice (some ⟨B + 5, 0, none⟩) 3 3, pn 2, .slice (some ⟨B + 6, 0, none⟩) 2 2] 42 (0, 0))
  h8 : w.heap[B + 8]? = some (.cells #[pn 0, pn 0, pn 2, pn 1, pn 1, pn 2, pn 2, pn 2, pn 2, pn 4, pn 2, pn 5] 119 (0, 0))
structure PlainAt (w : World) (B : Nat) : Prop extends Plain8 w B where
  h9 : w.heap[B + 9]? = some (.cells #[pn 2, pn 2, .bool false] 44 (0, 0))
theorem PlainAt.keepN {w w' : World} {B : Nat} (h : PlainAt w B) (hC : Chg (fun _ => False) w w') : PlainAt w' B :=
  ⟨⟨hC.at h.h1 id, hC.at h.h2 id, hC.at h.h3 id, hC.at h.h4 id, hC.at h.h5 id, hC.at h.h6 id, hC.at h.h7 id, hC.at h.h8 id⟩, hC.at h.h9 id⟩
theorem alloc_at {w : World} {o : Obj} {k : Nat} (hk : w.heap.size = k) : (w.alloc o).heap[k]? = some o := hk ▸ blk_new w o
theorem alloc_up {w : World} {b : Nat} {ob o : Obj} (h : w.heap[b]? = some ob) : (w.alloc o).heap[b]? = some ob := blk_alloc h o
def PlainPost (w : World) (e : Ending) (w' : World) : Prop := e = .returned (.agg (cfc cPlain (sPlain w.heap.size))) ∧ PlainAt w' w.heap.size ∧ Chg (fun _ => False) w w' ∧ w'.heap.size = w.heap.size + 10
set_option maxRecDepth 100000 in
set_option maxHeartbeats 2000000 in
theorem plain21 (w : World) : Calls Try.prog 31 #[] w (PlainPost w) := by
  go_enter Try.func31, Try.ntmps31
  go_wp2
  refine bodyPost_ret (v := .agg (cfc cPlain (sPlain w.heap.size))) (by simp [results, Try.results31, go_sem, cfc, cPlain, sPlain]) rfl ?_
  exact ⟨rfl, ⟨⟨by repeat (first | exact alloc_at (by simp) | refine alloc_up ?_), by repeat (first | exact alloc_at (by simp) | refine alloc_up ?_), by repeat (first | exact alloc_at (by simp) | refine alloc_up ?_), by repeat (first | exact alloc_at (by simp) | refine alloc_up ?_), by repeat (first | exact alloc_at (by simp) | refine alloc_up ?_), by repeat (first | exact alloc_at (by simp) | refine alloc_up ?_), by repeat (first | exact alloc_at (by simp) | refine alloc_up ?_), by repeat (first | exact alloc_at (by simp) | refine alloc_up ?_)⟩, by repeat (first | exact alloc_at (by simp) | refine alloc_up ?_)⟩, ((((((((((Chg.refl _ _).alloc _).alloc _).alloc _).alloc _).alloc _).alloc _).alloc _).alloc _).alloc _).alloc _, by simp⟩
/-- A slice of numbers out of a block. -/
theorem rdn_blk {w : World} {g : Nat} {cs : Array Value} {t : TypeId} {L : List Int} {c : Nat} (h : w.heap[g]? = some (.cells cs t (0, 0))) (hc : cs = (L.map pn).toArray) (hm : L.length ≤ maxLen) : RdN w (.slice (some ⟨g, 0, none⟩) L.length c) L := by
  refine ⟨hm, _, c, rfl, fun j hj => ⟨g, 0, rfl, ?_⟩⟩
  rw [blk_cell h, hc]
  simp [hj, pn]
theorem Plain8.R {w : World} {B : Nat} (h : Plain8 w B) : RdP w (sPlain B).ps cPlain.parts ∧ RdD w (sPlain B).ds cPlain.devs ∧ RdW w (sPlain B).ws cPlain.wins := by
  have hm : ∀ n, n ≤ 3 → n ≤ maxLen := fun n hn => by unfold maxLen; omega
  refine ⟨⟨hm _ (by decide), _, 3, rfl, fun j hj => ?_⟩, ⟨hm _ (by decide), _, 2, rfl, fun j hj => ?_⟩, ⟨⟨hm _ (by decide), fun A n c e => by injection e with _ e1 e2; omega⟩, _, 3, rfl, fun j hj => ?_⟩⟩
  · have hj3 : j = 0 ∨ j = 1 ∨ j = 2 := by simp only [cPlain, List.length_cons, List.length_nil] at hj; omega
    rcases hj3 with rfl | rfl | rfl
    · exact ⟨_, _, _, rfl, blk_cell h.h4 0, blk_cell h.h4 1, blk_cell h.h4 2, blk_cell h.h4 3, blk_cell h.h4 4, rdn_blk (L := [0, 1, 2]) h.h1 rfl (hm _ (by decide))⟩
    · exact ⟨_, _, _, rfl, blk_cell h.h4 5, blk_cell h.h4 6, blk_cell h.h4 7, blk_cell h.h4 8, blk_cell h.h4 9, rdn_blk (L := [3, 4]) h.h2 rfl (hm _ (by decide))⟩
    · exact ⟨_, _, _, rfl, blk_cell h.h4 10, blk_cell h.h4 11, blk_cell h.h4 12, blk_cell h.h4 13, blk_cell h.h4 14, rdn_blk (L := [5, 6]) h.h3 rfl (hm _ (by decide))⟩
  · have hj3 : j = 0 ∨ j = 1 := by simp only [cPlain, List.length_cons, List.length_nil] at hj; omega
    rcases hj3 with rfl | rfl
    · exact ⟨_, _, _, rfl, blk_cell h.h7 0, blk_cell h.h7 1, rdn_blk (L := [8, 9, 10]) h.h5 rfl (hm _ (by decide))⟩
    · exact ⟨_, _, _, rfl, blk_cell h.h7 2, blk_cell h.h7 3, rdn_blk (L := [11, 12]) h.h6 rfl (hm _ (by decide))⟩
  · have hj3 : j = 0 ∨ j = 1 ∨ j = 2 := by simp only [cPlain, List.length_cons, List.length_nil] at hj; omega
    rcases hj3 with rfl | rfl | rfl
    · exact ⟨_, _, rfl, blk_cell h.h8 0, blk_cell h.h8 1, blk_cell h.h8 2, blk_cell h.h8 3⟩
    · exact ⟨_, _, rfl, blk_cell h.h8 4, blk_cell h.h8 5, blk_cell h.h8 6, blk_cell h.h8 7⟩
    · exact ⟨_, _, rfl, blk_cell h.h8 8, blk_cell h.h8 9, blk_cell h.h8 10, blk_cell h.h8 11⟩
theorem grant_R {w : World} {B : Nat} {a b : Int} {c : Bool} (h : w.heap[B + 9]? = some (.cells #[pn a, pn b, .bool c] 44 (0, 0))) : RdG w (sPlain B).gs [⟨a, b, c⟩] := by
  refine ⟨by unfold maxLen; simp, _, 1, rfl, fun j hj => ?_⟩
  have hj3 : j = 0 := by simp only [List.length_cons, List.length_nil] at hj; omega
  subst hj3
  exact ⟨_, _, rfl, blk_cell h 0, blk_cell h 1, blk_cell h 2⟩
theorem PlainAt.R {w : World} {B : Nat} (h : PlainAt w B) : (sPlain B).R w cPlain := ⟨h.toPlain8.R.1, h.toPlain8.R.2.1, h.toPlain8.R.2.2, grant_R h.h9⟩
theorem Plain8.keep {w w' : World} {B b : Nat} (h : Plain8 w B) (hC : Chg (fun k => k = b) w w') (hb : b ≤ B ∨ B + 8 < b) : Plain8 w' B :=
  ⟨hC.at h.h1 (by omega), hC.at h.h2 (by omega), hC.at h.h3 (by omega), hC.at h.h4 (by omega), hC.at h.h5 (by omega), hC.at h.h6 (by omega), hC.at h.h7 (by omega), hC.at h.h8 (by omega)⟩
def cBad : Cf := { cPlain with grants := [⟨2, 0, false⟩] }
def cNone : Cf := ⟨0, [], [], 0, [], [], 0, 0, 0⟩
def sNone : Vs := ⟨.slice none 0 0, .slice none 0 0, .slice none 0 0, .slice none 0 0⟩
theorem none_R (w : World) : sNone.R w cNone := by
  have hm : 0 ≤ maxLen := by unfold maxLen; omega
  exact ⟨⟨hm, _, 0, rfl, fun j hj => absurd hj (by simp [cNone])⟩, ⟨hm, _, 0, rfl, fun j hj => absurd hj (by simp [cNone])⟩, ⟨⟨hm, fun A n c e => by injection e with _ e1 e2; omega⟩, _, 0, rfl, fun j hj => absurd hj (by simp [cNone])⟩, ⟨hm, _, 0, rfl, fun j hj => absurd hj (by simp [cNone])⟩⟩
theorem may_plain : decide (MayP cPlain) = true := by decide +kernel
theorem may_bad : decide (MayP cBad) = false := by decide +kernel
theorem may_none : decide (MayP cNone) = false := by decide +kernel
theorem aw_a : decide (ReadsP cPlain 0 0 192 false) = true := by decide +kernel
theorem aw_b : decide (ReadsP cPlain 0 0 193 false) = false := by decide +kernel
theorem aw_c : decide (ReadsP cPlain 2 128 64 false) = true := by decide +kernel
theorem aw_d : decide (ReadsP cPlain 2 128 64 true) = false := by decide +kernel
theorem aw_e : decide (ReadsP cPlain 3 0 0 false) = false := by decide +kernel
theorem bad_R {w w' : World} {B : Nat} (h : PlainAt w B) (hC : Chg (fun k => k = B + 9) w w') (h9 : w'.heap[B + 9]? = some (.cells #[pn 2, pn 0, .bool false] 44 (0, 0))) : (sPlain B).R w' cBad := by
  have h8 := h.toPlain8.keep hC (by omega)
  exact ⟨h8.R.1, h8.R.2.1, h8.R.2.2, grant_R h9⟩
set_option maxRecDepth 100000 in
set_option maxHeartbeats 4000000 in
theorem awake21 (w : World) : Calls Try.prog 30 #[] w fun e w' => e = .returned (.bool true) ∧ Chg (fun _ => False) w w' := by
  go_enter Try.func30, Try.ntmps30
  go_wp2_with fail
  refine (plain21 _).mono ?_
  rintro e w1 ⟨rfl, hp1, k1, s1⟩
  have HP1 := Lib.hid hp1; clear hp1
  have K1 := Lib.hid k1; clear k1
  simp only [cfc, cPlain, sPlain]
  have S1 := Lib.hid s1; clear s1
  generalize hB1 : w.heap.size = B1 at *
  go_wp2_with fail
  obtain ⟨W1, hW1⟩ : ∃ W, W = w1.alloc (.cells (cfc cPlain (sPlain B1)) 27) := ⟨_, rfl⟩
  have q0 := blk_new w1 (.cells (cfc cPlain (sPlain B1)) 27)
  have kA : Chg (fun _ => False) w1 W1 := by rw [hW1]; exact (Chg.refl _ _).alloc _
  rw [← hW1] at q0
  simp only [cfc, cPlain, sPlain] at hW1 q0
  rw [← hW1]
  refine (plain21 _).mono ?_
  rintro e w2 ⟨rfl, hp2, k2, s2⟩
  have sB : B1 + 10 < W1.heap.size := by rw [hW1]; have := S1.out; simp; omega
  generalize hB2 : W1.heap.size = B2 at *
  have t0 := S1.out
  rw [t0] at q0
  have q1 := k2.at q0 id
  have z1 : w2.cell? ⟨B2 + 9, 1, none⟩ = some (.int .i64 2) := blk_cell hp2.h9 1
  have f1 := blk_free hp2.h9 1
  have l1 : B2 + 9 < w2.heap.size := by rw [s2]; omega
  have KA := Lib.hid (kA.trans k2)
  have HP2 := Lib.hid hp2
  have HP1B : Hid (PlainAt w2 B1) := HP1.out.keepN (kA.trans k2)
  clear kA k2 hp2 HP1 q0 hW1
  simp only [cfc, cPlain, sPlain]
  go_upto_region 4 with fail
  refine wp_abs (fun W => W.heap[B1 + 10]? = some (.cells #[.int .i64 16, .slice (some ⟨B1 + 4, 0, none⟩) 3 3, .slice (some ⟨B1 + 7, 0, none⟩) 2 2, .int .i64 6, .slice (some ⟨B1 + 8, 0, none⟩) 3 3, .slice (some ⟨B1 + 9, 0, none⟩) 1 1, .int .i64 10, .int .i64 6, .int .i64 2] 27 (0, 0)) ∧ W.heap[B2 + 10]? = some (.cells #[.int .i64 16, .slice (some ⟨B2 + 4, 0, none⟩) 3 3, .slice (some ⟨B2 + 7, 0, none⟩) 2 2, .int .i64 6, .slice (some ⟨B2 + 8, 0, none⟩) 3 3, .slice (some ⟨B2 + 9, 0, none⟩) 1 1, .int .i64 10, .int .i64 6, .int .i64 2] 27 (0, 0)) ∧ (sPlain B1).R W cPlain ∧ (sPlain B2).R W cBad ∧ Chg (fun _ => False) w W) ?_ ?_
  · have kT := ((Chg.refl (fun k => k = B2 + 9) w2).set1 (i := 1) (.int .i64 0)).alloc (.cells #[.int .i64 16, .slice (some ⟨B2 + 4, 0, none⟩) 3 3, .slice (some ⟨B2 + 7, 0, none⟩) 2 2, .int .i64 6, .slice (some ⟨B2 + 8, 0, none⟩) 3 3, .slice (some ⟨B2 + 9, 0, none⟩) 1 1, .int .i64 10, .int .i64 6, .int .i64 2] 27)
    have h9' := alloc_up (o := .cells #[.int .i64 16, .slice (some ⟨B2 + 4, 0, none⟩) 3 3, .slice (some ⟨B2 + 7, 0, none⟩) 2 2, .int .i64 6, .slice (some ⟨B2 + 8, 0, none⟩) 3 3, .slice (some ⟨B2 + 9, 0, none⟩) 1 1, .int .i64 10, .int .i64 6, .int .i64 2] 27) (blk_set HP2.out.h9 1 (.int .i64 0))
    have p8 := HP1B.out.toPlain8.keep kT (by omega)
    have p9 := kT.at HP1B.out.h9 (by omega)
    exact ⟨kT.at q1 (by omega), alloc_at (by simp; omega), ⟨p8.R.1, p8.R.2.1, p8.R.2.2, grant_R p9⟩, bad_R HP2.out kT h9', (K1.out.trans KA.out).trans' kT (fun k hk e => by omega)⟩
  rw [t0]
  clear z1 f1 l1 HP2 HP1B KA K1 S1 t0 s2 q1 sB
  rintro W0 ⟨g1, g2, r1, r2, kW⟩
  have Y1 : Hid (∀ W, Chg (fun _ => False) W0 W → W.cell? ⟨B1 + 10, 0, none⟩ = some (.int .i64 16) ∧ W.cell? ⟨B1 + 10, 1, none⟩ = some (.slice (some ⟨B1 + 4, 0, none⟩) 3 3) ∧ W.cell? ⟨B1 + 10, 2, none⟩ = some (.slice (some ⟨B1 + 7, 0, none⟩) 2 2) ∧ W.cell? ⟨B1 + 10, 3, none⟩ = some (.int .i64 6) ∧ W.cell? ⟨B1 + 10, 4, none⟩ = some (.slice (some ⟨B1 + 8, 0, none⟩) 3 3) ∧ W.cell? ⟨B1 + 10, 5, none⟩ = some (.slice (some ⟨B1 + 9, 0, none⟩) 1 1) ∧ W.cell? ⟨B1 + 10, 6, none⟩ = some (.int .i64 10) ∧ W.cell? ⟨B1 + 10, 7, none⟩ = some (.int .i64 6) ∧ W.cell? ⟨B1 + 10, 8, none⟩ = some (.int .i64 2)) := fun W hC => by
    have g := hC.at g1 id
    exact ⟨blk_cell g 0, blk_cell g 1, blk_cell g 2, blk_cell g 3, blk_cell g 4, blk_cell g 5, blk_cell g 6, blk_cell g 7, blk_cell g 8⟩
  have Y2 : Hid (∀ W, Chg (fun _ => False) W0 W → W.cell? ⟨B2 + 10, 0, none⟩ = some (.int .i64 16) ∧ W.cell? ⟨B2 + 10, 1, none⟩ = some (.slice (some ⟨B2 + 4, 0, none⟩) 3 3) ∧ W.cell? ⟨B2 + 10, 2, none⟩ = some (.slice (some ⟨B2 + 7, 0, none⟩) 2 2) ∧ W.cell? ⟨B2 + 10, 3, none⟩ = some (.int .i64 6) ∧ W.cell? ⟨B2 + 10, 4, none⟩ = some (.slice (some ⟨B2 + 8, 0, none⟩) 3 3) ∧ W.cell? ⟨B2 + 10, 5, none⟩ = some (.slice (some ⟨B2 + 9, 0, none⟩) 1 1) ∧ W.cell? ⟨B2 + 10, 6, none⟩ = some (.int .i64 10) ∧ W.cell? ⟨B2 + 10, 7, none⟩ = some (.int .i64 6) ∧ W.cell? ⟨B2 + 10, 8, none⟩ = some (.int .i64 2)) := fun W hC => by
    have g := hC.at g2 id
    exact ⟨blk_cell g 0, blk_cell g 1, blk_cell g 2, blk_cell g 3, blk_cell g 4, blk_cell g 5, blk_cell g 6, blk_cell g 7, blk_cell g 8⟩
  have R1 : Hid (∀ W, Chg (fun _ => False) W0 W → (sPlain B1).R W cPlain) := fun W hC => r1.keepN hC
  have R2 : Hid (∀ W, Chg (fun _ => False) W0 W → (sPlain B2).R W cBad) := fun W hC => r2.keepN hC
  have KW := Lib.hid kW
  clear g1 g2 r1 r2 kW
  have C0 := Lib.hid (Chg.refl (fun _ => False) W0)
  obtain ⟨y0, y1, y2, y3, y4, y5, y6, y7, y8⟩ := Y1.out _ C0.out
  go_wp2_with fail
  refine (cMay cPlain (sPlain B1) _ (R1.out _ C0.out)).mono ?_
  rintro e x0 ⟨rfl, k0⟩
  rw [may_plain]
  have C1 := Lib.hid (C0.out.trans k0); clear k0 C0 y0 y1 y2 y3 y4 y5 y6 y7 y8
  obtain ⟨y0, y1, y2, y3, y4, y5, y6, y7, y8⟩ := Y2.out _ C1.out
  go_wp2_with fail
  refine (cMay cBad (sPlain B2) _ (R2.out _ C1.out)).mono ?_
  rintro e x1 ⟨rfl, k1⟩
  rw [may_bad]
  have C2 := Lib.hid (C1.out.trans k1); clear k1 C1 y0 y1 y2 y3 y4 y5 y6 y7 y8
  go_wp2_with fail
  refine (cMay cNone sNone _ (none_R _)).mono ?_
  rintro e x2 ⟨rfl, k2⟩
  rw [may_none]
  have C3 := Lib.hid (C2.out.trans k2); clear k2 C2
  obtain ⟨y0, y1, y2, y3, y4, y5, y6, y7, y8⟩ := Y1.out _ C3.out
  go_wp2_with fail
  refine (cReads 0 0 192 cPlain (sPlain B1) _ (R1.out _ C3.out)).mono ?_
  rintro e x3 ⟨rfl, k3⟩
  rw [aw_a]
  have C4 := Lib.hid (C3.out.trans k3); clear k3 C3 y0 y1 y2 y3 y4 y5 y6 y7 y8
  obtain ⟨y0, y1, y2, y3, y4, y5, y6, y7, y8⟩ := Y1.out _ C4.out
  go_wp2_with fail
  refine (cReads 0 0 193 cPlain (sPlain B1) _ (R1.out _ C4.out)).mono ?_
  rintro e x4 ⟨rfl, k4⟩
  rw [aw_b]
  have C5 := Lib.hid (C4.out.trans k4); clear k4 C4 y0 y1 y2 y3 y4 y5 y6 y7 y8
  obtain ⟨y0, y1, y2, y3, y4, y5, y6, y7, y8⟩ := Y1.out _ C5.out
  go_wp2_with fail
  refine (cReads 2 128 64 cPlain (sPlain B1) _ (R1.out _ C5.out)).mono ?_
  rintro e x5 ⟨rfl, k5⟩
  rw [aw_c]
  have C6 := Lib.hid (C5.out.trans k5); clear k5 C5 y0 y1 y2 y3 y4 y5 y6 y7 y8
  obtain ⟨y0, y1, y2, y3, y4, y5, y6, y7, y8⟩ := Y1.out _ C6.out
  go_wp2_with fail
  refine (cWrites 2 128 64 cPlain (sPlain B1) _ (R1.out _ C6.out)).mono ?_
  rintro e x6 ⟨rfl, k6⟩
  rw [aw_d]
  have C7 := Lib.hid (C6.out.trans k6); clear k6 C6 y0 y1 y2 y3 y4 y5 y6 y7 y8
  obtain ⟨y0, y1, y2, y3, y4, y5, y6, y7, y8⟩ := Y1.out _ C7.out
  go_wp2_with fail
  refine (cReads 3 0 0 cPlain (sPlain B1) _ (R1.out _ C7.out)).mono ?_
  rintro e x7 ⟨rfl, k7⟩
  rw [aw_e]
  have C8 := Lib.hid (C7.out.trans k7); clear k7 C7 y0 y1 y2 y3 y4 y5 y6 y7 y8
  go_wp2_with fail
  refine (num16 _ _).mono ?_
  rintro e x9 ⟨rfl, rfl⟩
  go_wp2_with fail
  go_ret
  exact ⟨rfl, KW.out.trans C8.out⟩
end Go.Proofs.Ytncbcjjdnlmjbaa
