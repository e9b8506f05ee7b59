/- The law ConfigForms: the walk. Printed by mkcforms.py. -/
import Derived.Test.YtncbcjjdnlmjbaaForB
set_option linter.unusedSimpArgs false
set_option linter.unusedVariables false
namespace Go.Proofs.Ytncbcjjdnlmjbaa
open Go.RowKit

/-- Block b is a config that may not be. -/
def BadAt (w wx : World) (b : Nat) : Prop := ∃ C s, CfP wx b C s ∧ ¬ MayP C ∧ Chg (fun _ => False) w wx
theorem uidx25 (x : Int) : 0 ≤ (IntKind.u64.wrap x).tmod 25 ∧ (IntKind.u64.wrap x).tmod 25 < 25 := by
  have h0 : 0 ≤ IntKind.u64.wrap x := by unfold IntKind.wrap; simp [IntKind.bits, IntKind.signed]; omega
  exact ⟨Int.tmod_nonneg 25 h0, Int.tmod_lt_of_pos _ (by decide)⟩
attribute [local go_sem] i64_and1023
set_option maxRecDepth 100000 in
set_option maxHeartbeats 8000000 in
theorem configForms_c (a x : Int) (w : World) : Calls Try.prog 5 #[.int .i64 a, .int .i64 x] w fun e w' => e = .returned (.bool true) ∧ Chg (fun _ => False) w w' := by
  have d0 : 1 ≤ 1 + x % 1024 := by omega
  have d1 : 1 + x % 1024 ≤ 1024 := by omega
  obtain ⟨k0, k1⟩ := uidx25 a
  go_enter Try.func5, Try.ntmps5
  go_wp2_with fail
  refine (awake21 _).mono ?_
  rintro e w1 ⟨rfl, hC1⟩
  have C1 := Lib.hid hC1; clear hC1
  go_wp2_with fail
  generalize 1 + x % 1024 = D at *
  refine (plain21 _).mono ?_
  rintro e w2 ⟨rfl, hp2, k2, s2⟩
  have S1 := Lib.hid C1.out.size
  have C2 := Lib.hid (C1.out.trans k2); clear k2 C1
  have HP := Lib.hid hp2; clear hp2
  have S2 := Lib.hid s2; clear s2
  generalize hB : w1.heap.size = B at *
  simp only [cfc, cPlain, sPlain]
  go_upto_block 0 with fail
  generalize (IntKind.u64.wrap a).tmod 25 = K at *
  go_cut [15] (fun s wx => BadAt w wx w2.heap.size)
  case first =>
    have hK : K = 0 ∨ K = 1 ∨ K = 2 ∨ K = 3 ∨ K = 4 ∨ K = 5 ∨ K = 6 ∨ K = 7 ∨ K = 8 ∨ K = 9 ∨ K = 10 ∨ K = 11 ∨ K = 12 ∨ K = 13 ∨ K = 14 ∨ K = 15 ∨ K = 16 ∨ K = 17 ∨ K = 18 ∨ K = 19 ∨ K = 20 ∨ K = 21 ∨ K = 22 ∨ K = 23 ∨ K = 24 := by omega
    clear k0 k1 hB
    rcases hK with rfl | rfl | rfl | rfl | rfl | rfl | rfl | rfl | rfl | rfl | rfl | rfl | rfl | rfl | rfl | rfl | rfl | rfl | rfl | rfl | rfl | rfl | rfl | rfl | rfl
    · go_wp2_with fail
      go_meet
      have hp := HP.out
      obtain ⟨W', hW'⟩ : ∃ W, W = w2.alloc (.cells #[.int .i64 12, .slice (some ⟨B + 4, 0, none⟩) 3 3, .slice (some ⟨B + 7, 0, none⟩) 2 2, .int .i64 6, .slice (some ⟨B + 8, 0, none⟩) 3 3, .slice (some ⟨B + 9, 0, none⟩) 1 1, .int .i64 10, .int .i64 6, .int .i64 2] 27) := ⟨_, rfl⟩
      have hC : Chg (fun _ => False) w2 W' := by rw [hW']; exact (Chg.refl _ _).alloc _
      have hcf := blk_new w2 (.cells #[.int .i64 12, .slice (some ⟨B + 4, 0, none⟩) 3 3, .slice (some ⟨B + 7, 0, none⟩) 2 2, .int .i64 6, .slice (some ⟨B + 8, 0, none⟩) 3 3, .slice (some ⟨B + 9, 0, none⟩) 1 1, .int .i64 10, .int .i64 6, .int .i64 2] 27)
      rw [← hW'] at hcf
      rw [← hW']
      exact ⟨cV0 D, ⟨.slice (some ⟨B + 4, 0, none⟩) 3 3, .slice (some ⟨B + 7, 0, none⟩) 2 2, .slice (some ⟨B + 8, 0, none⟩) 3 3, .slice (some ⟨B + 9, 0, none⟩) 1 1⟩, ⟨hcf, ⟨rdp3 (hC.at hp.h4 id) (rdn_blk (L := [0, 1, 2]) (hC.at hp.h1 id) rfl (by unfold maxLen; simp)) (rdn_blk (L := [3, 4]) (hC.at hp.h2 id) rfl (by unfold maxLen; simp)) (rdn_blk (L := [5, 6]) (hC.at hp.h3 id) rfl (by unfold maxLen; simp)), rdd2 (hC.at hp.h7 id) (rdn_blk (L := [8, 9, 10]) (hC.at hp.h5 id) rfl (by unfold maxLen; simp)) (rdn_blk (L := [11, 12]) (hC.at hp.h6 id) rfl (by unfold maxLen; simp)), rdw3 (hC.at hp.h8 id), rdg_one (hC.at hp.h9 id)⟩⟩, noV0 D, C2.out.trans hC⟩
    · go_wp2_with fail
      go_meet
      have hp := HP.out
      obtain ⟨W', hW'⟩ : ∃ W, W = w2.alloc (.cells #[.int .i64 16, .slice (some ⟨B + 4, 0, none⟩) 3 3, .slice (some ⟨B + 7, 0, none⟩) 2 2, .int .i64 6, .slice (some ⟨B + 8, 0, none⟩) 3 3, .slice (some ⟨B + 9, 0, none⟩) 1 1, .int .i64 10, .int .i64 6, .int .i64 (8 + D)] 27) := ⟨_, rfl⟩
      have hC : Chg (fun _ => False) w2 W' := by rw [hW']; exact (Chg.refl _ _).alloc _
      have hcf := blk_new w2 (.cells #[.int .i64 16, .slice (some ⟨B + 4, 0, none⟩) 3 3, .slice (some ⟨B + 7, 0, none⟩) 2 2, .int .i64 6, .slice (some ⟨B + 8, 0, none⟩) 3 3, .slice (some ⟨B + 9, 0, none⟩) 1 1, .int .i64 10, .int .i64 6, .int .i64 (8 + D)] 27)
      rw [← hW'] at hcf
      rw [← hW']
      exact ⟨cV24 D, ⟨.slice (some ⟨B + 4, 0, none⟩) 3 3, .slice (some ⟨B + 7, 0, none⟩) 2 2, .slice (some ⟨B + 8, 0, none⟩) 3 3, .slice (some ⟨B + 9, 0, none⟩) 1 1⟩, ⟨hcf, ⟨rdp3 (hC.at hp.h4 id) (rdn_blk (L := [0, 1, 2]) (hC.at hp.h1 id) rfl (by unfold maxLen; simp)) (rdn_blk (L := [3, 4]) (hC.at hp.h2 id) rfl (by unfold maxLen; simp)) (rdn_blk (L := [5, 6]) (hC.at hp.h3 id) rfl (by unfold maxLen; simp)), rdd2 (hC.at hp.h7 id) (rdn_blk (L := [8, 9, 10]) (hC.at hp.h5 id) rfl (by unfold maxLen; simp)) (rdn_blk (L := [11, 12]) (hC.at hp.h6 id) rfl (by unfold maxLen; simp)), rdw3 (hC.at hp.h8 id), rdg_one (hC.at hp.h9 id)⟩⟩, noV24 D d0, C2.out.trans hC⟩
    · go_wp2_with fail
      go_meet
      have hp := HP.out
      obtain ⟨W', hW'⟩ : ∃ W, W = w2.alloc (.cells #[.int .i64 16, .slice none 0 0, .slice (some ⟨B + 7, 0, none⟩) 2 2, .int .i64 6, .slice (some ⟨B + 8, 0, none⟩) 3 3, .slice (some ⟨B + 9, 0, none⟩) 1 1, .int .i64 10, .int .i64 6, .int .i64 2] 27) := ⟨_, rfl⟩
      have hC : Chg (fun _ => False) w2 W' := by rw [hW']; exact (Chg.refl _ _).alloc _
      have hcf := blk_new w2 (.cells #[.int .i64 16, .slice none 0 0, .slice (some ⟨B + 7, 0, none⟩) 2 2, .int .i64 6, .slice (some ⟨B + 8, 0, none⟩) 3 3, .slice (some ⟨B + 9, 0, none⟩) 1 1, .int .i64 10, .int .i64 6, .int .i64 2] 27)
      rw [← hW'] at hcf
      rw [← hW']
      exact ⟨cV2 D, ⟨.slice none 0 0, .slice (some ⟨B + 7, 0, none⟩) 2 2, .slice (some ⟨B + 8, 0, none⟩) 3 3, .slice (some ⟨B + 9, 0, none⟩) 1 1⟩, ⟨hcf, ⟨(rdp_nil _), rdd2 (hC.at hp.h7 id) (rdn_blk (L := [8, 9, 10]) (hC.at hp.h5 id) rfl (by unfold maxLen; simp)) (rdn_blk (L := [11, 12]) (hC.at hp.h6 id) rfl (by unfold maxLen; simp)), rdw3 (hC.at hp.h8 id), rdg_one (hC.at hp.h9 id)⟩⟩, noV2 D, C2.out.trans hC⟩
    · have z0 := blk_cell HP.out.h4 0
      have fz0 := blk_free HP.out.h4 0
      have lz0 := lt_of_heap HP.out.h4
      simp only [List.getElem?_toArray, List.getElem?_cons_zero, List.getElem?_cons_succ] at z0
      go_wp2_with fail
      go_meet
      clear z0 lz0
      have hp := HP.out
      obtain ⟨W', hW'⟩ : ∃ W, W = ((w2.setCell ⟨B + 4, 0, none⟩ (.int .i64 (-D))).alloc (.cells #[.int .i64 16, .slice (some ⟨B + 4, 0, none⟩) 3 3, .slice (some ⟨B + 7, 0, none⟩) 2 2, .int .i64 6, .slice (some ⟨B + 8, 0, none⟩) 3 3, .slice (some ⟨B + 9, 0, none⟩) 1 1, .int .i64 10, .int .i64 6, .int .i64 2] 27)) := ⟨_, rfl⟩
      have hC : Chg (fun k => k = B + 4) w2 W' := by rw [hW']; exact (((Chg.refl (fun k => k = B + 4) w2).set1 (i := 0) (.int .i64 (-D))).alloc _)
      have hx := blk_alloc (blk_set HP.out.h4 0 (.int .i64 (-D))) (.cells #[.int .i64 16, .slice (some ⟨B + 4, 0, none⟩) 3 3, .slice (some ⟨B + 7, 0, none⟩) 2 2, .int .i64 6, .slice (some ⟨B + 8, 0, none⟩) 3 3, .slice (some ⟨B + 9, 0, none⟩) 1 1, .int .i64 10, .int .i64 6, .int .i64 2] 27)
      have hcf := alloc_at (w := w2.setCell ⟨B + 4, 0, none⟩ (.int .i64 (-D))) (o := (.cells #[.int .i64 16, .slice (some ⟨B + 4, 0, none⟩) 3 3, .slice (some ⟨B + 7, 0, none⟩) 2 2, .int .i64 6, .slice (some ⟨B + 8, 0, none⟩) 3 3, .slice (some ⟨B + 9, 0, none⟩) 1 1, .int .i64 10, .int .i64 6, .int .i64 2] 27)) (k := w2.heap.size) (by simp)
      rw [← hW'] at hx hcf
      rw [← hW']
      exact ⟨cV3 D, ⟨.slice (some ⟨B + 4, 0, none⟩) 3 3, .slice (some ⟨B + 7, 0, none⟩) 2 2, .slice (some ⟨B + 8, 0, none⟩) 3 3, .slice (some ⟨B + 9, 0, none⟩) 1 1⟩, ⟨hcf, ⟨rdp3 hx (rdn_blk (L := [0, 1, 2]) (hC.at hp.h1 (by omega)) rfl (by unfold maxLen; simp)) (rdn_blk (L := [3, 4]) (hC.at hp.h2 (by omega)) rfl (by unfold maxLen; simp)) (rdn_blk (L := [5, 6]) (hC.at hp.h3 (by omega)) rfl (by unfold maxLen; simp)), rdd2 (hC.at hp.h7 (by omega)) (rdn_blk (L := [8, 9, 10]) (hC.at hp.h5 (by omega)) rfl (by unfold maxLen; simp)) (rdn_blk (L := [11, 12]) (hC.at hp.h6 (by omega)) rfl (by unfold maxLen; simp)), rdw3 (hC.at hp.h8 (by omega)), rdg_one (hC.at hp.h9 (by omega))⟩⟩, noV3 D d0, C2.out.trans' hC (fun k hk e => by have := S1.out; omega)⟩
    · have z0 := blk_cell HP.out.h4 7
      have fz0 := blk_free HP.out.h4 7
      have lz0 := lt_of_heap HP.out.h4
      simp only [List.getElem?_toArray, List.getElem?_cons_zero, List.getElem?_cons_succ] at z0
      go_wp2_with fail
      go_meet
      clear z0 lz0
      have hp := HP.out
      obtain ⟨W', hW'⟩ : ∃ W, W = ((w2.setCell ⟨B + 4, 7, none⟩ (.slice none 0 0)).alloc (.cells #[.int .i64 16, .slice (some ⟨B + 4, 0, none⟩) 3 3, .slice (some ⟨B + 7, 0, none⟩) 2 2, .int .i64 6, .slice (some ⟨B + 8, 0, none⟩) 3 3, .slice (some ⟨B + 9, 0, none⟩) 1 1, .int .i64 10, .int .i64 6, .int .i64 2] 27)) := ⟨_, rfl⟩
      have hC : Chg (fun k => k = B + 4) w2 W' := by rw [hW']; exact (((Chg.refl (fun k => k = B + 4) w2).set1 (i := 7) (.slice none 0 0)).alloc _)
      have hx := blk_alloc (blk_set HP.out.h4 7 (.slice none 0 0)) (.cells #[.int .i64 16, .slice (some ⟨B + 4, 0, none⟩) 3 3, .slice (some ⟨B + 7, 0, none⟩) 2 2, .int .i64 6, .slice (some ⟨B + 8, 0, none⟩) 3 3, .slice (some ⟨B + 9, 0, none⟩) 1 1, .int .i64 10, .int .i64 6, .int .i64 2] 27)
      have hcf := alloc_at (w := w2.setCell ⟨B + 4, 7, none⟩ (.slice none 0 0)) (o := (.cells #[.int .i64 16, .slice (some ⟨B + 4, 0, none⟩) 3 3, .slice (some ⟨B + 7, 0, none⟩) 2 2, .int .i64 6, .slice (some ⟨B + 8, 0, none⟩) 3 3, .slice (some ⟨B + 9, 0, none⟩) 1 1, .int .i64 10, .int .i64 6, .int .i64 2] 27)) (k := w2.heap.size) (by simp)
      rw [← hW'] at hx hcf
      rw [← hW']
      exact ⟨cV4 D, ⟨.slice (some ⟨B + 4, 0, none⟩) 3 3, .slice (some ⟨B + 7, 0, none⟩) 2 2, .slice (some ⟨B + 8, 0, none⟩) 3 3, .slice (some ⟨B + 9, 0, none⟩) 1 1⟩, ⟨hcf, ⟨rdp3 hx (rdn_blk (L := [0, 1, 2]) (hC.at hp.h1 (by omega)) rfl (by unfold maxLen; simp)) (rdn_nil W') (rdn_blk (L := [5, 6]) (hC.at hp.h3 (by omega)) rfl (by unfold maxLen; simp)), rdd2 (hC.at hp.h7 (by omega)) (rdn_blk (L := [8, 9, 10]) (hC.at hp.h5 (by omega)) rfl (by unfold maxLen; simp)) (rdn_blk (L := [11, 12]) (hC.at hp.h6 (by omega)) rfl (by unfold maxLen; simp)), rdw3 (hC.at hp.h8 (by omega)), rdg_one (hC.at hp.h9 (by omega))⟩⟩, noV4 D, C2.out.trans' hC (fun k hk e => by have := S1.out; omega)⟩
    · have z0 := blk_cell HP.out.h4 7
      have lz0 := lt_of_heap HP.out.h4
      have z1 := blk_cell HP.out.h2 0
      have fz1 := blk_free HP.out.h2 0
      have lz1 := lt_of_heap HP.out.h2
      simp only [List.getElem?_toArray, List.getElem?_cons_zero, List.getElem?_cons_succ] at z0 z1
      go_wp2_with fail
      go_meet
      clear z0 lz0 z1 lz1
      have hp := HP.out
      obtain ⟨W', hW'⟩ : ∃ W, W = ((w2.setCell ⟨B + 2, 0, none⟩ (.int .i64 0)).alloc (.cells #[.int .i64 16, .slice (some ⟨B + 4, 0, none⟩) 3 3, .slice (some ⟨B + 7, 0, none⟩) 2 2, .int .i64 6, .slice (some ⟨B + 8, 0, none⟩) 3 3, .slice (some ⟨B + 9, 0, none⟩) 1 1, .int .i64 10, .int .i64 6, .int .i64 2] 27)) := ⟨_, rfl⟩
      have hC : Chg (fun k => k = B + 2) w2 W' := by rw [hW']; exact (((Chg.refl (fun k => k = B + 2) w2).set1 (i := 0) (.int .i64 0)).alloc _)
      have hx := blk_alloc (blk_set HP.out.h2 0 (.int .i64 0)) (.cells #[.int .i64 16, .slice (some ⟨B + 4, 0, none⟩) 3 3, .slice (some ⟨B + 7, 0, none⟩) 2 2, .int .i64 6, .slice (some ⟨B + 8, 0, none⟩) 3 3, .slice (some ⟨B + 9, 0, none⟩) 1 1, .int .i64 10, .int .i64 6, .int .i64 2] 27)
      have hcf := alloc_at (w := w2.setCell ⟨B + 2, 0, none⟩ (.int .i64 0)) (o := (.cells #[.int .i64 16, .slice (some ⟨B + 4, 0, none⟩) 3 3, .slice (some ⟨B + 7, 0, none⟩) 2 2, .int .i64 6, .slice (some ⟨B + 8, 0, none⟩) 3 3, .slice (some ⟨B + 9, 0, none⟩) 1 1, .int .i64 10, .int .i64 6, .int .i64 2] 27)) (k := w2.heap.size) (by simp)
      rw [← hW'] at hx hcf
      rw [← hW']
      exact ⟨cV5 D, ⟨.slice (some ⟨B + 4, 0, none⟩) 3 3, .slice (some ⟨B + 7, 0, none⟩) 2 2, .slice (some ⟨B + 8, 0, none⟩) 3 3, .slice (some ⟨B + 9, 0, none⟩) 1 1⟩, ⟨hcf, ⟨rdp3 (hC.at hp.h4 (by omega)) (rdn_blk (L := [0, 1, 2]) (hC.at hp.h1 (by omega)) rfl (by unfold maxLen; simp)) (rdn_blk (L := [0, 4]) hx rfl (by unfold maxLen; simp)) (rdn_blk (L := [5, 6]) (hC.at hp.h3 (by omega)) rfl (by unfold maxLen; simp)), rdd2 (hC.at hp.h7 (by omega)) (rdn_blk (L := [8, 9, 10]) (hC.at hp.h5 (by omega)) rfl (by unfold maxLen; simp)) (rdn_blk (L := [11, 12]) (hC.at hp.h6 (by omega)) rfl (by unfold maxLen; simp)), rdw3 (hC.at hp.h8 (by omega)), rdg_one (hC.at hp.h9 (by omega))⟩⟩, noV5 D, C2.out.trans' hC (fun k hk e => by have := S1.out; omega)⟩
    · have z0 := blk_cell HP.out.h4 7
      have lz0 := lt_of_heap HP.out.h4
      have z1 := blk_cell HP.out.h2 0
      have fz1 := blk_free HP.out.h2 0
      have lz1 := lt_of_heap HP.out.h2
      simp only [List.getElem?_toArray, List.getElem?_cons_zero, List.getElem?_cons_succ] at z0 z1
      go_wp2_with fail
      go_meet
      clear z0 lz0 z1 lz1
      have hp := HP.out
      obtain ⟨W', hW'⟩ : ∃ W, W = ((w2.setCell ⟨B + 2, 0, none⟩ (.int .i64 (15 + D))).alloc (.cells #[.int .i64 16, .slice (some ⟨B + 4, 0, none⟩) 3 3, .slice (some ⟨B + 7, 0, none⟩) 2 2, .int .i64 6, .slice (some ⟨B + 8, 0, none⟩) 3 3, .slice (some ⟨B + 9, 0, none⟩) 1 1, .int .i64 10, .int .i64 6, .int .i64 2] 27)) := ⟨_, rfl⟩
      have hC : Chg (fun k => k = B + 2) w2 W' := by rw [hW']; exact (((Chg.refl (fun k => k = B + 2) w2).set1 (i := 0) (.int .i64 (15 + D))).alloc _)
      have hx := blk_alloc (blk_set HP.out.h2 0 (.int .i64 (15 + D))) (.cells #[.int .i64 16, .slice (some ⟨B + 4, 0, none⟩) 3 3, .slice (some ⟨B + 7, 0, none⟩) 2 2, .int .i64 6, .slice (some ⟨B + 8, 0, none⟩) 3 3, .slice (some ⟨B + 9, 0, none⟩) 1 1, .int .i64 10, .int .i64 6, .int .i64 2] 27)
      have hcf := alloc_at (w := w2.setCell ⟨B + 2, 0, none⟩ (.int .i64 (15 + D))) (o := (.cells #[.int .i64 16, .slice (some ⟨B + 4, 0, none⟩) 3 3, .slice (some ⟨B + 7, 0, none⟩) 2 2, .int .i64 6, .slice (some ⟨B + 8, 0, none⟩) 3 3, .slice (some ⟨B + 9, 0, none⟩) 1 1, .int .i64 10, .int .i64 6, .int .i64 2] 27)) (k := w2.heap.size) (by simp)
      rw [← hW'] at hx hcf
      rw [← hW']
      exact ⟨cV6 D, ⟨.slice (some ⟨B + 4, 0, none⟩) 3 3, .slice (some ⟨B + 7, 0, none⟩) 2 2, .slice (some ⟨B + 8, 0, none⟩) 3 3, .slice (some ⟨B + 9, 0, none⟩) 1 1⟩, ⟨hcf, ⟨rdp3 (hC.at hp.h4 (by omega)) (rdn_blk (L := [0, 1, 2]) (hC.at hp.h1 (by omega)) rfl (by unfold maxLen; simp)) (rdn_blk (L := [15 + D, 4]) hx rfl (by unfold maxLen; simp)) (rdn_blk (L := [5, 6]) (hC.at hp.h3 (by omega)) rfl (by unfold maxLen; simp)), rdd2 (hC.at hp.h7 (by omega)) (rdn_blk (L := [8, 9, 10]) (hC.at hp.h5 (by omega)) rfl (by unfold maxLen; simp)) (rdn_blk (L := [11, 12]) (hC.at hp.h6 (by omega)) rfl (by unfold maxLen; simp)), rdw3 (hC.at hp.h8 (by omega)), rdg_one (hC.at hp.h9 (by omega))⟩⟩, noV6 D d0, C2.out.trans' hC (fun k hk e => by have := S1.out; omega)⟩
    · have z0 := blk_cell HP.out.h4 7
      have lz0 := lt_of_heap HP.out.h4
      have z1 := blk_cell HP.out.h2 1
      have fz1 := blk_free HP.out.h2 1
      have lz1 := lt_of_heap HP.out.h2
      simp only [List.getElem?_toArray, List.getElem?_cons_zero, List.getElem?_cons_succ] at z0 z1
      go_wp2_with fail
      go_meet
      clear z0 lz0 z1 lz1
      have hp := HP.out
      obtain ⟨W', hW'⟩ : ∃ W, W = ((w2.setCell ⟨B + 2, 1, none⟩ (.int .i64 (-D))).alloc (.cells #[.int .i64 16, .slice (some ⟨B + 4, 0, none⟩) 3 3, .slice (some ⟨B + 7, 0, none⟩) 2 2, .int .i64 6, .slice (some ⟨B + 8, 0, none⟩) 3 3, .slice (some ⟨B + 9, 0, none⟩) 1 1, .int .i64 10, .int .i64 6, .int .i64 2] 27)) := ⟨_, rfl⟩
      have hC : Chg (fun k => k = B + 2) w2 W' := by rw [hW']; exact (((Chg.refl (fun k => k = B + 2) w2).set1 (i := 1) (.int .i64 (-D))).alloc _)
      have hx := blk_alloc (blk_set HP.out.h2 1 (.int .i64 (-D))) (.cells #[.int .i64 16, .slice (some ⟨B + 4, 0, none⟩) 3 3, .slice (some ⟨B + 7, 0, none⟩) 2 2, .int .i64 6, .slice (some ⟨B + 8, 0, none⟩) 3 3, .slice (some ⟨B + 9, 0, none⟩) 1 1, .int .i64 10, .int .i64 6, .int .i64 2] 27)
      have hcf := alloc_at (w := w2.setCell ⟨B + 2, 1, none⟩ (.int .i64 (-D))) (o := (.cells #[.int .i64 16, .slice (some ⟨B + 4, 0, none⟩) 3 3, .slice (some ⟨B + 7, 0, none⟩) 2 2, .int .i64 6, .slice (some ⟨B + 8, 0, none⟩) 3 3, .slice (some ⟨B + 9, 0, none⟩) 1 1, .int .i64 10, .int .i64 6, .int .i64 2] 27)) (k := w2.heap.size) (by simp)
      rw [← hW'] at hx hcf
      rw [← hW']
      exact ⟨cV7 D, ⟨.slice (some ⟨B + 4, 0, none⟩) 3 3, .slice (some ⟨B + 7, 0, none⟩) 2 2, .slice (some ⟨B + 8, 0, none⟩) 3 3, .slice (some ⟨B + 9, 0, none⟩) 1 1⟩, ⟨hcf, ⟨rdp3 (hC.at hp.h4 (by omega)) (rdn_blk (L := [0, 1, 2]) (hC.at hp.h1 (by omega)) rfl (by unfold maxLen; simp)) (rdn_blk (L := [3, -D]) hx rfl (by unfold maxLen; simp)) (rdn_blk (L := [5, 6]) (hC.at hp.h3 (by omega)) rfl (by unfold maxLen; simp)), rdd2 (hC.at hp.h7 (by omega)) (rdn_blk (L := [8, 9, 10]) (hC.at hp.h5 (by omega)) rfl (by unfold maxLen; simp)) (rdn_blk (L := [11, 12]) (hC.at hp.h6 (by omega)) rfl (by unfold maxLen; simp)), rdw3 (hC.at hp.h8 (by omega)), rdg_one (hC.at hp.h9 (by omega))⟩⟩, noV7 D d0, C2.out.trans' hC (fun k hk e => by have := S1.out; omega)⟩
    · go_wp2_with fail
      go_meet
      have hp := HP.out
      obtain ⟨W', hW'⟩ : ∃ W, W = w2.alloc (.cells #[.int .i64 16, .slice (some ⟨B + 4, 0, none⟩) 3 3, .slice none 0 0, .int .i64 6, .slice (some ⟨B + 8, 0, none⟩) 3 3, .slice (some ⟨B + 9, 0, none⟩) 1 1, .int .i64 10, .int .i64 6, .int .i64 2] 27) := ⟨_, rfl⟩
      have hC : Chg (fun _ => False) w2 W' := by rw [hW']; exact (Chg.refl _ _).alloc _
      have hcf := blk_new w2 (.cells #[.int .i64 16, .slice (some ⟨B + 4, 0, none⟩) 3 3, .slice none 0 0, .int .i64 6, .slice (some ⟨B + 8, 0, none⟩) 3 3, .slice (some ⟨B + 9, 0, none⟩) 1 1, .int .i64 10, .int .i64 6, .int .i64 2] 27)
      rw [← hW'] at hcf
      rw [← hW']
      exact ⟨cV8 D, ⟨.slice (some ⟨B + 4, 0, none⟩) 3 3, .slice none 0 0, .slice (some ⟨B + 8, 0, none⟩) 3 3, .slice (some ⟨B + 9, 0, none⟩) 1 1⟩, ⟨hcf, ⟨rdp3 (hC.at hp.h4 id) (rdn_blk (L := [0, 1, 2]) (hC.at hp.h1 id) rfl (by unfold maxLen; simp)) (rdn_blk (L := [3, 4]) (hC.at hp.h2 id) rfl (by unfold maxLen; simp)) (rdn_blk (L := [5, 6]) (hC.at hp.h3 id) rfl (by unfold maxLen; simp)), (rdd_nil _), rdw3 (hC.at hp.h8 id), rdg_one (hC.at hp.h9 id)⟩⟩, noV8 D, C2.out.trans hC⟩
    · have z0 := blk_cell HP.out.h7 0
      have fz0 := blk_free HP.out.h7 0
      have lz0 := lt_of_heap HP.out.h7
      simp only [List.getElem?_toArray, List.getElem?_cons_zero, List.getElem?_cons_succ] at z0
      go_wp2_with fail
      go_meet
      clear z0 lz0
      have hp := HP.out
      obtain ⟨W', hW'⟩ : ∃ W, W = ((w2.setCell ⟨B + 7, 0, none⟩ (.int .i64 (2 + D))).alloc (.cells #[.int .i64 16, .slice (some ⟨B + 4, 0, none⟩) 3 3, .slice (some ⟨B + 7, 0, none⟩) 2 2, .int .i64 6, .slice (some ⟨B + 8, 0, none⟩) 3 3, .slice (some ⟨B + 9, 0, none⟩) 1 1, .int .i64 10, .int .i64 6, .int .i64 2] 27)) := ⟨_, rfl⟩
      have hC : Chg (fun k => k = B + 7) w2 W' := by rw [hW']; exact (((Chg.refl (fun k => k = B + 7) w2).set1 (i := 0) (.int .i64 (2 + D))).alloc _)
      have hx := blk_alloc (blk_set HP.out.h7 0 (.int .i64 (2 + D))) (.cells #[.int .i64 16, .slice (some ⟨B + 4, 0, none⟩) 3 3, .slice (some ⟨B + 7, 0, none⟩) 2 2, .int .i64 6, .slice (some ⟨B + 8, 0, none⟩) 3 3, .slice (some ⟨B + 9, 0, none⟩) 1 1, .int .i64 10, .int .i64 6, .int .i64 2] 27)
      have hcf := alloc_at (w := w2.setCell ⟨B + 7, 0, none⟩ (.int .i64 (2 + D))) (o := (.cells #[.int .i64 16, .slice (some ⟨B + 4, 0, none⟩) 3 3, .slice (some ⟨B + 7, 0, none⟩) 2 2, .int .i64 6, .slice (some ⟨B + 8, 0, none⟩) 3 3, .slice (some ⟨B + 9, 0, none⟩) 1 1, .int .i64 10, .int .i64 6, .int .i64 2] 27)) (k := w2.heap.size) (by simp)
      rw [← hW'] at hx hcf
      rw [← hW']
      exact ⟨cV9 D, ⟨.slice (some ⟨B + 4, 0, none⟩) 3 3, .slice (some ⟨B + 7, 0, none⟩) 2 2, .slice (some ⟨B + 8, 0, none⟩) 3 3, .slice (some ⟨B + 9, 0, none⟩) 1 1⟩, ⟨hcf, ⟨rdp3 (hC.at hp.h4 (by omega)) (rdn_blk (L := [0, 1, 2]) (hC.at hp.h1 (by omega)) rfl (by unfold maxLen; simp)) (rdn_blk (L := [3, 4]) (hC.at hp.h2 (by omega)) rfl (by unfold maxLen; simp)) (rdn_blk (L := [5, 6]) (hC.at hp.h3 (by omega)) rfl (by unfold maxLen; simp)), rdd2 hx (rdn_blk (L := [8, 9, 10]) (hC.at hp.h5 (by omega)) rfl (by unfold maxLen; simp)) (rdn_blk (L := [11, 12]) (hC.at hp.h6 (by omega)) rfl (by unfold maxLen; simp)), rdw3 (hC.at hp.h8 (by omega)), rdg_one (hC.at hp.h9 (by omega))⟩⟩, noV9 D d0, C2.out.trans' hC (fun k hk e => by have := S1.out; omega)⟩
    · have z0 := blk_cell HP.out.h7 0
      have fz0 := blk_free HP.out.h7 0
      have lz0 := lt_of_heap HP.out.h7
      simp only [List.getElem?_toArray, List.getElem?_cons_zero, List.getElem?_cons_succ] at z0
      go_wp2_with fail
      go_meet
      clear z0 lz0
      have hp := HP.out
      obtain ⟨W', hW'⟩ : ∃ W, W = ((w2.setCell ⟨B + 7, 0, none⟩ (.int .i64 (-D))).alloc (.cells #[.int .i64 16, .slice (some ⟨B + 4, 0, none⟩) 3 3, .slice (some ⟨B + 7, 0, none⟩) 2 2, .int .i64 6, .slice (some ⟨B + 8, 0, none⟩) 3 3, .slice (some ⟨B + 9, 0, none⟩) 1 1, .int .i64 10, .int .i64 6, .int .i64 2] 27)) := ⟨_, rfl⟩
      have hC : Chg (fun k => k = B + 7) w2 W' := by rw [hW']; exact (((Chg.refl (fun k => k = B + 7) w2).set1 (i := 0) (.int .i64 (-D))).alloc _)
      have hx := blk_alloc (blk_set HP.out.h7 0 (.int .i64 (-D))) (.cells #[.int .i64 16, .slice (some ⟨B + 4, 0, none⟩) 3 3, .slice (some ⟨B + 7, 0, none⟩) 2 2, .int .i64 6, .slice (some ⟨B + 8, 0, none⟩) 3 3, .slice (some ⟨B + 9, 0, none⟩) 1 1, .int .i64 10, .int .i64 6, .int .i64 2] 27)
      have hcf := alloc_at (w := w2.setCell ⟨B + 7, 0, none⟩ (.int .i64 (-D))) (o := (.cells #[.int .i64 16, .slice (some ⟨B + 4, 0, none⟩) 3 3, .slice (some ⟨B + 7, 0, none⟩) 2 2, .int .i64 6, .slice (some ⟨B + 8, 0, none⟩) 3 3, .slice (some ⟨B + 9, 0, none⟩) 1 1, .int .i64 10, .int .i64 6, .int .i64 2] 27)) (k := w2.heap.size) (by simp)
      rw [← hW'] at hx hcf
      rw [← hW']
      exact ⟨cV10 D, ⟨.slice (some ⟨B + 4, 0, none⟩) 3 3, .slice (some ⟨B + 7, 0, none⟩) 2 2, .slice (some ⟨B + 8, 0, none⟩) 3 3, .slice (some ⟨B + 9, 0, none⟩) 1 1⟩, ⟨hcf, ⟨rdp3 (hC.at hp.h4 (by omega)) (rdn_blk (L := [0, 1, 2]) (hC.at hp.h1 (by omega)) rfl (by unfold maxLen; simp)) (rdn_blk (L := [3, 4]) (hC.at hp.h2 (by omega)) rfl (by unfold maxLen; simp)) (rdn_blk (L := [5, 6]) (hC.at hp.h3 (by omega)) rfl (by unfold maxLen; simp)), rdd2 hx (rdn_blk (L := [8, 9, 10]) (hC.at hp.h5 (by omega)) rfl (by unfold maxLen; simp)) (rdn_blk (L := [11, 12]) (hC.at hp.h6 (by omega)) rfl (by unfold maxLen; simp)), rdw3 (hC.at hp.h8 (by omega)), rdg_one (hC.at hp.h9 (by omega))⟩⟩, noV10 D d0, C2.out.trans' hC (fun k hk e => by have := S1.out; omega)⟩
    · have z0 := blk_cell HP.out.h7 1
      have fz0 := blk_free HP.out.h7 1
      have lz0 := lt_of_heap HP.out.h7
      simp only [List.getElem?_toArray, List.getElem?_cons_zero, List.getElem?_cons_succ] at z0
      go_wp2_with fail
      go_meet
      clear z0 lz0
      have hp := HP.out
      obtain ⟨W', hW'⟩ : ∃ W, W = (((w2.setCell ⟨B + 7, 1, none⟩ (.slice (some ⟨w2.heap.size + 1, 0, none⟩) 1 1)).alloc (.cells #[.int .i64 16, .slice (some ⟨B + 4, 0, none⟩) 3 3, .slice (some ⟨B + 7, 0, none⟩) 2 2, .int .i64 6, .slice (some ⟨B + 8, 0, none⟩) 3 3, .slice (some ⟨B + 9, 0, none⟩) 1 1, .int .i64 10, .int .i64 6, .int .i64 2] 27)).alloc (.cells #[.int .i64 8] 3)) := ⟨_, rfl⟩
      have hC : Chg (fun k => k = B + 7) w2 W' := by rw [hW']; exact ((((Chg.refl (fun k => k = B + 7) w2).set1 (i := 1) (.slice (some ⟨w2.heap.size + 1, 0, none⟩) 1 1)).alloc _).alloc _)
      have hx := blk_alloc (blk_alloc (blk_set HP.out.h7 1 (.slice (some ⟨w2.heap.size + 1, 0, none⟩) 1 1)) (.cells #[.int .i64 16, .slice (some ⟨B + 4, 0, none⟩) 3 3, .slice (some ⟨B + 7, 0, none⟩) 2 2, .int .i64 6, .slice (some ⟨B + 8, 0, none⟩) 3 3, .slice (some ⟨B + 9, 0, none⟩) 1 1, .int .i64 10, .int .i64 6, .int .i64 2] 27)) (.cells #[.int .i64 8] 3)
      have hn := alloc_at (w := (w2.setCell ⟨B + 7, 1, none⟩ (.slice (some ⟨w2.heap.size + 1, 0, none⟩) 1 1)).alloc (.cells #[.int .i64 16, .slice (some ⟨B + 4, 0, none⟩) 3 3, .slice (some ⟨B + 7, 0, none⟩) 2 2, .int .i64 6, .slice (some ⟨B + 8, 0, none⟩) 3 3, .slice (some ⟨B + 9, 0, none⟩) 1 1, .int .i64 10, .int .i64 6, .int .i64 2] 27)) (o := (.cells #[.int .i64 8] 3)) (k := w2.heap.size + 1) (by simp)
      have hcf := alloc_up (o := (.cells #[.int .i64 8] 3)) (alloc_at (w := w2.setCell ⟨B + 7, 1, none⟩ (.slice (some ⟨w2.heap.size + 1, 0, none⟩) 1 1)) (o := (.cells #[.int .i64 16, .slice (some ⟨B + 4, 0, none⟩) 3 3, .slice (some ⟨B + 7, 0, none⟩) 2 2, .int .i64 6, .slice (some ⟨B + 8, 0, none⟩) 3 3, .slice (some ⟨B + 9, 0, none⟩) 1 1, .int .i64 10, .int .i64 6, .int .i64 2] 27)) (k := w2.heap.size) (by simp))
      rw [← hW'] at hx hcf hn
      rw [← hW']
      exact ⟨cV11 D, ⟨.slice (some ⟨B + 4, 0, none⟩) 3 3, .slice (some ⟨B + 7, 0, none⟩) 2 2, .slice (some ⟨B + 8, 0, none⟩) 3 3, .slice (some ⟨B + 9, 0, none⟩) 1 1⟩, ⟨hcf, ⟨rdp3 (hC.at hp.h4 (by omega)) (rdn_blk (L := [0, 1, 2]) (hC.at hp.h1 (by omega)) rfl (by unfold maxLen; simp)) (rdn_blk (L := [3, 4]) (hC.at hp.h2 (by omega)) rfl (by unfold maxLen; simp)) (rdn_blk (L := [5, 6]) (hC.at hp.h3 (by omega)) rfl (by unfold maxLen; simp)), rdd2 hx (rdn_blk (L := [8]) hn rfl (by unfold maxLen; simp)) (rdn_blk (L := [11, 12]) (hC.at hp.h6 (by omega)) rfl (by unfold maxLen; simp)), rdw3 (hC.at hp.h8 (by omega)), rdg_one (hC.at hp.h9 (by omega))⟩⟩, noV11 D, C2.out.trans' hC (fun k hk e => by have := S1.out; omega)⟩
    · have z0 := blk_cell HP.out.h7 1
      have fz0 := blk_free HP.out.h7 1
      have lz0 := lt_of_heap HP.out.h7
      simp only [List.getElem?_toArray, List.getElem?_cons_zero, List.getElem?_cons_succ] at z0
      go_wp2_with fail
      go_meet
      clear z0 lz0
      have hp := HP.out
      obtain ⟨W', hW'⟩ : ∃ W, W = (((w2.setCell ⟨B + 7, 1, none⟩ (.slice (some ⟨w2.heap.size + 1, 0, none⟩) 6 6)).alloc (.cells #[.int .i64 16, .slice (some ⟨B + 4, 0, none⟩) 3 3, .slice (some ⟨B + 7, 0, none⟩) 2 2, .int .i64 6, .slice (some ⟨B + 8, 0, none⟩) 3 3, .slice (some ⟨B + 9, 0, none⟩) 1 1, .int .i64 10, .int .i64 6, .int .i64 2] 27)).alloc (.cells #[.int .i64 8, .int .i64 9, .int .i64 10, .int .i64 13, .int .i64 14, .int .i64 15] 3)) := ⟨_, rfl⟩
      have hC : Chg (fun k => k = B + 7) w2 W' := by rw [hW']; exact ((((Chg.refl (fun k => k = B + 7) w2).set1 (i := 1) (.slice (some ⟨w2.heap.size + 1, 0, none⟩) 6 6)).alloc _).alloc _)
      have hx := blk_alloc (blk_alloc (blk_set HP.out.h7 1 (.slice (some ⟨w2.heap.size + 1, 0, none⟩) 6 6)) (.cells #[.int .i64 16, .slice (some ⟨B + 4, 0, none⟩) 3 3, .slice (some ⟨B + 7, 0, none⟩) 2 2, .int .i64 6, .slice (some ⟨B + 8, 0, none⟩) 3 3, .slice (some ⟨B + 9, 0, none⟩) 1 1, .int .i64 10, .int .i64 6, .int .i64 2] 27)) (.cells #[.int .i64 8, .int .i64 9, .int .i64 10, .int .i64 13, .int .i64 14, .int .i64 15] 3)
      have hn := alloc_at (w := (w2.setCell ⟨B + 7, 1, none⟩ (.slice (some ⟨w2.heap.size + 1, 0, none⟩) 6 6)).alloc (.cells #[.int .i64 16, .slice (some ⟨B + 4, 0, none⟩) 3 3, .slice (some ⟨B + 7, 0, none⟩) 2 2, .int .i64 6, .slice (some ⟨B + 8, 0, none⟩) 3 3, .slice (some ⟨B + 9, 0, none⟩) 1 1, .int .i64 10, .int .i64 6, .int .i64 2] 27)) (o := (.cells #[.int .i64 8, .int .i64 9, .int .i64 10, .int .i64 13, .int .i64 14, .int .i64 15] 3)) (k := w2.heap.size + 1) (by simp)
      have hcf := alloc_up (o := (.cells #[.int .i64 8, .int .i64 9, .int .i64 10, .int .i64 13, .int .i64 14, .int .i64 15] 3)) (alloc_at (w := w2.setCell ⟨B + 7, 1, none⟩ (.slice (some ⟨w2.heap.size + 1, 0, none⟩) 6 6)) (o := (.cells #[.int .i64 16, .slice (some ⟨B + 4, 0, none⟩) 3 3, .slice (some ⟨B + 7, 0, none⟩) 2 2, .int .i64 6, .slice (some ⟨B + 8, 0, none⟩) 3 3, .slice (some ⟨B + 9, 0, none⟩) 1 1, .int .i64 10, .int .i64 6, .int .i64 2] 27)) (k := w2.heap.size) (by simp))
      rw [← hW'] at hx hcf hn
      rw [← hW']
      exact ⟨cV12 D, ⟨.slice (some ⟨B + 4, 0, none⟩) 3 3, .slice (some ⟨B + 7, 0, none⟩) 2 2, .slice (some ⟨B + 8, 0, none⟩) 3 3, .slice (some ⟨B + 9, 0, none⟩) 1 1⟩, ⟨hcf, ⟨rdp3 (hC.at hp.h4 (by omega)) (rdn_blk (L := [0, 1, 2]) (hC.at hp.h1 (by omega)) rfl (by unfold maxLen; simp)) (rdn_blk (L := [3, 4]) (hC.at hp.h2 (by omega)) rfl (by unfold maxLen; simp)) (rdn_blk (L := [5, 6]) (hC.at hp.h3 (by omega)) rfl (by unfold maxLen; simp)), rdd2 hx (rdn_blk (L := [8, 9, 10, 13, 14, 15]) hn rfl (by unfold maxLen; simp)) (rdn_blk (L := [11, 12]) (hC.at hp.h6 (by omega)) rfl (by unfold maxLen; simp)), rdw3 (hC.at hp.h8 (by omega)), rdg_one (hC.at hp.h9 (by omega))⟩⟩, noV12 D, C2.out.trans' hC (fun k hk e => by have := S1.out; omega)⟩
    · have z0 := blk_cell HP.out.h7 3
      have lz0 := lt_of_heap HP.out.h7
      have z1 := blk_cell HP.out.h6 0
      have fz1 := blk_free HP.out.h6 0
      have lz1 := lt_of_heap HP.out.h6
      simp only [List.getElem?_toArray, List.getElem?_cons_zero, List.getElem?_cons_succ] at z0 z1
      go_wp2_with fail
      go_meet
      clear z0 lz0 z1 lz1
      have hp := HP.out
      obtain ⟨W', hW'⟩ : ∃ W, W = ((w2.setCell ⟨B + 6, 0, none⟩ (.int .i64 8)).alloc (.cells #[.int .i64 16, .slice (some ⟨B + 4, 0, none⟩) 3 3, .slice (some ⟨B + 7, 0, none⟩) 2 2, .int .i64 6, .slice (some ⟨B + 8, 0, none⟩) 3 3, .slice (some ⟨B + 9, 0, none⟩) 1 1, .int .i64 10, .int .i64 6, .int .i64 2] 27)) := ⟨_, rfl⟩
      have hC : Chg (fun k => k = B + 6) w2 W' := by rw [hW']; exact (((Chg.refl (fun k => k = B + 6) w2).set1 (i := 0) (.int .i64 8)).alloc _)
      have hx := blk_alloc (blk_set HP.out.h6 0 (.int .i64 8)) (.cells #[.int .i64 16, .slice (some ⟨B + 4, 0, none⟩) 3 3, .slice (some ⟨B + 7, 0, none⟩) 2 2, .int .i64 6, .slice (some ⟨B + 8, 0, none⟩) 3 3, .slice (some ⟨B + 9, 0, none⟩) 1 1, .int .i64 10, .int .i64 6, .int .i64 2] 27)
      have hcf := alloc_at (w := w2.setCell ⟨B + 6, 0, none⟩ (.int .i64 8)) (o := (.cells #[.int .i64 16, .slice (some ⟨B + 4, 0, none⟩) 3 3, .slice (some ⟨B + 7, 0, none⟩) 2 2, .int .i64 6, .slice (some ⟨B + 8, 0, none⟩) 3 3, .slice (some ⟨B + 9, 0, none⟩) 1 1, .int .i64 10, .int .i64 6, .int .i64 2] 27)) (k := w2.heap.size) (by simp)
      rw [← hW'] at hx hcf
      rw [← hW']
      exact ⟨cV13 D, ⟨.slice (some ⟨B + 4, 0, none⟩) 3 3, .slice (some ⟨B + 7, 0, none⟩) 2 2, .slice (some ⟨B + 8, 0, none⟩) 3 3, .slice (some ⟨B + 9, 0, none⟩) 1 1⟩, ⟨hcf, ⟨rdp3 (hC.at hp.h4 (by omega)) (rdn_blk (L := [0, 1, 2]) (hC.at hp.h1 (by omega)) rfl (by unfold maxLen; simp)) (rdn_blk (L := [3, 4]) (hC.at hp.h2 (by omega)) rfl (by unfold maxLen; simp)) (rdn_blk (L := [5, 6]) (hC.at hp.h3 (by omega)) rfl (by unfold maxLen; simp)), rdd2 (hC.at hp.h7 (by omega)) (rdn_blk (L := [8, 9, 10]) (hC.at hp.h5 (by omega)) rfl (by unfold maxLen; simp)) (rdn_blk (L := [8, 12]) hx rfl (by unfold maxLen; simp)), rdw3 (hC.at hp.h8 (by omega)), rdg_one (hC.at hp.h9 (by omega))⟩⟩, noV13 D, C2.out.trans' hC (fun k hk e => by have := S1.out; omega)⟩
    · have z0 := blk_cell HP.out.h7 3
      have lz0 := lt_of_heap HP.out.h7
      have z1 := blk_cell HP.out.h6 0
      have fz1 := blk_free HP.out.h6 0
      have lz1 := lt_of_heap HP.out.h6
      simp only [List.getElem?_toArray, List.getElem?_cons_zero, List.getElem?_cons_succ] at z0 z1
      go_wp2_with fail
      go_meet
      clear z0 lz0 z1 lz1
      have hp := HP.out
      obtain ⟨W', hW'⟩ : ∃ W, W = ((w2.setCell ⟨B + 6, 0, none⟩ (.int .i64 5)).alloc (.cells #[.int .i64 16, .slice (some ⟨B + 4, 0, none⟩) 3 3, .slice (some ⟨B + 7, 0, none⟩) 2 2, .int .i64 6, .slice (some ⟨B + 8, 0, none⟩) 3 3, .slice (some ⟨B + 9, 0, none⟩) 1 1, .int .i64 10, .int .i64 6, .int .i64 2] 27)) := ⟨_, rfl⟩
      have hC : Chg (fun k => k = B + 6) w2 W' := by rw [hW']; exact (((Chg.refl (fun k => k = B + 6) w2).set1 (i := 0) (.int .i64 5)).alloc _)
      have hx := blk_alloc (blk_set HP.out.h6 0 (.int .i64 5)) (.cells #[.int .i64 16, .slice (some ⟨B + 4, 0, none⟩) 3 3, .slice (some ⟨B + 7, 0, none⟩) 2 2, .int .i64 6, .slice (some ⟨B + 8, 0, none⟩) 3 3, .slice (some ⟨B + 9, 0, none⟩) 1 1, .int .i64 10, .int .i64 6, .int .i64 2] 27)
      have hcf := alloc_at (w := w2.setCell ⟨B + 6, 0, none⟩ (.int .i64 5)) (o := (.cells #[.int .i64 16, .slice (some ⟨B + 4, 0, none⟩) 3 3, .slice (some ⟨B + 7, 0, none⟩) 2 2, .int .i64 6, .slice (some ⟨B + 8, 0, none⟩) 3 3, .slice (some ⟨B + 9, 0, none⟩) 1 1, .int .i64 10, .int .i64 6, .int .i64 2] 27)) (k := w2.heap.size) (by simp)
      rw [← hW'] at hx hcf
      rw [← hW']
      exact ⟨cV14 D, ⟨.slice (some ⟨B + 4, 0, none⟩) 3 3, .slice (some ⟨B + 7, 0, none⟩) 2 2, .slice (some ⟨B + 8, 0, none⟩) 3 3, .slice (some ⟨B + 9, 0, none⟩) 1 1⟩, ⟨hcf, ⟨rdp3 (hC.at hp.h4 (by omega)) (rdn_blk (L := [0, 1, 2]) (hC.at hp.h1 (by omega)) rfl (by unfold maxLen; simp)) (rdn_blk (L := [3, 4]) (hC.at hp.h2 (by omega)) rfl (by unfold maxLen; simp)) (rdn_blk (L := [5, 6]) (hC.at hp.h3 (by omega)) rfl (by unfold maxLen; simp)), rdd2 (hC.at hp.h7 (by omega)) (rdn_blk (L := [8, 9, 10]) (hC.at hp.h5 (by omega)) rfl (by unfold maxLen; simp)) (rdn_blk (L := [5, 12]) hx rfl (by unfold maxLen; simp)), rdw3 (hC.at hp.h8 (by omega)), rdg_one (hC.at hp.h9 (by omega))⟩⟩, noV14 D, C2.out.trans' hC (fun k hk e => by have := S1.out; omega)⟩
    · go_wp2_with fail
      go_meet
      have hp := HP.out
      obtain ⟨W', hW'⟩ : ∃ W, W = w2.alloc (.cells #[.int .i64 16, .slice (some ⟨B + 4, 0, none⟩) 3 3, .slice (some ⟨B + 7, 0, none⟩) 2 2, .int .i64 6, .slice (some ⟨B + 8, 0, none⟩) 2 3, .slice (some ⟨B + 9, 0, none⟩) 1 1, .int .i64 10, .int .i64 6, .int .i64 2] 27) := ⟨_, rfl⟩
      have hC : Chg (fun _ => False) w2 W' := by rw [hW']; exact (Chg.refl _ _).alloc _
      have hcf := blk_new w2 (.cells #[.int .i64 16, .slice (some ⟨B + 4, 0, none⟩) 3 3, .slice (some ⟨B + 7, 0, none⟩) 2 2, .int .i64 6, .slice (some ⟨B + 8, 0, none⟩) 2 3, .slice (some ⟨B + 9, 0, none⟩) 1 1, .int .i64 10, .int .i64 6, .int .i64 2] 27)
      rw [← hW'] at hcf
      rw [← hW']
      exact ⟨cV15 D, ⟨.slice (some ⟨B + 4, 0, none⟩) 3 3, .slice (some ⟨B + 7, 0, none⟩) 2 2, .slice (some ⟨B + 8, 0, none⟩) 2 3, .slice (some ⟨B + 9, 0, none⟩) 1 1⟩, ⟨hcf, ⟨rdp3 (hC.at hp.h4 id) (rdn_blk (L := [0, 1, 2]) (hC.at hp.h1 id) rfl (by unfold maxLen; simp)) (rdn_blk (L := [3, 4]) (hC.at hp.h2 id) rfl (by unfold maxLen; simp)) (rdn_blk (L := [5, 6]) (hC.at hp.h3 id) rfl (by unfold maxLen; simp)), rdd2 (hC.at hp.h7 id) (rdn_blk (L := [8, 9, 10]) (hC.at hp.h5 id) rfl (by unfold maxLen; simp)) (rdn_blk (L := [11, 12]) (hC.at hp.h6 id) rfl (by unfold maxLen; simp)), rdw2 (hC.at hp.h8 id), rdg_one (hC.at hp.h9 id)⟩⟩, noV15 D, C2.out.trans hC⟩
    · go_wp2_with fail
      go_meet
      have hp := HP.out
      obtain ⟨W', hW'⟩ : ∃ W, W = w2.alloc (.cells #[.int .i64 16, .slice (some ⟨B + 4, 0, none⟩) 3 3, .slice (some ⟨B + 7, 0, none⟩) 2 2, .int .i64 5, .slice (some ⟨B + 8, 0, none⟩) 3 3, .slice (some ⟨B + 9, 0, none⟩) 1 1, .int .i64 10, .int .i64 6, .int .i64 2] 27) := ⟨_, rfl⟩
      have hC : Chg (fun _ => False) w2 W' := by rw [hW']; exact (Chg.refl _ _).alloc _
      have hcf := blk_new w2 (.cells #[.int .i64 16, .slice (some ⟨B + 4, 0, none⟩) 3 3, .slice (some ⟨B + 7, 0, none⟩) 2 2, .int .i64 5, .slice (some ⟨B + 8, 0, none⟩) 3 3, .slice (some ⟨B + 9, 0, none⟩) 1 1, .int .i64 10, .int .i64 6, .int .i64 2] 27)
      rw [← hW'] at hcf
      rw [← hW']
      exact ⟨cV16 D, ⟨.slice (some ⟨B + 4, 0, none⟩) 3 3, .slice (some ⟨B + 7, 0, none⟩) 2 2, .slice (some ⟨B + 8, 0, none⟩) 3 3, .slice (some ⟨B + 9, 0, none⟩) 1 1⟩, ⟨hcf, ⟨rdp3 (hC.at hp.h4 id) (rdn_blk (L := [0, 1, 2]) (hC.at hp.h1 id) rfl (by unfold maxLen; simp)) (rdn_blk (L := [3, 4]) (hC.at hp.h2 id) rfl (by unfold maxLen; simp)) (rdn_blk (L := [5, 6]) (hC.at hp.h3 id) rfl (by unfold maxLen; simp)), rdd2 (hC.at hp.h7 id) (rdn_blk (L := [8, 9, 10]) (hC.at hp.h5 id) rfl (by unfold maxLen; simp)) (rdn_blk (L := [11, 12]) (hC.at hp.h6 id) rfl (by unfold maxLen; simp)), rdw3 (hC.at hp.h8 id), rdg_one (hC.at hp.h9 id)⟩⟩, noV16 D, C2.out.trans hC⟩
    · have z0 := blk_cell HP.out.h9 0
      have fz0 := blk_free HP.out.h9 0
      have lz0 := lt_of_heap HP.out.h9
      simp only [List.getElem?_toArray, List.getElem?_cons_zero, List.getElem?_cons_succ] at z0
      go_wp2_with fail
      go_meet
      clear z0 lz0
      have hp := HP.out
      obtain ⟨W', hW'⟩ : ∃ W, W = ((w2.setCell ⟨B + 9, 0, none⟩ (.int .i64 7)).alloc (.cells #[.int .i64 16, .slice (some ⟨B + 4, 0, none⟩) 3 3, .slice (some ⟨B + 7, 0, none⟩) 2 2, .int .i64 6, .slice (some ⟨B + 8, 0, none⟩) 3 3, .slice (some ⟨B + 9, 0, none⟩) 1 1, .int .i64 10, .int .i64 6, .int .i64 2] 27)) := ⟨_, rfl⟩
      have hC : Chg (fun k => k = B + 9) w2 W' := by rw [hW']; exact (((Chg.refl (fun k => k = B + 9) w2).set1 (i := 0) (.int .i64 7)).alloc _)
      have hx := blk_alloc (blk_set HP.out.h9 0 (.int .i64 7)) (.cells #[.int .i64 16, .slice (some ⟨B + 4, 0, none⟩) 3 3, .slice (some ⟨B + 7, 0, none⟩) 2 2, .int .i64 6, .slice (some ⟨B + 8, 0, none⟩) 3 3, .slice (some ⟨B + 9, 0, none⟩) 1 1, .int .i64 10, .int .i64 6, .int .i64 2] 27)
      have hcf := alloc_at (w := w2.setCell ⟨B + 9, 0, none⟩ (.int .i64 7)) (o := (.cells #[.int .i64 16, .slice (some ⟨B + 4, 0, none⟩) 3 3, .slice (some ⟨B + 7, 0, none⟩) 2 2, .int .i64 6, .slice (some ⟨B + 8, 0, none⟩) 3 3, .slice (some ⟨B + 9, 0, none⟩) 1 1, .int .i64 10, .int .i64 6, .int .i64 2] 27)) (k := w2.heap.size) (by simp)
      rw [← hW'] at hx hcf
      rw [← hW']
      exact ⟨cV17 D, ⟨.slice (some ⟨B + 4, 0, none⟩) 3 3, .slice (some ⟨B + 7, 0, none⟩) 2 2, .slice (some ⟨B + 8, 0, none⟩) 3 3, .slice (some ⟨B + 9, 0, none⟩) 1 1⟩, ⟨hcf, ⟨rdp3 (hC.at hp.h4 (by omega)) (rdn_blk (L := [0, 1, 2]) (hC.at hp.h1 (by omega)) rfl (by unfold maxLen; simp)) (rdn_blk (L := [3, 4]) (hC.at hp.h2 (by omega)) rfl (by unfold maxLen; simp)) (rdn_blk (L := [5, 6]) (hC.at hp.h3 (by omega)) rfl (by unfold maxLen; simp)), rdd2 (hC.at hp.h7 (by omega)) (rdn_blk (L := [8, 9, 10]) (hC.at hp.h5 (by omega)) rfl (by unfold maxLen; simp)) (rdn_blk (L := [11, 12]) (hC.at hp.h6 (by omega)) rfl (by unfold maxLen; simp)), rdw3 (hC.at hp.h8 (by omega)), rdg_one hx⟩⟩, noV17 D, C2.out.trans' hC (fun k hk e => by have := S1.out; omega)⟩
    · have z0 := blk_cell HP.out.h9 0
      have fz0 := blk_free HP.out.h9 0
      have lz0 := lt_of_heap HP.out.h9
      simp only [List.getElem?_toArray, List.getElem?_cons_zero, List.getElem?_cons_succ] at z0
      go_wp2_with fail
      go_meet
      clear z0 lz0
      have hp := HP.out
      obtain ⟨W', hW'⟩ : ∃ W, W = ((w2.setCell ⟨B + 9, 0, none⟩ (.int .i64 8)).alloc (.cells #[.int .i64 16, .slice (some ⟨B + 4, 0, none⟩) 3 3, .slice (some ⟨B + 7, 0, none⟩) 2 2, .int .i64 6, .slice (some ⟨B + 8, 0, none⟩) 3 3, .slice (some ⟨B + 9, 0, none⟩) 1 1, .int .i64 10, .int .i64 6, .int .i64 2] 27)) := ⟨_, rfl⟩
      have hC : Chg (fun k => k = B + 9) w2 W' := by rw [hW']; exact (((Chg.refl (fun k => k = B + 9) w2).set1 (i := 0) (.int .i64 8)).alloc _)
      have hx := blk_alloc (blk_set HP.out.h9 0 (.int .i64 8)) (.cells #[.int .i64 16, .slice (some ⟨B + 4, 0, none⟩) 3 3, .slice (some ⟨B + 7, 0, none⟩) 2 2, .int .i64 6, .slice (some ⟨B + 8, 0, none⟩) 3 3, .slice (some ⟨B + 9, 0, none⟩) 1 1, .int .i64 10, .int .i64 6, .int .i64 2] 27)
      have hcf := alloc_at (w := w2.setCell ⟨B + 9, 0, none⟩ (.int .i64 8)) (o := (.cells #[.int .i64 16, .slice (some ⟨B + 4, 0, none⟩) 3 3, .slice (some ⟨B + 7, 0, none⟩) 2 2, .int .i64 6, .slice (some ⟨B + 8, 0, none⟩) 3 3, .slice (some ⟨B + 9, 0, none⟩) 1 1, .int .i64 10, .int .i64 6, .int .i64 2] 27)) (k := w2.heap.size) (by simp)
      rw [← hW'] at hx hcf
      rw [← hW']
      exact ⟨cV18 D, ⟨.slice (some ⟨B + 4, 0, none⟩) 3 3, .slice (some ⟨B + 7, 0, none⟩) 2 2, .slice (some ⟨B + 8, 0, none⟩) 3 3, .slice (some ⟨B + 9, 0, none⟩) 1 1⟩, ⟨hcf, ⟨rdp3 (hC.at hp.h4 (by omega)) (rdn_blk (L := [0, 1, 2]) (hC.at hp.h1 (by omega)) rfl (by unfold maxLen; simp)) (rdn_blk (L := [3, 4]) (hC.at hp.h2 (by omega)) rfl (by unfold maxLen; simp)) (rdn_blk (L := [5, 6]) (hC.at hp.h3 (by omega)) rfl (by unfold maxLen; simp)), rdd2 (hC.at hp.h7 (by omega)) (rdn_blk (L := [8, 9, 10]) (hC.at hp.h5 (by omega)) rfl (by unfold maxLen; simp)) (rdn_blk (L := [11, 12]) (hC.at hp.h6 (by omega)) rfl (by unfold maxLen; simp)), rdw3 (hC.at hp.h8 (by omega)), rdg_one hx⟩⟩, noV18 D, C2.out.trans' hC (fun k hk e => by have := S1.out; omega)⟩
    · have z0 := blk_cell HP.out.h9 1
      have fz0 := blk_free HP.out.h9 1
      have lz0 := lt_of_heap HP.out.h9
      simp only [List.getElem?_toArray, List.getElem?_cons_zero, List.getElem?_cons_succ] at z0
      go_wp2_with fail
      go_meet
      clear z0 lz0
      have hp := HP.out
      obtain ⟨W', hW'⟩ : ∃ W, W = ((w2.setCell ⟨B + 9, 1, none⟩ (.int .i64 (2 + D))).alloc (.cells #[.int .i64 16, .slice (some ⟨B + 4, 0, none⟩) 3 3, .slice (some ⟨B + 7, 0, none⟩) 2 2, .int .i64 6, .slice (some ⟨B + 8, 0, none⟩) 3 3, .slice (some ⟨B + 9, 0, none⟩) 1 1, .int .i64 10, .int .i64 6, .int .i64 2] 27)) := ⟨_, rfl⟩
      have hC : Chg (fun k => k = B + 9) w2 W' := by rw [hW']; exact (((Chg.refl (fun k => k = B + 9) w2).set1 (i := 1) (.int .i64 (2 + D))).alloc _)
      have hx := blk_alloc (blk_set HP.out.h9 1 (.int .i64 (2 + D))) (.cells #[.int .i64 16, .slice (some ⟨B + 4, 0, none⟩) 3 3, .slice (some ⟨B + 7, 0, none⟩) 2 2, .int .i64 6, .slice (some ⟨B + 8, 0, none⟩) 3 3, .slice (some ⟨B + 9, 0, none⟩) 1 1, .int .i64 10, .int .i64 6, .int .i64 2] 27)
      have hcf := alloc_at (w := w2.setCell ⟨B + 9, 1, none⟩ (.int .i64 (2 + D))) (o := (.cells #[.int .i64 16, .slice (some ⟨B + 4, 0, none⟩) 3 3, .slice (some ⟨B + 7, 0, none⟩) 2 2, .int .i64 6, .slice (some ⟨B + 8, 0, none⟩) 3 3, .slice (some ⟨B + 9, 0, none⟩) 1 1, .int .i64 10, .int .i64 6, .int .i64 2] 27)) (k := w2.heap.size) (by simp)
      rw [← hW'] at hx hcf
      rw [← hW']
      exact ⟨cV19 D, ⟨.slice (some ⟨B + 4, 0, none⟩) 3 3, .slice (some ⟨B + 7, 0, none⟩) 2 2, .slice (some ⟨B + 8, 0, none⟩) 3 3, .slice (some ⟨B + 9, 0, none⟩) 1 1⟩, ⟨hcf, ⟨rdp3 (hC.at hp.h4 (by omega)) (rdn_blk (L := [0, 1, 2]) (hC.at hp.h1 (by omega)) rfl (by unfold maxLen; simp)) (rdn_blk (L := [3, 4]) (hC.at hp.h2 (by omega)) rfl (by unfold maxLen; simp)) (rdn_blk (L := [5, 6]) (hC.at hp.h3 (by omega)) rfl (by unfold maxLen; simp)), rdd2 (hC.at hp.h7 (by omega)) (rdn_blk (L := [8, 9, 10]) (hC.at hp.h5 (by omega)) rfl (by unfold maxLen; simp)) (rdn_blk (L := [11, 12]) (hC.at hp.h6 (by omega)) rfl (by unfold maxLen; simp)), rdw3 (hC.at hp.h8 (by omega)), rdg_one hx⟩⟩, noV19 D d0, C2.out.trans' hC (fun k hk e => by have := S1.out; omega)⟩
    · have hgo : ∀ o, OwnC grc 3 44 (w2.alloc o) B (.slice (some ⟨B + 9, 0, none⟩) 1 1) [⟨2, 2, false⟩] := fun o => gr_own (HP.out.keepN ((Chg.refl _ _).alloc _)).h9
      have HGO := Lib.hid hgo; clear hgo
      have hbb : B ≤ w2.heap.size := Nat.le_of_lt (Nat.lt_of_le_of_lt (Nat.le_add_right _ _) (lt_of_heap HP.out.h9))
      have HBB := Lib.hid hbb; clear hbb
      obtain ⟨q0, hi0, hz0, hz1, hz2⟩ := info_parts Try.infoGr
      go_wp2_with
        (at_builtin
         refine wpList_append_row _ rfl _ _ 25 rfl B 44 q0 (.agg #[.int .i64 0, .int .i64 0, .bool false]) 3 24 Try.underlying25 hi0 hz0 hz1 hz2 rfl (by decide) (.slice (some ⟨B + 9, 0, none⟩) 1 1) 1 [.int .i64 2, .int .i64 2, .bool false] rfl ((HGO.out _).keep ((Chg.refl (fun _ => False) _).alloc _) (fun _ _ => id)) (some ⟨w2.heap.size + 1, 0, none⟩) 1 1 [.int .i64 2, .int .i64 2, .bool true] rfl rfl (rowc_blk (blk_new2 w2 (.cells #[.int .i64 16, .slice (some ⟨B + 4, 0, none⟩) 3 3, .slice (some ⟨B + 7, 0, none⟩) 2 2, .int .i64 6, .slice (some ⟨B + 8, 0, none⟩) 3 3, .slice (some ⟨B + 9, 0, none⟩) 1 1, .int .i64 10, .int .i64 6, .int .i64 2] 27) (.cells #[.int .i64 2, .int .i64 2, .bool true] 44))) (by simp [Value.oneCell']) (by unfold maxLen; omega) (by omega) (by have := HBB.out; simp; omega) ?_
         intro v5 w5 hown5 hgr hat5
         have hC : Chg (fun k => k = B + 9) w2 w5 := Chg.grown (((Chg.refl _ w2).alloc (.cells #[.int .i64 16, .slice (some ⟨B + 4, 0, none⟩) 3 3, .slice (some ⟨B + 7, 0, none⟩) 2 2, .int .i64 6, .slice (some ⟨B + 8, 0, none⟩) 3 3, .slice (some ⟨B + 9, 0, none⟩) 1 1, .int .i64 10, .int .i64 6, .int .i64 2] 27)).alloc (.cells #[.int .i64 2, .int .i64 2, .bool true] 44)) hgr (fun k hk _ => by injection hk with hk; exact hk.symm)
         have hC2 : Chg (fun k => k = B + 9) ((w2.alloc (.cells #[.int .i64 16, .slice (some ⟨B + 4, 0, none⟩) 3 3, .slice (some ⟨B + 7, 0, none⟩) 2 2, .int .i64 6, .slice (some ⟨B + 8, 0, none⟩) 3 3, .slice (some ⟨B + 9, 0, none⟩) 1 1, .int .i64 10, .int .i64 6, .int .i64 2] 27)).alloc (.cells #[.int .i64 2, .int .i64 2, .bool true] 44)) w5 := Chg.grown (Chg.refl _ _) hgr (fun k hk _ => by injection hk with hk; exact hk.symm)
         have hcb := hC2.at (blk_alloc (blk_new w2 (.cells #[.int .i64 16, .slice (some ⟨B + 4, 0, none⟩) 3 3, .slice (some ⟨B + 7, 0, none⟩) 2 2, .int .i64 6, .slice (some ⟨B + 8, 0, none⟩) 3 3, .slice (some ⟨B + 9, 0, none⟩) 1 1, .int .i64 10, .int .i64 6, .int .i64 2] 27)) (.cells #[.int .i64 2, .int .i64 2, .bool true] 44)) (by have := lt_of_heap HP.out.h9; omega)
         have hg : OwnC grc 3 44 w5 B v5 [⟨2, 2, false⟩, ⟨2, 2, true⟩] := by simpa [OwnC, grc] using hown5
         have hvb : v5.ownBlock ≠ some w2.heap.size := fun e => by have := lt_of_heap HP.out.h9; rcases hat5 with h | h <;> rw [e] at h <;> simp [Value.ownBlock] at h <;> omega
         have HVB := Lib.hid hvb
         obtain ⟨g5, c5, hv5, _⟩ := hg.form (by simp)
         replace hv5 : v5 = .slice (some ⟨g5, 0, none⟩) 2 c5 := hv5
         subst hv5
         have zc := blk_cell hcb 5
         have fc := blk_free hcb 5
         have lc := lt_of_heap hcb
         have HC := Lib.hid hC
         have HCB := Lib.hid hcb
         have HG := Lib.hid hg
         simp only [List.getElem?_toArray, List.getElem?_cons_zero, List.getElem?_cons_succ] at zc
         clear hC hC2 hcb hg hvb hown5 hgr hat5)
      go_wp2_with fail
      go_meet
      clear zc fc lc
      have hp := HP.out
      obtain ⟨W', hW'⟩ : ∃ W, W = w5.setCell ⟨w2.heap.size, 5, none⟩ (.slice (some ⟨g5, 0, none⟩) 2 c5) := ⟨_, rfl⟩
      have hS : Chg (fun k => k = w2.heap.size) w5 W' := by rw [hW']; exact (Chg.refl _ _).set1 _
      have hlt := lt_of_heap hp.h9
      have hC : Chg (fun k => k = B + 9 ∨ k = w2.heap.size) w2 W' := (HC.out.mono (fun k _ h => .inl h)).trans (hS.mono (fun k _ h => .inr h))
      have hcf := blk_set HCB.out 5 (.slice (some ⟨g5, 0, none⟩) 2 c5)
      have hg : RdG W' (.slice (some ⟨g5, 0, none⟩) 2 c5) [⟨2, 2, false⟩, ⟨2, 2, true⟩] := RdG.of (HG.out.keep hS (fun k hk e => HVB.out (by rw [hk, e]))) (mx3 2 (by omega))
      rw [← hW'] at hcf
      rw [← hW']
      exact ⟨cV20 D, ⟨.slice (some ⟨B + 4, 0, none⟩) 3 3, .slice (some ⟨B + 7, 0, none⟩) 2 2, .slice (some ⟨B + 8, 0, none⟩) 3 3, .slice (some ⟨g5, 0, none⟩) 2 c5⟩, ⟨hcf, ⟨rdp3 (hC.at hp.h4 (by omega)) (rdn_blk (L := [0, 1, 2]) (hC.at hp.h1 (by omega)) rfl (by unfold maxLen; simp)) (rdn_blk (L := [3, 4]) (hC.at hp.h2 (by omega)) rfl (by unfold maxLen; simp)) (rdn_blk (L := [5, 6]) (hC.at hp.h3 (by omega)) rfl (by unfold maxLen; simp)), rdd2 (hC.at hp.h7 (by omega)) (rdn_blk (L := [8, 9, 10]) (hC.at hp.h5 (by omega)) rfl (by unfold maxLen; simp)) (rdn_blk (L := [11, 12]) (hC.at hp.h6 (by omega)) rfl (by unfold maxLen; simp)), rdw3 (hC.at hp.h8 (by omega)), hg⟩⟩, noV20 D, C2.out.trans' hC (fun k hk e => by have := S1.out; have := S2.out; omega)⟩
    · go_wp2_with fail
      go_meet
      have hp := HP.out
      obtain ⟨W', hW'⟩ : ∃ W, W = w2.alloc (.cells #[.int .i64 16, .slice (some ⟨B + 4, 0, none⟩) 3 3, .slice (some ⟨B + 7, 0, none⟩) 2 2, .int .i64 6, .slice (some ⟨B + 8, 0, none⟩) 3 3, .slice (some ⟨B + 9, 0, none⟩) 1 1, .int .i64 9, .int .i64 6, .int .i64 2] 27) := ⟨_, rfl⟩
      have hC : Chg (fun _ => False) w2 W' := by rw [hW']; exact (Chg.refl _ _).alloc _
      have hcf := blk_new w2 (.cells #[.int .i64 16, .slice (some ⟨B + 4, 0, none⟩) 3 3, .slice (some ⟨B + 7, 0, none⟩) 2 2, .int .i64 6, .slice (some ⟨B + 8, 0, none⟩) 3 3, .slice (some ⟨B + 9, 0, none⟩) 1 1, .int .i64 9, .int .i64 6, .int .i64 2] 27)
      rw [← hW'] at hcf
      rw [← hW']
      exact ⟨cV21 D, ⟨.slice (some ⟨B + 4, 0, none⟩) 3 3, .slice (some ⟨B + 7, 0, none⟩) 2 2, .slice (some ⟨B + 8, 0, none⟩) 3 3, .slice (some ⟨B + 9, 0, none⟩) 1 1⟩, ⟨hcf, ⟨rdp3 (hC.at hp.h4 id) (rdn_blk (L := [0, 1, 2]) (hC.at hp.h1 id) rfl (by unfold maxLen; simp)) (rdn_blk (L := [3, 4]) (hC.at hp.h2 id) rfl (by unfold maxLen; simp)) (rdn_blk (L := [5, 6]) (hC.at hp.h3 id) rfl (by unfold maxLen; simp)), rdd2 (hC.at hp.h7 id) (rdn_blk (L := [8, 9, 10]) (hC.at hp.h5 id) rfl (by unfold maxLen; simp)) (rdn_blk (L := [11, 12]) (hC.at hp.h6 id) rfl (by unfold maxLen; simp)), rdw3 (hC.at hp.h8 id), rdg_one (hC.at hp.h9 id)⟩⟩, noV21 D, C2.out.trans hC⟩
    · have z0 := blk_cell HP.out.h4 13
      have fz0 := blk_free HP.out.h4 13
      have lz0 := lt_of_heap HP.out.h4
      simp only [List.getElem?_toArray, List.getElem?_cons_zero, List.getElem?_cons_succ] at z0
      go_wp2_with fail
      go_meet
      clear z0 lz0
      have hp := HP.out
      obtain ⟨W', hW'⟩ : ∃ W, W = ((w2.setCell ⟨B + 4, 13, none⟩ (.int .i64 7)).alloc (.cells #[.int .i64 16, .slice (some ⟨B + 4, 0, none⟩) 3 3, .slice (some ⟨B + 7, 0, none⟩) 2 2, .int .i64 6, .slice (some ⟨B + 8, 0, none⟩) 3 3, .slice (some ⟨B + 9, 0, none⟩) 1 1, .int .i64 10, .int .i64 6, .int .i64 2] 27)) := ⟨_, rfl⟩
      have hC : Chg (fun k => k = B + 4) w2 W' := by rw [hW']; exact (((Chg.refl (fun k => k = B + 4) w2).set1 (i := 13) (.int .i64 7)).alloc _)
      have hx := blk_alloc (blk_set HP.out.h4 13 (.int .i64 7)) (.cells #[.int .i64 16, .slice (some ⟨B + 4, 0, none⟩) 3 3, .slice (some ⟨B + 7, 0, none⟩) 2 2, .int .i64 6, .slice (some ⟨B + 8, 0, none⟩) 3 3, .slice (some ⟨B + 9, 0, none⟩) 1 1, .int .i64 10, .int .i64 6, .int .i64 2] 27)
      have hcf := alloc_at (w := w2.setCell ⟨B + 4, 13, none⟩ (.int .i64 7)) (o := (.cells #[.int .i64 16, .slice (some ⟨B + 4, 0, none⟩) 3 3, .slice (some ⟨B + 7, 0, none⟩) 2 2, .int .i64 6, .slice (some ⟨B + 8, 0, none⟩) 3 3, .slice (some ⟨B + 9, 0, none⟩) 1 1, .int .i64 10, .int .i64 6, .int .i64 2] 27)) (k := w2.heap.size) (by simp)
      rw [← hW'] at hx hcf
      rw [← hW']
      exact ⟨cV22 D, ⟨.slice (some ⟨B + 4, 0, none⟩) 3 3, .slice (some ⟨B + 7, 0, none⟩) 2 2, .slice (some ⟨B + 8, 0, none⟩) 3 3, .slice (some ⟨B + 9, 0, none⟩) 1 1⟩, ⟨hcf, ⟨rdp3 hx (rdn_blk (L := [0, 1, 2]) (hC.at hp.h1 (by omega)) rfl (by unfold maxLen; simp)) (rdn_blk (L := [3, 4]) (hC.at hp.h2 (by omega)) rfl (by unfold maxLen; simp)) (rdn_blk (L := [5, 6]) (hC.at hp.h3 (by omega)) rfl (by unfold maxLen; simp)), rdd2 (hC.at hp.h7 (by omega)) (rdn_blk (L := [8, 9, 10]) (hC.at hp.h5 (by omega)) rfl (by unfold maxLen; simp)) (rdn_blk (L := [11, 12]) (hC.at hp.h6 (by omega)) rfl (by unfold maxLen; simp)), rdw3 (hC.at hp.h8 (by omega)), rdg_one (hC.at hp.h9 (by omega))⟩⟩, noV22 D, C2.out.trans' hC (fun k hk e => by have := S1.out; omega)⟩
    · go_wp2_with fail
      go_meet
      have hp := HP.out
      obtain ⟨W', hW'⟩ : ∃ W, W = w2.alloc (.cells #[.int .i64 16, .slice (some ⟨B + 4, 0, none⟩) 3 3, .slice (some ⟨B + 7, 0, none⟩) 2 2, .int .i64 6, .slice (some ⟨B + 8, 0, none⟩) 3 3, .slice (some ⟨B + 9, 0, none⟩) 1 1, .int .i64 10, .int .i64 (64 + D), .int .i64 2] 27) := ⟨_, rfl⟩
      have hC : Chg (fun _ => False) w2 W' := by rw [hW']; exact (Chg.refl _ _).alloc _
      have hcf := blk_new w2 (.cells #[.int .i64 16, .slice (some ⟨B + 4, 0, none⟩) 3 3, .slice (some ⟨B + 7, 0, none⟩) 2 2, .int .i64 6, .slice (some ⟨B + 8, 0, none⟩) 3 3, .slice (some ⟨B + 9, 0, none⟩) 1 1, .int .i64 10, .int .i64 (64 + D), .int .i64 2] 27)
      rw [← hW'] at hcf
      rw [← hW']
      exact ⟨cV23 D, ⟨.slice (some ⟨B + 4, 0, none⟩) 3 3, .slice (some ⟨B + 7, 0, none⟩) 2 2, .slice (some ⟨B + 8, 0, none⟩) 3 3, .slice (some ⟨B + 9, 0, none⟩) 1 1⟩, ⟨hcf, ⟨rdp3 (hC.at hp.h4 id) (rdn_blk (L := [0, 1, 2]) (hC.at hp.h1 id) rfl (by unfold maxLen; simp)) (rdn_blk (L := [3, 4]) (hC.at hp.h2 id) rfl (by unfold maxLen; simp)) (rdn_blk (L := [5, 6]) (hC.at hp.h3 id) rfl (by unfold maxLen; simp)), rdd2 (hC.at hp.h7 id) (rdn_blk (L := [8, 9, 10]) (hC.at hp.h5 id) rfl (by unfold maxLen; simp)) (rdn_blk (L := [11, 12]) (hC.at hp.h6 id) rfl (by unfold maxLen; simp)), rdw3 (hC.at hp.h8 id), rdg_one (hC.at hp.h9 id)⟩⟩, noV23 D d0, C2.out.trans hC⟩
    · go_wp2_with fail
      go_meet
      have hp := HP.out
      obtain ⟨W', hW'⟩ : ∃ W, W = w2.alloc (.cells #[.int .i64 16, .slice (some ⟨B + 4, 0, none⟩) 3 3, .slice (some ⟨B + 7, 0, none⟩) 2 2, .int .i64 6, .slice (some ⟨B + 8, 0, none⟩) 3 3, .slice (some ⟨B + 9, 0, none⟩) 1 1, .int .i64 10, .int .i64 6, .int .i64 (8 + D)] 27) := ⟨_, rfl⟩
      have hC : Chg (fun _ => False) w2 W' := by rw [hW']; exact (Chg.refl _ _).alloc _
      have hcf := blk_new w2 (.cells #[.int .i64 16, .slice (some ⟨B + 4, 0, none⟩) 3 3, .slice (some ⟨B + 7, 0, none⟩) 2 2, .int .i64 6, .slice (some ⟨B + 8, 0, none⟩) 3 3, .slice (some ⟨B + 9, 0, none⟩) 1 1, .int .i64 10, .int .i64 6, .int .i64 (8 + D)] 27)
      rw [← hW'] at hcf
      rw [← hW']
      exact ⟨cV24 D, ⟨.slice (some ⟨B + 4, 0, none⟩) 3 3, .slice (some ⟨B + 7, 0, none⟩) 2 2, .slice (some ⟨B + 8, 0, none⟩) 3 3, .slice (some ⟨B + 9, 0, none⟩) 1 1⟩, ⟨hcf, ⟨rdp3 (hC.at hp.h4 id) (rdn_blk (L := [0, 1, 2]) (hC.at hp.h1 id) rfl (by unfold maxLen; simp)) (rdn_blk (L := [3, 4]) (hC.at hp.h2 id) rfl (by unfold maxLen; simp)) (rdn_blk (L := [5, 6]) (hC.at hp.h3 id) rfl (by unfold maxLen; simp)), rdd2 (hC.at hp.h7 id) (rdn_blk (L := [8, 9, 10]) (hC.at hp.h5 id) rfl (by unfold maxLen; simp)) (rdn_blk (L := [11, 12]) (hC.at hp.h6 id) rfl (by unfold maxLen; simp)), rdw3 (hC.at hp.h8 id), rdg_one (hC.at hp.h9 id)⟩⟩, noV24 D d0, C2.out.trans hC⟩
  case rest =>
    obtain ⟨C, ⟨a1, a2, a3, a4⟩, hcf, hno, hC⟩ := hcut
    have CC := Lib.hid hC; clear hC
    obtain ⟨y0, y1, y2, y3, y4, y5, y6, y7, y8⟩ := hcf.c9
    have hcR := hcf.2
    have HR : Hid (∀ W, Chg (fun _ => False) wc W → (Vs.mk a1 a2 a3 a4).R W C) := fun W h => hcR.keepN h
    have HB : Hid (∀ W, Chg (fun _ => False) wc W → CfP W w2.heap.size C ⟨a1, a2, a3, a4⟩) := fun W h => hcf.keepN h
    have N1 := Lib.hid (decide_eq_false hno)
    have N2 : Hid (∀ iw, decide (ReadsP C 0 0 1 iw) = false) := fun iw => decide_eq_false (fun h => hno h.1)
    clear hcR hcf hno HP S2 hB k0 k1
    have R0 := Lib.hid (Chg.refl (fun _ => False) wc)
    generalize w2.heap.size = Cb at *
    go_wp2_with fail
    refine (cMay C _ _ (HR.out _ R0.out)).mono ?_
    rintro e w3 ⟨rfl, k3⟩
    rw [N1.out]
    have R1 := Lib.hid (R0.out.trans k3)
    clear k3 y0 y1 y2 y3 y4 y5 y6 y7 y8
    obtain ⟨y0, y1, y2, y3, y4, y5, y6, y7, y8⟩ := (HB.out _ R1.out).c9
    go_wp2_with fail
    refine (cReads 0 0 1 C _ _ (HR.out _ R1.out)).mono ?_
    rintro e w4 ⟨rfl, k4⟩
    rw [N2.out]
    have R2 := Lib.hid (R1.out.trans k4)
    clear k4 y0 y1 y2 y3 y4 y5 y6 y7 y8
    obtain ⟨y0, y1, y2, y3, y4, y5, y6, y7, y8⟩ := (HB.out _ R2.out).c9
    go_wp2_with fail
    refine (cWrites 0 0 1 C _ _ (HR.out _ R2.out)).mono ?_
    rintro e w5 ⟨rfl, k5⟩
    rw [N2.out]
    have R3 := Lib.hid (R2.out.trans k5)
    clear k5 y0 y1 y2 y3 y4 y5 y6 y7 y8
    go_wp2_with fail
    refine (plain21 _).mono ?_
    rintro e w6 ⟨rfl, hp6, k6, s6⟩
    have R4 := Lib.hid (R3.out.trans k6)
    have HP6 := Lib.hid hp6.R
    clear k6 s6 hp6
    simp only [cfc, cPlain, sPlain]
    go_wp2_with fail
    refine (cMay cPlain (sPlain w5.heap.size) _ HP6.out).mono ?_
    rintro e w7 ⟨rfl, k7⟩
    rw [may_plain]
    have R5 := Lib.hid (R4.out.trans k7)
    clear k7
    go_wp2_with fail
    refine (num16 _ _).mono ?_
    rintro e w8 ⟨rfl, rfl⟩
    go_wp2_with fail
    go_ret
    exact ⟨rfl, CC.out.trans R5.out⟩
theorem configForms_walk (w : World) (a x : Int) : Calls Try.prog 5 #[.int .i64 a, .int .i64 x] w fun e w' => e = .returned (.bool true) ∧ Below w.heap.size w w' :=
  (configForms_c a x w).mono fun e w' ⟨h1, h2⟩ => ⟨h1, h2.below (Nat.le_refl _) (fun _ h => h.elim)⟩
end Go.Proofs.Ytncbcjjdnlmjbaa
