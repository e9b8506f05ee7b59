/- Walks over package walk: the whole walk, of the program's and of the document's. -/
import Derived.Test.YtnallfehffhaeaaWalkW
import Derived.Test.YtnallfehffhaeaaPteR
set_option linter.unusedSimpArgs false
set_option linter.unusedVariables false
namespace Go.Proofs.Ytnallfehffhaeaa
open Go.RowKit

theorem walkE_no (bs : List UInt8) (root page : Int) (h : ¬ (pageP page ∧ frameP bs root)) : walkE bs root page = ((0, 0), 500) := if_neg h
theorem walkE_leaf (bs : List UInt8) (root page : Int) (h : pageP page ∧ frameP bs root) (hl : (leafI bs root (page / 16)).2 ≠ 0) : walkE bs root page = ((0, 0), (leafI bs root (page / 16)).2) := by
  unfold walkE; rw [if_pos h]; exact if_pos hl
theorem walkE_step (bs : List UInt8) (root page : Int) (h : pageP page ∧ frameP bs root) (hl : (leafI bs root (page / 16)).2 = 0) : walkE bs root page = stepE bs (leafI bs root (page / 16)).1 (page % 16) := by
  unfold walkE; rw [if_pos h]; exact if_neg (fun h => h hl)
theorem wWalk_nil (root page : Int) (w : World) : Calls Try.prog 29 #[.pointer none, .int .i64 root, .int .i64 page] w fun e w' => e = .returned (.tuple #[.agg #[.int .i64 0, .int .i64 0], .int .i64 1]) ∧ Chg (fun _ => False) w w' := by
  go_enter Try.func29, Try.ntmps29
  go_wp2
  exact bodyPost_ret (v := .tuple #[.agg #[.int .i64 0, .int .i64 0], .int .i64 1]) (by simp [results, Try.results29, go_sem]) rfl ⟨rfl, (Chg.refl _ _).alloc _⟩

set_option maxRecDepth 100000 in
set_option maxHeartbeats 400000 in
theorem wWalk (p r : Nat) (bs : List UInt8) (root page : Int) (w : World) (h : MemAt w 93 p r bs) (hl : bs.length ≤ 4096) :
    Calls Try.prog 29 #[.pointer (some ⟨p, 0, none⟩), .int .i64 root, .int .i64 page] w fun e w' =>
      e = .returned (.tuple #[.agg #[.int .i64 (walkE bs root page).1.1, .int .i64 (walkE bs root page).1.2], .int .i64 (walkE bs root page).2]) ∧ Chg (fun _ => False) w w' := by
  by_cases hp : pageP page
  · by_cases hf : frameP bs root
    · have hf2 : 0 ≤ root ∧ root < 64 := by unfold frameP at hf; omega
      have hp2 : 0 ≤ page ∧ page < 256 := hp
      have hk2 : 0 ≤ page % 16 ∧ page % 16 < 16 := by omega
      have hp0 := hp2.1
      have hd1 : (0 : Int) ≤ page / 16 := by omega
      by_cases hc : (leafI bs root (page / 16)).2 = 0
      · have hE := Lib.hid (walkE_step bs root page ⟨hp, hf⟩ hc)
        have hfl : 0 ≤ (leafI bs root (page / 16)).1 ∧ (leafI bs root (page / 16)).1 < 64 := by
          rcases leafI_cases bs root (page / 16) with ⟨f, _, h2, h3⟩ | h2 | h2
          · rw [h2]; unfold frameP at h3; simp only; omega
          · rw [h2] at hc; exact absurd hc (by decide)
          · rw [h2] at hc; exact absurd hc (by decide)
        go_enter Try.func29, Try.ntmps29
        go_wp2_with fail
        refine (wPage_yes _ _ hp).mono ?_
        rintro e w' ⟨rfl, rfl⟩
        go_wp2_with fail
        refine (frame59_yes p r bs _ _ (h.keep (S := fun _ => False) (by repeat' (first | exact hD | exact Chg.refl _ _ | apply Chg.alloc | apply Chg.drew | apply Chg.drewN | (refine Chg.setCell ?_ (fun h => absurd h (by simp)) _))) id id) hl hf).mono ?_
        rintro e w' ⟨rfl, rfl⟩
        go_wp2_with fail
        refine (wLeaf p r bs root page _ (h.keep (S := fun _ => False) (by repeat' (first | exact hD | exact Chg.refl _ _ | apply Chg.alloc | apply Chg.drew | apply Chg.drewN | (refine Chg.setCell ?_ (fun h => absurd h (by simp)) _))) id id) hl hf2 hp2).mono ?_
        rintro e w1 ⟨rfl, hC⟩
        have hb : w1.heap[w.heap.size]? = some (.cells #[.int .i64 0, .int .i64 0] 29) := hC.at (by first | exact hb | exact blk_alloc hb _ | exact blk_alloc (blk_alloc hb _) _ | exact blk_alloc (blk_alloc (blk_alloc hb _) _) _ | (simpa using blk_new _ _) | exact blk_alloc (blk_new _ _) _ | exact blk_alloc (blk_alloc (blk_new _ _) _) _) id
        have hD : Chg (fun _ => False) w w1 := Chg.trans (S := fun _ => False) (by repeat' (first | exact hD | exact Chg.refl _ _ | apply Chg.alloc | apply Chg.drew | apply Chg.drewN | (refine Chg.setCell ?_ (fun h => absurd h (by simp)) _))) hC
        clear hC
        rw [hc]
        have HC := Lib.hid hc
        clear hc
        generalize hgl : leafI bs root (page / 16) = L at *
        have HGL := Lib.hid hgl
        clear hgl
        go_wp2_with fail
        refine (wStep p r bs L.1 (page % 16) _ (h.keep (S := fun _ => False) (by repeat' (first | exact hD | exact Chg.refl _ _ | apply Chg.alloc | apply Chg.drew | apply Chg.drewN | (refine Chg.setCell ?_ (fun h => absurd h (by simp)) _))) id id) hl hfl hk2).mono ?_
        rintro e w2 ⟨rfl, hC⟩
        replace hb : w2.heap[w.heap.size]? = some (.cells #[.int .i64 0, .int .i64 0] 29) := hC.at (by first | exact hb | exact blk_alloc hb _ | exact blk_alloc (blk_alloc hb _) _ | exact blk_alloc (blk_alloc (blk_alloc hb _) _) _ | (simpa using blk_new _ _) | exact blk_alloc (blk_new _ _) _ | exact blk_alloc (blk_alloc (blk_new _ _) _) _) id
        replace hD : Chg (fun _ => False) w w2 := Chg.trans (S := fun _ => False) (by repeat' (first | exact hD | exact Chg.refl _ _ | apply Chg.alloc | apply Chg.drew | apply Chg.drewN | (refine Chg.setCell ?_ (fun h => absurd h (by simp)) _))) hC
        clear hC
        have k0 := blk_cell hb 0
        have k1 := blk_cell hb 1
        have f0 := blk_free hb 0
        have f1 := blk_free hb 1
        have hlt : w.heap.size < w2.heap.size := lt_of_heap hb
        have hne : ¬ w.heap.size = w2.heap.size := by omega
        generalize hgs : stepE bs L.1 (page % 16) = S at *
        have HGS := Lib.hid hgs
        clear hgs
        go_wp2
        exact bodyPost_ret (v := .tuple #[.agg #[.int .i64 S.1.1, .int .i64 S.1.2], .int .i64 S.2]) (by simp [results, Try.results29, go_sem, k0, k1, hne, hlt]) rfl ⟨by rw [hE.out], (by repeat' (first | exact hD | exact Chg.refl _ _ | apply Chg.alloc | apply Chg.drew | apply Chg.drewN | (refine Chg.setCell ?_ (fun h => absurd h (by simp)) _)))⟩
      · have hE := Lib.hid (walkE_leaf bs root page ⟨hp, hf⟩ hc)
        go_enter Try.func29, Try.ntmps29
        go_wp2_with fail
        refine (wPage_yes _ _ hp).mono ?_
        rintro e w' ⟨rfl, rfl⟩
        go_wp2_with fail
        refine (frame59_yes p r bs _ _ (h.keep (S := fun _ => False) (by repeat' (first | exact hD | exact Chg.refl _ _ | apply Chg.alloc | apply Chg.drew | apply Chg.drewN | (refine Chg.setCell ?_ (fun h => absurd h (by simp)) _))) id id) hl hf).mono ?_
        rintro e w' ⟨rfl, rfl⟩
        go_wp2_with fail
        refine (wLeaf p r bs root page _ (h.keep (S := fun _ => False) (by repeat' (first | exact hD | exact Chg.refl _ _ | apply Chg.alloc | apply Chg.drew | apply Chg.drewN | (refine Chg.setCell ?_ (fun h => absurd h (by simp)) _))) id id) hl hf2 hp2).mono ?_
        rintro e w1 ⟨rfl, hC⟩
        have hb : w1.heap[w.heap.size]? = some (.cells #[.int .i64 0, .int .i64 0] 29) := hC.at (by first | exact hb | exact blk_alloc hb _ | exact blk_alloc (blk_alloc hb _) _ | exact blk_alloc (blk_alloc (blk_alloc hb _) _) _ | (simpa using blk_new _ _) | exact blk_alloc (blk_new _ _) _ | exact blk_alloc (blk_alloc (blk_new _ _) _) _) id
        have hD : Chg (fun _ => False) w w1 := Chg.trans (S := fun _ => False) (by repeat' (first | exact hD | exact Chg.refl _ _ | apply Chg.alloc | apply Chg.drew | apply Chg.drewN | (refine Chg.setCell ?_ (fun h => absurd h (by simp)) _))) hC
        clear hC
        have k0 := blk_cell hb 0
        have k1 := blk_cell hb 1
        have f0 := blk_free hb 0
        have f1 := blk_free hb 1
        have hlt : w.heap.size < w1.heap.size := lt_of_heap hb
        have hne : ¬ w.heap.size = w1.heap.size := by omega
        go_wp2
        exact bodyPost_ret (v := .tuple #[.agg #[.int .i64 0, .int .i64 0], .int .i64 (leafI bs root (page / 16)).2]) (by simp [results, Try.results29, go_sem, k0, k1, hne, hlt]) rfl ⟨by rw [hE.out], (by repeat' (first | exact hD | exact Chg.refl _ _ | apply Chg.alloc | apply Chg.drew | apply Chg.drewN | (refine Chg.setCell ?_ (fun h => absurd h (by simp)) _)))⟩
    · have hE := Lib.hid (walkE_no bs root page (fun h => hf h.2))
      go_enter Try.func29, Try.ntmps29
      go_wp2_with fail
      refine (wPage_yes _ _ hp).mono ?_
      rintro e w' ⟨rfl, rfl⟩
      go_wp2_with fail
      refine (frame59_no p r bs _ _ (h.keep (S := fun _ => False) (by repeat' (first | exact hD | exact Chg.refl _ _ | apply Chg.alloc | apply Chg.drew | apply Chg.drewN | (refine Chg.setCell ?_ (fun h => absurd h (by simp)) _))) id id) hl hf).mono ?_
      rintro e w' ⟨rfl, rfl⟩
      go_wp2
      exact bodyPost_ret (v := .tuple #[.agg #[.int .i64 0, .int .i64 0], .int .i64 500]) (by simp [results, Try.results29, go_sem]) rfl ⟨by rw [hE.out], (Chg.refl _ _).alloc _⟩
  · have hE := Lib.hid (walkE_no bs root page (fun h => hp h.1))
    go_enter Try.func29, Try.ntmps29
    go_wp2_with fail
    refine (wPage_no _ _ hp).mono ?_
    rintro e w' ⟨rfl, rfl⟩
    go_wp2
    exact bodyPost_ret (v := .tuple #[.agg #[.int .i64 0, .int .i64 0], .int .i64 500]) (by simp [results, Try.results29, go_sem]) rfl ⟨by rw [hE.out], (Chg.refl _ _).alloc _⟩

theorem stepE_bad (bs : List UInt8) (frame k : Int) (hn : 0 < (bs.length : Int) / 64) (h : okR bs frame k = false) : stepE bs frame k = ((0, 0), 502) := by
  rw [stepE_eq]
  unfold okR at h
  by_cases hc : codeG (wordK bs frame k) = 0
  · rw [hc] at h
    have hm := (entG_may _ hc).1
    have hf : ¬ (entG (wordK bs frame k)).1 < (bs.length : Int) / 64 := by simpa using h
    rw [if_neg (fun h => h hc), if_neg (by unfold mayE at hm; omega), if_neg hf]
  · rw [if_pos hc]
theorem okR_code {bs : List UInt8} {frame k : Int} (h : okR bs frame k = true) : codeG (wordK bs frame k) = 0 ∧ (entG (wordK bs frame k)).1 < (bs.length : Int) / 64 := by
  unfold okR at h; simpa using h
theorem stepE_none (bs : List UInt8) (frame k : Int) (h : okR bs frame k = true) (hp : (entG (wordK bs frame k)).2 = 0) : stepE bs frame k = ((0, 0), 501) := by
  obtain ⟨h1, h2⟩ := okR_code h
  rw [stepE_eq, if_neg (fun h => h h1), if_pos hp]
theorem stepE_good (bs : List UInt8) (frame k : Int) (h : okR bs frame k = true) (hp : (entG (wordK bs frame k)).2 ≠ 0) : stepE bs frame k = (entG (wordK bs frame k), 0) := by
  obtain ⟨h1, h2⟩ := okR_code h
  rw [stepE_eq, if_neg (fun h => h h1), if_neg hp, if_pos h2]
theorem rWalk_bad (p r : Nat) (bs : List UInt8) (root page : Int) (w : World) (h : MemAt w 71 p r bs) (hl : bs.length ≤ 4096) (hb : ¬ (pageP page ∧ frameP bs root)) :
    Calls Try.prog 80 #[.pointer (some ⟨p, 0, none⟩), .int .i64 root, .int .i64 page] w fun e w' => e = .returned (.tuple #[.agg #[.int .i64 0, .int .i64 0], .int .i64 500]) ∧ Chg (fun _ => False) w w' := by
  unfold pageP frameP at hb
  by_cases h1 : 0 ≤ page
  · by_cases h2 : page < 256
    · by_cases h3 : 0 ≤ root
      · have h4 : ¬ root < (bs.length : Int) / 64 := by omega
        have h5 : decide (root < (bs.length : Int) / 64) = false := by simpa using h4
        have h6 : (bs.length : Int) / 64 ≤ root := by omega
        clear hb
        go_enter Try.func80, Try.ntmps80
        go_wp2_with fail
        refine (rFrames p r bs _ (h.keep (S := fun _ => False) ((Chg.refl _ _).alloc _) id id) hl).mono ?_
        rintro e w' ⟨rfl, rfl⟩
        go_wp2
        exact bodyPost_ret (v := .tuple #[.agg #[.int .i64 0, .int .i64 0], .int .i64 500]) (by simp [results, Try.results80, go_sem]) rfl ⟨rfl, (Chg.refl _ _).alloc _⟩
      · clear hb
        have h7 : root < 0 := by omega
        go_enter Try.func80, Try.ntmps80
        go_wp2
        exact bodyPost_ret (v := .tuple #[.agg #[.int .i64 0, .int .i64 0], .int .i64 500]) (by simp [results, Try.results80, go_sem]) rfl ⟨rfl, (Chg.refl _ _).alloc _⟩
    · clear hb
      have h7 : 256 ≤ page := by omega
      go_enter Try.func80, Try.ntmps80
      go_wp2
      exact bodyPost_ret (v := .tuple #[.agg #[.int .i64 0, .int .i64 0], .int .i64 500]) (by simp [results, Try.results80, go_sem]) rfl ⟨rfl, (Chg.refl _ _).alloc _⟩
  · clear hb
    have h7 : page < 0 := by omega
    go_enter Try.func80, Try.ntmps80
    go_wp2
    exact bodyPost_ret (v := .tuple #[.agg #[.int .i64 0, .int .i64 0], .int .i64 500]) (by simp [results, Try.results80, go_sem]) rfl ⟨rfl, (Chg.refl _ _).alloc _⟩

set_option maxRecDepth 100000 in
set_option maxHeartbeats 800000 in
theorem rWalk (p r : Nat) (bs : List UInt8) (root page : Int) (w : World) (h : MemAt w 71 p r bs) (hl : bs.length ≤ 4096) :
    Calls Try.prog 80 #[.pointer (some ⟨p, 0, none⟩), .int .i64 root, .int .i64 page] w fun e w' =>
      e = .returned (.tuple #[.agg #[.int .i64 (walkE bs root page).1.1, .int .i64 (walkE bs root page).1.2], .int .i64 (walkE bs root page).2]) ∧ Chg (fun _ => False) w w' := by
  by_cases hpf : pageP page ∧ frameP bs root
  · obtain ⟨hp, hf⟩ := hpf
    have hf2 : 0 ≤ root ∧ root < 64 := by unfold frameP at hf; omega
    have hn : 0 < (bs.length : Int) / 64 := by unfold frameP at hf; omega
    have hp2 : 0 ≤ page ∧ page < 256 := hp
    have hk1 : 0 ≤ page / 16 ∧ page / 16 < 16 := by omega
    have hk2 : 0 ≤ page % 16 ∧ page % 16 < 16 := by omega
    have hp0 := hp2.1
    have hp9 := hp2.2
    have hr0 := hf2.1
    have hr9 : root < (bs.length : Int) / 64 := hf.2
    have e1 := rEntry p r bs root (page / 16)
    by_cases ho : okR bs root (page / 16) = true
    · rw [ho] at e1
      by_cases hz : (entG (wordK bs root (page / 16))).2 = 0
      · have hE : walkE bs root page = ((0, 0), 501) := by
          have hs := stepE_none _ _ _ ho hz
          have hl : leafI bs root (page / 16) = (0, 501) := by unfold leafI; rw [hs]; rfl
          rw [walkE_leaf _ _ _ ⟨hp, hf⟩ (by rw [hl]; decide), hl]
        have HE := Lib.hid hE
        rw [hz] at e1
        have E1 := Lib.hid e1
        generalize (entG (wordK bs root (page / 16))).1 = g1 at *
        clear hE e1 ho hz hk2
        go_enter Try.func80, Try.ntmps80
        go_wp2_with fail
        refine (rFrames p r bs _ (h.keep (S := fun _ => False) (by repeat' (first | exact Chg.refl _ _ | apply Chg.alloc | apply Chg.drew | apply Chg.drewN | (refine Chg.setCell ?_ (fun h => absurd h (by simp)) _))) id id) hl).mono ?_
        rintro e w' ⟨rfl, rfl⟩
        go_wp2_with fail
        refine (E1.out _ (h.keep (S := fun _ => False) (by repeat' (first | exact hD | exact Chg.refl _ _ | apply Chg.alloc | apply Chg.drew | apply Chg.drewN | (refine Chg.setCell ?_ (fun h => absurd h (by simp)) _))) id id) hl hf2 hk1).mono ?_
        rintro e w1 ⟨rfl, hC⟩
        have hb : w1.heap[w.heap.size]? = some (.cells #[.int .i64 0, .int .i64 0] 29) := hC.at (by first | exact hb | exact blk_alloc hb _ | exact blk_alloc (blk_alloc hb _) _ | exact blk_alloc (blk_alloc (blk_alloc hb _) _) _ | (simpa using blk_new _ _) | exact blk_alloc (blk_new _ _) _ | exact blk_alloc (blk_alloc (blk_new _ _) _) _) id
        have hD : Chg (fun _ => False) w w1 := Chg.trans (S := fun _ => False) (by repeat' (first | exact hD | exact Chg.refl _ _ | apply Chg.alloc | apply Chg.drew | apply Chg.drewN | (refine Chg.setCell ?_ (fun h => absurd h (by simp)) _))) hC
        clear hC
        have k0 := blk_cell hb 0
        have k1 := blk_cell hb 1
        have f0 := blk_free hb 0
        have f1 := blk_free hb 1
        have hlt : w.heap.size < w1.heap.size := lt_of_heap hb
        have hne : ¬ w.heap.size = w1.heap.size := by omega
        go_wp2
        exact bodyPost_ret (v := .tuple #[.agg #[.int .i64 0, .int .i64 0], .int .i64 501]) (by simp [results, Try.results80, go_sem, k0, k1, hne, hlt]) rfl ⟨by rw [HE.out], (by repeat' (first | exact hD | exact Chg.refl _ _ | apply Chg.alloc | apply Chg.drew | apply Chg.drewN | (refine Chg.setCell ?_ (fun h => absurd h (by simp)) _)))⟩
      · by_cases h3 : (entG (wordK bs root (page / 16))).2 = 3
        · have hs := stepE_good _ _ _ ho hz
          have hlf : leafI bs root (page / 16) = ((entG (wordK bs root (page / 16))).1, 0) := by
            unfold leafI; rw [hs]; simp [h3]
          have hE : walkE bs root page = stepE bs (entG (wordK bs root (page / 16))).1 (page % 16) := by
            rw [walkE_step _ _ _ ⟨hp, hf⟩ (by rw [hlf]), hlf]
          have hgf : 0 ≤ (entG (wordK bs root (page / 16))).1 ∧ (entG (wordK bs root (page / 16))).1 < 64 := by
            have h1 := okR_code ho
            have h2 := (entG_may _ h1.1).1
            unfold mayE at h2; omega
          rw [h3] at e1
          have E1 := Lib.hid e1
          generalize (entG (wordK bs root (page / 16))).1 = g1 at *
          have e2 := rEntry p r bs g1 (page % 16)
          clear hs hlf e1 ho hz h3
          by_cases ho2 : okR bs g1 (page % 16) = true
          · rw [ho2] at e2
            by_cases hz2 : (entG (wordK bs g1 (page % 16))).2 = 0
            · have HE := Lib.hid (hE.trans (stepE_none _ _ _ ho2 hz2))
              rw [hz2] at e2
              have E2 := Lib.hid e2
              generalize (entG (wordK bs g1 (page % 16))).1 = g2 at *
              clear hE e2 ho2 hz2
              go_enter Try.func80, Try.ntmps80
              go_wp2_with fail
              refine (rFrames p r bs _ (h.keep (S := fun _ => False) (by repeat' (first | exact Chg.refl _ _ | apply Chg.alloc | apply Chg.drew | apply Chg.drewN | (refine Chg.setCell ?_ (fun h => absurd h (by simp)) _))) id id) hl).mono ?_
              rintro e w' ⟨rfl, rfl⟩
              go_wp2_with fail
              refine (E1.out _ (h.keep (S := fun _ => False) (by repeat' (first | exact hD | exact Chg.refl _ _ | apply Chg.alloc | apply Chg.drew | apply Chg.drewN | (refine Chg.setCell ?_ (fun h => absurd h (by simp)) _))) id id) hl hf2 hk1).mono ?_
              rintro e w1 ⟨rfl, hC⟩
              have hb : w1.heap[w.heap.size]? = some (.cells #[.int .i64 0, .int .i64 0] 29) := hC.at (by first | exact hb | exact blk_alloc hb _ | exact blk_alloc (blk_alloc hb _) _ | exact blk_alloc (blk_alloc (blk_alloc hb _) _) _ | (simpa using blk_new _ _) | exact blk_alloc (blk_new _ _) _ | exact blk_alloc (blk_alloc (blk_new _ _) _) _) id
              have hD : Chg (fun _ => False) w w1 := Chg.trans (S := fun _ => False) (by repeat' (first | exact hD | exact Chg.refl _ _ | apply Chg.alloc | apply Chg.drew | apply Chg.drewN | (refine Chg.setCell ?_ (fun h => absurd h (by simp)) _))) hC
              clear hC
              go_wp2_with fail
              refine (E2.out _ (h.keep (S := fun _ => False) (by repeat' (first | exact hD | exact Chg.refl _ _ | apply Chg.alloc | apply Chg.drew | apply Chg.drewN | (refine Chg.setCell ?_ (fun h => absurd h (by simp)) _))) id id) hl hgf hk2).mono ?_
              rintro e w2 ⟨rfl, hC⟩
              replace hb : w2.heap[w.heap.size]? = some (.cells #[.int .i64 0, .int .i64 0] 29) := hC.at (by first | exact hb | exact blk_alloc hb _ | exact blk_alloc (blk_alloc hb _) _ | exact blk_alloc (blk_alloc (blk_alloc hb _) _) _ | (simpa using blk_new _ _) | exact blk_alloc (blk_new _ _) _ | exact blk_alloc (blk_alloc (blk_new _ _) _) _) id
              replace hD : Chg (fun _ => False) w w2 := Chg.trans (S := fun _ => False) (by repeat' (first | exact hD | exact Chg.refl _ _ | apply Chg.alloc | apply Chg.drew | apply Chg.drewN | (refine Chg.setCell ?_ (fun h => absurd h (by simp)) _))) hC
              clear hC
              have k0 := blk_cell hb 0
              have k1 := blk_cell hb 1
              have f0 := blk_free hb 0
              have f1 := blk_free hb 1
              have hlt : w.heap.size < w2.heap.size := lt_of_heap hb
              have hne : ¬ w.heap.size = w2.heap.size := by omega
              go_wp2
              exact bodyPost_ret (v := .tuple #[.agg #[.int .i64 0, .int .i64 0], .int .i64 501]) (by simp [results, Try.results80, go_sem, k0, k1, hne, hlt]) rfl ⟨by rw [HE.out], (by repeat' (first | exact hD | exact Chg.refl _ _ | apply Chg.alloc | apply Chg.drew | apply Chg.drewN | (refine Chg.setCell ?_ (fun h => absurd h (by simp)) _)))⟩
            · have HE := Lib.hid (hE.trans (stepE_good _ _ _ ho2 hz2))
              have E2 := Lib.hid e2
              generalize entG (wordK bs g1 (page % 16)) = g2 at *
              clear hE e2 ho2
              go_enter Try.func80, Try.ntmps80
              go_wp2_with fail
              refine (rFrames p r bs _ (h.keep (S := fun _ => False) (by repeat' (first | exact Chg.refl _ _ | apply Chg.alloc | apply Chg.drew | apply Chg.drewN | (refine Chg.setCell ?_ (fun h => absurd h (by simp)) _))) id id) hl).mono ?_
              rintro e w' ⟨rfl, rfl⟩
              go_wp2_with fail
              refine (E1.out _ (h.keep (S := fun _ => False) (by repeat' (first | exact hD | exact Chg.refl _ _ | apply Chg.alloc | apply Chg.drew | apply Chg.drewN | (refine Chg.setCell ?_ (fun h => absurd h (by simp)) _))) id id) hl hf2 hk1).mono ?_
              rintro e w1 ⟨rfl, hC⟩
              have hb : w1.heap[w.heap.size]? = some (.cells #[.int .i64 0, .int .i64 0] 29) := hC.at (by first | exact hb | exact blk_alloc hb _ | exact blk_alloc (blk_alloc hb _) _ | exact blk_alloc (blk_alloc (blk_alloc hb _) _) _ | (simpa using blk_new _ _) | exact blk_alloc (blk_new _ _) _ | exact blk_alloc (blk_alloc (blk_new _ _) _) _) id
              have hD : Chg (fun _ => False) w w1 := Chg.trans (S := fun _ => False) (by repeat' (first | exact hD | exact Chg.refl _ _ | apply Chg.alloc | apply Chg.drew | apply Chg.drewN | (refine Chg.setCell ?_ (fun h => absurd h (by simp)) _))) hC
              clear hC
              go_wp2_with fail
              refine (E2.out _ (h.keep (S := fun _ => False) (by repeat' (first | exact hD | exact Chg.refl _ _ | apply Chg.alloc | apply Chg.drew | apply Chg.drewN | (refine Chg.setCell ?_ (fun h => absurd h (by simp)) _))) id id) hl hgf hk2).mono ?_
              rintro e w2 ⟨rfl, hC⟩
              replace hb : w2.heap[w.heap.size]? = some (.cells #[.int .i64 0, .int .i64 0] 29) := hC.at (by first | exact hb | exact blk_alloc hb _ | exact blk_alloc (blk_alloc hb _) _ | exact blk_alloc (blk_alloc (blk_alloc hb _) _) _ | (simpa using blk_new _ _) | exact blk_alloc (blk_new _ _) _ | exact blk_alloc (blk_alloc (blk_new _ _) _) _) id
              replace hD : Chg (fun _ => False) w w2 := Chg.trans (S := fun _ => False) (by repeat' (first | exact hD | exact Chg.refl _ _ | apply Chg.alloc | apply Chg.drew | apply Chg.drewN | (refine Chg.setCell ?_ (fun h => absurd h (by simp)) _))) hC
              clear hC
              have k0 := blk_cell hb 0
              have k1 := blk_cell hb 1
              have f0 := blk_free hb 0
              have f1 := blk_free hb 1
              have hlt : w.heap.size < w2.heap.size := lt_of_heap hb
              have hne : ¬ w.heap.size = w2.heap.size := by omega
              go_wp2
              exact bodyPost_ret (v := .tuple #[.agg #[.int .i64 g2.1, .int .i64 g2.2], .int .i64 0]) (by simp [results, Try.results80, go_sem, k0, k1, hne, hlt]) rfl ⟨by rw [HE.out], (by repeat' (first | exact hD | exact Chg.refl _ _ | apply Chg.alloc | apply Chg.drew | apply Chg.drewN | (refine Chg.setCell ?_ (fun h => absurd h (by simp)) _)))⟩
          · have ho2' : okR bs g1 (page % 16) = false := by simpa using ho2
            rw [ho2'] at e2
            have HE := Lib.hid (hE.trans (stepE_bad _ _ _ hn ho2'))
            have E2 := Lib.hid e2
            generalize entG (wordK bs g1 (page % 16)) = g2 at *
            clear hE e2 ho2 ho2'
            go_enter Try.func80, Try.ntmps80
            go_wp2_with fail
            refine (rFrames p r bs _ (h.keep (S := fun _ => False) (by repeat' (first | exact Chg.refl _ _ | apply Chg.alloc | apply Chg.drew | apply Chg.drewN | (refine Chg.setCell ?_ (fun h => absurd h (by simp)) _))) id id) hl).mono ?_
            rintro e w' ⟨rfl, rfl⟩
            go_wp2_with fail
            refine (E1.out _ (h.keep (S := fun _ => False) (by repeat' (first | exact hD | exact Chg.refl _ _ | apply Chg.alloc | apply Chg.drew | apply Chg.drewN | (refine Chg.setCell ?_ (fun h => absurd h (by simp)) _))) id id) hl hf2 hk1).mono ?_
            rintro e w1 ⟨rfl, hC⟩
            have hb : w1.heap[w.heap.size]? = some (.cells #[.int .i64 0, .int .i64 0] 29) := hC.at (by first | exact hb | exact blk_alloc hb _ | exact blk_alloc (blk_alloc hb _) _ | exact blk_alloc (blk_alloc (blk_alloc hb _) _) _ | (simpa using blk_new _ _) | exact blk_alloc (blk_new _ _) _ | exact blk_alloc (blk_alloc (blk_new _ _) _) _) id
            have hD : Chg (fun _ => False) w w1 := Chg.trans (S := fun _ => False) (by repeat' (first | exact hD | exact Chg.refl _ _ | apply Chg.alloc | apply Chg.drew | apply Chg.drewN | (refine Chg.setCell ?_ (fun h => absurd h (by simp)) _))) hC
            clear hC
            go_wp2_with fail
            refine (E2.out _ (h.keep (S := fun _ => False) (by repeat' (first | exact hD | exact Chg.refl _ _ | apply Chg.alloc | apply Chg.drew | apply Chg.drewN | (refine Chg.setCell ?_ (fun h => absurd h (by simp)) _))) id id) hl hgf hk2).mono ?_
            rintro e w2 ⟨rfl, hC⟩
            replace hb : w2.heap[w.heap.size]? = some (.cells #[.int .i64 0, .int .i64 0] 29) := hC.at (by first | exact hb | exact blk_alloc hb _ | exact blk_alloc (blk_alloc hb _) _ | exact blk_alloc (blk_alloc (blk_alloc hb _) _) _ | (simpa using blk_new _ _) | exact blk_alloc (blk_new _ _) _ | exact blk_alloc (blk_alloc (blk_new _ _) _) _) id
            replace hD : Chg (fun _ => False) w w2 := Chg.trans (S := fun _ => False) (by repeat' (first | exact hD | exact Chg.refl _ _ | apply Chg.alloc | apply Chg.drew | apply Chg.drewN | (refine Chg.setCell ?_ (fun h => absurd h (by simp)) _))) hC
            clear hC
            have k0 := blk_cell hb 0
            have k1 := blk_cell hb 1
            have f0 := blk_free hb 0
            have f1 := blk_free hb 1
            have hlt : w.heap.size < w2.heap.size := lt_of_heap hb
            have hne : ¬ w.heap.size = w2.heap.size := by omega
            go_wp2
            exact bodyPost_ret (v := .tuple #[.agg #[.int .i64 0, .int .i64 0], .int .i64 502]) (by simp [results, Try.results80, go_sem, k0, k1, hne, hlt]) rfl ⟨by rw [HE.out], (by repeat' (first | exact hD | exact Chg.refl _ _ | apply Chg.alloc | apply Chg.drew | apply Chg.drewN | (refine Chg.setCell ?_ (fun h => absurd h (by simp)) _)))⟩
        · have hE : walkE bs root page = ((0, 0), 502) := by
            have hs := stepE_good _ _ _ ho hz
            have hl : leafI bs root (page / 16) = (0, 502) := by unfold leafI; rw [hs]; simp [h3]
            rw [walkE_leaf _ _ _ ⟨hp, hf⟩ (by rw [hl]; decide), hl]
          have HE := Lib.hid hE
          have E1 := Lib.hid e1
          generalize entG (wordK bs root (page / 16)) = g1 at *
          have hz1 : (g1.2 != 0) = true := bne_iff_ne.2 hz
          have hz2 : (g1.2 != 3) = true := bne_iff_ne.2 h3
          have hz3 : (g1.2 == 0) = false := beq_eq_false_iff_ne.2 hz
          have hz4 : (g1.2 == 3) = false := beq_eq_false_iff_ne.2 h3
          clear hE e1 ho hk2
          go_enter Try.func80, Try.ntmps80
          go_wp2_with fail
          refine (rFrames p r bs _ (h.keep (S := fun _ => False) (by repeat' (first | exact Chg.refl _ _ | apply Chg.alloc | apply Chg.drew | apply Chg.drewN | (refine Chg.setCell ?_ (fun h => absurd h (by simp)) _))) id id) hl).mono ?_
          rintro e w' ⟨rfl, rfl⟩
          go_wp2_with fail
          refine (E1.out _ (h.keep (S := fun _ => False) (by repeat' (first | exact hD | exact Chg.refl _ _ | apply Chg.alloc | apply Chg.drew | apply Chg.drewN | (refine Chg.setCell ?_ (fun h => absurd h (by simp)) _))) id id) hl hf2 hk1).mono ?_
          rintro e w1 ⟨rfl, hC⟩
          have hb : w1.heap[w.heap.size]? = some (.cells #[.int .i64 0, .int .i64 0] 29) := hC.at (by first | exact hb | exact blk_alloc hb _ | exact blk_alloc (blk_alloc hb _) _ | exact blk_alloc (blk_alloc (blk_alloc hb _) _) _ | (simpa using blk_new _ _) | exact blk_alloc (blk_new _ _) _ | exact blk_alloc (blk_alloc (blk_new _ _) _) _) id
          have hD : Chg (fun _ => False) w w1 := Chg.trans (S := fun _ => False) (by repeat' (first | exact hD | exact Chg.refl _ _ | apply Chg.alloc | apply Chg.drew | apply Chg.drewN | (refine Chg.setCell ?_ (fun h => absurd h (by simp)) _))) hC
          clear hC
          have k0 := blk_cell hb 0
          have k1 := blk_cell hb 1
          have f0 := blk_free hb 0
          have f1 := blk_free hb 1
          have hlt : w.heap.size < w1.heap.size := lt_of_heap hb
          have hne : ¬ w.heap.size = w1.heap.size := by omega
          go_wp2
          exact bodyPost_ret (v := .tuple #[.agg #[.int .i64 0, .int .i64 0], .int .i64 502]) (by simp [results, Try.results80, go_sem, k0, k1, hne, hlt]) rfl ⟨by rw [HE.out], (by repeat' (first | exact hD | exact Chg.refl _ _ | apply Chg.alloc | apply Chg.drew | apply Chg.drewN | (refine Chg.setCell ?_ (fun h => absurd h (by simp)) _)))⟩
    · have ho' : okR bs root (page / 16) = false := by simpa using ho
      rw [ho'] at e1
      have hE : walkE bs root page = ((0, 0), 502) := by
        have hs := stepE_bad _ _ _ hn ho'
        have hl : leafI bs root (page / 16) = (0, 502) := by unfold leafI; rw [hs]; rfl
        rw [walkE_leaf _ _ _ ⟨hp, hf⟩ (by rw [hl]; decide), hl]
      have HE := Lib.hid hE
      have E1 := Lib.hid e1
      generalize entG (wordK bs root (page / 16)) = g1 at *
      clear hE e1 ho ho' hk2
      go_enter Try.func80, Try.ntmps80
      go_wp2_with fail
      refine (rFrames p r bs _ (h.keep (S := fun _ => False) (by repeat' (first | exact Chg.refl _ _ | apply Chg.alloc | apply Chg.drew | apply Chg.drewN | (refine Chg.setCell ?_ (fun h => absurd h (by simp)) _))) id id) hl).mono ?_
      rintro e w' ⟨rfl, rfl⟩
      go_wp2_with fail
      refine (E1.out _ (h.keep (S := fun _ => False) (by repeat' (first | exact hD | exact Chg.refl _ _ | apply Chg.alloc | apply Chg.drew | apply Chg.drewN | (refine Chg.setCell ?_ (fun h => absurd h (by simp)) _))) id id) hl hf2 hk1).mono ?_
      rintro e w1 ⟨rfl, hC⟩
      have hb : w1.heap[w.heap.size]? = some (.cells #[.int .i64 0, .int .i64 0] 29) := hC.at (by first | exact hb | exact blk_alloc hb _ | exact blk_alloc (blk_alloc hb _) _ | exact blk_alloc (blk_alloc (blk_alloc hb _) _) _ | (simpa using blk_new _ _) | exact blk_alloc (blk_new _ _) _ | exact blk_alloc (blk_alloc (blk_new _ _) _) _) id
      have hD : Chg (fun _ => False) w w1 := Chg.trans (S := fun _ => False) (by repeat' (first | exact hD | exact Chg.refl _ _ | apply Chg.alloc | apply Chg.drew | apply Chg.drewN | (refine Chg.setCell ?_ (fun h => absurd h (by simp)) _))) hC
      clear hC
      have k0 := blk_cell hb 0
      have k1 := blk_cell hb 1
      have f0 := blk_free hb 0
      have f1 := blk_free hb 1
      have hlt : w.heap.size < w1.heap.size := lt_of_heap hb
      have hne : ¬ w.heap.size = w1.heap.size := by omega
      go_wp2
      exact bodyPost_ret (v := .tuple #[.agg #[.int .i64 0, .int .i64 0], .int .i64 502]) (by simp [results, Try.results80, go_sem, k0, k1, hne, hlt]) rfl ⟨by rw [HE.out], (by repeat' (first | exact hD | exact Chg.refl _ _ | apply Chg.alloc | apply Chg.drew | apply Chg.drewN | (refine Chg.setCell ?_ (fun h => absurd h (by simp)) _)))⟩
  · rw [walkE_no _ _ _ hpf]
    exact rWalk_bad p r bs root page w h hl hpf

end Go.Proofs.Ytnallfehffhaeaa
