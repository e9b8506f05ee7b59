/- Walks over package walk: a step, a leaf, a walk. -/
import Derived.Test.YtnallfehffhaeaaPteW
set_option linter.unusedSimpArgs false
set_option linter.unusedVariables false
namespace Go.Proofs.Ytnallfehffhaeaa
open Go.RowKit

theorem stepE_eq (bs : List UInt8) (frame k : Int) : stepE bs frame k =
    if codeG (wordK bs frame k) ≠ 0 then ((0, 0), 502) else if (entG (wordK bs frame k)).2 = 0 then ((0, 0), 501) else if (entG (wordK bs frame k)).1 < (bs.length : Int) / 64 then (entG (wordK bs frame k), 0) else ((0, 0), 502) := by
  unfold stepE codeG entG
  cases h : getE (wordK bs frame k) with
  | none => rfl
  | some q => obtain ⟨f, p⟩ := q; rfl
theorem entG_may (x : Int) (h : codeG x = 0) : mayE (entG x).1 (entG x).2 ∧ getE x = some (entG x) ∧ putE (entG x).1 (entG x).2 = x := by
  unfold codeG at h
  unfold entG
  cases hg : getE x with
  | none => rw [hg] at h; exact absurd h (by decide)
  | some q => obtain ⟨f, p⟩ := q; exact ⟨(getE_may hg).1, rfl, (getE_may hg).2⟩
theorem wAt (frame k : Int) (w : World) (hf : 0 ≤ frame ∧ frame < 64) (hk : 0 ≤ k ∧ k < 16) :
    Calls Try.prog 34 #[.int .i64 frame, .int .i64 k] w fun e w' => e = .returned (.int .i64 (frame * 64 + k * 4)) ∧ w = w' := by
  obtain ⟨a, b⟩ := hf
  obtain ⟨c, d⟩ := hk
  go_enter Try.func34, Try.ntmps34
  go_wp2
  go_ret
  exact ⟨rfl, rfl⟩
theorem wPage_yes (page : Int) (w : World) (h : pageP page) : Calls Try.prog 28 #[.int .i64 page] w fun e w' => e = .returned (.bool true) ∧ w = w' := by
  obtain ⟨a, b⟩ := h
  go_enter Try.func28, Try.ntmps28
  go_wp2
  go_ret
  exact ⟨rfl, rfl⟩
theorem wPage_no (page : Int) (w : World) (h : ¬ pageP page) : Calls Try.prog 28 #[.int .i64 page] w fun e w' => e = .returned (.bool false) ∧ w = w' := by
  unfold pageP at h
  by_cases h1 : 0 ≤ page
  · have h2 : decide (page < 256) = false := by simp; omega
    go_enter Try.func28, Try.ntmps28
    go_wp2
    go_ret
    exact ⟨rfl, rfl⟩
  · have h2 : decide (0 ≤ page) = false := by simp; omega
    go_enter Try.func28, Try.ntmps28
    go_wp2
    go_ret
    exact ⟨rfl, rfl⟩
def fRead (p : Nat) : Value := .func (.func 57) #[.pointer (some ⟨p, 0, none⟩)] #[]
def fThere (p : Nat) : Value := .func (.func 36) #[.pointer (some ⟨p, 0, none⟩)] #[]
set_option maxRecDepth 100000 in
theorem wStep (p r : Nat) (bs : List UInt8) (frame k : Int) (w : World) (h : MemAt w 93 p r bs) (hl : bs.length ≤ 4096) (hf : 0 ≤ frame ∧ frame < 64) (hk : 0 ≤ k ∧ k < 16) :
    Calls Try.prog 56 #[.func (.func 57) #[.pointer (some ⟨p, 0, none⟩)] #[], .func (.func 36) #[.pointer (some ⟨p, 0, none⟩)] #[], .int .i64 frame, .int .i64 k] w fun e w' =>
      e = .returned (.tuple #[.agg #[.int .i64 (stepE bs frame k).1.1, .int .i64 (stepE bs frame k).1.2], .int .i64 (stepE bs frame k).2]) ∧ Chg (fun _ => False) w w' := by
  have hwr := wordR_range bs (frame * 64 + k * 4)
  have hse := stepE_eq bs frame k
  change 0 ≤ wordK bs frame k ∧ wordK bs frame k < 4294967296 at hwr
  have hwk : wordR bs (frame * 64 + k * 4) = wordK bs frame k := rfl
  generalize stepE bs frame k = S at *
  generalize wordK bs frame k = x at *
  have HW := Lib.hid hwk; clear hwk
  have HS := Lib.hid hse; clear hse
  go_enter Try.func56, Try.ntmps56
  go_wp2_with fail
  refine (wAt _ _ _ hf hk).mono ?_
  rintro e w' ⟨rfl, rfl⟩
  go_wp2_with fail
  refine (word48 p r bs _ _ (h.keep (S := fun _ => False) ((Chg.refl _ _).alloc _) id id) hl).mono ?_
  rintro e w' ⟨rfl, rfl⟩
  rw [HW.out]
  clear HW
  go_wp2_with fail
  refine (pteGet _ _ hwr.2).mono ?_
  rintro e w2 ⟨rfl, hC⟩
  have hb := hC.new id
  have k0 := blk_cell hb 0
  have k1 := blk_cell hb 1
  have f0 := blk_free hb 0
  have f1 := blk_free hb 1
  have hM : MemAt w2 93 p r bs := h.keep (S := fun _ => False) (((Chg.refl _ _).alloc _).trans hC) id id
  have hlt : w.heap.size < w2.heap.size := by have := hC.size; simp at this; omega
  have hne : ¬ w.heap.size = w2.heap.size := by omega
  have hD := (((Chg.refl (fun _ => False) w).alloc _).trans hC)
  have hHM := Lib.hid hM; clear hM
  clear hb hC h
  by_cases hc : codeG x = 0
  · by_cases hp : (entG x).2 = 0
    · have hS : S = ((0, 0), 501) := by rw [HS.out, if_neg (fun h => h hc), if_pos hp]
      have H2 := Lib.hid hS
      clear hS HS
      go_wp2
      exact bodyPost_ret (v := .tuple #[.agg #[.int .i64 0, .int .i64 0], .int .i64 501]) (by simp [results, Try.results56, go_sem, k0, k1, hne, hlt]) rfl ⟨by rw [H2.out], (by repeat' (first | exact hD | apply Chg.alloc | apply Chg.drew | apply Chg.drewN | (refine Chg.setCell ?_ (fun h => absurd h (by simp)) _)))⟩
    · have hm := (entG_may x hc).1
      by_cases hf2 : (entG x).1 < (bs.length : Int) / 64
      · have hS : S = (entG x, 0) := by rw [HS.out, if_neg (fun h => h hc), if_neg hp, if_pos hf2]
        have H2 := Lib.hid hS
        clear hS HS
        have hfr : frameP bs (entG x).1 := by unfold mayE at hm; exact ⟨by omega, hf2⟩
        clear hm hf2
        go_wp2_with fail
        refine (frame59_yes p r bs _ _ (hHM.out.keep (S := fun _ => False) ((Chg.refl _ _).alloc _) id id) hl hfr).mono ?_
        rintro e w' ⟨rfl, rfl⟩
        go_wp2
        exact bodyPost_ret (v := .tuple #[.agg #[.int .i64 (entG x).1, .int .i64 (entG x).2], .int .i64 0]) (by simp [results, Try.results56, go_sem, k0, k1, hne, hlt]) rfl ⟨by rw [H2.out], (by repeat' (first | exact hD | apply Chg.alloc | apply Chg.drew | apply Chg.drewN | (refine Chg.setCell ?_ (fun h => absurd h (by simp)) _)))⟩
      · have hS : S = ((0, 0), 502) := by rw [HS.out, if_neg (fun h => h hc), if_neg hp, if_neg hf2]
        have H2 := Lib.hid hS
        clear hS HS
        have hfr : ¬ frameP bs (entG x).1 := fun h => hf2 h.2
        clear hm hf2
        go_wp2_with fail
        refine (frame59_no p r bs _ _ (hHM.out.keep (S := fun _ => False) ((Chg.refl _ _).alloc _) id id) hl hfr).mono ?_
        rintro e w' ⟨rfl, rfl⟩
        go_wp2
        exact bodyPost_ret (v := .tuple #[.agg #[.int .i64 0, .int .i64 0], .int .i64 502]) (by simp [results, Try.results56, go_sem, k0, k1, hne, hlt]) rfl ⟨by rw [H2.out], (by repeat' (first | exact hD | apply Chg.alloc | apply Chg.drew | apply Chg.drewN | (refine Chg.setCell ?_ (fun h => absurd h (by simp)) _)))⟩
  · have hS : S = ((0, 0), 502) := by rw [HS.out, if_pos hc]
    have H2 := Lib.hid hS
    clear hS HS
    go_wp2
    exact bodyPost_ret (v := .tuple #[.agg #[.int .i64 0, .int .i64 0], .int .i64 502]) (by simp [results, Try.results56, go_sem, k0, k1, hne, hlt]) rfl ⟨by rw [H2.out], (by repeat' (first | exact hD | apply Chg.alloc | apply Chg.drew | apply Chg.drewN | (refine Chg.setCell ?_ (fun h => absurd h (by simp)) _)))⟩

def leafV (l : Int × Int) : Value := .tuple #[.int .i64 l.1, .int .i64 l.2]
set_option maxRecDepth 100000 in
theorem wLeaf (p r : Nat) (bs : List UInt8) (root page : Int) (w : World) (h : MemAt w 93 p r bs) (hl : bs.length ≤ 4096) (hf : 0 ≤ root ∧ root < 64) (hk : 0 ≤ page ∧ page < 256) :
    Calls Try.prog 31 #[.pointer (some ⟨p, 0, none⟩), .int .i64 root, .int .i64 page] w fun e w' =>
      e = .returned (.tuple #[.int .i64 (leafI bs root (page / 16)).1, .int .i64 (leafI bs root (page / 16)).2]) ∧ Chg (fun _ => False) w w' := by
  have hle : leafI bs root (page / 16) = if (stepE bs root (page / 16)).2 ≠ 0 then (0, (stepE bs root (page / 16)).2) else if (stepE bs root (page / 16)).1.2 = 3 then ((stepE bs root (page / 16)).1.1, 0) else (0, 502) := rfl
  have hst := wStep p r bs root (page / 16) w h hl hf (by omega)
  generalize leafI bs root (page / 16) = L at *
  generalize stepE bs root (page / 16) = S at *
  obtain ⟨⟨s1, s2⟩, s3⟩ := S
  simp only at hle hst
  have HL := Lib.hid hle; clear hle
  have HS := Lib.hid hst; clear hst
  have hlt : w.heap.size = w.heap.size := rfl
  obtain ⟨hk0, hk1⟩ := hk
  clear h hlt
  by_cases hs3 : s3 = 0
  · by_cases hs2 : s2 = 3
    · have hL : L = (s1, 0) := by rw [HL.out, if_neg (fun h => h hs3), if_pos hs2]
      rw [hL]
      clear hL HL
      subst hs3 hs2
      go_enter Try.func31, Try.ntmps31
      go_wp2_with fail
      refine HS.out.mono ?_
      rintro e w2 ⟨rfl, hC⟩
      go_wp2
      go_ret2
      exact ⟨rfl, hC.alloc _⟩
    · have hL : L = (0, 502) := by rw [HL.out, if_neg (fun h => h hs3), if_neg hs2]
      rw [hL]
      clear hL HL
      subst hs3
      go_enter Try.func31, Try.ntmps31
      go_wp2_with fail
      refine HS.out.mono ?_
      rintro e w2 ⟨rfl, hC⟩
      go_wp2
      go_ret2
      exact ⟨rfl, hC.alloc _⟩
  · have hL : L = (0, s3) := by rw [HL.out, if_pos hs3]
    rw [hL]
    clear hL HL
    go_enter Try.func31, Try.ntmps31
    go_wp2_with fail
    refine HS.out.mono ?_
    rintro e w2 ⟨rfl, hC⟩
    go_wp2
    go_ret2
    exact ⟨rfl, hC.alloc _⟩
end Go.Proofs.Ytnallfehffhaeaa
