/- The walks of the two tables of vectors: sets, masks, looks. -/
import Derived.Test.YtpnhdiajiieonaaRemap2
set_option linter.unusedSimpArgs false
set_option linter.unusedVariables false
namespace Go.Proofs.Ytpnhdiajiieonaa
open Go.RowKit

theorem TabAt.ne {w : World} {T E p r n : Nat} {f : Nat → Ent} (h : TabAt w T E p r n f) (hT : T ≠ E) : p ≠ r := by
  obtain ⟨h1, cs, h2, _⟩ := h
  rintro rfl
  rw [h1] at h2
  injection h2 with h2; injection h2 with _ h2
  exact hT h2
theorem tab_set {w : World} {T E p r n : Nat} {f : Nat → Ent} {d v : Int} (h : TabAt w T E p r n f) (hT : T ≠ E) (hin : inR n d v) (e : Ent) :
    TabAt (((w.setCell ⟨r, d.toNat * 24 + v.toNat * 3, none⟩ (.bool e.is)).setCell ⟨r, d.toNat * 24 + v.toNat * 3 + 1, none⟩ (.int .i64 e.part)).setCell ⟨r, d.toNat * 24 + v.toNat * 3 + 2, none⟩ (.bool e.masked)) T E p r n (upd f (ix d v) e) ∧
    Chg (fun k => k = r) w (((w.setCell ⟨r, d.toNat * 24 + v.toNat * 3, none⟩ (.bool e.is)).setCell ⟨r, d.toNat * 24 + v.toNat * 3 + 1, none⟩ (.int .i64 e.part)).setCell ⟨r, d.toNat * 24 + v.toNat * 3 + 2, none⟩ (.bool e.masked)) := by
  have hne := h.ne hT
  obtain ⟨h1, cs, h2, h3⟩ := h
  have e0 : d.toNat * 24 + v.toNat * 3 = ix d v * 3 := by unfold ix; omega
  rw [e0]
  exact ⟨⟨blk_far (blk_far (blk_far h1 hne _) hne _) hne _, _, blk_set (blk_set (blk_set h2 _ _) _ _) _ _, entC_set h3 (ix_lt hin) e⟩, Chg.set1 (Chg.set1 (Chg.set1 (Chg.refl _ _) _) _) _⟩
theorem tab_mask {w : World} {T E p r n : Nat} {f : Nat → Ent} {d v : Int} (h : TabAt w T E p r n f) (hT : T ≠ E) (hin : inR n d v) (b : Bool) :
    TabAt (w.setCell ⟨r, d.toNat * 24 + v.toNat * 3 + 2, none⟩ (.bool b)) T E p r n (upd f (ix d v) { f (ix d v) with masked := b }) ∧
    Chg (fun k => k = r) w (w.setCell ⟨r, d.toNat * 24 + v.toNat * 3 + 2, none⟩ (.bool b)) := by
  have hne := h.ne hT
  obtain ⟨h1, cs, h2, h3⟩ := h
  have e0 : d.toNat * 24 + v.toNat * 3 = ix d v * 3 := by unfold ix; omega
  rw [e0]
  exact ⟨⟨blk_far h1 hne _, _, blk_set h2 _ _, entC_mask h3 (ix_lt hin) b⟩, Chg.set1 (Chg.refl _ _) _⟩
theorem ent_cases (n : Nat) (d v : Int) (f : Nat → Ent) : (inR n d v ∧ (f (ix d v)).is = true ∧ entE n d v f = 0) ∨ (inR n d v ∧ (f (ix d v)).is = false ∧ entE n d v f = 1101) ∨ (¬ inR n d v ∧ entE n d v f = 1100) := by
  by_cases hin : inR n d v
  · cases his : (f (ix d v)).is with
    | true => exact .inl ⟨hin, rfl, by unfold entE; rw [if_pos hin, if_pos his]⟩
    | false => exact .inr (.inl ⟨hin, rfl, by unfold entE; rw [if_pos hin, if_neg (by rw [his]; decide)]⟩)
  · exact .inr (.inr ⟨hin, by unfold entE; rw [if_neg hin]⟩)

set_option maxHeartbeats 400000 in
theorem set27 (p r n : Nat) (f : Nat → Ent) (d v q : Int) (w : World) (h : TabAt w 214 229 p r n f) :
    Calls Try.prog 114 #[.pointer (some ⟨p, 0, none⟩), .int .i64 d, .int .i64 v, .int .i64 q] w fun e w' => e = .returned (.int .i64 (setC n d v q)) ∧ TabAt w' 214 229 p r n (setF n d v q f) ∧ Chg (fun k => k = r) w w' := by
  by_cases hin : inR n d v
  · by_cases hq : 0 ≤ q ∧ q < 4
    · have e0 : setC n d v q = 0 := if_pos ⟨hin, hq⟩
      have e1 : setF n d v q f = upd f (ix d v) ⟨true, q, false⟩ := if_pos ⟨hin, hq⟩
      rw [e0, e1]
      clear e0 e1
      have hh := h
      obtain ⟨_, cs, hb, he⟩ := hh
      have hc := ix_cells hin hb he
      have hf0 : w.frozen? ⟨r, d.toNat * 24 + v.toNat * 3, none⟩ = false := blk_free hb _
      have hf1 : w.frozen? ⟨r, d.toNat * 24 + v.toNat * 3 + 1, none⟩ = false := blk_free hb _
      have hf2 : w.frozen? ⟨r, d.toNat * 24 + v.toNat * 3 + 2, none⟩ = false := blk_free hb _
      clear hb
      go_enter Try.func114, Try.ntmps114
      go_wp2_with fail
      refine (at51_in p r n f d v w h hin).mono ?_
      rintro e w' ⟨rfl, rfl⟩
      go_wp2_with fail
      refine (pmay_yes q w hq.1 hq.2).mono ?_
      rintro e w' ⟨rfl, rfl⟩
      obtain ⟨c0, c1, c2⟩ := hc
      have H := Lib.hid h; clear h
      have HI := Lib.hid hin; clear hin
      clear he
      go_wp2
      go_ret
      exact ⟨rfl, tab_set H.out (by decide) HI.out ⟨true, q, false⟩⟩
    · have e0 : setC n d v q = 1100 := if_neg (fun h => hq h.2)
      have e1 : setF n d v q f = f := if_neg (fun h => hq h.2)
      rw [e0, e1]
      clear e0 e1
      go_enter Try.func114, Try.ntmps114
      go_wp2_with fail
      refine (at51_in p r n f d v w h hin).mono ?_
      rintro e w' ⟨rfl, rfl⟩
      go_wp2_with fail
      refine (pmay_no q w hq).mono ?_
      rintro e w' ⟨rfl, rfl⟩
      have H := Lib.hid h; clear h hin hq
      go_wp2
      go_ret
      exact ⟨rfl, H.out, Chg.refl _ _⟩
  · have e0 : setC n d v q = 1100 := if_neg (fun h => hin h.1)
    have e1 : setF n d v q f = f := if_neg (fun h => hin h.1)
    rw [e0, e1]
    clear e0 e1
    go_enter Try.func114, Try.ntmps114
    go_wp2_with fail
    refine (at51_out p r n f d v w h hin).mono ?_
    rintro e w' ⟨rfl, rfl⟩
    have H := Lib.hid h; clear h hin
    go_wp2
    go_ret
    exact ⟨rfl, H.out, Chg.refl _ _⟩

set_option maxHeartbeats 400000 in
theorem unset29 (p r n : Nat) (f : Nat → Ent) (d v : Int) (w : World) (h : TabAt w 214 229 p r n f) :
    Calls Try.prog 115 #[.pointer (some ⟨p, 0, none⟩), .int .i64 d, .int .i64 v] w fun e w' => e = .returned (.int .i64 (entE n d v f)) ∧ TabAt w' 214 229 p r n (unsetF n d v f) ∧ Chg (fun k => k = r) w w' := by
  unfold unsetF
  rcases ent_cases n d v f with ⟨hin, his, e0⟩ | ⟨hin, his, e0⟩ | ⟨hin, e0⟩
  · have hh := h
    obtain ⟨_, cs, hb, he⟩ := hh
    have hc := ix_cells hin hb he
    have hf0 : w.frozen? ⟨r, d.toNat * 24 + v.toNat * 3, none⟩ = false := blk_free hb _
    have hf1 : w.frozen? ⟨r, d.toNat * 24 + v.toNat * 3 + 1, none⟩ = false := blk_free hb _
    have hf2 : w.frozen? ⟨r, d.toNat * 24 + v.toNat * 3 + 2, none⟩ = false := blk_free hb _
    clear hb he his
    rw [e0, if_pos rfl]
    have E0 := Lib.hid e0; clear e0
    go_enter Try.func115, Try.ntmps115
    go_wp2_with fail
    refine (there54 p r n f d v w h).mono ?_
    rintro e w' ⟨rfl, rfl⟩
    rw [E0.out, if_pos rfl]
    obtain ⟨c0, c1, c2⟩ := hc
    have H := Lib.hid h; clear h
    have HI := Lib.hid hin; clear hin
    go_wp2
    go_ret
    exact ⟨rfl, tab_set H.out (by decide) HI.out Ent.none⟩
  · rw [e0, if_neg (by decide)]
    have E0 := Lib.hid e0; clear e0
    go_enter Try.func115, Try.ntmps115
    go_wp2_with fail
    refine (there54 p r n f d v w h).mono ?_
    rintro e w' ⟨rfl, rfl⟩
    rw [E0.out, if_neg (by decide)]
    have H := Lib.hid h; clear h hin his
    go_wp2
    go_ret
    exact ⟨rfl, H.out, Chg.refl _ _⟩
  · rw [e0, if_neg (by decide)]
    have E0 := Lib.hid e0; clear e0
    go_enter Try.func115, Try.ntmps115
    go_wp2_with fail
    refine (there54 p r n f d v w h).mono ?_
    rintro e w' ⟨rfl, rfl⟩
    rw [E0.out, if_neg (by decide)]
    have H := Lib.hid h; clear h hin
    go_wp2
    go_ret
    exact ⟨rfl, H.out, Chg.refl _ _⟩

set_option maxHeartbeats 400000 in
theorem mask31 (p r n : Nat) (f : Nat → Ent) (d v : Int) (b : Bool) (w : World) (h : TabAt w 214 229 p r n f) :
    Calls Try.prog 117 #[.pointer (some ⟨p, 0, none⟩), .int .i64 d, .int .i64 v, .bool b] w fun e w' => e = .returned (.int .i64 (entE n d v f)) ∧ TabAt w' 214 229 p r n (maskF n d v b f) ∧ Chg (fun k => k = r) w w' := by
  unfold maskF
  rcases ent_cases n d v f with ⟨hin, his, e0⟩ | ⟨hin, his, e0⟩ | ⟨hin, e0⟩
  · have hh := h
    obtain ⟨_, cs, hb, he⟩ := hh
    have hc := ix_cells hin hb he
    have hf0 : w.frozen? ⟨r, d.toNat * 24 + v.toNat * 3, none⟩ = false := blk_free hb _
    have hf1 : w.frozen? ⟨r, d.toNat * 24 + v.toNat * 3 + 1, none⟩ = false := blk_free hb _
    have hf2 : w.frozen? ⟨r, d.toNat * 24 + v.toNat * 3 + 2, none⟩ = false := blk_free hb _
    clear hb he his
    rw [e0, if_pos rfl]
    have E0 := Lib.hid e0; clear e0
    go_enter Try.func117, Try.ntmps117
    go_wp2_with fail
    refine (there54 p r n f d v w h).mono ?_
    rintro e w' ⟨rfl, rfl⟩
    rw [E0.out, if_pos rfl]
    obtain ⟨c0, c1, c2⟩ := hc
    have H := Lib.hid h; clear h
    have HI := Lib.hid hin; clear hin
    go_wp2
    go_ret
    exact ⟨rfl, tab_mask H.out (by decide) HI.out b⟩
  · rw [e0, if_neg (by decide)]
    have E0 := Lib.hid e0; clear e0
    go_enter Try.func117, Try.ntmps117
    go_wp2_with fail
    refine (there54 p r n f d v w h).mono ?_
    rintro e w' ⟨rfl, rfl⟩
    rw [E0.out, if_neg (by decide)]
    have H := Lib.hid h; clear h hin his
    go_wp2
    go_ret
    exact ⟨rfl, H.out, Chg.refl _ _⟩
  · rw [e0, if_neg (by decide)]
    have E0 := Lib.hid e0; clear e0
    go_enter Try.func117, Try.ntmps117
    go_wp2_with fail
    refine (there54 p r n f d v w h).mono ?_
    rintro e w' ⟨rfl, rfl⟩
    rw [E0.out, if_neg (by decide)]
    have H := Lib.hid h; clear h hin
    go_wp2
    go_ret
    exact ⟨rfl, H.out, Chg.refl _ _⟩

set_option maxHeartbeats 400000 in
theorem look35 (p r n : Nat) (f : Nat → Ent) (d v : Int) (w : World) (h : TabAt w 214 229 p r n f) :
    Calls Try.prog 110 #[.pointer (some ⟨p, 0, none⟩), .int .i64 d, .int .i64 v] w fun e w' => e = .returned (.tuple #[.int .i64 (lookP n d v f), .bool (lookM n d v f), .int .i64 (entE n d v f)]) ∧ ∃ m, w' = w.drewN m := by
  unfold lookP lookM
  rcases ent_cases n d v f with ⟨hin, his, e0⟩ | ⟨hin, his, e0⟩ | ⟨hin, e0⟩
  · have hh := h
    obtain ⟨_, cs, hb, he⟩ := hh
    have hc := ix_cells hin hb he
    clear hb he his
    rw [e0, if_pos rfl, if_pos rfl]
    have E0 := Lib.hid e0; clear e0
    go_enter Try.func110, Try.ntmps110
    go_wp2_with fail
    refine (there54 p r n f d v w h).mono ?_
    rintro e w' ⟨rfl, rfl⟩
    rw [E0.out, if_pos rfl]
    obtain ⟨c0, c1, c2⟩ := hc
    clear h hin
    go_wp2_with fail
    go_quiet (fail)
    rename_i nq
    go_wp2
    go_ret3
    exact ⟨rfl, nq, rfl⟩
  · rw [e0, if_neg (by decide), if_neg (by decide)]
    have E0 := Lib.hid e0; clear e0
    go_enter Try.func110, Try.ntmps110
    go_wp2_with fail
    refine (there54 p r n f d v w h).mono ?_
    rintro e w' ⟨rfl, rfl⟩
    rw [E0.out, if_neg (by decide)]
    clear h hin his
    go_wp2
    go_ret3
    exact ⟨rfl, 0, rfl⟩
  · rw [e0, if_neg (by decide), if_neg (by decide)]
    have E0 := Lib.hid e0; clear e0
    go_enter Try.func110, Try.ntmps110
    go_wp2_with fail
    refine (there54 p r n f d v w h).mono ?_
    rintro e w' ⟨rfl, rfl⟩
    rw [E0.out, if_neg (by decide)]
    clear h hin
    go_wp2
    go_ret3
    exact ⟨rfl, 0, rfl⟩

end Go.Proofs.Ytpnhdiajiieonaa
