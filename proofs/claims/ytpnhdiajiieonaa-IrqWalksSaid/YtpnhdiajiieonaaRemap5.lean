/- The walks of the reference's table of vectors. -/
import Derived.Test.YtpnhdiajiieonaaRemap4
set_option linter.unusedSimpArgs false
set_option linter.unusedVariables false
namespace Go.Proofs.Ytpnhdiajiieonaa
open Go.RowKit

set_option maxHeartbeats 400000 in
theorem there53_in (p r n : Nat) (f : Nat → Ent) (d v : Int) (w : World) (h : TabAt w 217 227 p r n f) (hin : inR n d v) :
    Calls Try.prog 168 #[.pointer (some ⟨p, 0, none⟩), .int .i64 d, .int .i64 v] w fun e w' => e = .returned (.bool true) ∧ w = w' := by
  have c0 : w.cell? ⟨p, 0, none⟩ = some (.slice (some ⟨r, 0, none⟩) n n) := blk_cell h.1 0
  clear h
  obtain ⟨⟨hd0, hd1⟩, h0, h1⟩ := hin
  go_enter Try.func168, Try.ntmps168
  go_wp2
  go_ret
  exact ⟨rfl, rfl⟩
set_option maxHeartbeats 400000 in
theorem there53_out (p r n : Nat) (f : Nat → Ent) (d v : Int) (w : World) (h : TabAt w 217 227 p r n f) (hin : ¬ inR n d v) :
    Calls Try.prog 168 #[.pointer (some ⟨p, 0, none⟩), .int .i64 d, .int .i64 v] w fun e w' => e = .returned (.bool false) ∧ w = w' := by
  have c0 : w.cell? ⟨p, 0, none⟩ = some (.slice (some ⟨r, 0, none⟩) n n) := blk_cell h.1 0
  clear h
  unfold inR at hin
  by_cases hd : 0 ≤ d
  · by_cases hd1 : d < n
    · by_cases hv : 0 ≤ v
      · have hv8 : ¬ v < 8 := by omega
        clear hin
        go_enter Try.func168, Try.ntmps168
        go_wp2
        go_ret
        exact ⟨rfl, rfl⟩
      · clear hin
        go_enter Try.func168, Try.ntmps168
        go_wp2
        go_ret
        exact ⟨rfl, rfl⟩
    · clear hin
      go_enter Try.func168, Try.ntmps168
      go_wp2
      go_ret
      exact ⟨rfl, rfl⟩
  · clear hin
    go_enter Try.func168, Try.ntmps168
    go_wp2
    go_ret
    exact ⟨rfl, rfl⟩

set_option maxHeartbeats 400000 in
theorem entry55 (p r n : Nat) (f : Nat → Ent) (d v : Int) (w : World) (h : TabAt w 217 227 p r n f) :
    Calls Try.prog 169 #[.pointer (some ⟨p, 0, none⟩), .int .i64 d, .int .i64 v] w fun e w' => e = .returned (.int .i64 (entE n d v f)) ∧ w = w' := by
  have c0 : w.cell? ⟨p, 0, none⟩ = some (.slice (some ⟨r, 0, none⟩) n n) := blk_cell h.1 0
  rcases ent_cases n d v f with ⟨hin, his, e0⟩ | ⟨hin, his, e0⟩ | ⟨hin, e0⟩
  · have hh := h
    obtain ⟨_, cs, hb, he⟩ := hh
    have hc := (ix_cells hin hb he).1
    rw [his] at hc
    rw [e0]
    clear e0 his hb he
    go_enter Try.func169, Try.ntmps169
    go_wp2_with fail
    refine (there53_in p r n f d v w h hin).mono ?_
    rintro e w' ⟨rfl, rfl⟩
    clear h
    obtain ⟨⟨hd0, hd1⟩, h0, h1⟩ := hin
    go_wp2
    go_ret
    exact ⟨rfl, rfl⟩
  · have hh := h
    obtain ⟨_, cs, hb, he⟩ := hh
    have hc := (ix_cells hin hb he).1
    rw [his] at hc
    rw [e0]
    clear e0 his hb he
    go_enter Try.func169, Try.ntmps169
    go_wp2_with fail
    refine (there53_in p r n f d v w h hin).mono ?_
    rintro e w' ⟨rfl, rfl⟩
    clear h
    obtain ⟨⟨hd0, hd1⟩, h0, h1⟩ := hin
    go_wp2
    go_ret
    exact ⟨rfl, rfl⟩
  · rw [e0]
    clear e0
    go_enter Try.func169, Try.ntmps169
    go_wp2_with fail
    refine (there53_out p r n f d v w h hin).mono ?_
    rintro e w' ⟨rfl, rfl⟩
    clear h hin
    go_wp2
    go_ret
    exact ⟨rfl, rfl⟩

set_option maxHeartbeats 400000 in
theorem set28 (p r n : Nat) (f : Nat → Ent) (d v q : Int) (w : World) (h : TabAt w 217 227 p r n f) :
    Calls Try.prog 145 #[.pointer (some ⟨p, 0, none⟩), .int .i64 d, .int .i64 v, .int .i64 q] w fun e w' => e = .returned (.int .i64 (setC n d v q)) ∧ TabAt w' 217 227 p r n (setF n d v q f) ∧ Chg (fun k => k = r) w w' := by
  by_cases hin : inR n d v
  · by_cases hq : 0 ≤ q ∧ q < 4
    · have e0 : setC n d v q = 0 := if_pos ⟨hin, hq⟩
      have e1 : setF n d v q f = upd f (ix d v) ⟨true, q, false⟩ := if_pos ⟨hin, hq⟩
      rw [e0, e1]
      clear e0 e1
      have hh := h
      obtain ⟨hp0, cs, hb, he⟩ := hh
      have c0 : w.cell? ⟨p, 0, none⟩ = some (.slice (some ⟨r, 0, none⟩) n n) := blk_cell hp0 0
      have hc := ix_cells hin hb he
      have hf0 : w.frozen? ⟨r, d.toNat * 24 + v.toNat * 3, none⟩ = false := blk_free hb _
      have hf1 : w.frozen? ⟨r, d.toNat * 24 + v.toNat * 3 + 1, none⟩ = false := blk_free hb _
      have hf2 : w.frozen? ⟨r, d.toNat * 24 + v.toNat * 3 + 2, none⟩ = false := blk_free hb _
      clear hb he hp0
      obtain ⟨hq0, hq1⟩ := hq
      go_enter Try.func145, Try.ntmps145
      go_wp2_with fail
      refine (there53_in p r n f d v w h hin).mono ?_
      rintro e w' ⟨rfl, rfl⟩
      obtain ⟨c0, c1, c2⟩ := hc
      have H := Lib.hid h; clear h
      have HI := Lib.hid hin
      obtain ⟨⟨hd0, hd1⟩, h0, h1⟩ := hin
      go_wp2
      go_ret
      exact ⟨rfl, tab_set H.out (by decide) HI.out ⟨true, q, false⟩⟩
    · have e0 : setC n d v q = 1100 := if_neg (fun h => hq h.2)
      have e1 : setF n d v q f = f := if_neg (fun h => hq h.2)
      rw [e0, e1]
      clear e0 e1
      by_cases hq0 : 0 ≤ q
      · have hq1 : ¬ q < 4 := by omega
        clear hq
        go_enter Try.func145, Try.ntmps145
        go_wp2_with fail
        refine (there53_in p r n f d v w h hin).mono ?_
        rintro e w' ⟨rfl, rfl⟩
        have H := Lib.hid h; clear h hin
        go_wp2
        go_ret
        exact ⟨rfl, H.out, Chg.refl _ _⟩
      · clear hq
        go_enter Try.func145, Try.ntmps145
        go_wp2_with fail
        refine (there53_in p r n f d v w h hin).mono ?_
        rintro e w' ⟨rfl, rfl⟩
        have H := Lib.hid h; clear h hin
        go_wp2
        go_ret
        exact ⟨rfl, H.out, Chg.refl _ _⟩
  · have e0 : setC n d v q = 1100 := if_neg (fun h => hin h.1)
    have e1 : setF n d v q f = f := if_neg (fun h => hin h.1)
    rw [e0, e1]
    clear e0 e1
    go_enter Try.func145, Try.ntmps145
    go_wp2_with fail
    refine (there53_out p r n f d v w h hin).mono ?_
    rintro e w' ⟨rfl, rfl⟩
    have H := Lib.hid h; clear h hin
    go_wp2
    go_ret
    exact ⟨rfl, H.out, Chg.refl _ _⟩

set_option maxHeartbeats 400000 in
theorem unset30 (p r n : Nat) (f : Nat → Ent) (d v : Int) (w : World) (h : TabAt w 217 227 p r n f) :
    Calls Try.prog 146 #[.pointer (some ⟨p, 0, none⟩), .int .i64 d, .int .i64 v] w fun e w' => e = .returned (.int .i64 (entE n d v f)) ∧ TabAt w' 217 227 p r n (unsetF n d v f) ∧ Chg (fun k => k = r) w w' := by
  unfold unsetF
  rcases ent_cases n d v f with ⟨hin, his, e0⟩ | ⟨hin, his, e0⟩ | ⟨hin, e0⟩
  · clear his
    have hh := h
    obtain ⟨hp0, cs, hb, he⟩ := hh
    have c0 : w.cell? ⟨p, 0, none⟩ = some (.slice (some ⟨r, 0, none⟩) n n) := blk_cell hp0 0
    have hc := ix_cells hin hb he
    have hf0 : w.frozen? ⟨r, d.toNat * 24 + v.toNat * 3, none⟩ = false := blk_free hb _
    have hf1 : w.frozen? ⟨r, d.toNat * 24 + v.toNat * 3 + 1, none⟩ = false := blk_free hb _
    have hf2 : w.frozen? ⟨r, d.toNat * 24 + v.toNat * 3 + 2, none⟩ = false := blk_free hb _
    clear hb he hp0
    rw [e0, if_pos rfl]
    have E0 := Lib.hid e0; clear e0
    go_enter Try.func146, Try.ntmps146
    go_wp2_with fail
    refine (entry55 p r n f d v w h).mono ?_
    rintro e w' ⟨rfl, rfl⟩
    rw [E0.out]
    obtain ⟨c0, c1, c2⟩ := hc
    have H := Lib.hid h; clear h
    have HI := Lib.hid hin
    obtain ⟨⟨hd0, hd1⟩, h0, h1⟩ := hin
    go_wp2
    go_ret
    exact ⟨rfl, tab_set H.out (by decide) HI.out Ent.none⟩
  · rw [e0, if_neg (by decide)]
    have E0 := Lib.hid e0; clear e0
    go_enter Try.func146, Try.ntmps146
    go_wp2_with fail
    refine (entry55 p r n f d v w h).mono ?_
    rintro e w' ⟨rfl, rfl⟩
    rw [E0.out]
    have H := Lib.hid h; clear h hin his
    go_wp2
    go_ret
    exact ⟨rfl, H.out, Chg.refl _ _⟩
  · rw [e0, if_neg (by decide)]
    have E0 := Lib.hid e0; clear e0
    go_enter Try.func146, Try.ntmps146
    go_wp2_with fail
    refine (entry55 p r n f d v w h).mono ?_
    rintro e w' ⟨rfl, rfl⟩
    rw [E0.out]
    have H := Lib.hid h; clear h hin
    go_wp2
    go_ret
    exact ⟨rfl, H.out, Chg.refl _ _⟩

set_option maxHeartbeats 400000 in
theorem mask32 (p r n : Nat) (f : Nat → Ent) (d v : Int) (b : Bool) (w : World) (h : TabAt w 217 227 p r n f) :
    Calls Try.prog 147 #[.pointer (some ⟨p, 0, none⟩), .int .i64 d, .int .i64 v, .bool b] w fun e w' => e = .returned (.int .i64 (entE n d v f)) ∧ TabAt w' 217 227 p r n (maskF n d v b f) ∧ Chg (fun k => k = r) w w' := by
  unfold maskF
  rcases ent_cases n d v f with ⟨hin, his, e0⟩ | ⟨hin, his, e0⟩ | ⟨hin, e0⟩
  · clear his
    have hh := h
    obtain ⟨hp0, cs, hb, he⟩ := hh
    have c0 : w.cell? ⟨p, 0, none⟩ = some (.slice (some ⟨r, 0, none⟩) n n) := blk_cell hp0 0
    have hc := ix_cells hin hb he
    have hf0 : w.frozen? ⟨r, d.toNat * 24 + v.toNat * 3, none⟩ = false := blk_free hb _
    have hf1 : w.frozen? ⟨r, d.toNat * 24 + v.toNat * 3 + 1, none⟩ = false := blk_free hb _
    have hf2 : w.frozen? ⟨r, d.toNat * 24 + v.toNat * 3 + 2, none⟩ = false := blk_free hb _
    clear hb he hp0
    rw [e0, if_pos rfl]
    have E0 := Lib.hid e0; clear e0
    go_enter Try.func147, Try.ntmps147
    go_wp2_with fail
    refine (entry55 p r n f d v w h).mono ?_
    rintro e w' ⟨rfl, rfl⟩
    rw [E0.out]
    obtain ⟨c0, c1, c2⟩ := hc
    have H := Lib.hid h; clear h
    have HI := Lib.hid hin
    obtain ⟨⟨hd0, hd1⟩, h0, h1⟩ := hin
    go_wp2
    go_ret
    exact ⟨rfl, tab_mask H.out (by decide) HI.out b⟩
  · rw [e0, if_neg (by decide)]
    have E0 := Lib.hid e0; clear e0
    go_enter Try.func147, Try.ntmps147
    go_wp2_with fail
    refine (entry55 p r n f d v w h).mono ?_
    rintro e w' ⟨rfl, rfl⟩
    rw [E0.out]
    have H := Lib.hid h; clear h hin his
    go_wp2
    go_ret
    exact ⟨rfl, H.out, Chg.refl _ _⟩
  · rw [e0, if_neg (by decide)]
    have E0 := Lib.hid e0; clear e0
    go_enter Try.func147, Try.ntmps147
    go_wp2_with fail
    refine (entry55 p r n f d v w h).mono ?_
    rintro e w' ⟨rfl, rfl⟩
    rw [E0.out]
    have H := Lib.hid h; clear h hin
    go_wp2
    go_ret
    exact ⟨rfl, H.out, Chg.refl _ _⟩

set_option maxHeartbeats 400000 in
theorem look36 (p r n : Nat) (f : Nat → Ent) (d v : Int) (w : World) (h : TabAt w 217 227 p r n f) :
    Calls Try.prog 148 #[.pointer (some ⟨p, 0, none⟩), .int .i64 d, .int .i64 v] w fun e w' => e = .returned (.tuple #[.int .i64 (lookP n d v f), .bool (lookM n d v f), .int .i64 (entE n d v f)]) ∧ Chg (fun _ => False) w w' := by
  unfold lookP lookM
  rcases ent_cases n d v f with ⟨hin, his, e0⟩ | ⟨hin, his, e0⟩ | ⟨hin, e0⟩
  · clear his
    have hh := h
    obtain ⟨hp0, cs, hb, he⟩ := hh
    have c0 : w.cell? ⟨p, 0, none⟩ = some (.slice (some ⟨r, 0, none⟩) n n) := blk_cell hp0 0
    have hc := ix_cells hin hb he
    have hf0 : w.frozen? ⟨r, d.toNat * 24 + v.toNat * 3, none⟩ = false := blk_free hb _
    have hf1 : w.frozen? ⟨r, d.toNat * 24 + v.toNat * 3 + 1, none⟩ = false := blk_free hb _
    have hf2 : w.frozen? ⟨r, d.toNat * 24 + v.toNat * 3 + 2, none⟩ = false := blk_free hb _
    clear hb he hp0
    rw [e0, if_pos rfl, if_pos rfl]
    have E0 := Lib.hid e0; clear e0
    go_enter Try.func148, Try.ntmps148
    go_wp2_with fail
    refine (entry55 p r n f d v w h).mono ?_
    rintro e w' ⟨rfl, rfl⟩
    rw [E0.out]
    obtain ⟨c0, c1, c2⟩ := hc
    clear h
    obtain ⟨⟨hd0, hd1⟩, h0, h1⟩ := hin
    go_wp2_with fail
    go_quiet (fail)
    rename_i nq
    go_wp2
    go_ret3
    exact ⟨rfl, ((Chg.refl _ _).alloc _).drewN nq⟩
  · rw [e0, if_neg (by decide), if_neg (by decide)]
    have E0 := Lib.hid e0; clear e0
    go_enter Try.func148, Try.ntmps148
    go_wp2_with fail
    refine (entry55 p r n f d v w h).mono ?_
    rintro e w' ⟨rfl, rfl⟩
    rw [E0.out]
    clear h hin his
    go_wp2
    go_ret3
    exact ⟨rfl, Chg.refl _ _⟩
  · rw [e0, if_neg (by decide), if_neg (by decide)]
    have E0 := Lib.hid e0; clear e0
    go_enter Try.func148, Try.ntmps148
    go_wp2_with fail
    refine (entry55 p r n f d v w h).mono ?_
    rintro e w' ⟨rfl, rfl⟩
    rw [E0.out]
    clear h hin
    go_wp2
    go_ret3
    exact ⟨rfl, Chg.refl _ _⟩

set_option maxHeartbeats 400000 in
theorem clear34 (p r n : Nat) (f : Nat → Ent) (d : Int) (w : World) (h : TabAt w 217 227 p r n f) :
    Calls Try.prog 149 #[.pointer (some ⟨p, 0, none⟩), .int .i64 d] w fun e w' => e = .returned (.int .i64 (clearC n d)) ∧ TabAt w' 217 227 p r n (clearF n d f) ∧ Chg (fun k => k = r) w w' := by
  by_cases hd : 0 ≤ d ∧ d < n
  · have hin : inR n d 0 := ⟨hd, by omega, by omega⟩
    have hp := tab_clear h (by decide) hd
    have ht := tab_there h hd
    have c0 : w.cell? ⟨p, 0, none⟩ = some (.slice (some ⟨r, 0, none⟩) n n) := blk_cell h.1 0
    have e0 : clearC n d = 0 := if_pos hd
    rw [e0]
    clear e0
    have HP := Lib.hid hp; clear hp
    have HT := Lib.hid ht; clear ht
    go_enter Try.func149, Try.ntmps149
    go_wp2_with fail
    refine (there53_in p r n f d 0 w h hin).mono ?_
    rintro e w' ⟨rfl, rfl⟩
    clear h hin
    obtain ⟨hd0, hd1⟩ := hd
    go_wp2_with ((with_reducible refine wpList_store_mid rfl 227 _ _ rfl r (d.toNat * 24) zero24 rfl rfl HT.out Try.size227 zero24_one ?_))
    go_ret
    exact ⟨rfl, HP.out⟩
  · have hin : ¬ inR n d 0 := fun h => hd h.1
    have e0 : clearC n d = 1100 := if_neg hd
    have e1 : clearF n d f = f := if_neg hd
    rw [e0, e1]
    clear e0 e1
    go_enter Try.func149, Try.ntmps149
    go_wp2_with fail
    refine (there53_out p r n f d 0 w h hin).mono ?_
    rintro e w' ⟨rfl, rfl⟩
    have H := Lib.hid h; clear h hin hd
    go_wp2
    go_ret
    exact ⟨rfl, H.out, Chg.refl _ _⟩

end Go.Proofs.Ytpnhdiajiieonaa
