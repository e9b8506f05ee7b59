/- Chapter 13: the document's unit. -/
import Derived.Test.YtpnhdiajiieonaaUnit3
set_option linter.unusedSimpArgs false
set_option linter.unusedVariables false
namespace Go.Proofs.Ytpnhdiajiieonaa
open Go.RowKit

/-- The document's unit: all its blocks are F. -/
def RUAt (w : World) (u nd np : Nat) (f : Nat → Ent) (S : Nat → Nat → Bool) (F : Nat → Prop) : Prop :=
  ∃ tp r p R, w.heap[u]? = some (.cells #[.pointer (some ⟨tp, 0, none⟩), .pointer (some ⟨p, 0, none⟩), .int .i64 np] 177 (0, 0)) ∧
    TabAt w 217 227 tp r nd f ∧ RefAt w p R np S ∧ (∀ k, F k ↔ k = u ∨ k = tp ∨ k = r ∨ k = p ∨ k = R)
section
variable {w w' : World} {u nd np : Nat} {f f' : Nat → Ent} {S S' : Nat → Nat → Bool} {F : Nat → Prop}
theorem RUAt.keep {X : Nat → Prop} (h : RUAt w u nd np f S F) (hC : Chg X w w') (hX : ∀ k, F k → ¬ X k) : RUAt w' u nd np f S F := by
  obtain ⟨tp, r, p, R, h1, h2, h3, h7⟩ := h
  have g : ∀ k, (k = u ∨ k = tp ∨ k = r ∨ k = p ∨ k = R) → ¬ X k := fun k hk => hX k ((h7 k).2 hk)
  exact ⟨tp, r, p, R, hC.at h1 (g u (.inl rfl)), h2.keep hC (g tp (.inr (.inl rfl))) (g r (.inr (.inr (.inl rfl)))), h3.keep hC (g p (.inr (.inr (.inr (.inl rfl))))) (g R (.inr (.inr (.inr (.inr rfl))))), h7⟩
theorem RUAt.keepN (h : RUAt w u nd np f S F) (hC : Chg (fun _ => False) w w') : RUAt w' u nd np f S F := h.keep hC (fun _ _ => id)
theorem RUAt.lt (h : RUAt w u nd np f S F) : ∀ k, F k → k < w.heap.size := by
  obtain ⟨tp, r, p, R, h1, h2, h3, h7⟩ := h
  intro k hk
  rcases (h7 k).1 hk with rfl | rfl | rfl | rfl | rfl
  · exact lt_of_heap h1
  · exact h2.lt.1
  · exact h2.lt.2
  · exact lt_of_heap h3.hp
  · exact h3.up.lt
theorem RUAt.tab {tp r p R : Nat} (h1 : w.heap[u]? = some (.cells #[.pointer (some ⟨tp, 0, none⟩), .pointer (some ⟨p, 0, none⟩), .int .i64 np] 177 (0, 0)))
    (h2 : TabAt w 217 227 tp r nd f) (h3 : RefAt w p R np S) (h7 : ∀ k, F k ↔ k = u ∨ k = tp ∨ k = r ∨ k = p ∨ k = R)
    (ht : TabAt w' 217 227 tp r nd f') (hC : Chg (fun k => k = r) w w') : RUAt w' u nd np f' S F ∧ Chg F w w' := by
  obtain ⟨_, cs, h2b, _⟩ := id h2
  obtain ⟨cR, hRb, _⟩ := id h3.up
  exact ⟨⟨tp, r, p, R, hC.at h1 (blk_ne h1 h2b (by decide)), ht, h3.keep hC (blk_ne h3.hp h2b (by decide)) (blk_ne hRb h2b (by decide)), h7⟩, hC.mono (fun k _ e => (h7 k).2 (.inr (.inr (.inl e))))⟩
theorem RUAt.sets {tp r p R : Nat} (h1 : w.heap[u]? = some (.cells #[.pointer (some ⟨tp, 0, none⟩), .pointer (some ⟨p, 0, none⟩), .int .i64 np] 177 (0, 0)))
    (h2 : TabAt w 217 227 tp r nd f) (h3 : RefAt w p R np S) (h7 : ∀ k, F k ↔ k = u ∨ k = tp ∨ k = r ∨ k = p ∨ k = R)
    (ht : RefAt w' p R np S') (hC : Chg (fun k => k = R) w w') : RUAt w' u nd np f S' F ∧ Chg F w w' := by
  obtain ⟨h2a, cs, h2b, _⟩ := id h2
  obtain ⟨cR, hRb, _⟩ := id h3.up
  exact ⟨⟨tp, r, p, R, hC.at h1 (blk_ne h1 hRb (by decide)), h2.keep hC (blk_ne h2a hRb (by decide)) (blk_ne h2b hRb (by decide)), ht, h7⟩, hC.mono (fun k _ e => (h7 k).2 (.inr (.inr (.inr (.inr e)))))⟩
end
theorem as_c (e : Int) (w : World) : Calls Try.prog 144 #[.int .i64 e] w fun x w' => x = .returned (.int .i64 (toldC e)) ∧ w = w' := by
  unfold toldC
  by_cases h1 : e = 1100
  · subst h1
    go_enter Try.func144, Try.ntmps144
    go_wp2
    go_ret
    exact ⟨rfl, rfl⟩
  · rw [if_neg h1]
    have b1 : (e == 1100) = false := by simpa using h1
    by_cases h2 : e = 1101
    · subst h2
      go_enter Try.func144, Try.ntmps144
      go_wp2
      go_ret
      exact ⟨rfl, rfl⟩
    · rw [if_neg h2]
      have b2 : (e == 1101) = false := by simpa using h2
      clear h1 h2
      go_enter Try.func144, Try.ntmps144
      go_wp2
      go_ret
      exact ⟨rfl, rfl⟩
def RUNewPost (nd np : Nat) (w : World) (e : Ending) (w' : World) : Prop := ∃ u F, e = .returned (.tuple #[.pointer (some ⟨u, 0, none⟩), .int .i64 0]) ∧ RUAt w' u nd np (fun _ => Ent.none) (fun _ _ => false) F ∧ (∀ k, F k → w.heap.size ≤ k) ∧ Chg (fun _ => False) w w'
theorem ruNew_ok (nd np : Nat) (w : World) (h1 : 1 ≤ nd ∧ nd ≤ 4) (h2 : 1 ≤ np ∧ np ≤ 4) : Calls Try.prog 59 #[.int .i64 nd, .int .i64 np] w (RUNewPost nd np w) := by
  go_enter Try.func59, Try.ntmps59
  go_wp2_with fail
  refine (new25_ok nd w h1.1 h1.2).mono ?_
  rintro e w1 ⟨rfl, ht, hs, hC⟩
  have HT := Lib.hid ht; clear ht
  have HC := Lib.hid hC; clear hC
  go_wp2_with fail
  refine (rNew_ok np w1 h2.1 h2.2).mono ?_
  rintro e w2 ⟨rfl, hs2, hp, hC2⟩
  have hu := blk_new w2 (.cells #[.pointer (some ⟨w.heap.size + 1, 0, none⟩), .pointer (some ⟨w1.heap.size + 1, 0, none⟩), .int .i64 np] 177)
  have hA := (Chg.refl (fun _ => False) w2).alloc (.cells #[.pointer (some ⟨w.heap.size + 1, 0, none⟩), .pointer (some ⟨w1.heap.size + 1, 0, none⟩), .int .i64 np] 177)
  have hfin : RUAt (w2.alloc (.cells #[.pointer (some ⟨w.heap.size + 1, 0, none⟩), .pointer (some ⟨w1.heap.size + 1, 0, none⟩), .int .i64 np] 177)) w2.heap.size nd np (fun _ => Ent.none) (fun _ _ => false) (fun k => k = w2.heap.size ∨ k = w.heap.size + 1 ∨ k = w.heap.size ∨ k = w1.heap.size + 1 ∨ k = w1.heap.size) :=
    ⟨_, _, _, _, hu, (HT.out.keep hC2 id id).keep hA id id, hp.keepN hA, fun _ => Iff.rfl⟩
  have hC3 := (HC.out.trans hC2).trans hA
  have hge : ∀ k, (k = w2.heap.size ∨ k = w.heap.size + 1 ∨ k = w.heap.size ∨ k = w1.heap.size + 1 ∨ k = w1.heap.size) → w.heap.size ≤ k := fun k hk => by omega
  have HF := Lib.hid (And.intro hfin (And.intro hge hC3)); clear hfin hge hC3 hu hA hp hC2 hs hs2
  clear HT HC
  go_wp2_with fail
  go_ret2
  exact ⟨_, _, rfl, HF.out⟩
theorem ruNew_no (nd np : Int) (w : World) (h : ¬ ((1 ≤ nd ∧ nd ≤ 4) ∧ (1 ≤ np ∧ np ≤ 4))) : Calls Try.prog 59 #[.int .i64 nd, .int .i64 np] w fun e w' => e = .returned (.tuple #[.pointer none, .int .i64 1300]) ∧ Chg (fun _ => False) w w' := by
  by_cases h1 : 1 ≤ nd ∧ nd ≤ 4
  · have h2 : ¬ (1 ≤ np ∧ np ≤ 4) := fun h2 => h ⟨h1, h2⟩
    obtain ⟨n, rfl⟩ := Int.eq_ofNat_of_zero_le (show 0 ≤ nd by omega)
    go_enter Try.func59, Try.ntmps59
    go_wp2_with fail
    refine (new25_ok n w (by omega) (by omega)).mono ?_
    rintro e w1 ⟨rfl, _, _, hC⟩
    have HC := Lib.hid hC; clear hC
    go_wp2_with fail
    refine (rNew_no np w1 h2).mono ?_
    rintro e w2 ⟨rfl, rfl⟩
    go_wp2_with fail
    go_ret2
    exact ⟨rfl, HC.out⟩
  · by_cases h2 : 1 ≤ np ∧ np ≤ 4
    · obtain ⟨n, rfl⟩ := Int.eq_ofNat_of_zero_le (show 0 ≤ np by omega)
      go_enter Try.func59, Try.ntmps59
      go_wp2_with fail
      refine (new25_no nd w h1).mono ?_
      rintro e w1 ⟨rfl, rfl⟩
      go_wp2_with fail
      refine (rNew_ok n w (by omega) (by omega)).mono ?_
      rintro e w2 ⟨rfl, _, _, hC⟩
      have HC := Lib.hid hC; clear hC
      go_wp2_with fail
      go_ret2
      exact ⟨rfl, HC.out⟩
    · go_enter Try.func59, Try.ntmps59
      go_wp2_with fail
      refine (new25_no nd w h1).mono ?_
      rintro e w1 ⟨rfl, rfl⟩
      go_wp2_with fail
      refine (rNew_no np w h2).mono ?_
      rintro e w2 ⟨rfl, rfl⟩
      go_wp2_with fail
      go_ret2
      exact ⟨rfl, Chg.refl _ _⟩
def RUPost (u nd np : Nat) (f' : Nat → Ent) (S' : Nat → Nat → Bool) (F : Nat → Prop) (c : Int) (w : World) (e : Ending) (w' : World) : Prop := e = .returned (.int .i64 c) ∧ RUAt w' u nd np f' S' F ∧ Chg F w w'
theorem ruRoute (u nd np : Nat) (d v q : Int) (f : Nat → Ent) (S : Nat → Nat → Bool) (F : Nat → Prop) (w : World) (h : RUAt w u nd np f S F) :
    Calls Try.prog 104 #[.pointer (some ⟨u, 0, none⟩), .int .i64 d, .int .i64 v, .int .i64 q] w (RUPost u nd np (routeF nd np d v q f) S F (routeC nd np d v q) w) := by
  obtain ⟨tp, r, p, R, h1, h2, h3, h7⟩ := id h
  have c0 := blk_cell h1 0
  have c2 := blk_cell h1 2
  have hset := set28 tp r nd f d v q w h2
  have hfin := fun w' ht hC => RUAt.tab (w' := w') (f' := setF nd d v q f) h1 h2 h3 h7 ht hC
  have H := Lib.hid h; clear h
  have HSET := Lib.hid hset; clear hset
  have HF := Lib.hid hfin; clear hfin h1 h2 h3 h7
  by_cases hq : inP np q
  · have e1 : routeF nd np d v q f = setF nd d v q f := if_pos hq
    have e2 : routeC nd np d v q = toldC (setC nd d v q) := if_pos hq
    rw [e1, e2]
    clear e1 e2
    unfold inP at hq
    obtain ⟨q0, q1⟩ := hq
    go_enter Try.func104, Try.ntmps104
    go_wp2_with fail
    refine HSET.out.mono ?_
    rintro e w1 ⟨rfl, ht, hC⟩
    have hE := HF.out w1 ht hC
    have HE := Lib.hid hE; clear hE ht hC
    go_wp2_with fail
    refine (as_c _ w1).mono ?_
    rintro e w2 ⟨rfl, rfl⟩
    go_wp2_with fail
    go_ret
    exact ⟨rfl, HE.out⟩
  · have e1 : routeF nd np d v q f = f := if_neg hq
    have e2 : routeC nd np d v q = 1300 := if_neg hq
    rw [e1, e2]
    clear e1 e2
    unfold inP at hq
    by_cases h0 : 0 ≤ q
    · have h3 : (np : Int) ≤ q := by omega
      clear hq
      go_enter Try.func104, Try.ntmps104
      go_wp2_with fail
      go_ret
      exact ⟨rfl, H.out, Chg.refl _ _⟩
    · have h3 : q < 0 := by omega
      clear hq h0
      go_enter Try.func104, Try.ntmps104
      go_wp2_with fail
      go_ret
      exact ⟨rfl, H.out, Chg.refl _ _⟩
theorem ruMask (u nd np : Nat) (d v : Int) (b : Bool) (f : Nat → Ent) (S : Nat → Nat → Bool) (F : Nat → Prop) (w : World) (h : RUAt w u nd np f S F) :
    Calls Try.prog 106 #[.pointer (some ⟨u, 0, none⟩), .int .i64 d, .int .i64 v, .bool b] w (RUPost u nd np (maskF nd d v b f) S F (toldC (entE nd d v f)) w) := by
  obtain ⟨tp, r, p, R, h1, h2, h3, h7⟩ := h
  have c0 := blk_cell h1 0
  have hset := mask32 tp r nd f d v b w h2
  have hfin := fun w' ht hC => RUAt.tab (w' := w') (f' := maskF nd d v b f) h1 h2 h3 h7 ht hC
  have HSET := Lib.hid hset; clear hset
  have HF := Lib.hid hfin; clear hfin h1 h2 h3 h7
  go_enter Try.func106, Try.ntmps106
  go_wp2_with fail
  refine HSET.out.mono ?_
  rintro e w1 ⟨rfl, ht, hC⟩
  have hE := HF.out w1 ht hC
  have HE := Lib.hid hE; clear hE ht hC
  go_wp2_with fail
  refine (as_c _ w1).mono ?_
  rintro e w2 ⟨rfl, rfl⟩
  go_wp2_with fail
  go_ret
  exact ⟨rfl, HE.out⟩
theorem ruUnroute (u nd np : Nat) (d v : Int) (f : Nat → Ent) (S : Nat → Nat → Bool) (F : Nat → Prop) (w : World) (h : RUAt w u nd np f S F) (hd4 : nd ≤ 4) (hn : np ≤ 4) :
    Calls Try.prog 105 #[.pointer (some ⟨u, 0, none⟩), .int .i64 d, .int .i64 v] w (RUPost u nd np (unsetF nd d v f) (unrouteS nd d v f S) F (toldC (entE nd d v f)) w) := by
  obtain ⟨tp, r, p, R, h1, h2, h3, h7⟩ := h
  have c0 := blk_cell h1 0
  have hset := unset30 tp r nd f d v w h2
  have hfin := fun w' ht hC => RUAt.tab (w' := w') (f' := unsetF nd d v f) h1 h2 h3 h7 ht hC
  have HSET := Lib.hid hset; clear hset
  have HF := Lib.hid hfin; clear hfin h1 h2 h3 h7
  by_cases h0 : entE nd d v f = 0
  · have hin : inR nd d v := by
      unfold entE at h0
      split at h0
      · assumption
      · exact absurd h0 (by decide)
    have e1 : unrouteS nd d v f S = fun a k => S a k && !isKey d v k := if_pos h0
    rw [e1, h0]
    rw [h0] at HSET
    clear e1 h0
    unfold inR at hin
    obtain ⟨dn, rfl⟩ := Int.eq_ofNat_of_zero_le hin.1.1
    obtain ⟨vn, rfl⟩ := Int.eq_ofNat_of_zero_le hin.2.1
    have hd : dn < 4 := by omega
    have hv : vn < 8 := by omega
    clear hin
    go_enter Try.func105, Try.ntmps105
    go_wp2_with fail
    refine HSET.out.mono ?_
    rintro e w1 ⟨rfl, ht, hC⟩
    have hE := HF.out w1 ht hC
    have HE := Lib.hid hE; clear hE ht hC
    clear HF HSET c0
    obtain ⟨tp', r', p', R', g1, g2, g3, g7⟩ := HE.out.1
    have c2 := blk_cell g1 1
    have hdr := rDrop p' R' np dn vn S w1 g3 hn hd hv
    have hfs := fun w' k3 kC => RUAt.sets (w' := w') (S' := fun a k => S a k && !isKey dn vn k) g1 g2 g3 g7 k3 kC
    have HDR := Lib.hid hdr; clear hdr
    have HFS := Lib.hid hfs; clear hfs g1 g2 g3 g7
    go_wp2_with fail
    refine HDR.out.mono ?_
    rintro e w3 ⟨rfl, k3, kC⟩
    obtain ⟨m1, m3⟩ := HFS.out w3 (k3.cong (fun a k _ _ => by
      have : decide (k = dn * 8 + vn) = isKey dn vn k := by
        unfold isKey; rw [← Bool.decide_and, decide_eq_decide]; omega
      rw [this])) kC
    have HFIN := Lib.hid (And.intro m1 (HE.out.2.trans m3)); clear m1 m3 k3 kC
    clear HDR HFS HE
    go_wp2_with fail
    refine (as_c _ w3).mono ?_
    rintro e w4 ⟨rfl, rfl⟩
    go_wp2_with fail
    go_ret
    exact ⟨rfl, HFIN.out⟩
  · have e1 : unrouteS nd d v f S = S := if_neg h0
    rw [e1]
    have b0 : (entE nd d v f == 0) = false := by simpa using h0
    clear h0 e1
    go_enter Try.func105, Try.ntmps105
    go_wp2_with fail
    refine HSET.out.mono ?_
    rintro e w1 ⟨rfl, ht, hC⟩
    have hE := HF.out w1 ht hC
    have HE := Lib.hid hE; clear hE ht hC
    clear HF HSET c0
    go_wp2_with fail
    refine (as_c _ w1).mono ?_
    rintro e w2 ⟨rfl, rfl⟩
    go_wp2_with fail
    go_ret
    exact ⟨rfl, HE.out⟩
theorem ruClear (u nd np : Nat) (d : Int) (f : Nat → Ent) (S : Nat → Nat → Bool) (F : Nat → Prop) (w : World) (h : RUAt w u nd np f S F) (hn : np ≤ 4) :
    Calls Try.prog 108 #[.pointer (some ⟨u, 0, none⟩), .int .i64 d] w (RUPost u nd np (clearF nd d f) (uclearS nd d S) F (toldC (clearC nd d)) w) := by
  obtain ⟨tp, r, p, R, h1, h2, h3, h7⟩ := h
  have c0 := blk_cell h1 0
  have hset := clear34 tp r nd f d w h2
  have hfin := fun w' ht hC => RUAt.tab (w' := w') (f' := clearF nd d f) h1 h2 h3 h7 ht hC
  have HSET := Lib.hid hset; clear hset
  have HF := Lib.hid hfin; clear hfin h1 h2 h3 h7
  by_cases h0 : clearC nd d = 0
  · have e1 : uclearS nd d S = fun a k => S a k && !isDev d k := if_pos h0
    rw [e1, h0]
    rw [h0] at HSET
    clear e1 h0
    go_enter Try.func108, Try.ntmps108
    go_wp2_with fail
    refine HSET.out.mono ?_
    rintro e w1 ⟨rfl, ht, hC⟩
    have hE := HF.out w1 ht hC
    have HE := Lib.hid hE; clear hE ht hC
    clear HF HSET c0
    obtain ⟨tp', r', p', R', g1, g2, g3, g7⟩ := HE.out.1
    have c2 := blk_cell g1 1
    have hdr := rClear p' R' np d S w1 g3 hn
    have hfs := fun w' k3 kC => RUAt.sets (w' := w') (S' := fun a k => S a k && !isDev d k) g1 g2 g3 g7 k3 kC
    have HDR := Lib.hid hdr; clear hdr
    have HFS := Lib.hid hfs; clear hfs g1 g2 g3 g7
    go_wp2_with fail
    refine HDR.out.mono ?_
    rintro e w3 ⟨rfl, k3, kC⟩
    obtain ⟨m1, m3⟩ := HFS.out w3 k3 kC
    have HFIN := Lib.hid (And.intro m1 (HE.out.2.trans m3)); clear m1 m3 k3 kC
    clear HDR HFS HE
    go_wp2_with fail
    go_ret
    exact ⟨rfl, HFIN.out⟩
  · have e1 : uclearS nd d S = S := if_neg h0
    have e2 : clearC nd d = 1100 := by
      unfold clearC at h0 ⊢
      split
      · rename_i hh; rw [if_pos hh] at h0; exact absurd rfl h0
      · rfl
    rw [e1, e2]
    rw [e2] at HSET
    clear h0 e1 e2
    go_enter Try.func108, Try.ntmps108
    go_wp2_with fail
    refine HSET.out.mono ?_
    rintro e w1 ⟨rfl, ht, hC⟩
    have hE := HF.out w1 ht hC
    have HE := Lib.hid hE; clear hE ht hC
    clear HF HSET c0
    go_wp2_with fail
    go_ret
    exact ⟨rfl, HE.out⟩
set_option maxHeartbeats 1000000 in
theorem ruRaise (u nd np : Nat) (d v q : Int) (f : Nat → Ent) (S : Nat → Nat → Bool) (F : Nat → Prop) (w : World) (h : RUAt w u nd np f S F) (hn : np ≤ 4) :
    Calls Try.prog 107 #[.pointer (some ⟨u, 0, none⟩), .int .i64 d, .int .i64 v, .int .i64 q] w (RUPost u nd np f (uraiseS nd np d v q f S) F (uraiseC nd np d v q f) w) := by
  obtain ⟨tp, r, p, R, h1, h2, h3, h7⟩ := id h
  have c0 := blk_cell h1 0
  have hlk := look36c tp r nd f d v w h2
  have HLK := Lib.hid hlk; clear hlk
  have hcl : ∀ w1, Chg (fun _ => False) w w1 → w1.cell? ⟨u, 1, none⟩ = some (.pointer (some ⟨p, 0, none⟩)) ∧ w1.cell? ⟨u, 2, none⟩ = some (.int .i64 np) := fun w1 hC => ⟨blk_cell (hC.at h1 id) 1, blk_cell (hC.at h1 id) 2⟩
  have HC2 := Lib.hid hcl; clear hcl
  have hrs := fun w1 (hC : Chg (fun _ => False) w w1) => rRaise p R np q d v S w1 (h3.keepN hC) hn
  have HRS := Lib.hid hrs; clear hrs
  have hfs := fun w1 (hC : Chg (fun _ => False) w w1) w' k3 kC => RUAt.sets (w := w1) (w' := w') (S' := raiseS np q d v S) (hC.at h1 id) (h2.keep hC id id) (h3.keepN hC) h7 k3 kC
  have HFS := Lib.hid hfs; clear hfs
  have fin : ∀ w1, Chg (fun _ => False) w w1 → RUAt w1 u nd np f S F ∧ Chg F w w1 := fun w1 hC => ⟨h.keepN hC, hC.toF F⟩
  have FIN := Lib.hid fin; clear fin h h1 h2 h3 h7
  by_cases hA : entE nd d v f = 1100
  · have hc : uraiseC nd np d v q f = 1300 := by unfold uraiseC; exact if_pos (.inl hA)
    have hS : uraiseS nd np d v q f S = S := by unfold uraiseS; rw [hc]; exact if_neg (by decide)
    rw [hc, hS]
    clear hc hS
    rw [hA] at HLK
    clear hA
    generalize lookP nd d v f = x at *
    generalize lookM nd d v f = y at *
    go_enter Try.func107, Try.ntmps107
    go_wp2_with fail
    refine HLK.out.mono ?_
    rintro e w1 ⟨rfl, _, hC⟩
    have HC := Lib.hid hC; clear hC
    go_wp2_with fail
    go_ret
    exact ⟨rfl, FIN.out _ HC.out⟩
  · have bA : (entE nd d v f == 1100) = false := by simpa using hA
    by_cases hq : inP np q
    · have h9 : ¬ (entE nd d v f = 1100 ∨ ¬ inP np q) := fun h => h.elim hA (fun h => h hq)
      have hq' := hq
      unfold inP at hq'
      obtain ⟨q0, q1⟩ := hq'
      by_cases hz : entE nd d v f = 0
      · by_cases hl : lookP nd d v f = q
        · have hc : uraiseC nd np d v q f = 0 := by unfold uraiseC; rw [if_neg h9]; exact if_neg (fun h => h.elim (fun h => h hz) (fun h => h hl))
          have hS : uraiseS nd np d v q f S = raiseS np q d v S := by unfold uraiseS; rw [hc]; exact if_pos rfl
          rw [hc, hS]
          clear hc hS h9
          rw [hz, hl] at HLK
          clear hA bA hz hl hq
          generalize lookM nd d v f = y at *
          go_enter Try.func107, Try.ntmps107
          go_wp2_with fail
          refine HLK.out.mono ?_
          rintro e w1 ⟨rfl, _, hC⟩
          obtain ⟨c1, c2⟩ := HC2.out w1 hC
          have HC := Lib.hid hC; clear hC
          go_wp2_with fail
          refine (HRS.out w1 HC.out).mono ?_
          rintro e w3 ⟨rfl, k3, kC⟩
          obtain ⟨m1, m3⟩ := HFS.out w1 HC.out w3 k3 kC
          have HFIN := Lib.hid (And.intro m1 ((HC.out.toF F).trans m3)); clear m1 m3 k3 kC
          clear HLK HC2 HRS HFS
          go_wp2_with fail
          go_ret
          exact ⟨rfl, HFIN.out⟩
        · have hc : uraiseC nd np d v q f = 1301 := by unfold uraiseC; rw [if_neg h9]; exact if_pos (.inr hl)
          have hS : uraiseS nd np d v q f S = S := by unfold uraiseS; rw [hc]; exact if_neg (by decide)
          rw [hc, hS]
          clear hc hS h9
          have bl : (lookP nd d v f != q) = true := by simpa using hl
          rw [hz] at HLK
          clear hA bA hz hl hq
          generalize lookM nd d v f = y at *
          go_enter Try.func107, Try.ntmps107
          go_wp2_with fail
          refine HLK.out.mono ?_
          rintro e w1 ⟨rfl, _, hC⟩
          obtain ⟨c1, c2⟩ := HC2.out w1 hC
          have HC := Lib.hid hC; clear hC
          go_wp2_with fail
          go_ret
          exact ⟨rfl, FIN.out _ HC.out⟩
      · have hc : uraiseC nd np d v q f = 1301 := by unfold uraiseC; rw [if_neg h9]; exact if_pos (.inl hz)
        have hS : uraiseS nd np d v q f S = S := by unfold uraiseS; rw [hc]; exact if_neg (by decide)
        rw [hc, hS]
        clear hc hS h9
        have bz : (entE nd d v f != 0) = true := by simpa using hz
        clear hA hz hq
        generalize entE nd d v f = z at *
        generalize lookP nd d v f = x at *
        generalize lookM nd d v f = y at *
        go_enter Try.func107, Try.ntmps107
        go_wp2_with fail
        refine HLK.out.mono ?_
        rintro e w1 ⟨rfl, _, hC⟩
        obtain ⟨c1, c2⟩ := HC2.out w1 hC
        have HC := Lib.hid hC; clear hC
        go_wp2_with fail
        go_ret
        exact ⟨rfl, FIN.out _ HC.out⟩
    · have hc : uraiseC nd np d v q f = 1300 := by unfold uraiseC; exact if_pos (.inr hq)
      have hS : uraiseS nd np d v q f S = S := by unfold uraiseS; rw [hc]; exact if_neg (by decide)
      rw [hc, hS]
      clear hc hS hA
      unfold inP at hq
      generalize entE nd d v f = z at *
      generalize lookP nd d v f = x at *
      generalize lookM nd d v f = y at *
      by_cases h0 : 0 ≤ q
      · have h3 : (np : Int) ≤ q := by omega
        clear hq
        go_enter Try.func107, Try.ntmps107
        go_wp2_with fail
        refine HLK.out.mono ?_
        rintro e w1 ⟨rfl, _, hC⟩
        obtain ⟨c1, c2⟩ := HC2.out w1 hC
        have HC := Lib.hid hC; clear hC
        go_wp2_with fail
        go_ret
        exact ⟨rfl, FIN.out _ HC.out⟩
      · have h3 : q < 0 := by omega
        clear hq h0
        go_enter Try.func107, Try.ntmps107
        go_wp2_with fail
        refine HLK.out.mono ?_
        rintro e w1 ⟨rfl, _, hC⟩
        obtain ⟨c1, c2⟩ := HC2.out w1 hC
        have HC := Lib.hid hC; clear hC
        go_wp2_with fail
        go_ret
        exact ⟨rfl, FIN.out _ HC.out⟩
end Go.Proofs.Ytpnhdiajiieonaa
