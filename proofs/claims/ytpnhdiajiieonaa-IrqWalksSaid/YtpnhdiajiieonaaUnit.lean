/- Chapter 13: a unit; plain words; New, told, Route, Unroute, Mask. -/
import Derived.Test.YtpnhdiajiieonaaRemap6
import Derived.Test.YtpnhdiajiieonaaPend2
set_option linter.unusedSimpArgs false
set_option linter.unusedVariables false
namespace Go.Proofs.Ytpnhdiajiieonaa
open Go.RowKit

/-! ### What the calls answer and leave -/
def toldC (e : Int) : Int := if e = 1100 then 1300 else if e = 1101 then 1301 else e
def inP (np : Nat) (q : Int) : Prop := 0 ≤ q ∧ q < np
instance (np : Nat) (q : Int) : Decidable (inP np q) := by unfold inP; infer_instance
def routeC (nd np : Nat) (d v q : Int) : Int := if inP np q then toldC (setC nd d v q) else 1300
def routeF (nd np : Nat) (d v q : Int) (f : Nat → Ent) : Nat → Ent := if inP np q then setF nd d v q f else f
def unrouteS (nd : Nat) (d v : Int) (f : Nat → Ent) (S : Nat → Nat → Bool) : Nat → Nat → Bool := if entE nd d v f = 0 then fun a k => S a k && !isKey d v k else S
def uraiseC (nd np : Nat) (d v q : Int) (f : Nat → Ent) : Int := if entE nd d v f = 1100 ∨ ¬ inP np q then 1300 else if entE nd d v f ≠ 0 ∨ lookP nd d v f ≠ q then 1301 else 0
def uraiseS (nd np : Nat) (d v q : Int) (f : Nat → Ent) (S : Nat → Nat → Bool) : Nat → Nat → Bool := if uraiseC nd np d v q f = 0 then raiseS np q d v S else S
def maskB (nd : Nat) (f : Nat → Ent) (k : Nat) : Bool := decide (k < 8 * nd) && (f k).masked
def maskedL (nd : Nat) (f : Nat → Ent) (c : Nat) : List Iq := ((List.range c).filter (maskB nd f)).map (toIq 0)
def uclearS (nd : Nat) (d : Int) (S : Nat → Nat → Bool) : Nat → Nat → Bool := if clearC nd d = 0 then fun a k => S a k && !isDev d k else S
/-- What is masked is there. -/
def MInv (f : Nat → Ent) : Prop := ∀ k, (f k).masked = true → (f k).is = true
theorem MInv.none : MInv (fun _ => Ent.none) := fun k h => by cases h
theorem MInv.upd {f : Nat → Ent} (h : MInv f) (k : Nat) (e : Ent) (he : e.masked = true → e.is = true) : MInv (upd f k e) := fun j hj => by
  unfold Go.Proofs.Ytpnhdiajiieonaa.upd at hj ⊢
  split
  · rename_i e1; rw [if_pos e1] at hj; exact he hj
  · rename_i e1; rw [if_neg e1] at hj; exact h j hj
theorem MInv.set {f : Nat → Ent} (h : MInv f) (n : Nat) (d v q : Int) : MInv (setF n d v q f) := by
  unfold setF; split
  · exact h.upd _ _ (fun e => by cases e)
  · exact h
theorem MInv.unset {f : Nat → Ent} (h : MInv f) (n : Nat) (d v : Int) : MInv (unsetF n d v f) := by
  unfold unsetF; split
  · exact h.upd _ _ (fun e => by cases e)
  · exact h
theorem MInv.mask {f : Nat → Ent} (h : MInv f) (n : Nat) (d v : Int) (b : Bool) : MInv (maskF n d v b f) := by
  unfold maskF; split
  · rename_i e0
    refine h.upd _ _ (fun _ => ?_)
    unfold entE at e0
    split at e0
    · split at e0
      · assumption
      · exact absurd e0 (by decide)
    · exact absurd e0 (by decide)
  · exact h
theorem MInv.clear {f : Nat → Ent} (h : MInv f) (n : Nat) (d : Int) : MInv (clearF n d f) := by
  unfold clearF; split
  · intro k hk; dsimp only at hk ⊢; split at hk
    · cases hk
    · rename_i e; rw [if_neg e]; exact h k hk
  · exact h
/-! ### A unit: all blocks that it reaches are F -/
def UAt (w : World) (u nd np : Nat) (f : Nat → Ent) (S : Nat → Nat → Bool) (F : Nat → Prop) : Prop :=
  ∃ tp r p Fs, w.heap[u]? = some (.cells #[.int .i64 np, .pointer (some ⟨tp, 0, none⟩), .pointer (some ⟨p, 0, none⟩)] 172 (0, 0)) ∧
    TabAt w 214 229 tp r nd f ∧ SetsAt w p np S Fs ∧ ¬ Fs u ∧ ¬ Fs tp ∧ ¬ Fs r ∧ (∀ k, F k ↔ k = u ∨ k = tp ∨ k = r ∨ k = p ∨ Fs k)
theorem blk_ne {w : World} {a b : Nat} {ca cb : Array Value} {ta tb : TypeId} {fa fb : Nat × Nat} (h1 : w.heap[a]? = some (.cells ca ta fa)) (h2 : w.heap[b]? = some (.cells cb tb fb)) (ht : ta ≠ tb) : a ≠ b := by
  rintro rfl
  rw [h1] at h2; injection h2 with h2; injection h2 with _ h2; exact ht h2
section
variable {w w' : World} {u nd np : Nat} {f f' : Nat → Ent} {S S' : Nat → Nat → Bool} {F F' : Nat → Prop}
theorem UAt.keep {X : Nat → Prop} (h : UAt w u nd np f S F) (hC : Chg X w w') (hX : ∀ k, F k → ¬ X k) : UAt w' u nd np f S F := by
  obtain ⟨tp, r, p, Fs, h1, h2, h3, h4, h5, h6, h7⟩ := h
  have g : ∀ k, (k = u ∨ k = tp ∨ k = r ∨ k = p ∨ Fs k) → ¬ X k := fun k hk => hX k ((h7 k).2 hk)
  exact ⟨tp, r, p, Fs, hC.at h1 (g u (.inl rfl)), h2.keep hC (g tp (.inr (.inl rfl))) (g r (.inr (.inr (.inl rfl)))), h3.keep hC (g p (.inr (.inr (.inr (.inl rfl))))) (fun k hk => g k (.inr (.inr (.inr (.inr hk))))), h4, h5, h6, h7⟩
theorem UAt.keepN (h : UAt w u nd np f S F) (hC : Chg (fun _ => False) w w') : UAt w' u nd np f S F := h.keep hC (fun _ _ => id)
theorem UAt.lt (h : UAt w u nd np f S F) : ∀ k, F k → k < w.heap.size := by
  obtain ⟨tp, r, p, Fs, h1, h2, h3, h4, h5, h6, h7⟩ := h
  intro k hk
  rcases (h7 k).1 hk with rfl | rfl | rfl | rfl | hk
  · exact lt_of_heap h1
  · exact h2.lt.1
  · exact h2.lt.2
  · exact h3.lt.1
  · exact h3.lt.2 k hk
theorem UAt.ne (h : UAt w u nd np f S F) : ∀ tp r p Fs, w.heap[u]? = some (.cells #[.int .i64 np, .pointer (some ⟨tp, 0, none⟩), .pointer (some ⟨p, 0, none⟩)] 172 (0, 0)) → TabAt w 214 229 tp r nd f → SetsAt w p np S Fs → u ≠ r ∧ p ≠ r := by
  intro tp r p Fs h1 h2 h3
  obtain ⟨_, cs, h2b, _⟩ := h2
  obtain ⟨R, vs, g, hV, _, _⟩ := h3
  exact ⟨blk_ne h1 h2b (by decide), blk_ne hV.hp h2b (by decide)⟩
/-- The table is turned. -/
theorem UAt.tab (h : UAt w u nd np f S F) {tp r p : Nat} {Fs : Nat → Prop} (h1 : w.heap[u]? = some (.cells #[.int .i64 np, .pointer (some ⟨tp, 0, none⟩), .pointer (some ⟨p, 0, none⟩)] 172 (0, 0)))
    (h2 : TabAt w 214 229 tp r nd f) (h3 : SetsAt w p np S Fs) (h4 : ¬ Fs u) (h5 : ¬ Fs tp) (h6 : ¬ Fs r) (h7 : ∀ k, F k ↔ k = u ∨ k = tp ∨ k = r ∨ k = p ∨ Fs k)
    (ht : TabAt w' 214 229 tp r nd f') (hC : Chg (fun k => k = r) w w') : UAt w' u nd np f' S F ∧ Chg F w w' := by
  obtain ⟨n1, n2⟩ := h.ne tp r p Fs h1 h2 h3
  exact ⟨⟨tp, r, p, Fs, hC.at h1 n1, ht, h3.keep hC n2 (fun k hk e => h6 (by rw [← e]; exact hk)), h4, h5, h6, h7⟩, hC.mono (fun k _ e => (h7 k).2 (.inr (.inr (.inl e))))⟩
/-- The sets are turned. -/
theorem UAt.sets (h : UAt w u nd np f S F) {tp r p : Nat} {Fs Fs' : Nat → Prop} (h1 : w.heap[u]? = some (.cells #[.int .i64 np, .pointer (some ⟨tp, 0, none⟩), .pointer (some ⟨p, 0, none⟩)] 172 (0, 0)))
    (h2 : TabAt w 214 229 tp r nd f) (h4 : ¬ Fs u) (h5 : ¬ Fs tp) (h6 : ¬ Fs r) (h7 : ∀ k, F k ↔ k = u ∨ k = tp ∨ k = r ∨ k = p ∨ Fs k)
    (h3 : SetsAt w' p np S' Fs') (hf : FootOf w Fs Fs') (hC : Chg Fs w w') : ∃ F', UAt w' u nd np f S' F' ∧ FootOf w F F' ∧ (∀ k, F' k → k = u ∨ k = tp ∨ k = r ∨ k = p ∨ Fs' k) ∧ Chg F w w' :=
  ⟨fun k => k = u ∨ k = tp ∨ k = r ∨ k = p ∨ Fs' k, ⟨tp, r, p, Fs', hC.at h1 h4, h2.keep hC h5 h6, h3, footKeep hf h4 (lt_of_heap h1), footKeep hf h5 h2.lt.1, footKeep hf h6 h2.lt.2, fun _ => Iff.rfl⟩, fun k hk => by
    rcases hk with e | e | e | e | e
    · exact .inl ((h7 k).2 (.inl e))
    · exact .inl ((h7 k).2 (.inr (.inl e)))
    · exact .inl ((h7 k).2 (.inr (.inr (.inl e))))
    · exact .inl ((h7 k).2 (.inr (.inr (.inr (.inl e)))))
    · rcases hf k e with e | e
      · exact .inl ((h7 k).2 (.inr (.inr (.inr (.inr e)))))
      · exact .inr e, fun _ hk => hk, hC.mono (fun k _ e => (h7 k).2 (.inr (.inr (.inr (.inr e)))))⟩
end
theorem told_c (e : Int) (w : World) : Calls Try.prog 113 #[.int .i64 e] w fun x w' => x = .returned (.int .i64 (toldC e)) ∧ w = w' := by
  unfold toldC
  by_cases h1 : e = 1100
  · subst h1
    go_enter Try.func113, Try.ntmps113
    go_wp2
    go_ret
    exact ⟨rfl, rfl⟩
  · rw [if_neg h1]
    have b1 : (e == 1100) = false := by simpa using h1
    by_cases h2 : e = 1101
    · subst h2
      go_enter Try.func113, Try.ntmps113
      go_wp2
      go_ret
      exact ⟨rfl, rfl⟩
    · rw [if_neg h2]
      have b2 : (e == 1101) = false := by simpa using h2
      clear h1 h2
      go_enter Try.func113, Try.ntmps113
      go_wp2
      go_ret
      exact ⟨rfl, rfl⟩
def UNewPost (nd np : Nat) (w : World) (e : Ending) (w' : World) : Prop := ∃ u F, e = .returned (.tuple #[.pointer (some ⟨u, 0, none⟩), .int .i64 0]) ∧ UAt w' u nd np (fun _ => Ent.none) (fun _ _ => false) F ∧ (∀ k, F k → w.heap.size ≤ k) ∧ Chg (fun _ => False) w w'
theorem uNew_ok (nd np : Nat) (w : World) (h1 : 1 ≤ nd ∧ nd ≤ 4) (h2 : 1 ≤ np ∧ np ≤ 4) : Calls Try.prog 58 #[.int .i64 nd, .int .i64 np] w (UNewPost nd np w) := by
  go_enter Try.func58, Try.ntmps58
  go_wp2_with fail
  refine (new24_ok nd w h1.1 h1.2).mono ?_
  rintro e w1 ⟨rfl, ht, hs, hC⟩
  have HT := Lib.hid ht; clear ht
  have HC := Lib.hid hC; clear hC
  go_wp2_with fail
  refine (pNew_ok np w1 h2.1 h2.2).mono ?_
  rintro e w2 ⟨rfl, hs2, hp, hC2⟩
  have hu := blk_new w2 (.cells #[.int .i64 np, .pointer (some ⟨w.heap.size + 1, 0, none⟩), .pointer (some ⟨w1.heap.size + 1, 0, none⟩)] 172)
  have hA := (Chg.refl (fun _ => False) w2).alloc (.cells #[.int .i64 np, .pointer (some ⟨w.heap.size + 1, 0, none⟩), .pointer (some ⟨w1.heap.size + 1, 0, none⟩)] 172)
  have hfin : UAt (w2.alloc (.cells #[.int .i64 np, .pointer (some ⟨w.heap.size + 1, 0, none⟩), .pointer (some ⟨w1.heap.size + 1, 0, none⟩)] 172)) w2.heap.size nd np (fun _ => Ent.none) (fun _ _ => false) (fun k => k = w2.heap.size ∨ k = w.heap.size + 1 ∨ k = w.heap.size ∨ k = w1.heap.size + 1 ∨ k = w1.heap.size) :=
    ⟨_, _, _, _, hu, (HT.out.keep hC2 id id).keep hA id id, hp.keepF hA, by omega, by omega, by omega, fun _ => Iff.rfl⟩
  have hC3 := (HC.out.trans hC2).trans hA
  have hge : ∀ k, (k = w2.heap.size ∨ k = w.heap.size + 1 ∨ k = w.heap.size ∨ k = w1.heap.size + 1 ∨ k = w1.heap.size) → w.heap.size ≤ k := fun k hk => by omega
  have HF := Lib.hid (And.intro hfin (And.intro hge hC3)); clear hfin hge hC3 hu hA hp hC2 hs hs2
  clear HT HC
  go_wp2_with fail
  go_ret2
  exact ⟨_, _, rfl, HF.out⟩
theorem uNew_no (nd np : Int) (w : World) (h : ¬ ((1 ≤ nd ∧ nd ≤ 4) ∧ (1 ≤ np ∧ np ≤ 4))) : Calls Try.prog 58 #[.int .i64 nd, .int .i64 np] w fun e w' => e = .returned (.tuple #[.pointer none, .int .i64 1300]) ∧ Chg (fun _ => False) w w' := by
  by_cases h1 : 1 ≤ nd ∧ nd ≤ 4
  · have h2 : ¬ (1 ≤ np ∧ np ≤ 4) := fun h2 => h ⟨h1, h2⟩
    obtain ⟨n, rfl⟩ := Int.eq_ofNat_of_zero_le (show 0 ≤ nd by omega)
    go_enter Try.func58, Try.ntmps58
    go_wp2_with fail
    refine (new24_ok n w (by omega) (by omega)).mono ?_
    rintro e w1 ⟨rfl, _, _, hC⟩
    have HC := Lib.hid hC; clear hC
    go_wp2_with fail
    refine (pNew_no np w1 h2).mono ?_
    rintro e w2 ⟨rfl, rfl⟩
    go_wp2_with fail
    go_ret2
    exact ⟨rfl, HC.out⟩
  · by_cases h2 : 1 ≤ np ∧ np ≤ 4
    · obtain ⟨n, rfl⟩ := Int.eq_ofNat_of_zero_le (show 0 ≤ np by omega)
      go_enter Try.func58, Try.ntmps58
      go_wp2_with fail
      refine (new24_no nd w h1).mono ?_
      rintro e w1 ⟨rfl, rfl⟩
      go_wp2_with fail
      refine (pNew_ok n w (by omega) (by omega)).mono ?_
      rintro e w2 ⟨rfl, _, _, hC⟩
      have HC := Lib.hid hC; clear hC
      go_wp2_with fail
      go_ret2
      exact ⟨rfl, HC.out⟩
    · go_enter Try.func58, Try.ntmps58
      go_wp2_with fail
      refine (new24_no nd w h1).mono ?_
      rintro e w1 ⟨rfl, rfl⟩
      go_wp2_with fail
      refine (pNew_no np w h2).mono ?_
      rintro e w2 ⟨rfl, rfl⟩
      go_wp2_with fail
      go_ret2
      exact ⟨rfl, Chg.refl _ _⟩
theorem uThere (u np : Nat) (a b : Value) (q : Int) (w : World) (h : w.heap[u]? = some (.cells #[.int .i64 np, a, b] 172 (0, 0))) :
    Calls Try.prog 112 #[.pointer (some ⟨u, 0, none⟩), .int .i64 q] w fun e w' => e = .returned (.bool (decide (inP np q))) ∧ w = w' := by
  have c0 := blk_cell h 0
  clear h
  unfold inP
  by_cases h0 : 0 ≤ q
  · by_cases h1 : q < np
    · rw [decide_eq_true (show 0 ≤ q ∧ q < np from ⟨h0, h1⟩)]
      go_enter Try.func112, Try.ntmps112
      go_wp2
      go_ret
      exact ⟨rfl, rfl⟩
    · rw [decide_eq_false (show ¬ (0 ≤ q ∧ q < np) from fun h => h1 h.2)]
      have h2 : decide (q < (np : Int)) = false := decide_eq_false h1
      have h3 : (np : Int) ≤ q := by omega
      clear h1
      go_enter Try.func112, Try.ntmps112
      go_wp2
      go_ret
      exact ⟨rfl, rfl⟩
  · rw [decide_eq_false (show ¬ (0 ≤ q ∧ q < np) from fun h => h0 h.1)]
    have h2 : decide (0 ≤ q) = false := decide_eq_false h0
    have h3 : q < 0 := by omega
    clear h0
    go_enter Try.func112, Try.ntmps112
    go_wp2
    go_ret
    exact ⟨rfl, rfl⟩
def URoutePost (u nd np : Nat) (f' : Nat → Ent) (S : Nat → Nat → Bool) (F : Nat → Prop) (c : Int) (w : World) (e : Ending) (w' : World) : Prop := e = .returned (.int .i64 c) ∧ UAt w' u nd np f' S F ∧ Chg F w w'
theorem uRoute (u nd np : Nat) (d v q : Int) (f : Nat → Ent) (S : Nat → Nat → Bool) (F : Nat → Prop) (w : World) (h : UAt w u nd np f S F) :
    Calls Try.prog 64 #[.pointer (some ⟨u, 0, none⟩), .int .i64 d, .int .i64 v, .int .i64 q] w (URoutePost u nd np (routeF nd np d v q f) S F (routeC nd np d v q) w) := by
  obtain ⟨tp, r, p, Fs, h1, h2, h3, h4, h5, h6, h7⟩ := id h
  have c1 := blk_cell h1 1
  have hth := uThere u np _ _ q w h1
  have hset := set27 tp r nd f d v q w h2
  have hfin := fun w' ht hC => h.tab (w' := w') (f' := setF nd d v q f) h1 h2 h3 h4 h5 h6 h7 ht hC
  unfold routeF routeC
  have H := Lib.hid h; clear h
  have HTH := Lib.hid hth; clear hth
  have HSET := Lib.hid hset; clear hset
  have HF := Lib.hid hfin; clear hfin h1 h2 h3 h4 h5 h6 h7
  by_cases hq : inP np q
  · rw [if_pos hq, if_pos hq]
    rw [decide_eq_true hq] at HTH
    clear hq
    go_enter Try.func64, Try.ntmps64
    go_wp2_with fail
    refine HTH.out.mono ?_
    rintro e w1 ⟨rfl, rfl⟩
    go_wp2_with fail
    refine HSET.out.mono ?_
    rintro e w1 ⟨rfl, ht, hC⟩
    have hE := HF.out w1 ht hC
    have HE := Lib.hid hE; clear hE ht hC
    go_wp2_with fail
    refine (told_c _ w1).mono ?_
    rintro e w2 ⟨rfl, rfl⟩
    go_wp2_with fail
    go_ret
    exact ⟨rfl, HE.out⟩
  · rw [if_neg hq, if_neg hq]
    rw [decide_eq_false hq] at HTH
    clear hq
    go_enter Try.func64, Try.ntmps64
    go_wp2_with fail
    refine HTH.out.mono ?_
    rintro e w1 ⟨rfl, rfl⟩
    go_wp2_with fail
    go_ret
    exact ⟨rfl, H.out, Chg.refl _ _⟩
theorem uMask (u nd np : Nat) (d v : Int) (b : Bool) (f : Nat → Ent) (S : Nat → Nat → Bool) (F : Nat → Prop) (w : World) (h : UAt w u nd np f S F) :
    Calls Try.prog 66 #[.pointer (some ⟨u, 0, none⟩), .int .i64 d, .int .i64 v, .bool b] w (URoutePost u nd np (maskF nd d v b f) S F (toldC (entE nd d v f)) w) := by
  obtain ⟨tp, r, p, Fs, h1, h2, h3, h4, h5, h6, h7⟩ := id h
  have c1 := blk_cell h1 1
  have hset := mask31 tp r nd f d v b w h2
  have hfin := fun w' ht hC => h.tab (w' := w') (f' := maskF nd d v b f) h1 h2 h3 h4 h5 h6 h7 ht hC
  have HSET := Lib.hid hset; clear hset
  have HF := Lib.hid hfin; clear hfin h1 h2 h3 h4 h5 h6 h7 h
  go_enter Try.func66, Try.ntmps66
  go_wp2_with fail
  refine HSET.out.mono ?_
  rintro e w1 ⟨rfl, ht, hC⟩
  have hE := HF.out w1 ht hC
  have HE := Lib.hid hE; clear hE ht hC
  go_wp2_with fail
  refine (told_c _ w1).mono ?_
  rintro e w2 ⟨rfl, rfl⟩
  go_wp2_with fail
  go_ret
  exact ⟨rfl, HE.out⟩
end Go.Proofs.Ytpnhdiajiieonaa
