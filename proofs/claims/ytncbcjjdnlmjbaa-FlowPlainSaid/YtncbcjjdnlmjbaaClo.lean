/- What is reached: closures of what flows directly. Printed by mkclo.py. -/
import Derived.Test.YtncbcjjdnlmjbaaView
set_option linter.unusedSimpArgs false
set_option linter.unusedVariables false
namespace Go.Proofs.Ytncbcjjdnlmjbaa
open Go.RowKit

/-- One leads to another one, step by step, among n. -/
inductive PathD (D : Nat → Nat → Prop) (n : Nat) (p : Nat) : Nat → Prop
  | refl : PathD D n p p
  | step {x y : Nat} : PathD D n p x → x < n → y < n → D x y → PathD D n p y
theorem PathD.lt {D : Nat → Nat → Prop} {n p q : Nat} (h : PathD D n p q) (hp : p < n) : q < n := by
  cases h with
  | refl => exact hp
  | step _ _ h _ => exact h
theorem PathD.head {D : Nat → Nat → Prop} {n p q r : Nat} (hp : p < n) (hq : q < n) (hd : D p q) (h : PathD D n q r) : PathD D n p r := by
  induction h with
  | refl => exact .step .refl hp hq hd
  | step h1 h2 h3 h4 ih => exact .step ih h2 h3 h4
theorem PathD.trans {D : Nat → Nat → Prop} {n p q r : Nat} (h : PathD D n p q) (k : PathD D n q r) : PathD D n p r := by
  induction k with
  | refl => exact h
  | step h1 h2 h3 h4 ih => exact .step ih h2 h3 h4
/-- A set that holds p, holds but what p leads to, and is closed, is what p leads to. -/
theorem path_of_closed {D : Nat → Nat → Prop} {n p : Nat} {g : Nat → Bool} (h0 : g p = true) (hs : ∀ j, j < n → g j = true → PathD D n p j) (hc : ∀ x, x < n → g x = true → ∀ y, y < n → D x y → g y = true) (q : Nat) (hq : q < n) : g q = true ↔ PathD D n p q := by
  refine ⟨hs q hq, fun h => ?_⟩
  clear hq
  induction h with
  | refl => exact h0
  | step h1 h2 h3 h4 ih => exact hc _ h2 ih _ h3 h4
/-- How many are not in. -/
def outN (g : Nat → Bool) : Nat → Nat
  | 0 => 0
  | n + 1 => outN g n + (if g n = true then 0 else 1)
theorem outN_mono {g h : Nat → Bool} (hm : ∀ j, g j = true → h j = true) : ∀ n, outN h n ≤ outN g n
  | 0 => Nat.le_refl _
  | n + 1 => by
    have := outN_mono hm n
    unfold outN
    by_cases e : g n = true
    · rw [if_pos e, if_pos (hm n e)]; omega
    · rw [if_neg e]; split <;> omega
theorem outN_upd {g : Nat → Bool} {p : Nat} (hp : g p = false) : ∀ n, p < n → outN (upd g p true) n + 1 = outN g n
  | 0, h => by omega
  | n + 1, h => by
    unfold outN
    by_cases e : p = n
    · subst e
      rw [upd_same, if_pos rfl, hp, if_neg (by decide)]
      have : ∀ m, m ≤ p → outN (upd g p true) m = outN g m := by
        intro m
        induction m with
        | zero => intro _; rfl
        | succ m ih => intro hm; unfold outN; rw [ih (by omega), upd_other _ _ (by omega)]
      rw [this p (Nat.le_refl _)]
    · have := outN_upd hp n (by omega)
      rw [upd_other _ _ (fun h => e h.symm)]
      omega
/-- What a walk from p adds to g. -/
structure WalkD (D : Nat → Nat → Prop) (n p : Nat) (g h : Nat → Bool) : Prop where
  mono : ∀ j, g j = true → h j = true
  here : h p = true
  sound : ∀ j, j < n → h j = true → g j = true ∨ PathD D n p j
  closed : ∀ x, x < n → h x = true → g x = false → ∀ y, y < n → D x y → h y = true
/-- On the way: below i all that p leads to directly are in. -/
structure WalkI (D : Nat → Nat → Prop) (n p i : Nat) (g h : Nat → Bool) : Prop where
  mono : ∀ j, g j = true → h j = true
  here : h p = true
  sound : ∀ j, j < n → h j = true → g j = true ∨ PathD D n p j
  closed : ∀ x, x < n → h x = true → g x = false → x ≠ p → ∀ y, y < n → D x y → h y = true
  below : ∀ y, y < i → D p y → h y = true
theorem WalkI.begin {D : Nat → Nat → Prop} {n p : Nat} {g : Nat → Bool} (hp : p < n) : WalkI D n p 0 g (upd g p true) :=
  ⟨fun j h => by by_cases e : j = p; subst e; exact upd_same _ _ _; rw [upd_other _ _ e]; exact h, upd_same _ _ _, fun j hj h => by
    by_cases e : j = p
    · subst e; exact .inr .refl
    · rw [upd_other _ _ e] at h; exact .inl h, fun x hx h h' hne => by (rw [upd_other _ _ hne] at h; rw [h] at h'; exact absurd h' (by decide)), fun y hy => by omega⟩
theorem WalkI.skip {D : Nat → Nat → Prop} {n p i : Nat} {g h : Nat → Bool} (k : WalkI D n p i g h) (hi : h i = true ∨ ¬ D p i) : WalkI D n p (i + 1) g h :=
  ⟨k.mono, k.here, k.sound, k.closed, fun y hy hd => by
    by_cases e : y = i
    · subst e; exact hi.resolve_right (fun h => h hd)
    · exact k.below y (by omega) hd⟩
theorem WalkI.call {D : Nat → Nat → Prop} {n p i : Nat} {g h h' : Nat → Bool} (k : WalkI D n p i g h) (hp : p < n) (hi : i < n) (hd : D p i) (hw : WalkD D n i h h') : WalkI D n p (i + 1) g h' :=
  ⟨fun j hj => hw.mono j (k.mono j hj), hw.mono p k.here, fun j hj hj' => by
    rcases hw.sound j hj hj' with h1 | h1
    · exact k.sound j hj h1
    · exact .inr (PathD.head hp hi hd h1), fun x hx hx' hg hne y hy hxy => by
    by_cases e : h x = true
    · exact hw.mono y (k.closed x hx e hg hne y hy hxy)
    · exact hw.closed x hx hx' (by simpa using e) y hy hxy, fun y hy hdy => by
    by_cases e : y = i
    · subst e; exact hw.here
    · exact hw.mono y (k.below y (by omega) hdy)⟩
theorem WalkI.done {D : Nat → Nat → Prop} {n p : Nat} {g h : Nat → Bool} (k : WalkI D n p n g h) : WalkD D n p g h :=
  ⟨k.mono, k.here, k.sound, fun x hx hx' hg y hy hxy => by
    by_cases e : x = p
    · subst e; exact k.below y hy hxy
    · exact k.closed x hx hx' hg e y hy hxy⟩
theorem WalkD.path {D : Nat → Nat → Prop} {n p : Nat} {h : Nat → Bool} (k : WalkD D n p (fun _ => false) h) (q : Nat) (hq : q < n) : h q = true ↔ PathD D n p q :=
  path_of_closed k.here (fun j hj hj' => (k.sound j hj hj').resolve_left (by decide)) (fun x hx hx' y hy hxy => k.closed x hx hx' rfl y hy hxy) q hq
/-- The blocks of a walk of view's. -/
structure WkAt (w0 w : World) (b bi bc bw r : Nat) (C : Cf) (s : Vs) (g : Nat → Bool) : Prop where
  cfg : ∀ W, Chg (fun _ => False) w0 W → CfP W b C s
  base : Chg (fun _ => False) w0 w
  hi : w.heap[bi]? = some (.cells #[.slice (some ⟨r, 0, none⟩) C.parts.length C.parts.length] 64 (0, 0))
  hc : w.heap[bc]? = some (.cells #[.pointer (some ⟨b, 0, none⟩)] 115 (0, 0))
  hw : w.heap[bw]? = some (.cells #[.func (.func 127) #[] #[.pointer (some ⟨bi, 0, none⟩), .pointer (some ⟨bc, 0, none⟩), .pointer (some ⟨bw, 0, none⟩)]] 183 (0, 0))
  arr : ArrC bcell 1 w r 4 C.parts.length g
  ne : bi ≠ r ∧ bc ≠ r ∧ bw ≠ r
  ge : w0.heap.size ≤ r
theorem WkAt.keep {w0 w w' : World} {b bi bc bw r : Nat} {C : Cf} {s : Vs} {g g' : Nat → Bool} (h : WkAt w0 w b bi bc bw r C s g) (hC : Chg (fun k => k = r) w w') (ha : ArrC bcell 1 w' r 4 C.parts.length g') : WkAt w0 w' b bi bc bw r C s g' :=
  ⟨h.cfg, h.base.trans' hC (fun k hk e => by have := h.ge; omega), hC.at h.hi h.ne.1, hC.at h.hc h.ne.2.1, hC.at h.hw h.ne.2.2, ha, h.ne, h.ge⟩
theorem WkAt.keepN {w0 w w' : World} {b bi bc bw r : Nat} {C : Cf} {s : Vs} {g : Nat → Bool} (h : WkAt w0 w b bi bc bw r C s g) (hC : Chg (fun _ => False) w w') : WkAt w0 w' b bi bc bw r C s g :=
  h.keep (hC.mono (fun k _ e => e.elim)) (h.arr.keep hC id)
def WkPost (w0 : World) (b bi bc bw r : Nat) (C : Cf) (s : Vs) (p : Nat) (g : Nat → Bool) (w : World) (e : Ending) (w' : World) : Prop :=
  e = .returned (.tuple #[]) ∧ ∃ g', WkAt w0 w' b bi bc bw r C s g' ∧ WalkD (DirP C) C.parts.length p g g' ∧ Chg (fun k => k = r) w w'
set_option maxRecDepth 100000 in
set_option maxHeartbeats 4000000 in
theorem vWalk (w0 : World) (b bi bc bw r : Nat) (C : Cf) (s : Vs) : ∀ (m : Nat) (p : Nat) (g : Nat → Bool) (w : World), outN g C.parts.length ≤ m → p < C.parts.length → g p = false → WkAt w0 w b bi bc bw r C s g →
    Calls Try.prog 127 (#[.int .i64 p] ++ #[.pointer (some ⟨bi, 0, none⟩), .pointer (some ⟨bc, 0, none⟩), .pointer (some ⟨bw, 0, none⟩)]) w (WkPost w0 b bi bc bw r C s p g w) := by
  intro m
  induction m with
  | zero => intro p g w hm hp hg; exfalso; have := outN_upd hg _ hp; omega
  | succ m ih =>
    intro p g w hm hp hg hat
    have hml := (hat.cfg _ hat.base).2.1.1
    obtain ⟨A1, k1, A2, k2, A3, k3, A4, k4, rfl, m1, m2, m3, m4⟩ := (hat.cfg _ hat.base).open
    have p0 : (0 : Int) ≤ p := by omega
    have p1 : (p : Int) < C.parts.length := by omega
    have IH := Lib.hid ih; clear ih
    have ci := blk_cell hat.hi 0
    have cc := blk_cell hat.hc 0
    have cw := blk_cell hat.hw 0
    simp only [List.getElem?_toArray, List.getElem?_cons_zero] at ci cc cw
    have cp : w.cell? ⟨r, p, none⟩ = some (.bool (g p)) := by have := hat.arr.cell (k := p) hp (j := 0) (by omega); simpa [bcell] using this
    have fp := hat.arr.free p
    have lp := hat.arr.lt
    have hset : WkAt w0 (w.setCell ⟨r, p, none⟩ (.bool true)) b bi bc bw r C ⟨.slice A1 C.parts.length k1, .slice A2 C.devs.length k2, .slice A3 C.wins.length k3, .slice A4 C.grants.length k4⟩ (upd g p true) := hat.keep ((Chg.refl _ _).set1 _) (by
      have hz2 := hat.arr.set (k := p) hp true rfl
      have e : w.setCells r (p * 1) (bcell true) = w.setCell ⟨r, p, none⟩ (.bool true) := by rw [Nat.mul_one]; rfl
      rw [e] at hz2; exact hz2)
    have HM : Hid (outN (upd g p true) C.parts.length ≤ m) := by have := outN_upd hg _ hp; unfold Hid; omega
    have HSET := Lib.hid hset; clear hset hat hg hm hml
    go_enter Try.func127, Try.ntmps127
    go_upto_region 1 with fail
    refine wp_abs (fun W => WkAt w0 W b bi bc bw r C ⟨.slice A1 C.parts.length k1, .slice A2 C.devs.length k2, .slice A3 C.wins.length k3, .slice A4 C.grants.length k4⟩ (upd g p true) ∧ Chg (fun k => k = r) w W) ⟨HSET.out, (Chg.refl _ _).set1 _⟩ ?_
    clear ci cc cw cp fp lp HSET
    rintro W1 ⟨hat, hC⟩
    have cc := blk_cell hat.hc 0
    simp only [List.getElem?_toArray, List.getElem?_cons_zero] at cc
    obtain ⟨y0, y1, y2, y3, y4, y5, y6, y7, y8⟩ := (hat.cfg _ hat.base).c9'
    have HAT := Lib.hid hat; clear hat
    have HC := Lib.hid hC; clear hC
    go_wp2_with fail
    clear cc y0 y1 y2 y3 y4 y5 y6 y7 y8
    go_loopw [14] (fun s14 wr => ∃ (i : Nat) (h : Nat → Bool), i ≤ C.parts.length ∧ s14 = .int .i64 i ∧ WkAt w0 wr b bi bc bw r C ⟨.slice A1 C.parts.length k1, .slice A2 C.devs.length k2, .slice A3 C.wins.length k3, .slice A4 C.grants.length k4⟩ h ∧ WalkI (DirP C) C.parts.length p i g h ∧ outN h C.parts.length ≤ m ∧ Chg (fun k => k = r) w wr) (fun s14 _ => (C.parts.length - intOf s14).toNat)
    case atStart => exact ⟨0, _, by omega, rfl, HAT.out, WalkI.begin hp, HM.out, HC.out⟩
    case round =>
      clear HAT HC HM
      obtain ⟨i, h, hi, rfl, hat, hI, hm, hC⟩ := hrel
      have i0 : (0 : Int) ≤ i := by omega
      have HI := Lib.hid hI; clear hI
      have HC := Lib.hid hC; clear hC
      have HM := Lib.hid hm; clear hm
      by_cases hlt : i < C.parts.length
      · have i1 : (i : Int) < C.parts.length := by omega
        have ci := blk_cell hat.hi 0
        have cc := blk_cell hat.hc 0
        have cw := blk_cell hat.hw 0
        simp only [List.getElem?_toArray, List.getElem?_cons_zero] at ci cc cw
        have cp : wr.cell? ⟨r, i, none⟩ = some (.bool (h i)) := by have := hat.arr.cell (k := i) hlt (j := 0) (by omega); simpa [bcell] using this
        cases hh : h i with
        | true =>
          rw [hh] at cp
          have HI2 := Lib.hid (HI.out.skip (.inl hh))
          have HAT := Lib.hid hat; clear hat hh
          go_wp2_with fail
          go_roundw
          case rel => exact ⟨i + 1, _, by omega, by go_num, HAT.out, HI2.out, HM.out, HC.out⟩
          case measure => simp [intOf]; omega
        | false =>
          rw [hh] at cp
          have HDIR := Lib.hid (vDirect b p i C _ wr (hat.cfg _ hat.base) hp hlt)
          have HAT := Lib.hid hat; clear hat
          have HH := Lib.hid hh; clear hh
          go_wp2_with fail
          refine HDIR.out.mono ?_
          rintro e w2 ⟨rfl, k2⟩
          have HAT2 := Lib.hid (HAT.out.keepN k2)
          have HC2 : Hid (Chg (fun k => k = r) w w2) := HC.out.trans (k2.mono (fun k _ e => e.elim))
          clear HAT HC k2 HDIR ci cc cw cp
          by_cases hd : DirP C p i
          · rw [decide_eq_true hd]
            have HD := Lib.hid hd; clear hd
            have cw := blk_cell HAT2.out.hw 0
            simp only [List.getElem?_toArray, List.getElem?_cons_zero] at cw
            have HCALL := Lib.hid (IH.out i h w2 HM.out hlt HH.out HAT2.out)
            go_wp2_with fail
            refine HCALL.out.mono ?_
            rintro e w3 ⟨rfl, g', ha3, hw3, hC3⟩
            have HI3 := Lib.hid (HI.out.call hp hlt HD.out hw3)
            have HM3 : Hid (outN g' C.parts.length ≤ m) := Nat.le_trans (outN_mono hw3.mono _) HM.out
            have HAT3 := Lib.hid ha3
            have HC3 := Lib.hid (HC2.out.trans hC3)
            clear ha3 hw3 hC3 HCALL cw
            go_wp2_with fail
            go_roundw
            case rel => exact ⟨i + 1, _, by omega, by go_num, HAT3.out, HI3.out, HM3.out, HC3.out⟩
            case measure => simp [intOf]; omega
          · rw [decide_eq_false hd]
            have HI2 := Lib.hid (HI.out.skip (.inr hd))
            clear hd
            go_wp2_with fail
            go_roundw
            case rel => exact ⟨i + 1, _, by omega, by go_num, HAT2.out, HI2.out, HM.out, HC2.out⟩
            case measure => simp [intOf]; omega
      · obtain rfl : i = C.parts.length := by omega
        have HAT := Lib.hid hat; clear hat
        go_wp2_with fail
        go_end0
        exact ⟨rfl, _, HAT.out, HI.out.done, HC.out⟩
end Go.Proofs.Ytncbcjjdnlmjbaa
