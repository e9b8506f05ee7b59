/- The law IrqWalks. -/
import Derived.Test.YtpnhdiajiieonaaWalks13
set_option linter.unusedSimpArgs false
set_option linter.unusedVariables false
namespace Go.Proofs.Ytpnhdiajiieonaa
open Go.RowKit
attribute [local go_sem] i64_and1 i64_and7
structure W8 (w0 W : World) (u t o q : Nat) (f : Nat → Ent) (S : Nat → Nat → Bool) (F : Nat → Prop) (to : Nat → Int) (off up : Nat → Bool) : Prop where
  us : US w0 W u 1 2 f S F
  ta : A8 3 (fun k => .int .i64 (to k)) W t
  oa : A8 107 (fun k => .bool (off k)) W o
  qa : A8 107 (fun k => .bool (up k)) W q
  nt : ¬ F t
  no : ¬ F o
  nq : ¬ F q
  d1 : t ≠ o
  d2 : t ≠ q
  d3 : o ≠ q
  t0 : w0.heap.size ≤ t
  o0 : w0.heap.size ≤ o
  q0 : w0.heap.size ≤ q
section
variable {w0 W W' : World} {u t o q : Nat} {f f' : Nat → Ent} {S S' : Nat → Nat → Bool} {F F' : Nat → Prop} {to to' : Nat → Int} {off off' up up' : Nat → Bool}
theorem W8.keepN (h : W8 w0 W u t o q f S F to off up) (hC : Chg (fun _ => False) W W') : W8 w0 W' u t o q f S F to off up := ⟨h.us.keepN hC, h.ta.keep hC id, h.oa.keep hC id, h.qa.keep hC id, h.nt, h.no, h.nq, h.d1, h.d2, h.d3, h.t0, h.o0, h.q0⟩
theorem W8.step (h : W8 w0 W u t o q f S F to off up) (ha : US w0 W' u 1 2 f' S' F') (hf : FootOf W F F') (hC : Chg F W W') : W8 w0 W' u t o q f' S' F' to off up :=
  ⟨ha, h.ta.keep hC h.nt, h.oa.keep hC h.no, h.qa.keep hC h.nq, footKeep hf h.nt h.ta.lt, footKeep hf h.no h.oa.lt, footKeep hf h.nq h.qa.lt, h.d1, h.d2, h.d3, h.t0, h.o0, h.q0⟩
theorem W8.other (h : W8 w0 W u t o q f S F to off up) {X : Nat → Prop} (hC : Chg X W W') (hX : ∀ k, X k → ¬ F k ∧ k ≠ t ∧ k ≠ o ∧ k ≠ q ∧ w0.heap.size ≤ k) : W8 w0 W' u t o q f S F to off up :=
  ⟨h.us.other hC (fun k hk => ⟨(hX k hk).1, (hX k hk).2.2.2.2⟩), h.ta.keep hC (fun e => (hX _ e).2.1 rfl), h.oa.keep hC (fun e => (hX _ e).2.2.1 rfl), h.qa.keep hC (fun e => (hX _ e).2.2.2.1 rfl), h.nt, h.no, h.nq, h.d1, h.d2, h.d3, h.t0, h.o0, h.q0⟩
theorem W8.setT (h : W8 w0 W u t o q f S F to off up) {k : Nat} (hk : k < 8) (y : Int) : W8 w0 (W.setCell ⟨t, k, none⟩ (.int .i64 y)) u t o q f S F (upd to k y) off up :=
  ⟨h.us.other (Chg.set1 (Chg.refl _ _) _) (fun j hj => ⟨by rw [hj]; exact h.nt, by rw [hj]; exact h.t0⟩), h.ta.set hk _ (fun j _ => by unfold upd; split <;> rfl), h.oa.far (fun e => h.d1 e.symm) _, h.qa.far (fun e => h.d2 e.symm) _, h.nt, h.no, h.nq, h.d1, h.d2, h.d3, h.t0, h.o0, h.q0⟩
theorem W8.setO (h : W8 w0 W u t o q f S F to off up) {k : Nat} (hk : k < 8) (y : Bool) : W8 w0 (W.setCell ⟨o, k, none⟩ (.bool y)) u t o q f S F to (upd off k y) up :=
  ⟨h.us.other (Chg.set1 (Chg.refl _ _) _) (fun j hj => ⟨by rw [hj]; exact h.no, by rw [hj]; exact h.o0⟩), h.ta.far h.d1 _, h.oa.set hk _ (fun j _ => by unfold upd; split <;> rfl), h.qa.far (fun e => h.d3 e.symm) _, h.nt, h.no, h.nq, h.d1, h.d2, h.d3, h.t0, h.o0, h.q0⟩
theorem W8.setQ (h : W8 w0 W u t o q f S F to off up) {k : Nat} (hk : k < 8) (y : Bool) : W8 w0 (W.setCell ⟨q, k, none⟩ (.bool y)) u t o q f S F to off (upd up k y) :=
  ⟨h.us.other (Chg.set1 (Chg.refl _ _) _) (fun j hj => ⟨by rw [hj]; exact h.nq, by rw [hj]; exact h.q0⟩), h.ta.far h.d2 _, h.oa.far h.d3 _, h.qa.set hk _ (fun j _ => by unfold upd; split <;> rfl), h.nt, h.no, h.nq, h.d1, h.d2, h.d3, h.t0, h.o0, h.q0⟩
end
theorem W8.congQ {w0 W : World} {u t o q : Nat} {f : Nat → Ent} {S : Nat → Nat → Bool} {F : Nat → Prop} {to : Nat → Int} {off up up' : Nat → Bool} (h : W8 w0 W u t o q f S F to off up) (e : ∀ k, k < 8 → up k = up' k) : W8 w0 W u t o q f S F to off up' :=
  ⟨h.us, h.ta, h.oa, by obtain ⟨cs, h1, h2, h3⟩ := h.qa; exact ⟨cs, h1, h2, fun k hk => (h3 k hk).trans (by show some (Value.bool (up k)) = some (Value.bool (up' k)); rw [e k hk])⟩, h.nt, h.no, h.nq, h.d1, h.d2, h.d3, h.t0, h.o0, h.q0⟩
theorem upC_at (to : Nat → Int) (off up : Nat → Bool) (p k : Nat) : upC to off up p k k = up k := by unfold upC; simp
theorem upC_no (to : Nat → Int) (off up : Nat → Bool) {p k : Nat} (h : (up k && decide (to k = (p : Int)) && !off k) = false) : ∀ i, i < 8 → upC to off up p k i = upC to off up p (k + 1) i := fun i hi => by
  unfold upC
  by_cases e : i = k
  · subst e
    rw [decide_eq_false (show ¬ i < i by omega), decide_eq_true (show i < i + 1 by omega)]
    cases h1 : up i <;> cases h2 : off i <;> cases h3 : decide (to i = (p : Int)) <;> simp_all
  · have : decide (i < k) = decide (i < k + 1) := decide_eq_decide.2 (by omega)
    rw [this]
theorem upC_yes (to : Nat → Int) (off up : Nat → Bool) {p k : Nat} (h : (up k && decide (to k = (p : Int)) && !off k) = true) : ∀ i, upC to off up p (k + 1) i = upd (upC to off up p k) k false i := fun i => by
  by_cases e : i = k
  · subst e
    rw [upd_same]
    unfold upC
    rw [decide_eq_true (show i < i + 1 by omega)]
    cases h1 : up i <;> cases h2 : off i <;> cases h3 : decide (to i = (p : Int)) <;> simp_all
  · rw [upd_other _ _ e]
    unfold upC
    have : decide (i < k) = decide (i < k + 1) := decide_eq_decide.2 (by omega)
    rw [this]
def wt0 : Nat → Int := fun _ => -1
def wb0 : Nat → Bool := fun _ => false
theorem wk0 : Wk ub0 us0 wt0 wb0 wb0 := ⟨fun _ _ => rfl, fun _ _ h => (by cases h), fun _ _ => rfl, fun _ _ _ _ => rfl, fun _ _ _ _ _ => rfl, fun _ _ h => (by cases h)⟩
set_option maxRecDepth 100000 in
set_option maxHeartbeats 100000000 in
theorem irqWalks_main (A : Option Addr) (ca : Nat) (xs : List Int) (w0 : World) (hx : xs.length ≤ 9223372036854775807) (rx : RowC w0 A (xs.flatMap icell)) :
    Calls Try.prog 15 #[.slice A xs.length ca] w0 fun e w' => e = .returned (.bool true) ∧ Chg (fun _ => False) w0 w' := by
  go_enter Try.func15, Try.ntmps15
  go_wp2_with fail
  refine (awake13 _).mono ?_
  rintro e w ⟨rfl, hC0⟩
  have HC0 := Lib.hid hC0; clear hC0
  go_wp2_with fail
  refine (usNew 1 2 w0 w (by omega) (by omega) HC0.out).mono ?_
  rintro e w1 ⟨u, F, rfl, P, -, -⟩
  clear HC0
  have HP := Lib.hid P; clear P
  go_wp2_with fail
  refine (num16 0 w1).mono ?_
  rintro e w3 ⟨rfl, rfl⟩
  go_wp2_with fail
  refine wp_abs (fun W => W8 w0 W u w1.heap.size (w1.heap.size + 1) (w1.heap.size + 1 + 1) ub0 us0 F wt0 wb0 wb0) ?_ ?_
  · have hlt := HP.out.at_.lt
    have hs := HP.out.chg.size
    refine ⟨HP.out.keepN ((((Chg.refl _ _).alloc _).alloc _).alloc _), ⟨_, blk_alloc (blk_alloc (blk_new _ _) _) _, rfl, ?_⟩, ⟨Array.replicate 8 (.bool false), blk_alloc (blk_new2 _ _ _) _, by simp, fun k hk => by rw [Array.getElem?_replicate, if_pos hk]; rfl⟩, ⟨Array.replicate 8 (.bool false), blk_new3 _ _ _ _, by simp, fun k hk => by rw [Array.getElem?_replicate, if_pos hk]; rfl⟩, fun h => by have := hlt _ h; omega, fun h => by have := hlt _ h; omega, fun h => by have := hlt _ h; omega, by omega, by omega, by omega, by omega, by omega, by omega⟩
    intro k hk
    match k, hk with
    | 0, _ => rfl
    | 1, _ => rfl
    | 2, _ => rfl
    | 3, _ => rfl
    | 4, _ => rfl
    | 5, _ => rfl
    | 6, _ => rfl
    | 7, _ => rfl
  intro W0 hW0
  clear HP
  generalize w1.heap.size + 1 + 1 = q at *
  generalize w1.heap.size + 1 = o at *
  generalize w1.heap.size = t at *
  have HW0 := Lib.hid hW0; clear hW0
  go_loopw [8] (fun s wr => ∃ (j : Nat) (f : Nat → Ent) (S : Nat → Nat → Bool) (F : Nat → Prop) (to : Nat → Int) (off up : Nat → Bool), j ≤ xs.length ∧ s = .int .i64 j ∧ W8 w0 wr u t o q f S F to off up ∧ Wk f S to off up) (fun s _ => xs.length - (intOf s).toNat)
  case atStart => exact ⟨0, ub0, us0, F, wt0, wb0, wb0, by omega, rfl, HW0.out, wk0⟩
  case round =>
    clear HW0
    clear F
    obtain ⟨j, f, S, F, to, off, up, hj, rfl, hP, hL⟩ := hrel
    have j0 : (0 : Int) ≤ j := by omega
    by_cases hlt : j < xs.length ∧ j < 60
    · obtain ⟨hlt, h60⟩ := hlt
      have j1 : (j : Int) < xs.length := by omega
      have j2 : (j : Int) < 60 := by omega
      obtain ⟨b, oo, rfl, c0w⟩ := intAt rx j hlt
      have c0 := hP.us.chg.cell c0w id
      generalize xs[j] = x at *
      obtain ⟨v, hdv, hv⟩ : ∃ k : Nat, x % 8 = k ∧ k < 8 := ⟨(x % 8).toNat, by omega, by omega⟩
      obtain ⟨p, hpp, hp⟩ : ∃ k : Nat, x / 8 % 2 = k ∧ k < 2 := ⟨(x / 8 % 2).toNat, by omega, by omega⟩
      obtain ⟨m, hm, hm8⟩ : ∃ k : Nat, x / 16 % 8 = k ∧ k < 8 := ⟨(x / 16 % 8).toNat, by omega, by omega⟩
      have HP := Lib.hid hP; clear hP
      have HL := Lib.hid hL; clear hL
      have HDV := Lib.hid hdv; clear hdv
      have HPP := Lib.hid hpp; clear hpp
      have HM := Lib.hid hm; clear hm
      have C0W := Lib.hid c0w; clear c0w
      have v0 : (0 : Int) ≤ v := by omega
      have v8 : (v : Int) < 8 := by omega
      have p0 : (0 : Int) ≤ p := by omega
      go_wp2_with fail
      go_quiet (fail)
      rename_i nq
      rw [HDV.out, HPP.out]
      have hPq := HP.out.keepN ((Chg.refl (fun _ => False) _).drewN nq)
      have HPQ := Lib.hid hPq; clear hPq
      have hwq : ∃ wq, wq = wr.drewN nq := ⟨_, rfl⟩
      obtain ⟨wq, hwq⟩ := hwq
      rw [← hwq] at HPQ ⊢
      clear hwq HP c0 HDV HPP
      have c0 := HPQ.out.us.chg.cell C0W.out id
      have hct := HPQ.out.ta.cell hv
      have hco := HPQ.out.oa.cell hv
      have hcq := HPQ.out.qa.cell hv
      have fct := HPQ.out.ta.free v
      have fco := HPQ.out.oa.free v
      have fcq := HPQ.out.qa.free v
      rcases (by omega : m = 0 ∨ m = 1 ∨ m = 2 ∨ m = 3 ∨ m = 4 ∨ m = 5 ∨ m = 6 ∨ m = 7) with rfl | rfl | rfl | rfl | rfl | rfl | rfl | rfl
      · as_aux_lemma =>
          have hm := HM.out; clear HM
          cases hu : up v with
          | false =>
            rw [hu] at hcq
            have hk : up v = true → to v = (p : Int) := fun h => by simp_all
            have hR := HL.out.route hv hp hk
            have HR := Lib.hid hR; clear hR hk
            clear hu
            go_wp2_with fail
            refine (usRoute HPQ.out.us 0 v p).mono ?_
            rintro e w5 ⟨rfl, F5, a5, f5, k5⟩
            rw [HR.out.1]
            have P5 := HPQ.out.step a5 f5 k5
            clear hct hco hcq fct fco fcq c0
            have hct := P5.ta.cell hv
            have hco := P5.oa.cell hv
            have hcq := P5.qa.cell hv
            have fct := P5.ta.free v
            have fco := P5.oa.free v
            have fcq := P5.qa.free v
            have HP5 := Lib.hid (P5.setT hv p); clear P5 a5 f5 k5 HPQ
            have gco := HP5.out.oa.cell hv
            have gfo := HP5.out.oa.free v
            have HP6 := Lib.hid (HP5.out.setO hv false); clear HP5
            go_wp2_with fail
            refine (num16 0 _).mono ?_
            rintro e x1 ⟨rfl, rfl⟩
            go_wp2_with fail
            go_roundw
            case rel => exact ⟨j + 1, _, _, _, _, _, _, by omega, by go_num, HP6.out, HR.out.2⟩
            case measure => simp [intOf]; omega
          | true =>
            rw [hu] at hcq
            by_cases hto : to v = (p : Int)
            · rw [hto] at hct
              have hk : up v = true → to v = (p : Int) := fun h => by simp_all
              have hR := HL.out.route hv hp hk
              have HR := Lib.hid hR; clear hR hk
              clear hu hto
              go_wp2_with fail
              refine (usRoute HPQ.out.us 0 v p).mono ?_
              rintro e w5 ⟨rfl, F5, a5, f5, k5⟩
              rw [HR.out.1]
              have P5 := HPQ.out.step a5 f5 k5
              clear hct hco hcq fct fco fcq c0
              have hct := P5.ta.cell hv
              have hco := P5.oa.cell hv
              have hcq := P5.qa.cell hv
              have fct := P5.ta.free v
              have fco := P5.oa.free v
              have fcq := P5.qa.free v
              have HP5 := Lib.hid (P5.setT hv p); clear P5 a5 f5 k5 HPQ
              have gco := HP5.out.oa.cell hv
              have gfo := HP5.out.oa.free v
              have HP6 := Lib.hid (HP5.out.setO hv false); clear HP5
              go_wp2_with fail
              refine (num16 0 _).mono ?_
              rintro e x1 ⟨rfl, rfl⟩
              go_wp2_with fail
              go_roundw
              case rel => exact ⟨j + 1, _, _, _, _, _, _, by omega, by go_num, HP6.out, HR.out.2⟩
              case measure => simp [intOf]; omega
            · have bt : (to v != (p : Int)) = true := by simpa using hto
              have HLx := HL
              go_wp2_with fail
              go_roundw
              case rel => exact ⟨j + 1, _, _, _, _, _, _, by omega, by go_num, HPQ.out, HLx.out⟩
              case measure => simp [intOf]; omega
      · as_aux_lemma =>
          have hm := HM.out; clear HM
          cases hu : up v with
          | false =>
            rw [hu] at hcq
            have hk : up v = true → to v = (p : Int) := fun h => by simp_all
            have hR := HL.out.route hv hp hk
            have HR := Lib.hid hR; clear hR hk
            clear hu
            go_wp2_with fail
            refine (usRoute HPQ.out.us 0 v p).mono ?_
            rintro e w5 ⟨rfl, F5, a5, f5, k5⟩
            rw [HR.out.1]
            have P5 := HPQ.out.step a5 f5 k5
            clear hct hco hcq fct fco fcq c0
            have hct := P5.ta.cell hv
            have hco := P5.oa.cell hv
            have hcq := P5.qa.cell hv
            have fct := P5.ta.free v
            have fco := P5.oa.free v
            have fcq := P5.qa.free v
            have HP5 := Lib.hid (P5.setT hv p); clear P5 a5 f5 k5 HPQ
            have gco := HP5.out.oa.cell hv
            have gfo := HP5.out.oa.free v
            have HP6 := Lib.hid (HP5.out.setO hv false); clear HP5
            go_wp2_with fail
            refine (num16 0 _).mono ?_
            rintro e x1 ⟨rfl, rfl⟩
            go_wp2_with fail
            go_roundw
            case rel => exact ⟨j + 1, _, _, _, _, _, _, by omega, by go_num, HP6.out, HR.out.2⟩
            case measure => simp [intOf]; omega
          | true =>
            rw [hu] at hcq
            by_cases hto : to v = (p : Int)
            · rw [hto] at hct
              have hk : up v = true → to v = (p : Int) := fun h => by simp_all
              have hR := HL.out.route hv hp hk
              have HR := Lib.hid hR; clear hR hk
              clear hu hto
              go_wp2_with fail
              refine (usRoute HPQ.out.us 0 v p).mono ?_
              rintro e w5 ⟨rfl, F5, a5, f5, k5⟩
              rw [HR.out.1]
              have P5 := HPQ.out.step a5 f5 k5
              clear hct hco hcq fct fco fcq c0
              have hct := P5.ta.cell hv
              have hco := P5.oa.cell hv
              have hcq := P5.qa.cell hv
              have fct := P5.ta.free v
              have fco := P5.oa.free v
              have fcq := P5.qa.free v
              have HP5 := Lib.hid (P5.setT hv p); clear P5 a5 f5 k5 HPQ
              have gco := HP5.out.oa.cell hv
              have gfo := HP5.out.oa.free v
              have HP6 := Lib.hid (HP5.out.setO hv false); clear HP5
              go_wp2_with fail
              refine (num16 0 _).mono ?_
              rintro e x1 ⟨rfl, rfl⟩
              go_wp2_with fail
              go_roundw
              case rel => exact ⟨j + 1, _, _, _, _, _, _, by omega, by go_num, HP6.out, HR.out.2⟩
              case measure => simp [intOf]; omega
            · have bt : (to v != (p : Int)) = true := by simpa using hto
              have HLx := HL
              go_wp2_with fail
              go_roundw
              case rel => exact ⟨j + 1, _, _, _, _, _, _, by omega, by go_num, HPQ.out, HLx.out⟩
              case measure => simp [intOf]; omega
      · as_aux_lemma =>
          have hm := HM.out; clear HM
          cases hi : (f v).is with
          | true =>
            have hY := HL.out.yes hv hi
            have hcode : entE 1 0 v f = 0 := hY.2.2
            have hge : 0 ≤ to v := hY.2.1
            have hcode2 : toldC (entE 1 0 v f) = 0 := by rw [hcode]; rfl
            have hU := HL.out.unroute hv HPQ.out.us.minv
            have HU := Lib.hid hU; clear hU
            have HCD := Lib.hid hcode2; clear hcode2 hcode
            have HY := Lib.hid hY; clear hY
            clear hi
            go_wp2_with fail
            refine (usUnroute HPQ.out.us (by omega) 0 v).mono ?_
            rintro e w5 ⟨rfl, F5, a5, f5, k5⟩
            rw [HCD.out]
            have P5 := HPQ.out.step a5 f5 k5
            clear hct hco hcq fct fco fcq c0
            have hct := P5.ta.cell hv
            skip
            have HP5 := Lib.hid P5; clear P5 a5 f5 k5 HPQ
            go_wp2_with fail
            go_quiet ((go_at_call 27; exact Calls.quiet_of_same (num16q _ _)))
            clear hct
            have P6 := HP5.out.keepN ((Chg.refl (fun _ => False) _).drewN nq)
            generalize w5.drewN nq = w6 at *
            have hct := P6.ta.cell hv
            have hco := P6.oa.cell hv
            have hcq := P6.qa.cell hv
            have fct := P6.ta.free v
            have fco := P6.oa.free v
            have fcq := P6.qa.free v
            have P7 := P6.setT hv (-1)
            have hco2 := P7.oa.cell hv
            have fco2 := P7.oa.free v
            have P8 := P7.setO hv false
            have hcq2 := P8.qa.cell hv
            have fcq2 := P8.qa.free v
            have HP9 := Lib.hid (P8.setQ hv false); clear P6 P7 P8 HP5
            go_wp2_with fail
            go_roundw
            case rel => exact ⟨j + 1, _, _, _, _, _, _, by omega, by go_num, HP9.out, HU.out⟩
            case measure => simp [intOf]; omega
          | false =>
            have hY := HL.out.no hv hi
            have hcode : entE 1 0 v f = 1101 := hY.2.2
            rw [hY.1] at hct
            have hcode2 : toldC (entE 1 0 v f) = 1301 := by rw [hcode]; rfl
            have hU := HL.out.unroute hv HPQ.out.us.minv
            have HU := Lib.hid hU; clear hU
            have HCD := Lib.hid hcode2; clear hcode2 hcode
            have HY := Lib.hid hY; clear hY
            clear hi
            go_wp2_with fail
            refine (usUnroute HPQ.out.us (by omega) 0 v).mono ?_
            rintro e w5 ⟨rfl, F5, a5, f5, k5⟩
            rw [HCD.out]
            have P5 := HPQ.out.step a5 f5 k5
            clear hct hco hcq fct fco fcq c0
            have hct := P5.ta.cell hv
            rw [HY.out.1] at hct
            have HP5 := Lib.hid P5; clear P5 a5 f5 k5 HPQ
            go_wp2_with fail
            go_quiet ((go_at_call 27; exact Calls.quiet_of_same (num16q _ _)))
            clear hct
            have P6 := HP5.out.keepN ((Chg.refl (fun _ => False) _).drewN nq)
            generalize w5.drewN nq = w6 at *
            have hct := P6.ta.cell hv
            have hco := P6.oa.cell hv
            have hcq := P6.qa.cell hv
            have fct := P6.ta.free v
            have fco := P6.oa.free v
            have fcq := P6.qa.free v
            have P7 := P6.setT hv (-1)
            have hco2 := P7.oa.cell hv
            have fco2 := P7.oa.free v
            have P8 := P7.setO hv false
            have hcq2 := P8.qa.cell hv
            have fcq2 := P8.qa.free v
            have HP9 := Lib.hid (P8.setQ hv false); clear P6 P7 P8 HP5
            go_wp2_with fail
            go_roundw
            case rel => exact ⟨j + 1, _, _, _, _, _, _, by omega, by go_num, HP9.out, HU.out⟩
            case measure => simp [intOf]; omega
      · as_aux_lemma =>
          have hm := HM.out; clear HM
          cases hi : (f v).is with
          | true =>
            have hY := HL.out.yes hv hi
            have hcode : entE 1 0 v f = 0 := hY.2.2
            have hge : 0 ≤ to v := hY.2.1
            have hcode2 : toldC (entE 1 0 v f) = 0 := by rw [hcode]; rfl
            have HCD := Lib.hid hcode2; clear hcode2 hcode
            have HY := Lib.hid hY; clear hY
            by_cases hp1 : p = 1
            · have bp : ((p : Int) == 1) = true := by rw [hp1]; rfl
              clear hp1
              have hU : Wk (maskF 1 0 v true f) S to (upd off v true) up := by
                have := HL.out.mask hv HPQ.out.us.minv true
                rw [hi] at this; exact this
              have HU := Lib.hid hU; clear hU hi
              go_wp2_with fail
              refine (usMask HPQ.out.us 0 v true).mono ?_
              rintro e w5 ⟨rfl, F5, a5, f5, k5⟩
              rw [HCD.out]
              have P5 := HPQ.out.step a5 f5 k5
              clear hct hco hcq fct fco fcq c0
              have hct := P5.ta.cell hv
              skip
              have HP5 := Lib.hid P5; clear P5 a5 f5 k5 HPQ
              go_wp2_with fail
              go_quiet ((go_at_call 27; exact Calls.quiet_of_same (num16q _ _)))
              clear hct
              have P6 := HP5.out.keepN ((Chg.refl (fun _ => False) _).drewN nq)
              generalize w5.drewN nq = w6 at *
              have hct := P6.ta.cell hv
              have hco := P6.oa.cell hv
              have hcq := P6.qa.cell hv
              have fct := P6.ta.free v
              have fco := P6.oa.free v
              have fcq := P6.qa.free v
              skip
              have HP9 := Lib.hid (P6.setO hv true); clear P6 HP5
              go_wp2_with fail
              go_roundw
              case rel => exact ⟨j + 1, _, _, _, _, _, _, by omega, by go_num, HP9.out, HU.out⟩
              case measure => simp [intOf]; omega
            · have bp : ((p : Int) == 1) = false := by simp; omega
              clear hp1
              have hU : Wk (maskF 1 0 v false f) S to (upd off v false) up := by
                have := HL.out.mask hv HPQ.out.us.minv false
                rw [hi] at this; exact this
              have HU := Lib.hid hU; clear hU hi
              go_wp2_with fail
              refine (usMask HPQ.out.us 0 v false).mono ?_
              rintro e w5 ⟨rfl, F5, a5, f5, k5⟩
              rw [HCD.out]
              have P5 := HPQ.out.step a5 f5 k5
              clear hct hco hcq fct fco fcq c0
              have hct := P5.ta.cell hv
              skip
              have HP5 := Lib.hid P5; clear P5 a5 f5 k5 HPQ
              go_wp2_with fail
              go_quiet ((go_at_call 27; exact Calls.quiet_of_same (num16q _ _)))
              clear hct
              have P6 := HP5.out.keepN ((Chg.refl (fun _ => False) _).drewN nq)
              generalize w5.drewN nq = w6 at *
              have hct := P6.ta.cell hv
              have hco := P6.oa.cell hv
              have hcq := P6.qa.cell hv
              have fct := P6.ta.free v
              have fco := P6.oa.free v
              have fcq := P6.qa.free v
              skip
              have HP9 := Lib.hid (P6.setO hv false); clear P6 HP5
              go_wp2_with fail
              go_roundw
              case rel => exact ⟨j + 1, _, _, _, _, _, _, by omega, by go_num, HP9.out, HU.out⟩
              case measure => simp [intOf]; omega
          | false =>
            have hY := HL.out.no hv hi
            have hcode : entE 1 0 v f = 1101 := hY.2.2
            rw [hY.1] at hct
            have hcode2 : toldC (entE 1 0 v f) = 1301 := by rw [hcode]; rfl
            have HCD := Lib.hid hcode2; clear hcode2 hcode
            have HY := Lib.hid hY; clear hY
            by_cases hp1 : p = 1
            · have bp : ((p : Int) == 1) = true := by rw [hp1]; rfl
              clear hp1
              have hU : Wk (maskF 1 0 v true f) S to (upd off v false) up := by
                have := HL.out.mask hv HPQ.out.us.minv true
                rw [hi] at this; exact this
              have HU := Lib.hid hU; clear hU hi
              go_wp2_with fail
              refine (usMask HPQ.out.us 0 v true).mono ?_
              rintro e w5 ⟨rfl, F5, a5, f5, k5⟩
              rw [HCD.out]
              have P5 := HPQ.out.step a5 f5 k5
              clear hct hco hcq fct fco fcq c0
              have hct := P5.ta.cell hv
              rw [HY.out.1] at hct
              have HP5 := Lib.hid P5; clear P5 a5 f5 k5 HPQ
              go_wp2_with fail
              go_quiet ((go_at_call 27; exact Calls.quiet_of_same (num16q _ _)))
              clear hct
              have P6 := HP5.out.keepN ((Chg.refl (fun _ => False) _).drewN nq)
              generalize w5.drewN nq = w6 at *
              have hct := P6.ta.cell hv
              have hco := P6.oa.cell hv
              have hcq := P6.qa.cell hv
              have fct := P6.ta.free v
              have fco := P6.oa.free v
              have fcq := P6.qa.free v
              rw [HY.out.1] at hct
              have HP9 := Lib.hid (P6.setO hv false); clear P6 HP5
              go_wp2_with fail
              go_roundw
              case rel => exact ⟨j + 1, _, _, _, _, _, _, by omega, by go_num, HP9.out, HU.out⟩
              case measure => simp [intOf]; omega
            · have bp : ((p : Int) == 1) = false := by simp; omega
              clear hp1
              have hU : Wk (maskF 1 0 v false f) S to (upd off v false) up := by
                have := HL.out.mask hv HPQ.out.us.minv false
                rw [hi] at this; exact this
              have HU := Lib.hid hU; clear hU hi
              go_wp2_with fail
              refine (usMask HPQ.out.us 0 v false).mono ?_
              rintro e w5 ⟨rfl, F5, a5, f5, k5⟩
              rw [HCD.out]
              have P5 := HPQ.out.step a5 f5 k5
              clear hct hco hcq fct fco fcq c0
              have hct := P5.ta.cell hv
              rw [HY.out.1] at hct
              have HP5 := Lib.hid P5; clear P5 a5 f5 k5 HPQ
              go_wp2_with fail
              go_quiet ((go_at_call 27; exact Calls.quiet_of_same (num16q _ _)))
              clear hct
              have P6 := HP5.out.keepN ((Chg.refl (fun _ => False) _).drewN nq)
              generalize w5.drewN nq = w6 at *
              have hct := P6.ta.cell hv
              have hco := P6.oa.cell hv
              have hcq := P6.qa.cell hv
              have fct := P6.ta.free v
              have fco := P6.oa.free v
              have fcq := P6.qa.free v
              rw [HY.out.1] at hct
              have HP9 := Lib.hid (P6.setO hv false); clear P6 HP5
              go_wp2_with fail
              go_roundw
              case rel => exact ⟨j + 1, _, _, _, _, _, _, by omega, by go_num, HP9.out, HU.out⟩
              case measure => simp [intOf]; omega
      · as_aux_lemma =>
          have hm := HM.out; clear HM
          by_cases hto : to v = (p : Int)
          · cases hu : up v with
            | true =>
              have hR := HL.out.raise hv hp
              have hc : uraiseC 1 2 0 v p f = 0 := by rw [hR.1]; exact if_pos hto
              have hU : Wk f (uraiseS 1 2 0 v p f S) to off (upd up v true) := by
                have := hR.2
                rw [hu, decide_eq_true hto] at this; exact this
              have HCD := Lib.hid hc; clear hc hR
              have HU := Lib.hid hU; clear hU
              have HTO := Lib.hid hto
              have HUP := Lib.hid hu; clear hu
              skip
              clear hto
              go_wp2_with fail
              refine (usRaise HPQ.out.us (by omega) 0 v p).mono ?_
              rintro e w5 ⟨rfl, F5, a5, f5, k5⟩
              rw [HCD.out]
              have P5 := HPQ.out.step a5 f5 k5
              clear hct hco hcq fct fco fcq c0
              have hct := P5.ta.cell hv
              rw [HTO.out] at hct
              have HP5 := Lib.hid P5; clear P5 a5 f5 k5 HPQ
              go_wp2_with fail
              go_quiet ((go_at_call 27; exact Calls.quiet_of_same (num16q _ _)))
              clear hct
              have P6 := HP5.out.keepN ((Chg.refl (fun _ => False) _).drewN nq)
              generalize w5.drewN nq = w6 at *
              have hct := P6.ta.cell hv
              have hco := P6.oa.cell hv
              have hcq := P6.qa.cell hv
              have fct := P6.ta.free v
              have fco := P6.oa.free v
              have fcq := P6.qa.free v
              rw [HTO.out] at hct
              rw [HUP.out] at hcq
              have HP9 := Lib.hid (P6.setQ hv true); clear P6 HP5
              go_wp2_with fail
              go_roundw
              case rel => exact ⟨j + 1, _, _, _, _, _, _, by omega, by go_num, HP9.out, HU.out⟩
              case measure => simp [intOf]; omega
            | false =>
              have hR := HL.out.raise hv hp
              have hc : uraiseC 1 2 0 v p f = 0 := by rw [hR.1]; exact if_pos hto
              have hU : Wk f (uraiseS 1 2 0 v p f S) to off (upd up v true) := by
                have := hR.2
                rw [hu, decide_eq_true hto] at this; exact this
              have HCD := Lib.hid hc; clear hc hR
              have HU := Lib.hid hU; clear hU
              have HTO := Lib.hid hto
              have HUP := Lib.hid hu; clear hu
              skip
              clear hto
              go_wp2_with fail
              refine (usRaise HPQ.out.us (by omega) 0 v p).mono ?_
              rintro e w5 ⟨rfl, F5, a5, f5, k5⟩
              rw [HCD.out]
              have P5 := HPQ.out.step a5 f5 k5
              clear hct hco hcq fct fco fcq c0
              have hct := P5.ta.cell hv
              rw [HTO.out] at hct
              have HP5 := Lib.hid P5; clear P5 a5 f5 k5 HPQ
              go_wp2_with fail
              go_quiet ((go_at_call 27; exact Calls.quiet_of_same (num16q _ _)))
              clear hct
              have P6 := HP5.out.keepN ((Chg.refl (fun _ => False) _).drewN nq)
              generalize w5.drewN nq = w6 at *
              have hct := P6.ta.cell hv
              have hco := P6.oa.cell hv
              have hcq := P6.qa.cell hv
              have fct := P6.ta.free v
              have fco := P6.oa.free v
              have fcq := P6.qa.free v
              rw [HTO.out] at hct
              rw [HUP.out] at hcq
              have HP9 := Lib.hid (P6.setQ hv true); clear P6 HP5
              go_wp2_with fail
              go_roundw
              case rel => exact ⟨j + 1, _, _, _, _, _, _, by omega, by go_num, HP9.out, HU.out⟩
              case measure => simp [intOf]; omega
          · cases hu : up v with
            | true =>
              have hR := HL.out.raise hv hp
              have hc : uraiseC 1 2 0 v p f = 1301 := by rw [hR.1]; exact if_neg hto
              have hU : Wk f (uraiseS 1 2 0 v p f S) to off (upd up v true) := by
                have := hR.2
                rw [hu, decide_eq_false hto] at this; exact this
              have HCD := Lib.hid hc; clear hc hR
              have HU := Lib.hid hU; clear hU
              have HTO := Lib.hid hto
              have HUP := Lib.hid hu; clear hu
              have bt : (to v == (p : Int)) = false := by simpa using hto
              clear hto
              go_wp2_with fail
              refine (usRaise HPQ.out.us (by omega) 0 v p).mono ?_
              rintro e w5 ⟨rfl, F5, a5, f5, k5⟩
              rw [HCD.out]
              have P5 := HPQ.out.step a5 f5 k5
              clear hct hco hcq fct fco fcq c0
              have hct := P5.ta.cell hv
              skip
              have HP5 := Lib.hid P5; clear P5 a5 f5 k5 HPQ
              go_wp2_with fail
              go_quiet ((go_at_call 27; exact Calls.quiet_of_same (num16q _ _)))
              clear hct
              have P6 := HP5.out.keepN ((Chg.refl (fun _ => False) _).drewN nq)
              generalize w5.drewN nq = w6 at *
              have hct := P6.ta.cell hv
              have hco := P6.oa.cell hv
              have hcq := P6.qa.cell hv
              have fct := P6.ta.free v
              have fco := P6.oa.free v
              have fcq := P6.qa.free v
              skip
              rw [HUP.out] at hcq
              have HP9 := Lib.hid (P6.setQ hv true); clear P6 HP5
              go_wp2_with fail
              go_roundw
              case rel => exact ⟨j + 1, _, _, _, _, _, _, by omega, by go_num, HP9.out, HU.out⟩
              case measure => simp [intOf]; omega
            | false =>
              have hR := HL.out.raise hv hp
              have hc : uraiseC 1 2 0 v p f = 1301 := by rw [hR.1]; exact if_neg hto
              have hU : Wk f (uraiseS 1 2 0 v p f S) to off (upd up v false) := by
                have := hR.2
                rw [hu, decide_eq_false hto] at this; exact this
              have HCD := Lib.hid hc; clear hc hR
              have HU := Lib.hid hU; clear hU
              have HTO := Lib.hid hto
              have HUP := Lib.hid hu; clear hu
              have bt : (to v == (p : Int)) = false := by simpa using hto
              clear hto
              go_wp2_with fail
              refine (usRaise HPQ.out.us (by omega) 0 v p).mono ?_
              rintro e w5 ⟨rfl, F5, a5, f5, k5⟩
              rw [HCD.out]
              have P5 := HPQ.out.step a5 f5 k5
              clear hct hco hcq fct fco fcq c0
              have hct := P5.ta.cell hv
              skip
              have HP5 := Lib.hid P5; clear P5 a5 f5 k5 HPQ
              go_wp2_with fail
              go_quiet ((go_at_call 27; exact Calls.quiet_of_same (num16q _ _)))
              clear hct
              have P6 := HP5.out.keepN ((Chg.refl (fun _ => False) _).drewN nq)
              generalize w5.drewN nq = w6 at *
              have hct := P6.ta.cell hv
              have hco := P6.oa.cell hv
              have hcq := P6.qa.cell hv
              have fct := P6.ta.free v
              have fco := P6.oa.free v
              have fcq := P6.qa.free v
              skip
              rw [HUP.out] at hcq
              have HP9 := Lib.hid (P6.setQ hv false); clear P6 HP5
              go_wp2_with fail
              go_roundw
              case rel => exact ⟨j + 1, _, _, _, _, _, _, by omega, by go_num, HP9.out, HU.out⟩
              case measure => simp [intOf]; omega
      · as_aux_lemma =>
          have hm := HM.out; clear HM
          by_cases hto : to v = (p : Int)
          · cases hu : up v with
            | true =>
              have hR := HL.out.raise hv hp
              have hc : uraiseC 1 2 0 v p f = 0 := by rw [hR.1]; exact if_pos hto
              have hU : Wk f (uraiseS 1 2 0 v p f S) to off (upd up v true) := by
                have := hR.2
                rw [hu, decide_eq_true hto] at this; exact this
              have HCD := Lib.hid hc; clear hc hR
              have HU := Lib.hid hU; clear hU
              have HTO := Lib.hid hto
              have HUP := Lib.hid hu; clear hu
              skip
              clear hto
              go_wp2_with fail
              refine (usRaise HPQ.out.us (by omega) 0 v p).mono ?_
              rintro e w5 ⟨rfl, F5, a5, f5, k5⟩
              rw [HCD.out]
              have P5 := HPQ.out.step a5 f5 k5
              clear hct hco hcq fct fco fcq c0
              have hct := P5.ta.cell hv
              rw [HTO.out] at hct
              have HP5 := Lib.hid P5; clear P5 a5 f5 k5 HPQ
              go_wp2_with fail
              go_quiet ((go_at_call 27; exact Calls.quiet_of_same (num16q _ _)))
              clear hct
              have P6 := HP5.out.keepN ((Chg.refl (fun _ => False) _).drewN nq)
              generalize w5.drewN nq = w6 at *
              have hct := P6.ta.cell hv
              have hco := P6.oa.cell hv
              have hcq := P6.qa.cell hv
              have fct := P6.ta.free v
              have fco := P6.oa.free v
              have fcq := P6.qa.free v
              rw [HTO.out] at hct
              rw [HUP.out] at hcq
              have HP9 := Lib.hid (P6.setQ hv true); clear P6 HP5
              go_wp2_with fail
              go_roundw
              case rel => exact ⟨j + 1, _, _, _, _, _, _, by omega, by go_num, HP9.out, HU.out⟩
              case measure => simp [intOf]; omega
            | false =>
              have hR := HL.out.raise hv hp
              have hc : uraiseC 1 2 0 v p f = 0 := by rw [hR.1]; exact if_pos hto
              have hU : Wk f (uraiseS 1 2 0 v p f S) to off (upd up v true) := by
                have := hR.2
                rw [hu, decide_eq_true hto] at this; exact this
              have HCD := Lib.hid hc; clear hc hR
              have HU := Lib.hid hU; clear hU
              have HTO := Lib.hid hto
              have HUP := Lib.hid hu; clear hu
              skip
              clear hto
              go_wp2_with fail
              refine (usRaise HPQ.out.us (by omega) 0 v p).mono ?_
              rintro e w5 ⟨rfl, F5, a5, f5, k5⟩
              rw [HCD.out]
              have P5 := HPQ.out.step a5 f5 k5
              clear hct hco hcq fct fco fcq c0
              have hct := P5.ta.cell hv
              rw [HTO.out] at hct
              have HP5 := Lib.hid P5; clear P5 a5 f5 k5 HPQ
              go_wp2_with fail
              go_quiet ((go_at_call 27; exact Calls.quiet_of_same (num16q _ _)))
              clear hct
              have P6 := HP5.out.keepN ((Chg.refl (fun _ => False) _).drewN nq)
              generalize w5.drewN nq = w6 at *
              have hct := P6.ta.cell hv
              have hco := P6.oa.cell hv
              have hcq := P6.qa.cell hv
              have fct := P6.ta.free v
              have fco := P6.oa.free v
              have fcq := P6.qa.free v
              rw [HTO.out] at hct
              rw [HUP.out] at hcq
              have HP9 := Lib.hid (P6.setQ hv true); clear P6 HP5
              go_wp2_with fail
              go_roundw
              case rel => exact ⟨j + 1, _, _, _, _, _, _, by omega, by go_num, HP9.out, HU.out⟩
              case measure => simp [intOf]; omega
          · cases hu : up v with
            | true =>
              have hR := HL.out.raise hv hp
              have hc : uraiseC 1 2 0 v p f = 1301 := by rw [hR.1]; exact if_neg hto
              have hU : Wk f (uraiseS 1 2 0 v p f S) to off (upd up v true) := by
                have := hR.2
                rw [hu, decide_eq_false hto] at this; exact this
              have HCD := Lib.hid hc; clear hc hR
              have HU := Lib.hid hU; clear hU
              have HTO := Lib.hid hto
              have HUP := Lib.hid hu; clear hu
              have bt : (to v == (p : Int)) = false := by simpa using hto
              clear hto
              go_wp2_with fail
              refine (usRaise HPQ.out.us (by omega) 0 v p).mono ?_
              rintro e w5 ⟨rfl, F5, a5, f5, k5⟩
              rw [HCD.out]
              have P5 := HPQ.out.step a5 f5 k5
              clear hct hco hcq fct fco fcq c0
              have hct := P5.ta.cell hv
              skip
              have HP5 := Lib.hid P5; clear P5 a5 f5 k5 HPQ
              go_wp2_with fail
              go_quiet ((go_at_call 27; exact Calls.quiet_of_same (num16q _ _)))
              clear hct
              have P6 := HP5.out.keepN ((Chg.refl (fun _ => False) _).drewN nq)
              generalize w5.drewN nq = w6 at *
              have hct := P6.ta.cell hv
              have hco := P6.oa.cell hv
              have hcq := P6.qa.cell hv
              have fct := P6.ta.free v
              have fco := P6.oa.free v
              have fcq := P6.qa.free v
              skip
              rw [HUP.out] at hcq
              have HP9 := Lib.hid (P6.setQ hv true); clear P6 HP5
              go_wp2_with fail
              go_roundw
              case rel => exact ⟨j + 1, _, _, _, _, _, _, by omega, by go_num, HP9.out, HU.out⟩
              case measure => simp [intOf]; omega
            | false =>
              have hR := HL.out.raise hv hp
              have hc : uraiseC 1 2 0 v p f = 1301 := by rw [hR.1]; exact if_neg hto
              have hU : Wk f (uraiseS 1 2 0 v p f S) to off (upd up v false) := by
                have := hR.2
                rw [hu, decide_eq_false hto] at this; exact this
              have HCD := Lib.hid hc; clear hc hR
              have HU := Lib.hid hU; clear hU
              have HTO := Lib.hid hto
              have HUP := Lib.hid hu; clear hu
              have bt : (to v == (p : Int)) = false := by simpa using hto
              clear hto
              go_wp2_with fail
              refine (usRaise HPQ.out.us (by omega) 0 v p).mono ?_
              rintro e w5 ⟨rfl, F5, a5, f5, k5⟩
              rw [HCD.out]
              have P5 := HPQ.out.step a5 f5 k5
              clear hct hco hcq fct fco fcq c0
              have hct := P5.ta.cell hv
              skip
              have HP5 := Lib.hid P5; clear P5 a5 f5 k5 HPQ
              go_wp2_with fail
              go_quiet ((go_at_call 27; exact Calls.quiet_of_same (num16q _ _)))
              clear hct
              have P6 := HP5.out.keepN ((Chg.refl (fun _ => False) _).drewN nq)
              generalize w5.drewN nq = w6 at *
              have hct := P6.ta.cell hv
              have hco := P6.oa.cell hv
              have hcq := P6.qa.cell hv
              have fct := P6.ta.free v
              have fco := P6.oa.free v
              have fcq := P6.qa.free v
              skip
              rw [HUP.out] at hcq
              have HP9 := Lib.hid (P6.setQ hv false); clear P6 HP5
              go_wp2_with fail
              go_roundw
              case rel => exact ⟨j + 1, _, _, _, _, _, _, by omega, by go_num, HP9.out, HU.out⟩
              case measure => simp [intOf]; omega
      · as_aux_lemma =>
          have hm := HM.out; clear HM
          by_cases hto : to v = (p : Int)
          · cases hu : up v with
            | true =>
              have hR := HL.out.raise hv hp
              have hc : uraiseC 1 2 0 v p f = 0 := by rw [hR.1]; exact if_pos hto
              have hU : Wk f (uraiseS 1 2 0 v p f S) to off (upd up v true) := by
                have := hR.2
                rw [hu, decide_eq_true hto] at this; exact this
              have HCD := Lib.hid hc; clear hc hR
              have HU := Lib.hid hU; clear hU
              have HTO := Lib.hid hto
              have HUP := Lib.hid hu; clear hu
              skip
              clear hto
              go_wp2_with fail
              refine (usRaise HPQ.out.us (by omega) 0 v p).mono ?_
              rintro e w5 ⟨rfl, F5, a5, f5, k5⟩
              rw [HCD.out]
              have P5 := HPQ.out.step a5 f5 k5
              clear hct hco hcq fct fco fcq c0
              have hct := P5.ta.cell hv
              rw [HTO.out] at hct
              have HP5 := Lib.hid P5; clear P5 a5 f5 k5 HPQ
              go_wp2_with fail
              go_quiet ((go_at_call 27; exact Calls.quiet_of_same (num16q _ _)))
              clear hct
              have P6 := HP5.out.keepN ((Chg.refl (fun _ => False) _).drewN nq)
              generalize w5.drewN nq = w6 at *
              have hct := P6.ta.cell hv
              have hco := P6.oa.cell hv
              have hcq := P6.qa.cell hv
              have fct := P6.ta.free v
              have fco := P6.oa.free v
              have fcq := P6.qa.free v
              rw [HTO.out] at hct
              rw [HUP.out] at hcq
              have HP9 := Lib.hid (P6.setQ hv true); clear P6 HP5
              go_wp2_with fail
              go_roundw
              case rel => exact ⟨j + 1, _, _, _, _, _, _, by omega, by go_num, HP9.out, HU.out⟩
              case measure => simp [intOf]; omega
            | false =>
              have hR := HL.out.raise hv hp
              have hc : uraiseC 1 2 0 v p f = 0 := by rw [hR.1]; exact if_pos hto
              have hU : Wk f (uraiseS 1 2 0 v p f S) to off (upd up v true) := by
                have := hR.2
                rw [hu, decide_eq_true hto] at this; exact this
              have HCD := Lib.hid hc; clear hc hR
              have HU := Lib.hid hU; clear hU
              have HTO := Lib.hid hto
              have HUP := Lib.hid hu; clear hu
              skip
              clear hto
              go_wp2_with fail
              refine (usRaise HPQ.out.us (by omega) 0 v p).mono ?_
              rintro e w5 ⟨rfl, F5, a5, f5, k5⟩
              rw [HCD.out]
              have P5 := HPQ.out.step a5 f5 k5
              clear hct hco hcq fct fco fcq c0
              have hct := P5.ta.cell hv
              rw [HTO.out] at hct
              have HP5 := Lib.hid P5; clear P5 a5 f5 k5 HPQ
              go_wp2_with fail
              go_quiet ((go_at_call 27; exact Calls.quiet_of_same (num16q _ _)))
              clear hct
              have P6 := HP5.out.keepN ((Chg.refl (fun _ => False) _).drewN nq)
              generalize w5.drewN nq = w6 at *
              have hct := P6.ta.cell hv
              have hco := P6.oa.cell hv
              have hcq := P6.qa.cell hv
              have fct := P6.ta.free v
              have fco := P6.oa.free v
              have fcq := P6.qa.free v
              rw [HTO.out] at hct
              rw [HUP.out] at hcq
              have HP9 := Lib.hid (P6.setQ hv true); clear P6 HP5
              go_wp2_with fail
              go_roundw
              case rel => exact ⟨j + 1, _, _, _, _, _, _, by omega, by go_num, HP9.out, HU.out⟩
              case measure => simp [intOf]; omega
          · cases hu : up v with
            | true =>
              have hR := HL.out.raise hv hp
              have hc : uraiseC 1 2 0 v p f = 1301 := by rw [hR.1]; exact if_neg hto
              have hU : Wk f (uraiseS 1 2 0 v p f S) to off (upd up v true) := by
                have := hR.2
                rw [hu, decide_eq_false hto] at this; exact this
              have HCD := Lib.hid hc; clear hc hR
              have HU := Lib.hid hU; clear hU
              have HTO := Lib.hid hto
              have HUP := Lib.hid hu; clear hu
              have bt : (to v == (p : Int)) = false := by simpa using hto
              clear hto
              go_wp2_with fail
              refine (usRaise HPQ.out.us (by omega) 0 v p).mono ?_
              rintro e w5 ⟨rfl, F5, a5, f5, k5⟩
              rw [HCD.out]
              have P5 := HPQ.out.step a5 f5 k5
              clear hct hco hcq fct fco fcq c0
              have hct := P5.ta.cell hv
              skip
              have HP5 := Lib.hid P5; clear P5 a5 f5 k5 HPQ
              go_wp2_with fail
              go_quiet ((go_at_call 27; exact Calls.quiet_of_same (num16q _ _)))
              clear hct
              have P6 := HP5.out.keepN ((Chg.refl (fun _ => False) _).drewN nq)
              generalize w5.drewN nq = w6 at *
              have hct := P6.ta.cell hv
              have hco := P6.oa.cell hv
              have hcq := P6.qa.cell hv
              have fct := P6.ta.free v
              have fco := P6.oa.free v
              have fcq := P6.qa.free v
              skip
              rw [HUP.out] at hcq
              have HP9 := Lib.hid (P6.setQ hv true); clear P6 HP5
              go_wp2_with fail
              go_roundw
              case rel => exact ⟨j + 1, _, _, _, _, _, _, by omega, by go_num, HP9.out, HU.out⟩
              case measure => simp [intOf]; omega
            | false =>
              have hR := HL.out.raise hv hp
              have hc : uraiseC 1 2 0 v p f = 1301 := by rw [hR.1]; exact if_neg hto
              have hU : Wk f (uraiseS 1 2 0 v p f S) to off (upd up v false) := by
                have := hR.2
                rw [hu, decide_eq_false hto] at this; exact this
              have HCD := Lib.hid hc; clear hc hR
              have HU := Lib.hid hU; clear hU
              have HTO := Lib.hid hto
              have HUP := Lib.hid hu; clear hu
              have bt : (to v == (p : Int)) = false := by simpa using hto
              clear hto
              go_wp2_with fail
              refine (usRaise HPQ.out.us (by omega) 0 v p).mono ?_
              rintro e w5 ⟨rfl, F5, a5, f5, k5⟩
              rw [HCD.out]
              have P5 := HPQ.out.step a5 f5 k5
              clear hct hco hcq fct fco fcq c0
              have hct := P5.ta.cell hv
              skip
              have HP5 := Lib.hid P5; clear P5 a5 f5 k5 HPQ
              go_wp2_with fail
              go_quiet ((go_at_call 27; exact Calls.quiet_of_same (num16q _ _)))
              clear hct
              have P6 := HP5.out.keepN ((Chg.refl (fun _ => False) _).drewN nq)
              generalize w5.drewN nq = w6 at *
              have hct := P6.ta.cell hv
              have hco := P6.oa.cell hv
              have hcq := P6.qa.cell hv
              have fct := P6.ta.free v
              have fco := P6.oa.free v
              have fcq := P6.qa.free v
              skip
              rw [HUP.out] at hcq
              have HP9 := Lib.hid (P6.setQ hv false); clear P6 HP5
              go_wp2_with fail
              go_roundw
              case rel => exact ⟨j + 1, _, _, _, _, _, _, by omega, by go_num, HP9.out, HU.out⟩
              case measure => simp [intOf]; omega
      · as_aux_lemma =>
          have hm := HM.out; clear HM
          clear hct hco hcq fct fco fcq
          have hp1 : (p : Int) < 2 := by omega
          go_wp2_with fail
          go_loopw [16, 15] (fun s16 so w2 => ∃ k : Nat, k ≤ 8 ∧ s16 = .int .i64 k ∧ OwnC iqc 3 92 w2 wq.heap.size so ((takeK S (maskedL 1 f 32) p k).map (toIq j)) ∧ W8 w0 w2 u t o q f S F to off (upC to off up p k) ∧ wq.heap.size ≤ w2.heap.size) (fun s _ _ => 8 - (intOf s).toNat)
          case atStart => exact ⟨0, by omega, rfl, OwnC.nil _ _, by rw [upC_zero]; exact HPQ.out, Nat.le_refl _⟩
          case round =>
            clear hm c0
            obtain ⟨k, hk, rfl, ho, hq, hsz⟩ := hrel
            have k0 : (0 : Int) ≤ k := by omega
            by_cases hk8 : k < 8
            · have k8 : (k : Int) < 8 := by omega
              obtain ⟨w2, hw2⟩ : ∃ x, x = wr := ⟨_, rfl⟩
              subst wr
              have HO := Lib.hid ho; clear ho
              have kt := hq.ta.cell hk8
              have ko := hq.oa.cell hk8
              have kq := hq.qa.cell hk8
              rw [upC_at] at kq
              cases hu : up k with
              | false =>
                rw [hu] at kq
                have hnc : (S p k && !msk (maskedL 1 f 32) k) = false := by rw [HL.out.comes hp hk8, hu]; simp
                have hs2 : takeK S (maskedL 1 f 32) p (k + 1) = takeK S (maskedL 1 f 32) p k := by rw [takeK_succ, hnc]; simp
                have hup := upC_no to off up (by rw [← HL.out.comes hp hk8]; exact hnc)
                have HN := Lib.hid (And.intro hs2 (hq.congQ hup)); clear hnc hs2 hup hq
                clear hu
                go_wp2_with fail
                go_roundw
                case rel => exact ⟨k + 1, by omega, by go_num, by rw [HN.out.1]; exact HO.out, HN.out.2, hsz⟩
                case measure => simp [intOf]; omega
              | true =>
                rw [hu] at kq
                by_cases hto : to k = (p : Int)
                · rw [hto] at kt
                  cases ho' : off k with
                  | true =>
                    rw [ho'] at ko
                    have hnc : (S p k && !msk (maskedL 1 f 32) k) = false := by rw [HL.out.comes hp hk8, hu, ho']; simp
                    have hs2 : takeK S (maskedL 1 f 32) p (k + 1) = takeK S (maskedL 1 f 32) p k := by rw [takeK_succ, hnc]; simp
                    have hup := upC_no to off up (by rw [← HL.out.comes hp hk8]; exact hnc)
                    have HN := Lib.hid (And.intro hs2 (hq.congQ hup)); clear hnc hs2 hup hq
                    clear hu hto ho'
                    go_wp2_with fail
                    go_roundw
                    case rel => exact ⟨k + 1, by omega, by go_num, by rw [HN.out.1]; exact HO.out, HN.out.2, hsz⟩
                    case measure => simp [intOf]; omega
                  | false =>
                    rw [ho'] at ko
                    have hyc : (S p k && !msk (maskedL 1 f 32) k) = true := by rw [HL.out.comes hp hk8, hu, ho', decide_eq_true hto]; rfl
                    have hs2 : takeK S (maskedL 1 f 32) p (k + 1) = takeK S (maskedL 1 f 32) p k ++ [k] := by rw [takeK_succ, hyc]; rfl
                    have hup := upC_yes to off up (p := p) (k := k) (by rw [← HL.out.comes hp hk8]; exact hyc)
                    have HS := Lib.hid hs2; clear hs2 hyc
                    have HUP := Lib.hid hup; clear hup
                    obtain ⟨q0, hi0, hz0, hz1, hz2⟩ := info_parts Try.info92
                    have hlen : (takeK S (maskedL 1 f 32) p k).length ≤ 8 := Nat.le_trans (takeK_le _ _ _ _) (by omega)
                    have hown : ∀ ob, (w2.alloc ob).ownsRow wq.heap.size 92 3 u15 (takeK S (maskedL 1 f 32) p k).length (((takeK S (maskedL 1 f 32) p k).map (toIq j)).flatMap iqc) := fun ob => by
                      have := HO.out.keep ((Chg.refl (fun _ => False) _).alloc ob) (fun _ _ => id)
                      unfold OwnC at this
                      rwa [List.length_map] at this
                    have hnews : RowC (w2.alloc (.cells #[.int .i64 j, .int .i64 0, .int .i64 k] 92)) (some ⟨w2.heap.size, 0, none⟩) [.int .i64 j, .int .i64 0, .int .i64 k] := rowc_blk (blk_new w2 (.cells #[.int .i64 j, .int .i64 0, .int .i64 k] 92))
                    have hb2 : ∀ ob, wq.heap.size ≤ (w2.alloc ob).heap.size := fun ob => by simp; omega
                    have hiq : iqc (toIq j k) = [.int .i64 j, .int .i64 0, .int .i64 k] := by unfold iqc toIq; rw [show ((k : Nat) : Int) / 8 = 0 from by omega, show ((k : Nat) : Int) % 8 = k from by omega]
                    have hgrow : ∀ w5 : World, w2.grownBy w5 u15.ownBlock ∨ True → True := fun _ _ => trivial
                    clear hgrow
                    have hkeep : ∀ w5, Chg (fun i => some i = u15.ownBlock) w2 w5 → W8 w0 w5 u t o q f S F to off (upC to off up p k) := fun w5 hC => hq.other hC (fun i hi => by
                      have h1 := HO.out.ge hi.symm
                      have h2 := HPQ.out.us.at_.lt
                      have h3 := HPQ.out.ta.lt
                      have h4 := HPQ.out.oa.lt
                      have h5 := HPQ.out.qa.lt
                      have h6 := HPQ.out.us.chg.size
                      exact ⟨fun hin => by have := h2 _ hin; omega, by omega, by omega, by omega, by omega⟩)
                    have HK := Lib.hid hkeep; clear hkeep hq
                    have HOW := Lib.hid hown; clear hown
                    have HN := Lib.hid hnews; clear hnews
                    have HB := Lib.hid hb2; clear hb2
                    have HIQ := Lib.hid hiq; clear hiq hu ho' hto
                    go_wp2_with (at_builtin; refine wpList_append_row _ rfl _ _ 77 rfl wq.heap.size 92 q0 (.agg #[.int .i64 0, .int .i64 0, .int .i64 0]) 3 24 Try.underlying77 hi0 hz0 hz1 hz2 rfl (by decide) u15 (takeK S (maskedL 1 f 32) p k).length (((takeK S (maskedL 1 f 32) p k).map (toIq j)).flatMap iqc) rfl (HOW.out _) (some ⟨w2.heap.size, 0, none⟩) 1 1 [.int .i64 j, .int .i64 0, .int .i64 k] rfl rfl HN.out (by simp [Value.oneCell']) (by unfold maxLen; omega) (by omega) (HB.out _) ?_; intro v5 w5 hown5 hgr hat5; have hW5 := HK.out w5 (Chg.grown ((Chg.refl _ _).alloc _) hgr (fun i hi _ => hi.symm)); have kq := hW5.qa.cell hk8; have fq := hW5.qa.free k; have HW5 := Lib.hid (And.intro hW5 (And.intro hown5 (And.intro hgr hat5))); clear hW5 hown5 hgr hat5)
                    have hW6 := (HW5.out.1.setQ hk8 false).congQ (up' := upC to off up p (k + 1)) (fun i hi => (HUP.out i).symm)
                    have hW7 : OwnC iqc 3 92 (w5.setCell ⟨q, k, none⟩ (.bool false)) wq.heap.size v5 ((takeK S (maskedL 1 f 32) p (k + 1)).map (toIq j)) := by
                      have h1 : OwnC iqc 3 92 w5 wq.heap.size v5 ((takeK S (maskedL 1 f 32) p (k + 1)).map (toIq j)) := by
                        rw [HS.out]
                        unfold OwnC
                        rw [List.map_append, List.length_append, List.length_map, List.flatMap_append, List.map_cons, List.flatMap_cons, HIQ.out]
                        simpa using HW5.out.2.1
                      exact h1.keep (Chg.set1 (i := k) (Chg.refl (fun i => i = q) _) _) (fun i hi e => by have h3 : i = q := e; have h1 := h1.ge hi; have h2 := HPQ.out.qa.lt; omega)
                    have hsz5 : wq.heap.size ≤ (w5.setCell ⟨q, k, none⟩ (.bool false)).heap.size := by have := HW5.out.2.2.1.size; simp at this ⊢; omega
                    have HF := Lib.hid (And.intro hW7 (And.intro hW6 hsz5)); clear hW7 hW6 hsz5
                    go_roundw
                    case rel => exact ⟨k + 1, by omega, by go_num, HF.out.1, HF.out.2.1, HF.out.2.2⟩
                    case measure => simp [intOf]; omega
                · have bt : (to k == (p : Int)) = false := by simpa using hto
                  have hnc : (S p k && !msk (maskedL 1 f 32) k) = false := by rw [HL.out.comes hp hk8, decide_eq_false hto]; simp
                  have hs2 : takeK S (maskedL 1 f 32) p (k + 1) = takeK S (maskedL 1 f 32) p k := by rw [takeK_succ, hnc]; simp
                  have hup := upC_no to off up (by rw [← HL.out.comes hp hk8]; exact hnc)
                  have HN := Lib.hid (And.intro hs2 (hq.congQ hup)); clear hnc hs2 hup hq
                  clear hu hto
                  go_wp2_with fail
                  go_roundw
                  case rel => exact ⟨k + 1, by omega, by go_num, by rw [HN.out.1]; exact HO.out, HN.out.2, hsz⟩
                  case measure => simp [intOf]; omega
            · obtain rfl : k = 8 := by omega
              have hl := HL.out.list hp j
              have hd := HL.out.deliver hp
              have hFs : ∀ i, u15.ownBlock = some i → ¬ F i := fun i hi hin => by have h1 := ho.ge hi; have h2 := HPQ.out.us.at_.lt _ hin; omega
              have HLI := Lib.hid hl; clear hl
              have HD := Lib.hid hd; clear hd
              have HFS := Lib.hid hFs; clear hFs
              have HO := Lib.hid ho; clear ho
              have HQ := Lib.hid hq; clear hq HPQ hk hk8
              go_wp2_with fail
              refine (usDeliver HQ.out.us (by omega) p j).mono ?_
              rintro e w5 ⟨va, rfl, o5, F5, a5, f5, -, k5⟩
              have P5 := HQ.out.step a5 f5 k5
              rw [HLI.out] at o5
              have hsm := sameYes va u15 _ _ (RdI.of o5) (RdI.of (HO.out.keep k5 (fun i hi e => HFS.out i hi e))) (by rw [List.length_map]; exact Nat.le_trans (takeK_le _ _ _ _) (by decide))
              have HS := Lib.hid hsm; clear hsm o5
              have HP5 := Lib.hid P5; clear P5 a5 f5 k5 HQ HO HFS HLI
              go_wp2_with fail
              refine HS.out.mono ?_
              rintro e w6 ⟨rfl, k6⟩
              have HP6 := Lib.hid (HP5.out.keepN k6); clear k6 HP5 HS
              go_wp2_with fail
              go_roundw
              case rel => exact ⟨j + 1, _, _, _, _, _, _, by omega, by go_num, HP6.out, HD.out⟩
              case measure => simp [intOf]; omega
    · have hend : (j : Int) < xs.length → (60 : Int) ≤ j := by omega
      have HC := Lib.hid hP.us.chg; clear hP hL
      clear hlt hj
      by_cases hl : (j : Int) < xs.length
      all_goals
        first
          | have h60 := hend hl
          | skip
        clear hend
        go_wp2_with fail
        go_ret
        exact ⟨rfl, HC.out⟩
theorem irqWalks_walk (w : World) (A : Option Addr) (ca : Nat) (xs : List Int) (hmx : xs.length ≤ maxLen) (rx : RowC w A (xs.flatMap icell)) (_hw : ∀ x ∈ xs, True) :
    Calls Try.prog 15 #[.slice A xs.length ca] w fun e w' => e = .returned (.bool true) ∧ Below w.heap.size w w' :=
  (irqWalks_main A ca xs w (by unfold maxLen at hmx; omega) rx).mono fun e w' ⟨h1, h2⟩ => ⟨h1, h2.below (Nat.le_refl _) (fun _ h => h.elim)⟩
end Go.Proofs.Ytpnhdiajiieonaa
