/- The law IrqClears. -/
import Derived.Test.YtpnhdiajiieonaaIrqForms
set_option linter.unusedSimpArgs false
set_option linter.unusedVariables false
namespace Go.Proofs.Ytpnhdiajiieonaa
open Go.RowKit
attribute [local go_sem] i64_and1 i64_and7

def icF (v : Nat) (f : Nat → Ent) : Prop := (∀ k, (f k).masked = false) ∧ (∀ k, k < v → f (8 + k) = ⟨true, 1, false⟩)
def icS (S : Nat → Nat → Bool) : Prop := ∀ a k, 8 ≤ k → k < 32 → S a k = (decide (a = 1) && decide (k = 12))
def icE (f : Nat → Ent) : Prop := (∀ k, (f k).masked = false) ∧ (∀ k, k < 8 → f k = Ent.none)
def icL : Nat → Nat → Bool := fun a k => decide (a = 1) && decide (k = 12)
theorem route_ok {d v q : Int} {f : Nat → Ent} (h : inR 2 d v) (hq : 0 ≤ q ∧ q < 2) : routeC 2 2 d v q = 0 ∧ routeF 2 2 d v q f = upd f (ix d v) ⟨true, q, false⟩ := by
  have hp : inP 2 q := hq
  have hs : inR 2 d v ∧ 0 ≤ q ∧ q < 4 := ⟨h, by omega⟩
  unfold routeC routeF setC setF
  rw [if_pos hp, if_pos hp, if_pos hs, if_pos hs]
  exact ⟨rfl, rfl⟩
theorem icF.route0 {v : Nat} {f : Nat → Ent} (h : icF v f) (hv : v < 8) (q : Int) : icF v (upd f (ix 0 v) ⟨true, q, false⟩) := by
  have hi : ix 0 (v : Int) = v := by unfold ix; omega
  rw [hi]
  refine ⟨fun k => ?_, fun k hk => ?_⟩
  · unfold upd; split
    · rfl
    · exact h.1 k
  · rw [upd_other _ _ (by omega)]; exact h.2 k hk
theorem icF.route1 {v : Nat} {f : Nat → Ent} (h : icF v f) (hv : v < 8) : icF (v + 1) (upd f (ix 1 v) ⟨true, 1, false⟩) := by
  have hi : ix 1 (v : Int) = 8 + v := by unfold ix; omega
  rw [hi]
  refine ⟨fun k => ?_, fun k hk => ?_⟩
  · unfold upd; split
    · rfl
    · exact h.1 k
  · by_cases e : k = v
    · subst e; exact upd_same _ _ _
    · rw [upd_other _ _ (by omega)]; exact h.2 k (by omega)
theorem icF.raise {f : Nat → Ent} (h : icF 8 f) : icS (uraiseS 2 2 1 4 1 f us0) := by
  have h12 := h.2 4 (by omega)
  have hi : ix 1 4 = 12 := by decide
  have he : entE 2 1 4 f = 0 := by
    unfold entE
    rw [if_pos (by decide), hi, show f 12 = f (8 + 4) from rfl, h12]; rfl
  have hl : lookP 2 1 4 f = 1 := by
    unfold lookP; rw [if_pos he, hi, show f 12 = f (8 + 4) from rfl, h12]
  have hc : uraiseC 2 2 1 4 1 f = 0 := by
    unfold uraiseC
    rw [he, hl, if_neg (by decide), if_neg (by decide)]
  unfold uraiseS
  rw [if_pos hc]
  intro a k h8 hk
  unfold raiseS
  rw [if_pos (by decide), show keyOf 1 4 = 12 from by decide]
  unfold us0
  simp
theorem icS.raise {S : Nat → Nat → Bool} (h : icS S) (f : Nat → Ent) (x q : Int) : icS (uraiseS 2 2 0 (x % 8) q f S) := by
  unfold uraiseS
  split
  · intro a k h8 hk
    rw [← h a k h8 hk]
    unfold raiseS
    split
    · have hk2 : keyOf 0 (x % 8) < 8 := by unfold keyOf; omega
      have : decide (k = keyOf 0 (x % 8)) = false := decide_eq_false (by omega)
      dsimp only; rw [this]; simp
    · rfl
  · exact h
theorem icF.clear {f : Nat → Ent} (h : icF 8 f) : icE (clearF 2 0 f) := by
  unfold clearF
  rw [if_pos (by decide)]
  refine ⟨fun k => ?_, fun k hk => ?_⟩
  · dsimp only; split
    · rfl
    · exact h.1 k
  · dsimp only; rw [if_pos (by simp; omega)]
theorem icS.clear {S : Nat → Nat → Bool} (h : icS S) : ∀ a k, k < 32 → uclearS 2 0 S a k = icL a k := by
  intro a k hk
  unfold uclearS icL
  rw [if_pos (by decide)]
  by_cases h8 : 8 ≤ k
  · rw [h a k h8 hk]
    have : isDev 0 k = false := decide_eq_false (by omega)
    rw [this]; simp
  · have h1 : isDev 0 k = true := decide_eq_true (by omega)
    have h2 : decide (k = 12) = false := decide_eq_false (by omega)
    rw [h1, h2]; simp
theorem icE.ent {f : Nat → Ent} (h : icE f) {v : Nat} (hv : v < 8) : entE 2 0 v f = 1101 := by
  have hi : ix 0 (v : Int) = v := by unfold ix; omega
  unfold entE
  rw [if_pos (show inR 2 0 (v : Int) by unfold inR; omega), hi, h.2 v hv]; rfl
theorem icE.raise {f : Nat → Ent} (h : icE f) {v : Nat} (hv : v < 8) (S : Nat → Nat → Bool) : uraiseC 2 2 0 v ((v : Int) % 2) f = 1301 ∧ uraiseS 2 2 0 v ((v : Int) % 2) f S = S := by
  have hc : uraiseC 2 2 0 v ((v : Int) % 2) f = 1301 := by
    unfold uraiseC
    rw [h.ent hv, if_neg (show ¬ ((1101 : Int) = 1100 ∨ ¬ inP 2 ((v : Int) % 2)) from fun hh => hh.elim (by decide) (fun hn => hn (by unfold inP; omega)))]
    exact if_pos (.inl (by decide))
  exact ⟨hc, by unfold uraiseS; rw [hc]; exact if_neg (by decide)⟩
theorem icE.mask {f : Nat → Ent} (h : icE f) {v : Nat} (hv : v < 8) : toldC (entE 2 0 v f) = 1301 ∧ maskF 2 0 v true f = f := by
  unfold maskF
  rw [h.ent hv]
  exact ⟨rfl, if_neg (by decide)⟩
theorem maskedL_nil {nd : Nat} {f : Nat → Ent} (h : ∀ k, (f k).masked = false) (c : Nat) : maskedL nd f c = [] := by
  unfold maskedL
  rw [List.map_eq_nil_iff, List.filter_eq_nil_iff]
  intro k _
  unfold maskB; rw [h k]; simp
theorem ic_fin {f : Nat → Ent} {S : Nat → Nat → Bool} (hf : icE f) (hS : ∀ a k, k < 32 → S a k = icL a k) : tkL 2 0 1 (maskedL 2 f 32) S = [] ∧ tkL 2 1 2 (maskedL 2 f 32) (tkS 2 0 (maskedL 2 f 32) S) = [⟨2, 1, 4⟩] := by
  rw [maskedL_nil hf.1]
  unfold tkL tkS
  rw [if_pos (by decide), if_pos (by decide), if_pos (by decide)]
  refine ⟨takeL_nil (fun k hk => ?_) _ _, ?_⟩
  · rw [show ((0 : Int).toNat) = 0 from rfl, hS 0 k hk]; rfl
  · rw [takeL_cong (T := icL) (fun k hk => ?_)]
    · rfl
    · rw [show ((1 : Int).toNat) = 1 from rfl, show ((0 : Int).toNat) = 0 from rfl]
      unfold takeS
      rw [hS 1 k hk]; simp
set_option maxRecDepth 100000 in
set_option maxHeartbeats 8000000 in
theorem irqClears_main (A : Option Addr) (ca : Nat) (xs : List Int) (w0 : World) (hx : xs.length ≤ 9223372036854775807) (rx : RowC w0 A (xs.flatMap icell)) :
    Calls Try.prog 17 #[.slice A xs.length ca] w0 fun e w' => e = .returned (.bool true) ∧ Chg (fun _ => False) w0 w' := by
  go_enter Try.func17, Try.ntmps17
  go_wp2_with fail
  refine (awake13 _).mono ?_
  rintro e w ⟨rfl, hC0⟩
  have HC0 := Lib.hid hC0; clear hC0
  go_wp2_with fail
  refine (usNew 2 2 w0 w (by omega) (by omega) HC0.out).mono ?_
  rintro e w1 ⟨u, F0, rfl, P0, -, -⟩
  clear HC0
  have h0 : icF 0 ub0 := ⟨fun _ => rfl, fun k hk => by omega⟩
  change US w0 w1 u 2 2 ub0 us0 F0 at P0
  have H0 := Lib.hid (And.intro P0 h0); clear P0 h0
  go_wp2_with fail
  refine (num16 0 w1).mono ?_
  rintro e x1 ⟨rfl, rfl⟩
  go_wp2_with fail
  go_loopw [5] (fun s wr => ∃ (v : Nat) (f : Nat → Ent) (F : Nat → Prop), v ≤ 8 ∧ s = .int .i64 v ∧ US w0 wr u 2 2 f us0 F ∧ icF v f) (fun s _ => 8 - (intOf s).toNat)
  case atStart => exact ⟨0, ub0, F0, by omega, rfl, H0.out⟩
  case round =>
    clear H0
    clear F0
    obtain ⟨v, f, F, hv, rfl, hP, hF⟩ := hrel
    have v0 : (0 : Int) ≤ v := by omega
    by_cases hlt : v < 8
    · have v1 : (v : Int) < 8 := by omega
      obtain ⟨r1, r2⟩ := route_ok (d := 0) (v := v) (q := (v : Int) % 2) (f := f) (by unfold inR; omega) (by omega)
      have hus := usRoute hP 0 v ((v : Int) % 2)
      rw [r1, r2] at hus
      have hF1 := hF.route0 hlt ((v : Int) % 2)
      generalize upd f (ix 0 v) ⟨true, (v : Int) % 2, false⟩ = f1 at *
      obtain ⟨r3, r4⟩ := route_ok (d := 1) (v := v) (q := 1) (f := f1) (by unfold inR; omega) (by omega)
      have hF2 := hF1.route1 hlt
      rw [← r4] at hF2
      have HU := Lib.hid hus; clear hus
      have R3 := Lib.hid r3; clear r3
      have HF := Lib.hid hF2; clear hF2 hF1 hF hP r1 r2 r4
      go_wp2_with fail
      refine HU.out.mono ?_
      rintro e w2 ⟨rfl, F2, P2, -, -⟩
      have HP2 := Lib.hid P2; clear P2 HU
      go_wp2_with fail
      refine (usRoute HP2.out 1 v 1).mono ?_
      rintro e w3 ⟨rfl, F3, P3, -, -⟩
      rw [R3.out]
      have HP3 := Lib.hid P3; clear P3 HP2
      go_wp2_with fail
      refine (num16 0 w3).mono ?_
      rintro e x1 ⟨rfl, rfl⟩
      go_wp2_with fail
      refine (num16 0 w3).mono ?_
      rintro e x1 ⟨rfl, rfl⟩
      go_wp2_with fail
      go_roundw
      case rel => exact ⟨v + 1, _, F3, by omega, by go_num, HP3.out, HF.out⟩
      case measure => simp [intOf]; omega
    · obtain rfl : v = 8 := by omega
      have HP := Lib.hid hP; clear hP
      have HF := Lib.hid hF; clear hF hlt hv
      go_wp2_with fail
      refine (usRaise HP.out (by omega) 1 4 1).mono ?_
      rintro e w2 ⟨rfl, F2, P2, -, -⟩
      have hS := HF.out.raise
      generalize uraiseS 2 2 1 4 1 f us0 = S at *
      have HS := Lib.hid (And.intro P2 hS); clear P2 hS HP
      go_wp2_with fail
      go_loopw [8] (fun s wr => ∃ (j : Nat) (S : Nat → Nat → Bool) (F : Nat → Prop), j ≤ xs.length ∧ s = .int .i64 j ∧ US w0 wr u 2 2 f S F ∧ icS S) (fun s _ => xs.length - (intOf s).toNat)
      case atStart => exact ⟨0, S, F2, by omega, rfl, HS.out⟩
      case round =>
        clear HS
        clear S F2
        obtain ⟨j, S, F, hj, rfl, hP, hS⟩ := hrel
        have j0 : (0 : Int) ≤ j := by omega
        by_cases hlt : j < xs.length ∧ j < 30
        · obtain ⟨hlt, h30⟩ := hlt
          have j1 : (j : Int) < xs.length := by omega
          have j2 : (j : Int) < 30 := by omega
          obtain ⟨b, o, rfl, c0w⟩ := intAt rx j hlt
          have c0 : wr.drew.cell? ⟨b, o + j, none⟩ = _ := hP.chg.cell c0w id
          generalize xs[j] = x at *
          have hS2 := hS.raise f x (x % 2)
          have hr := usRaise (hP.keepN ((Chg.refl _ _).drew)) (by omega) 0 (x % 8) (x % 2)
          have HR := Lib.hid hr; clear hr
          have HS2 := Lib.hid hS2; clear hS2 hS hP
          have C0 := Lib.hid c0; clear c0
          have C0W := Lib.hid c0w; clear c0w
          go_wp2_with fail
          have c0 := C0.out
          go_region_held3 (fun W2 => W2.cell? ⟨b, o + j, none⟩ = some (.int .i64 x)) (first | exact c0 | exact c5) (first
            | (go_at_call 67; (with_reducible refine HR.out.mono ?_); rintro e w5 ⟨rfl, F5, P5, -, -⟩; have c5 := P5.chg.cell C0W.out id; have HP5 := Lib.hid P5; clear P5))
          all_goals
            go_wp2_with fail
            go_roundw
            case rel => exact ⟨j + 1, _, F5, by omega, by go_num, HP5.out, HS2.out⟩
            case measure => simp [intOf]; omega
        · have hend : (j : Int) < xs.length → (30 : Int) ≤ j := by omega
          have HP := Lib.hid hP; clear hP
          have HS := Lib.hid hS; clear hS
          clear hlt hj
          by_cases hl : (j : Int) < xs.length
          all_goals
            first
              | have h30 := hend hl
              | skip
            clear hend
            go_wp2_with fail
            refine (usClear HP.out (by omega) 0).mono ?_
            rintro e w3 ⟨rfl, F3, P3, -, -⟩
            rw [show toldC (clearC 2 0) = 0 from rfl]
            have hE := HF.out.clear
            have hL := HS.out.clear
            generalize clearF 2 0 f = f3 at *
            generalize uclearS 2 0 S = S3 at *
            have HE := Lib.hid hE; clear hE
            have HL := Lib.hid hL; clear hL
            have HP3 := Lib.hid P3; clear P3 HP HS
            go_wp2_with fail
            go_loopw [10] (fun s wr => ∃ (v : Nat) (F : Nat → Prop), v ≤ 8 ∧ s = .int .i64 v ∧ US w0 wr u 2 2 f3 S3 F) (fun s _ => 8 - (intOf s).toNat)
            case atStart => exact ⟨0, F3, by omega, rfl, HP3.out⟩
            case round =>
              clear HP3
              clear F3
              obtain ⟨v, F3, hv, rfl, hP⟩ := hrel
              have v0 : (0 : Int) ≤ v := by omega
              by_cases hlt : v < 8
              · have v1 : (v : Int) < 8 := by omega
                have hr := usRaise hP (by omega) 0 v ((v : Int) % 2)
                rw [(HE.out.raise hlt S3).1, (HE.out.raise hlt S3).2] at hr
                have HR := Lib.hid hr; clear hr hP
                have M := Lib.hid (HE.out.mask hlt)
                go_wp2_with fail
                refine HR.out.mono ?_
                rintro e w4 ⟨rfl, F4, P4, -, -⟩
                have hm := usMask P4 0 v true
                rw [M.out.1, M.out.2] at hm
                have HM := Lib.hid hm; clear hm P4 HR M
                go_wp2_with fail
                refine HM.out.mono ?_
                rintro e w5 ⟨rfl, F5, P5, -, -⟩
                have HP5 := Lib.hid P5; clear P5 HM
                go_wp2_with fail
                refine (num16 _ w5).mono ?_
                rintro e x1 ⟨rfl, rfl⟩
                go_wp2_with fail
                refine (num16 _ w5).mono ?_
                rintro e x1 ⟨rfl, rfl⟩
                go_wp2_with fail
                go_roundw
                case rel => exact ⟨v + 1, F5, by omega, by go_num, HP5.out⟩
                case measure => simp [intOf]; omega
              · obtain rfl : v = 8 := by omega
                have HP := Lib.hid hP; clear hP hlt hv
                have hfin := ic_fin HE.out HL.out
                have T1 := Lib.hid hfin.1
                have T2 := Lib.hid hfin.2
                clear hfin
                go_wp2_with fail
                refine (num16 _ _).mono ?_
                rintro e x1 ⟨rfl, rfl⟩
                go_wp2_with fail
                refine (usDeliver HP.out (by omega) 0 1).mono ?_
                rintro e w4 ⟨va, rfl, -, F4, P4, -, V4, -⟩
                rw [T1.out] at V4
                obtain ⟨⟨A1, c1, rfl, _⟩, _⟩ := V4
                have HP4 := Lib.hid P4; clear P4 HP
                go_wp2_with fail
                refine (usDeliver HP4.out (by omega) 1 2).mono ?_
                rintro e w5 ⟨vb, rfl, -, F5, P5, -, V5, -⟩
                rw [T2.out] at V5
                have HV := Lib.hid V5.rd; clear V5
                have HC := Lib.hid P5.chg; clear P5 HP4
                go_wp2_with fail
                refine (sameLit vb [⟨2, 1, 4⟩] _ HV.out (by decide)).mono ?_
                rintro e w6 ⟨rfl, k1⟩
                have HC2 := Lib.hid (HC.out.trans k1); clear k1 HV HC
                go_wp2_with fail
                go_ret
                exact ⟨rfl, HC2.out⟩
theorem irqClears_walk (w : World) (A : Option Addr) (ca : Nat) (xs : List Int) (hmx : xs.length ≤ maxLen) (rx : RowC w A (xs.flatMap icell)) (_hw : ∀ x ∈ xs, True) :
    Calls Try.prog 17 #[.slice A xs.length ca] w fun e w' => e = .returned (.bool true) ∧ Below w.heap.size w w' :=
  (irqClears_main A ca xs w (by unfold maxLen at hmx; omega) rx).mono fun e w' ⟨h1, h2⟩ => ⟨h1, h2.below (Nat.le_refl _) (fun _ h => h.elim)⟩
end Go.Proofs.Ytpnhdiajiieonaa
