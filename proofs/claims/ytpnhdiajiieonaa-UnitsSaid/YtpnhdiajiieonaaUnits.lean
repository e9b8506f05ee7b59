/- The law Units. -/
import Derived.Test.YtpnhdiajiieonaaUnitR
set_option linter.unusedSimpArgs false
set_option linter.unusedVariables false
namespace Go.Proofs.Ytpnhdiajiieonaa
open Go.RowKit Go.ChangeShapes Go.WideShapes Go.Deep

theorem uact_len (x : UAct) : x.cells.length = 6 := rfl
theorem uactAt {w : World} {A : Option Addr} {xs : List UAct} (h : RowC w A (xs.flatMap UAct.cells)) (k : Nat) (hk : k < xs.length) : ∃ b o, A = some ⟨b, o, none⟩ ∧ w.cell? ⟨b, o + k * 6, none⟩ = some (.int .i64 xs[k].kind) ∧ w.cell? ⟨b, o + k * 6 + 1, none⟩ = some (.int .i64 xs[k].dev) ∧ w.cell? ⟨b, o + k * 6 + 2, none⟩ = some (.int .i64 xs[k].vec) ∧ w.cell? ⟨b, o + k * 6 + 3, none⟩ = some (.int .i64 xs[k].part) ∧ w.cell? ⟨b, o + k * 6 + 4, none⟩ = some (.int .i64 xs[k].tick) ∧ w.cell? ⟨b, o + k * 6 + 5, none⟩ = some (.bool xs[k].on) := by
  have g : ∀ i (hi : i < 6), (xs.flatMap UAct.cells)[k * 6 + i]? = (xs[k].cells)[i]? := fun i hi => by rw [flat_get UAct.cells 6 uact_len i hi xs k, List.getElem?_eq_getElem hk]; rfl
  obtain ⟨b, o, rfl, h0⟩ := h _ _ (g 0 (by omega))
  obtain ⟨b1, o1, e1, h1⟩ := h _ _ (g 1 (by omega))
  obtain ⟨b2, o2, e2, h2⟩ := h _ _ (g 2 (by omega))
  obtain ⟨b3, o3, e3, h3⟩ := h _ _ (g 3 (by omega))
  obtain ⟨b4, o4, e4, h4⟩ := h _ _ (g 4 (by omega))
  obtain ⟨b5, o5, e5, h5⟩ := h _ _ (g 5 (by omega))
  injection e1 with e1; injection e1 with e1 e1'; subst e1 e1'
  injection e2 with e2; injection e2 with e2 e2'; subst e2 e2'
  injection e3 with e3; injection e3 with e3 e3'; subst e3 e3'
  injection e4 with e4; injection e4 with e4 e4'; subst e4 e4'
  injection e5 with e5; injection e5 with e5 e5'; subst e5 e5'
  exact ⟨b, o, rfl, h0, h1, h2, h3, h4, h5⟩
set_option maxRecDepth 100000 in
set_option maxHeartbeats 8000000 in
theorem units_good (nd np : Nat) (A : Option Addr) (ca : Nat) (xs : List UAct) (w0 : World) (hd : 1 ≤ nd ∧ nd ≤ 4) (hn : 1 ≤ np ∧ np ≤ 4) (hx : xs.length ≤ 9223372036854775807) (rx : RowC w0 A (xs.flatMap UAct.cells)) :
    Calls Try.prog 14 #[.int .i64 nd, .int .i64 np, .slice A xs.length ca] w0 fun e w' => e = .returned (.bool true) ∧ Chg (fun _ => False) w0 w' := by
  have hn0 : (1 : Int) ≤ np := by omega
  have hn4 : (np : Int) ≤ 4 := by omega
  go_enter Try.func14, Try.ntmps14
  go_wp2_with fail
  refine (usNew nd np w0 w0 hd hn (Chg.refl _ _)).mono ?_
  rintro e w1 ⟨u, F, rfl, P, -, -⟩
  go_wp2_with fail
  refine (ruNew_ok nd np w1 hd hn).mono ?_
  rintro e w2 ⟨ru, G, rfl, hr, hG, hC2⟩
  have hPR : UR w0 w2 u ru nd np (fun _ => Ent.none) (fun _ => Ent.none) (fun _ _ => false) (fun _ _ => false) F G :=
    ⟨P.keepN hC2, hr, fun k hF hg => by have := P.at_.lt k hF; have := hG k hg; omega, fun k hk => by have := hG k hk; have := P.chg.size; omega⟩
  have HPR := Lib.hid hPR; clear hPR P hr hG hC2
  generalize (fun (_ _ : Nat) => false) = S at *
  generalize (fun (_ : Nat) => Ent.none) = f at *
  go_wp2_with fail
  refine (num16 0 w2).mono ?_
  rintro e w3 ⟨rfl, rfl⟩
  go_wp2_with fail
  go_loopw [11] (fun s wr => ∃ (j : Nat) (f : Nat → Ent) (S : Nat → Nat → Bool) (F : Nat → Prop), j ≤ xs.length ∧ s = .int .i64 j ∧ UR w0 wr u ru nd np f f S S F G) (fun s _ => xs.length - (intOf s).toNat)
  case atStart => exact ⟨0, f, S, F, by omega, rfl, HPR.out⟩
  case round =>
    clear HPR
    clear S F f
    obtain ⟨j, f, S, F, hj, rfl, hP⟩ := hrel
    have j0 : (0 : Int) ≤ j := by omega
    by_cases hlt : j < xs.length ∧ j < 80
    · obtain ⟨hlt, h80⟩ := hlt
      have j1 : (j : Int) < xs.length := by omega
      have j2 : (j : Int) < 80 := by omega
      obtain ⟨b, o, rfl, a0, a1, a2, a3, a4, a5⟩ := uactAt rx j hlt
      have b0 := hP.a.chg.cell a0 id
      have b1 := hP.a.chg.cell a1 id
      have b2 := hP.a.chg.cell a2 id
      have b3 := hP.a.chg.cell a3 id
      have b4 := hP.a.chg.cell a4 id
      have b5 := hP.a.chg.cell a5 id
      clear a0 a1 a2 a3 a4 a5
      have hst := step_any xs[j] hP hd.2 hn.2
      have HST := Lib.hid hst; clear hst hP
      unfold UAct.val at HST
      generalize xs[j] = x at *
      go_wp2_with fail
      refine HST.out.mono ?_
      rintro e w5 ⟨rfl, f5, S5, F5, hP5⟩
      have HP5 := Lib.hid hP5; clear hP5 HST b0 b1 b2 b3 b4 b5
      go_wp2_with fail
      go_roundw
      case rel => exact ⟨j + 1, f5, S5, F5, by omega, by go_num, HP5.out⟩
      case measure => simp [intOf]; omega
    · have hend : (j : Int) < xs.length → (80 : Int) ≤ j := by omega
      have HP := Lib.hid hP; clear hP
      clear hlt hj
      by_cases hl : (j : Int) < xs.length
      all_goals
        first
          | have h80 := hend hl
          | skip
        clear hend
        go_wp2_with fail
        go_loopw [12] (fun s w2 => ∃ (c : Nat) (f : Nat → Ent) (S : Nat → Nat → Bool) (F : Nat → Prop), c ≤ np + 2 ∧ s = .int .i64 ((c : Int) - 1) ∧ UR w0 w2 u ru nd np f f S S F G) (fun s _ => (np + 1 - intOf s).toNat)
        case atStart => exact ⟨0, f, S, F, by omega, rfl, HP.out⟩
        case round =>
          clear HP
          clear S F f
          obtain ⟨c, f, S, F, hc, rfl, hP⟩ := hrel
          by_cases hc2 : c < np + 2
          · have c0 : (c : Int) - 1 ≤ np := by omega
            have c1 : (-1 : Int) ≤ (c : Int) - 1 := by omega
            have HP := Lib.hid hP; clear hP
            go_wp2_with fail
            refine (usDeliver HP.out.a hn.2 ((c : Int) - 1) 9).mono ?_
            rintro e w5 ⟨v, rfl, o5, F5, a5, f5, V5, k5⟩
            have hP5 := HP.out.sa a5 f5 k5
            have hGv : ∀ k, v.ownBlock = some k → ¬ G k := fun k hk hG => by have := o5.ge hk; have := HP.out.b.lt k hG; omega
            have HV := Lib.hid hGv; clear hGv
            have HO5 := Lib.hid o5; clear o5
            have HP5 := Lib.hid hP5; clear hP5 a5 f5 k5 V5 HP
            go_wp2_with fail
            refine (ruDeliver ru nd np ((c : Int) - 1) 9 f S G _ HP5.out.b hd.2 hn.2).mono ?_
            rintro e w6 ⟨v6, rfl, o6, b6, k6⟩
            have hP6 := HP5.out.sb b6 k6
            have hO6 := HO5.out.keep k6 (fun k hk e => HV.out k hk e)
            have hsm := sameYes v v6 _ _ (RdI.of hO6) (RdI.of o6) (Nat.le_trans (tkL_len _ _ _ _ _) (by decide))
            have HP6 := Lib.hid hP6; clear hP6
            have HS := Lib.hid hsm; clear hsm o6 b6 k6 hO6
            clear HP5 HO5 HV
            go_wp2_with fail
            refine HS.out.mono ?_
            rintro e w7 ⟨rfl, k7⟩
            have hP7 := HP6.out.keepN k7
            have HP7 := Lib.hid hP7; clear hP7 k7 HS HP6
            go_wp2_with fail
            go_roundw
            case rel => exact ⟨c + 1, _, _, F5, by omega, by go_num, HP7.out⟩
            case measure => simp [intOf]; omega
          · have c0 : (np : Int) < (c : Int) - 1 := by omega
            have hC := hP.a.chg
            have HC := Lib.hid hC; clear hC hP
            clear hc hc2
            go_wp2_with fail
            refine (awake13 _).mono ?_
            rintro e w7 ⟨rfl, k7⟩
            go_wp2_with fail
            go_ret
            exact ⟨rfl, HC.out.trans k7⟩
set_option maxRecDepth 100000 in
theorem units_bad (nd np : Int) (A : Option Addr) (c : Nat) (xs : List UAct) (w : World) (h : ¬ ((1 ≤ nd ∧ nd ≤ 4) ∧ (1 ≤ np ∧ np ≤ 4))) :
    Calls Try.prog 14 #[.int .i64 nd, .int .i64 np, .slice A xs.length c] w fun e w' => e = .returned (.bool true) ∧ Chg (fun _ => False) w w' := by
  go_enter Try.func14, Try.ntmps14
  go_wp2_with fail
  refine (uNew_no nd np w h).mono ?_
  rintro e w1 ⟨rfl, k1⟩
  have K1 := Lib.hid k1; clear k1
  go_wp2_with fail
  refine (ruNew_no nd np w1 h).mono ?_
  rintro e w2 ⟨rfl, k2⟩
  have K2 := Lib.hid (K1.out.trans k2); clear k2 K1
  go_wp2_with fail
  refine (num16 _ _).mono ?_
  rintro e w3 ⟨rfl, rfl⟩
  go_wp2_with fail
  refine (awake13 _).mono ?_
  rintro e w1 ⟨rfl, hC⟩
  go_wp2
  go_ret
  exact ⟨rfl, K2.out.trans hC⟩
theorem units_walk (w : World) (nd np : Int) (A : Option Addr) (c : Nat) (xs : List UAct) (hm : xs.length ≤ maxLen) (hr : RowC w A (xs.flatMap UAct.cells)) (_hw : ∀ x ∈ xs, True) :
    Calls Try.prog 14 #[.int .i64 nd, .int .i64 np, .slice A xs.length c] w fun e w' => e = .returned (.bool true) ∧ Below w.heap.size w w' := by
  by_cases h : (1 ≤ nd ∧ nd ≤ 4) ∧ (1 ≤ np ∧ np ≤ 4)
  · obtain ⟨m, rfl⟩ := Int.eq_ofNat_of_zero_le (show 0 ≤ nd by omega)
    obtain ⟨n, rfl⟩ := Int.eq_ofNat_of_zero_le (show 0 ≤ np by omega)
    exact (units_good m n A c xs w (by omega) (by omega) (by unfold maxLen at hm; omega) hr).mono fun e w' ⟨h1, h2⟩ => ⟨h1, h2.below (Nat.le_refl _) (fun _ h => h.elim)⟩
  · exact (units_bad nd np A c xs w h).mono fun e w' ⟨h1, h2⟩ => ⟨h1, h2.below (Nat.le_refl _) (fun _ h => h.elim)⟩
set_option maxRecDepth 100000 in
theorem trod_uact {H : Type} {enc : TypeId × Value → H} {w : World} {base : Nat} {spare : Nat → Bool} {held : Bool} {m : Nat} {cs : List Value} {y : DataW H × List MemPlace} (h : DataW.trod enc Try.prog w base spare held m 104 cs = some y) : ∃ x : UAct, cs = x.cells ∧ True := by
  obtain ⟨ys, n', _, _, hl, hyl, hf⟩ := DataW.trod_struct Try.underlying104 h
  rw [show Try.prog.cellsOf 104 = 6 from by kernel_rfl] at hl
  match cs, hl with
  | [c0, c1, c2, c3, c4, c5], _ =>
    have g0 := hf 0 _ rfl
    have g1 := hf 1 _ rfl
    have g2 := hf 2 _ rfl
    have g3 := hf 3 _ rfl
    have g4 := hf 4 _ rfl
    have g5 := hf 5 _ rfl
    rw [List.getElem?_eq_getElem (by rw [hyl]; decide)] at g0 g1 g2 g3 g4 g5
    obtain ⟨n0, e0, _⟩ := DataW.trod_int Try.underlying3 g0
    obtain ⟨n1, e1, _⟩ := DataW.trod_int Try.underlying3 g1
    obtain ⟨n2, e2, _⟩ := DataW.trod_int Try.underlying3 g2
    obtain ⟨n3, e3, _⟩ := DataW.trod_int Try.underlying3 g3
    obtain ⟨n4, e4, _⟩ := DataW.trod_int Try.underlying3 g4
    obtain ⟨n5, e5, _⟩ := DataW.trod_bool Try.underlying4 g5
    have k3 : Try.prog.cellsOf 3 = 1 := by kernel_rfl
    have k4 : Try.prog.cellsOf 4 = 1 := by kernel_rfl
    change List.take (Try.prog.cellsOf 3) [c0, c1, c2, c3, c4, c5] = _ at e0
    change List.take (Try.prog.cellsOf 3) [c1, c2, c3, c4, c5] = _ at e1
    change List.take (Try.prog.cellsOf 3) [c2, c3, c4, c5] = _ at e2
    change List.take (Try.prog.cellsOf 3) [c3, c4, c5] = _ at e3
    change List.take (Try.prog.cellsOf 3) [c4, c5] = _ at e4
    change List.take (Try.prog.cellsOf 4) [c5] = _ at e5
    rw [k3] at e0 e1 e2 e3 e4
    rw [k4] at e5
    simp at e0 e1 e2 e3 e4 e5
    subst e0; subst e1; subst e2; subst e3; subst e4; subst e5
    exact ⟨⟨n0, n1, n2, n3, n4, n5⟩, rfl, trivial⟩
end Go.Proofs.Ytpnhdiajiieonaa
