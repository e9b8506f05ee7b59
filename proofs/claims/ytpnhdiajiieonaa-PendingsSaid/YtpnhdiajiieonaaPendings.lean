/- The law Pendings. -/
import Derived.Test.YtpnhdiajiieonaaPend2
set_option linter.unusedSimpArgs false
set_option linter.unusedVariables false
namespace Go.Proofs.Ytpnhdiajiieonaa
open Go.RowKit Go.ChangeShapes Go.WideShapes Go.Deep

set_option maxRecDepth 100000 in
set_option maxHeartbeats 8000000 in
theorem pendings_good (n : Nat) (A : Option Addr) (ca : Nat) (xs : List PAct) (w0 : World) (hn1 : 1 ≤ n) (hn : n ≤ 4) (hx : xs.length ≤ 9223372036854775807) (rx : RowC w0 A (xs.flatMap PAct.cells)) (hwf : ∀ x ∈ xs, x.Wf w0) :
    Calls Try.prog 9 #[.int .i64 n, .slice A xs.length ca] w0 fun e w' => e = .returned (.bool true) ∧ Chg (fun _ => False) w0 w' := by
  have HWF := Lib.hid hwf; clear hwf
  have hn0 : (1 : Int) ≤ n := by omega
  have hn4 : (n : Int) ≤ 4 := by omega
  go_enter Try.func9, Try.ntmps9
  go_wp2_with fail
  refine (psNew n w0 w0 hn1 hn (Chg.refl _ _)).mono ?_
  rintro e w1 ⟨rfl, P, hs1, _⟩
  go_wp2_with fail
  refine (rNew_ok n w1 hn1 hn).mono ?_
  rintro e w2 ⟨rfl, hs2, hr, hC2⟩
  have hPR : PR w0 w2 (w0.heap.size + 1) (w1.heap.size + 1) w1.heap.size n (fun _ _ => false) (fun _ _ => false) (fun k => k = w0.heap.size) :=
    ⟨P.keepN hC2, hr, fun e => by omega, fun e => by omega, by omega, by omega⟩
  have HPR := Lib.hid hPR; clear hPR P hr hC2 hs1 hs2
  generalize w0.heap.size + 1 = p at *
  generalize w1.heap.size + 1 = q at *
  generalize w1.heap.size = R at *
  generalize (fun k => k = w0.heap.size) = F at *
  generalize (fun (_ _ : Nat) => false) = S at *
  go_wp2_with fail
  refine (num16 0 w2).mono ?_
  rintro e w3 ⟨rfl, rfl⟩
  go_wp2_with fail
  go_loopw [9] (fun s wr => ∃ (j : Nat) (S : Nat → Nat → Bool) (F : Nat → Prop), j ≤ xs.length ∧ s = .int .i64 j ∧ PR w0 wr p q R n S S F) (fun s _ => xs.length - (intOf s).toNat)
  case atStart => exact ⟨0, S, F, by omega, rfl, HPR.out⟩
  case round =>
    clear HPR
    clear S F
    obtain ⟨j, S, F, hj, rfl, hP⟩ := hrel
    have j0 : (0 : Int) ≤ j := by omega
    by_cases hlt : j < xs.length ∧ j < 80
    · obtain ⟨hlt, h80⟩ := hlt
      have j1 : (j : Int) < xs.length := by omega
      have j2 : (j : Int) < 80 := by omega
      obtain ⟨b, o, rfl, a0, a1, a2, a3, a4, a5⟩ := pactAt rx j hlt
      have hxw := HWF.out xs[j] (List.getElem_mem hlt)
      have b0 := hP.ps.chg.cell a0 id
      have b1 := hP.ps.chg.cell a1 id
      have b2 := hP.ps.chg.cell a2 id
      have b3 := hP.ps.chg.cell a3 id
      have b4 := hP.ps.chg.cell a4 id
      have b5 := hP.ps.chg.cell a5 id
      clear a0 a1 a2 a3 a4 a5
      have HXW := Lib.hid hxw; clear hxw
      generalize xs[j] = x at *
      obtain ⟨w4, hw4⟩ : ∃ x, x = wr := ⟨_, rfl⟩
      subst wr
      have hblk := blk_new w4 (.cells #[.int .i64 x.kind, .int .i64 x.part, .int .i64 x.dev, .int .i64 x.vec, .int .i64 x.tick, .slice x.A x.L.length x.c] 79)
      have hPa := hP.keepN ((Chg.refl _ _).alloc (.cells #[.int .i64 x.kind, .int .i64 x.part, .int .i64 x.dev, .int .i64 x.vec, .int .i64 x.tick, .slice x.A x.L.length x.c] 79))
      have hFa : ¬ F w4.heap.size := fun hin => by have := hP.ps.at_.lt.2 _ hin; omega
      have hRa : w4.heap.size ≠ R := by have := hP.ref.up.lt; omega
      have hw0 : w0.heap.size ≤ w4.heap.size := hP.ps.chg.size
      have HB := Lib.hid hblk; clear hblk
      have HPA := Lib.hid hPa; clear hPa hP
      by_cases hk6 : x.kind < 6
      · go_wp2_with fail
        refine (pRaise p n x.part x.dev x.vec S F _ HPA.out.ps.at_ hn).mono ?_
        rintro e w5 ⟨rfl, F5, h5, f5, k5⟩
        have hP5 := HPA.out.a h5 f5 k5
        have hb5 := k5.at HB.out hFa
        have c1 := blk_cell hb5 1
        have c2 := blk_cell hb5 2
        have c3 := blk_cell hb5 3
        have HP5 := Lib.hid hP5; clear hP5 h5 f5 k5
        clear hb5 HB HPA
        go_wp2_with fail
        refine (rRaise q R n x.part x.dev x.vec S _ HP5.out.ref hn).mono ?_
        rintro e w6 ⟨rfl, h6, k6⟩
        have hP6 := HP5.out.r h6 k6
        have HP6 := Lib.hid hP6; clear hP6 h6 k6
        clear c1 c2 c3 HP5
        go_wp2_with fail
        refine (num16 _ w6).mono ?_
        rintro e w7 ⟨rfl, rfl⟩
        go_wp2_with fail
        go_roundw
        case rel => exact ⟨j + 1, _, F5, by omega, by go_num, HP6.out⟩
        case measure => simp [intOf]; omega
      · by_cases hk8 : x.kind < 8
        · go_wp2_with fail
          obtain ⟨hxr, hxl⟩ := HXW.out
          refine (lendIrqs x.A x.c x.L _ (hxr.keepF (HPA.out.ps.chg)) hxl).mono ?_
          rintro e w5 ⟨g, cap, rfl, ho5, k5⟩
          have hP5 := HPA.out.keepN k5
          have hb5 := k5.at HB.out id
          have c1 := blk_cell hb5 1
          have c4 := blk_cell hb5 4
          have c5 := blk_cell hb5 5
          have hg5 := ho5.at
          have hms5 := ho5.take iqc_len (k := x.L.length) (by simp)
          rw [List.take_left] at hms5
          have hFg : ¬ F g := fun hin => by have := HPA.out.ps.at_.lt.2 _ hin; omega
          have hRg : g ≠ R := by have := HPA.out.ref.up.lt; omega
          have HO5 := Lib.hid ho5; clear ho5
          have HMS := Lib.hid hms5; clear hms5
          have HP5 := Lib.hid hP5; clear hP5 k5
          have HB5 := Lib.hid hb5; clear hb5
          have hlx : x.L.length ≤ 9223372036854775807 := by omega
          clear HB HPA
          go_wp2_with fail
          refine (pTakeAny p n _ x.part x.tick (.slice (some ⟨g, 0, none⟩) x.L.length cap) x.L S F _ HP5.out.ps.at_ hn HMS.out hlx).mono ?_
          rintro e w6 ⟨v6, rfl, ho6, F6, h6, f6, n6, k6⟩
          have hP6 := HP5.out.a h6 f6 k6
          have hb6 := k6.at HB5.out hFa
          have hO6 := HO5.out.keep k6 (fun k hk => by injection hk with hk; rw [← hk]; exact hFg)
          have hRv : ∀ k, v6.ownBlock = some k → k ≠ R := fun k hk => by have := (own_lt ho6 hk).1; have := HP5.out.ref.up.lt; omega
          have hqv : ∀ k, v6.ownBlock = some k → k ≠ q := fun k hk => by have := (own_lt ho6 hk).1; have := lt_of_heap HP5.out.ref.hp; omega
          have hpv : ∀ k, v6.ownBlock = some k → k ≠ p := fun k hk => by have := (own_lt ho6 hk).1; have := HP5.out.ps.at_.lt.1; omega
          have h0v : ∀ k, v6.ownBlock = some k → w0.heap.size ≤ k := fun k hk => by have := (own_lt ho6 hk).1; have := HP5.out.ps.chg.size; omega
          have hms6 : ∀ W, Chg (fun k => k = R) w6 W → RdI W (.slice x.A x.L.length x.c) x.L := fun W hC => RdI.ofRow (hxr.keepF (hP6.ps.chg.trans' hC (fun k hk e => by have := hP6.R0; omega)))
          have c1 := blk_cell hb6 1
          have c4 := blk_cell hb6 4
          have c5 := blk_cell hb6 5
          have HP6 := Lib.hid hP6; clear hP6
          have HB6 := Lib.hid hb6; clear hb6
          have HO6 := Lib.hid hO6; clear hO6
          have HV6 := Lib.hid ho6; clear ho6
          have HM6 := Lib.hid hms6; clear hms6
          have HN := Lib.hid (And.intro (And.intro n6 hRv) (And.intro hqv (And.intro hpv h0v))); clear n6 hRv hqv hpv h0v h6 f6 k6
          clear HB5 HO5 HMS HP5
          go_wp2_with fail
          refine (rTakeAny q R n x.part x.tick (.slice x.A x.L.length x.c) x.L S _ HP6.out.ref hn HM6.out hlx).mono ?_
          rintro e w7 ⟨v7, rfl, ho7, h7, k7⟩
          have hP7 := HP6.out.r h7 k7
          have hb7 := k7.at HB6.out hRa
          have hO7 := HO6.out.keep k7 (fun k hk e => by injection hk with hk; exact hRg (by rw [← e, ← hk]))
          have hV7 := HV6.out.keep k7 (fun k hk e => HN.out.1.2 k hk e)
          have hsm := sameYes v6 v7 _ _ (RdI.of hV7) (RdI.of ho7) (Nat.le_trans (tkL_len _ _ _ _ _) (by decide))
          have c5 := blk_cell hb7 5
          have HP7 := Lib.hid hP7; clear hP7
          have HB7 := Lib.hid hb7; clear hb7
          have HO7 := Lib.hid hO7; clear hO7
          have HV7 := Lib.hid hV7; clear hV7
          have HS7 := Lib.hid hsm; clear hsm ho7 h7 k7
          clear HB6 HO6 HV6 HM6 HP6 c1 c4
          go_wp2_with fail
          refine HS7.out.mono ?_
          rintro e w8 ⟨rfl, k8⟩
          have hP8 := HP7.out.keepN k8
          have hV8 := HV7.out.keep k8 (fun _ _ => id)
          have c5 := blk_cell (k8.at HB7.out id) 5
          have hkp := keptIrqs x.A x.c _ g cap x.L w8 (hxr.keepF hP8.ps.chg) (HO7.out.keep k8 (fun _ _ => id)) hxl
          have HP8 := Lib.hid hP8; clear hP8
          have HV8 := Lib.hid hV8; clear hV8
          have HK8 := Lib.hid hkp; clear hkp k8
          clear HP7 HV7 HO7 HB7 HS7
          go_wp2_with fail
          refine HK8.out.mono ?_
          rintro e w9 ⟨rfl, k9⟩
          have hP9 := HP8.out.keepN k9
          have hV9 := HV8.out.keep k9 (fun _ _ => id)
          have hsp := spoilIrqs _ v6 _ w9 hV9 (Nat.le_trans (tkL_len _ _ _ _ _) (by decide))
          have HP9 := Lib.hid hP9; clear hP9
          have HSP := Lib.hid hsp; clear hsp hV9 k9
          clear HP8 HV8 HK8 c5
          go_wp2_with fail
          refine HSP.out.mono ?_
          rintro e wa ⟨rfl, ka⟩
          have hPa := HP9.out.other ka (fun k hk => ⟨HN.out.1.1 k hk.symm, HN.out.2.2.1 k hk.symm, HN.out.2.1 k hk.symm, HN.out.1.2 k hk.symm, HN.out.2.2.2 k hk.symm⟩)
          have HPA := Lib.hid hPa; clear hPa ka
          clear HP9 HSP
          go_wp2_with fail
          go_roundw
          case rel => exact ⟨j + 1, _, F6, by omega, by go_num, HPA.out⟩
          case measure => simp [intOf]; omega
        · have c2 := blk_cell HB.out 2
          have HC2 := Lib.hid c2; clear c2
          go_wp2_with fail
          have c2 := HC2.out
          go_region_held3 (fun W => W.cell? ⟨w4.heap.size, 2, none⟩ = some (.int .i64 x.dev)) (assumption) (first
            | (go_at_call 56; (with_reducible refine (pClear p n x.dev S F _ (HPA.out.keepN ((Chg.refl _ _).drew)).ps.at_ hn).mono ?_); rintro e w5 ⟨rfl, F5, h5, f5, k5⟩; have hP5 := (HPA.out.keepN ((Chg.refl _ _).drew)).a h5 f5 k5; have HP5 := Lib.hid hP5; clear hP5; have c2 : w5.cell? ⟨w4.heap.size, 2, none⟩ = some (.int .i64 x.dev) := k5.cell (p := ⟨w4.heap.size, 2, none⟩) HC2.out hFa; clear h5 f5 k5)
            | (go_at_call 57; (with_reducible refine (rClear q R n x.dev S _ HP5.out.ref hn).mono ?_); rintro e w6 ⟨rfl, h6, k6⟩; have hP6 := HP5.out.r h6 k6; have HP6 := Lib.hid hP6; clear hP6; have c2 : w6.cell? ⟨w4.heap.size, 2, none⟩ = some (.int .i64 x.dev) := k6.cell (p := ⟨w4.heap.size, 2, none⟩) c2 hRa; clear h6 k6))
          all_goals
            go_wp2_with fail
            go_roundw
            case rel => exact ⟨j + 1, _, F5, by omega, by go_num, HP6.out⟩
            case measure => simp [intOf]; omega
    · have hend : (j : Int) < xs.length → (80 : Int) ≤ j := by omega
      have HP := Lib.hid hP; clear hP
      clear hlt hj
      by_cases hl : (j : Int) < xs.length
      all_goals
        first
          | have h80 := hend hl
          | skip
        clear hend
        go_wp2_with fail
        go_loopw [17] (fun s w2 => ∃ (c : Nat) (S : Nat → Nat → Bool) (F : Nat → Prop), c ≤ n + 2 ∧ s = .int .i64 ((c : Int) - 1) ∧ PR w0 w2 p q R n S S F) (fun s _ => (n + 1 - intOf s).toNat)
        case atStart => exact ⟨0, S, F, by omega, rfl, HP.out⟩
        case round =>
          clear HP
          clear S F
          obtain ⟨c, S, F, hc, rfl, hP⟩ := hrel
          by_cases hc2 : c < n + 2
          · have c0 : (c : Int) - 1 ≤ n := by omega
            have c1 : (-1 : Int) ≤ (c : Int) - 1 := by omega
            have HP := Lib.hid hP; clear hP
            go_wp2_with fail
            refine (pTakeAny p n 0 ((c : Int) - 1) 7 (.slice none 0 0) [] S F _ HP.out.ps.at_ hn (OwnC.nil _ _) (by decide)).mono ?_
            rintro e w6 ⟨v6, rfl, ho6, F6, h6, f6, n6, k6⟩
            have hP6 := HP.out.a h6 f6 k6
            have hRv : ∀ k, v6.ownBlock = some k → k ≠ R := fun k hk => by have := (own_lt ho6 hk).1; have := HP.out.ref.up.lt; omega
            have HP6 := Lib.hid hP6; clear hP6
            have HV6 := Lib.hid ho6; clear ho6
            have HR := Lib.hid hRv; clear hRv h6 f6 n6 k6 HP
            go_wp2_with fail
            refine (rTakeAny q R n ((c : Int) - 1) 7 (.slice none 0 0) [] S _ HP6.out.ref hn (fun W _ => RdI.of (OwnC.nil _ 0)) (by decide)).mono ?_
            rintro e w7 ⟨v7, rfl, ho7, h7, k7⟩
            have hP7 := HP6.out.r h7 k7
            have hV7 := HV6.out.keep k7 (fun k hk e => HR.out k hk e)
            have hsm := sameYes v6 v7 _ _ (RdI.of hV7) (RdI.of ho7) (Nat.le_trans (tkL_len _ _ _ _ _) (by decide))
            have HP7 := Lib.hid hP7; clear hP7
            have HS7 := Lib.hid hsm; clear hsm ho7 h7 k7 hV7
            clear HP6 HV6 HR
            go_wp2_with fail
            refine HS7.out.mono ?_
            rintro e w8 ⟨rfl, k8⟩
            have hP8 := HP7.out.keepN k8
            have HP8 := Lib.hid hP8; clear hP8 k8 HP7 HS7
            go_wp2_with fail
            go_roundw
            case rel => exact ⟨c + 1, _, F6, by omega, by go_num, HP8.out⟩
            case measure => simp [intOf]; omega
          · have c0 : (n : Int) < (c : Int) - 1 := by omega
            have hC := hP.ps.chg
            have HC := Lib.hid hC; clear hC hP
            clear hc hc2
            go_wp2_with fail
            refine (awake12 _).mono ?_
            rintro e w7 ⟨rfl, k7⟩
            go_wp2_with fail
            go_ret
            exact ⟨rfl, HC.out.trans k7⟩
set_option maxRecDepth 100000 in
theorem pendings_bad (n : Int) (A : Option Addr) (c : Nat) (xs : List PAct) (w : World) (h : ¬ (1 ≤ n ∧ n ≤ 4)) :
    Calls Try.prog 9 #[.int .i64 n, .slice A xs.length c] w fun e w' => e = .returned (.bool true) ∧ Chg (fun _ => False) w w' := by
  go_enter Try.func9, Try.ntmps9
  go_wp2_with fail
  refine (pNew_no n w h).mono ?_
  rintro e w1 ⟨rfl, rfl⟩
  go_wp2_with fail
  refine (rNew_no n w h).mono ?_
  rintro e w1 ⟨rfl, rfl⟩
  go_wp2_with fail
  refine (num16 _ _).mono ?_
  rintro e w1 ⟨rfl, rfl⟩
  go_wp2_with fail
  refine (awake12 _).mono ?_
  rintro e w1 ⟨rfl, hC⟩
  go_wp2
  go_ret
  exact ⟨rfl, hC⟩
theorem pendings_walk (w : World) (n : Int) (A : Option Addr) (c : Nat) (xs : List PAct) (hm : xs.length ≤ maxLen) (hr : RowC w A (xs.flatMap PAct.cells)) (hw : ∀ x ∈ xs, x.Wf w) :
    Calls Try.prog 9 #[.int .i64 n, .slice A xs.length c] w fun e w' => e = .returned (.bool true) ∧ Below w.heap.size w w' := by
  by_cases h : 1 ≤ n ∧ n ≤ 4
  · obtain ⟨m, rfl⟩ := Int.eq_ofNat_of_zero_le (show 0 ≤ n by omega)
    exact (pendings_good m A c xs w (by omega) (by omega) (by unfold maxLen at hm; omega) hr hw).mono fun e w' ⟨h1, h2⟩ => ⟨h1, h2.below (Nat.le_refl _) (fun _ h => h.elim)⟩
  · exact (pendings_bad n A c xs w h).mono fun e w' ⟨h1, h2⟩ => ⟨h1, h2.below (Nat.le_refl _) (fun _ h => h.elim)⟩
end Go.Proofs.Ytpnhdiajiieonaa
