/- The law PendingMasked. -/
import Derived.Test.YtpnhdiajiieonaaPendOnce
set_option linter.unusedSimpArgs false
set_option linter.unusedVariables false
namespace Go.Proofs.Ytpnhdiajiieonaa
open Go.RowKit Go.ChangeShapes Go.WideShapes Go.Deep
attribute [local go_sem] i64_and31
theorem UpAt.cell0 {t : TypeId} {w : World} {u : Nat} {S : Nat → Nat → Bool} (h : UpAt t 1 w u S) {k : Nat} (hk : k < 32) : w.cell? ⟨u, k, none⟩ = some (.bool (S 0 k)) := by
  have := h.cell (a := 0) (by omega) hk
  simpa using this
theorem UpAt.set0 {t : TypeId} {w : World} {u : Nat} {S S' : Nat → Nat → Bool} (h : UpAt t 1 w u S) {k : Nat} (hk : k < 32) (hS : ∀ c, c < 32 → S' 0 c = (S 0 c || decide (c = k))) : UpAt t 1 (w.setCell ⟨u, k, none⟩ (.bool true)) u S' := by
  have := h.set (S' := S') (a := 0) (k := k) (by omega) hk (fun b c hb hc => by
    have hb0 : b = 0 := by omega
    subst hb0
    rw [hS c hc]; simp)
  simpa using this
theorem msk_snoc (ms : List Iq) (x : Int) (k c : Nat) : msk (ms ++ [⟨x, (k : Int) / 8, (k : Int) % 8⟩]) c = (msk ms c || decide (c = k)) := by
  unfold msk
  rw [List.map_append, ← Bool.decide_or, decide_eq_decide, List.mem_append]
  refine or_congr Iff.rfl ?_
  simp only [List.map_cons, List.map_nil, List.mem_singleton, dv, Prod.mk.injEq]
  omega
/-- The state of the law's first loops. -/
structure PM (w0 W : World) (p u v : Nat) (S O : Nat → Nat → Bool) (F : Nat → Prop) : Prop where
  ps : PS w0 W p 1 S F
  up : UpAt 89 1 W u S
  off : UpAt 89 1 W v O
  fu : ¬ F u
  fv : ¬ F v
  uv : u ≠ v
  u0 : w0.heap.size ≤ u
  v0 : w0.heap.size ≤ v
theorem foot_keep {W : World} {F F' : Nat → Prop} {g : Nat} (hf : FootOf W F F') (h : ¬ F g) (hg : g < W.heap.size) : ¬ F' g := fun hin => by
  rcases hf g hin with h1 | h1
  · exact h h1
  · omega
section
variable {w0 W W' : World} {p u v : Nat} {S S' O : Nat → Nat → Bool} {F F' : Nat → Prop}
theorem PM.keepN (h : PM w0 W p u v S O F) (hC : Chg (fun _ => False) W W') : PM w0 W' p u v S O F := ⟨h.ps.keepN hC, h.up.keep hC id, h.off.keep hC id, h.fu, h.fv, h.uv, h.u0, h.v0⟩
theorem PM.raise (h : PM w0 W p u v S O F) {k : Nat} (hk : k < 32) (ha : SetsAt W' p 1 (fun a b => S a b || (decide (a = 0) && decide (b = k))) F') (hf : FootOf W F F') (hC : Chg F W W') :
    PM w0 (W'.setCell ⟨u, k, none⟩ (.bool true)) p u v (fun a b => S a b || (decide (a = 0) && decide (b = k))) O F' := by
  have hU := h.up.keep hC h.fu
  have hu := foot_keep hf h.fu h.up.lt
  have hS : Chg (fun k => k = u) W' (W'.setCell ⟨u, k, none⟩ (.bool true)) := (Chg.refl (fun k => k = u) W').setCell (p := ⟨u, k, none⟩) (fun _ => rfl) _
  exact ⟨(h.ps.step ha hf hC).setU (m := 1) hU (by decide) hu h.u0 _, hU.set0 hk (fun c _ => by simp), (h.off.keep hC h.fv).keep hS (fun e => h.uv e.symm), hu, foot_keep hf h.fv h.off.lt, h.uv, h.u0, h.v0⟩
theorem PM.mask (h : PM w0 W p u v S O F) {k : Nat} (hk : k < 32) : PM w0 (W.setCell ⟨v, k, none⟩ (.bool true)) p u v S (fun a b => O a b || decide (b = k)) F := by
  have hS : Chg (fun k => k = v) W (W.setCell ⟨v, k, none⟩ (.bool true)) := (Chg.refl (fun k => k = v) W).setCell (p := ⟨v, k, none⟩) (fun _ => rfl) _
  exact ⟨h.ps.setU (m := 1) h.off (by decide) h.fv h.v0 _, h.up.keep hS h.uv, h.off.set0 hk (fun c _ => rfl), h.fu, h.fv, h.uv, h.u0, h.v0⟩
theorem PM.grow (h : PM w0 W p u v S O F) {so : Value} {ms : List Iq} {base : Nat} (ho : OwnC iqc 3 92 W base so ms) (hfr : ∀ g, so.ownBlock = some g → ¬ F g) (hb : w0.heap.size ≤ base) (hC : Chg (fun j => some j = so.ownBlock) W W') : PM w0 W' p u v S O F := by
  have hne : ∀ {b : Nat} {cs : Array Value} {t : TypeId} {fr : Nat × Nat}, W.heap[b]? = some (.cells cs t fr) → t ≠ 92 → ¬ some b = so.ownBlock := fun hb ht e => own_ne ho hb ht e.symm
  obtain ⟨R, vs, f, hV, _, _⟩ := id h.ps.at_
  obtain ⟨cu, bu, _⟩ := id h.up
  obtain ⟨cv, bv, _⟩ := id h.off
  refine ⟨⟨h.ps.at_.keep hC (hne hV.hp (by decide)) (fun k hk e => hfr k e.symm hk), h.ps.ge, h.ps.chg.trans' hC (fun k hk e => ?_)⟩, h.up.keep hC (hne bu (by decide)), h.off.keep hC (hne bv (by decide)), h.fu, h.fv, h.uv, h.u0, h.v0⟩
  have := (own_lt ho e.symm).1; omega
theorem PM.take (h : PM w0 W p u v S O F) (ha : PS w0 W' p 1 S' F') (hf : FootOf W F F') (hC : Chg F W W') : PS w0 W' p 1 S' F' ∧ UpAt 89 1 W' u S ∧ UpAt 89 1 W' v O ∧ ¬ F' u ∧ ¬ F' v :=
  ⟨ha, h.up.keep hC h.fu, h.off.keep hC h.fv, foot_keep hf h.fu h.up.lt, foot_keep hf h.fv h.off.lt⟩
end
theorem UpAt.step {t : TypeId} {n : Nat} {W W' : World} {u : Nat} {S : Nat → Nat → Bool} {F F' : Nat → Prop} (h : UpAt t n W u S) (hF : ¬ F u) (hf : FootOf W F F') (hC : Chg F W W') : UpAt t n W' u S ∧ ¬ F' u := ⟨h.keep hC hF, foot_keep hf hF h.lt⟩
theorem own_step {W W' : World} {so : Value} {ms : List Iq} {base : Nat} {F F' : Nat → Prop} (h : OwnC iqc 3 92 W base so ms) (hF : ∀ g, so.ownBlock = some g → ¬ F g) (hf : FootOf W F F') (hC : Chg F W W') : OwnC iqc 3 92 W' base so ms ∧ (∀ g, so.ownBlock = some g → ¬ F' g) :=
  ⟨h.keep hC hF, fun g hg => foot_keep hf (hF g hg) (own_lt h hg).2⟩
theorem PM.maskOwn {w0 W : World} {p u v : Nat} {S O : Nat → Nat → Bool} {F : Nat → Prop} (h : PM w0 W p u v S O F) {so : Value} {ms : List Iq} {base k : Nat} (ho : OwnC iqc 3 92 W base so ms) (x : Value) : OwnC iqc 3 92 (W.setCell ⟨v, k, none⟩ x) base so ms := by
  obtain ⟨cv, bv, _⟩ := id h.off
  exact ho.keep ((Chg.refl (fun k => k = v) W).setCell (p := ⟨v, k, none⟩) (fun _ => rfl) x) (fun g hg e => own_ne ho bv (by decide) (by rw [hg, e]))
theorem take_T {S : Nat → Nat → Bool} {ms : List Iq} (k : Nat) : takeS (takeS S ms 0) ms 0 0 k = (S 0 k && msk ms k) := by
  unfold takeS; cases S 0 k <;> cases msk ms k <;> rfl
theorem take_none (S : Nat → Nat → Bool) (ms : List Iq) (t : Int) : takeL (takeS S ms 0) ms 0 t = [] := by
  unfold takeL takeK
  rw [List.map_eq_nil_iff, List.filter_eq_nil_iff]
  intro k _
  unfold takeS; cases S 0 k <;> cases msk ms k <;> simp
set_option maxRecDepth 100000 in
set_option maxHeartbeats 8000000 in
theorem pendMasked_main (A B : Option Addr) (ca cb : Nat) (xs ys : List Int) (w0 : World) (hx : xs.length ≤ 9223372036854775807) (hy : ys.length ≤ 9223372036854775807) (rx : RowC w0 A (xs.flatMap icell)) (ry : RowC w0 B (ys.flatMap icell)) :
    Calls Try.prog 11 #[.slice A xs.length ca, .slice B ys.length cb] w0 fun e w' => e = .returned (.bool true) ∧ Chg (fun _ => False) w0 w' := by
  go_enter Try.func11, Try.ntmps11
  go_wp2_with fail
  refine (awake12 _).mono ?_
  rintro e w ⟨rfl, hC0⟩
  go_wp2_with fail
  refine (psNew 1 w0 w (by omega) (by omega) hC0).mono ?_
  rintro e w1 ⟨rfl, P, hs1, _⟩
  have hF0 : ∀ k, w1.heap.size ≤ k → ¬ k = w.heap.size := fun k hk e => by omega
  clear hs1
  generalize w.heap.size + 1 = p at *
  generalize hF : (fun k => k = w.heap.size) = F at *
  have hF1 : ∀ k, w1.heap.size ≤ k → ¬ F k := by rw [← hF]; exact hF0
  clear hF hF0 hC0
  go_wp2_with fail
  refine (num16 0 w1).mono ?_
  rintro e w3 ⟨rfl, rfl⟩
  go_wp2_with fail
  have hP0 : PM w0 ((w1.alloc (.cells (Array.replicate 32 (.bool false)) 89)).alloc (.cells (Array.replicate 32 (.bool false)) 89)) p w1.heap.size (w1.heap.size + 1) (fun _ _ => false) (fun _ _ => false) F :=
    ⟨P.keepN (((Chg.refl _ _).alloc _).alloc _), ⟨_, blk_alloc (blk_new w1 _) _, by simp, fun a k ha hk => by rw [Array.getElem?_replicate, if_pos (by omega)]⟩,
      ⟨Array.replicate 32 (.bool false), by simpa using blk_new (w1.alloc (.cells (Array.replicate 32 (.bool false)) 89)) (.cells (Array.replicate 32 (.bool false)) 89), by simp, fun a k ha hk => by rw [Array.getElem?_replicate, if_pos (by omega)]⟩,
      hF1 _ (Nat.le_refl _), hF1 _ (by omega), by omega, P.chg.size, by have := P.chg.size; omega⟩
  have HP0 := Lib.hid hP0; clear hP0 P hF1
  generalize hu : w1.heap.size = u at *
  generalize hv : u + 1 = v at *
  clear hv
  generalize hO : (fun (_ _ : Nat) => false) = O at *
  obtain ⟨S, hS⟩ : ∃ S, S = O := ⟨_, rfl⟩
  have HP1 : Hid (PM w0 ((w1.alloc (.cells (Array.replicate 32 (.bool false)) 89)).alloc (.cells (Array.replicate 32 (.bool false)) 89)) p u v S O F) := by rw [hS]; exact HP0
  have HO : Hid (∀ k, O 0 k = false) := Lib.hid (fun k => by rw [← hO])
  clear HP0 hS hO
  go_loopw [10] (fun s wr => ∃ (j : Nat) (S : Nat → Nat → Bool) (F : Nat → Prop), j ≤ xs.length ∧ s = .int .i64 j ∧ PM w0 wr p u v S O F) (fun s _ => xs.length - (intOf s).toNat)
  case atStart => exact ⟨0, S, F, by omega, rfl, HP1.out⟩
  case round =>
    clear HP1 hu
    clear S F
    obtain ⟨j, S, F, hj, rfl, hP⟩ := hrel
    have j0 : (0 : Int) ≤ j := by omega
    by_cases hlt : j < xs.length ∧ j < 40
    · obtain ⟨hlt, h40⟩ := hlt
      have j1 : (j : Int) < xs.length := by omega
      have j2 : (j : Int) < 40 := by omega
      obtain ⟨b, o, rfl, c0w⟩ := intAt rx j hlt
      have c0 := hP.ps.chg.cell c0w id
      have HP := Lib.hid hP; clear hP
      generalize xs[j] = x at *
      obtain ⟨k, hk, hk2⟩ : ∃ k : Nat, x % 32 = k ∧ k < 32 := ⟨(x % 32).toNat, by omega, by omega⟩
      have hk8 : x % 8 = (k : Int) % 8 := by omega
      have E2 := Lib.hid hk; clear hk
      have E3 := Lib.hid hk8; clear hk8
      go_wp2_with fail
      rw [E2.out, E3.out]
      clear c0 c0w E2 E3
      refine (pRaise_in p 1 0 k S F _ HP.out.ps.at_ (by omega) (by omega) hk2).mono ?_
      rintro e v1 ⟨rfl, F1, h1, f1, k1⟩
      have hP2 := HP.out.raise hk2 h1 f1 k1
      have hU2 := HP.out.up.keep k1 HP.out.fu
      have cu := hU2.cell0 hk2
      have fu := hU2.free k
      have HP2 := Lib.hid hP2; clear hP2 h1 f1 k1 hU2
      have k0 : (0 : Int) ≤ k := by omega
      have k1 : (k : Int) < 32 := by omega
      go_wp2_with fail
      go_roundw
      case rel => exact ⟨j + 1, _, F1, by omega, by go_num, HP2.out⟩
      case measure => simp [intOf]; omega
    · have hend : (j : Int) < xs.length → (40 : Int) ≤ j := by omega
      have HP := Lib.hid hP; clear hP
      clear hlt hj
      by_cases hl : (j : Int) < xs.length
      · have h40 := hend hl
        clear hend
        obtain ⟨hb, hbe⟩ : ∃ x, x = wr.heap.size := ⟨_, rfl⟩
        have hFL : ∀ k, F k → k < hb := by rw [hbe]; exact HP.out.ps.at_.lt.2
        have hb0 : w0.heap.size ≤ hb := by rw [hbe]; exact HP.out.ps.chg.size
        have hb1 : hb ≤ wr.heap.size := by omega
        have HFL := Lib.hid hFL; clear hFL hbe
        have hq0 := j0
        go_wp2_with fail
        go_loopw [12, 9] (fun s so w2 => ∃ (j : Nat) (O : Nat → Nat → Bool) (ms : List Iq), j ≤ ys.length ∧ j ≤ 20 ∧ s = .int .i64 j ∧ ms.length = j ∧ PM w0 w2 p u v S O F ∧ (∀ k, k < 32 → O 0 k = msk ms k) ∧ OwnC iqc 3 92 w2 hb so ms ∧ hb ≤ w2.heap.size) (fun s _ _ => ys.length - (intOf s).toNat)
        case atStart => exact ⟨0, O, [], by omega, by omega, rfl, rfl, HP.out, fun k _ => by rw [HO.out]; rw [msk_nil], OwnC.nil _ _, hb1⟩
        case round =>
          clear HP HO hb1
          obtain ⟨q, O2, ms, hq, hq20, rfl, hml, hP, hO, hW, hb2⟩ := hrel
          obtain ⟨so, hso⟩ : ∃ x, x = u9 := ⟨_, rfl⟩
          subst u9
          clear hq0
          have q0 : (0 : Int) ≤ q := by omega
          by_cases hlt : q < ys.length ∧ q < 20
          · obtain ⟨hlt, h20⟩ := hlt
            have q1 : (q : Int) < ys.length := by omega
            have q2 : (q : Int) < 20 := by omega
            obtain ⟨b, o, rfl, d0w⟩ := intAt ry q hlt
            obtain ⟨w2, hw2⟩ : ∃ x, x = wr := ⟨_, rfl⟩
            subst wr
            have d0 := hP.ps.chg.cell d0w id
            generalize ys[q] = y at *
            obtain ⟨k, hk, hk2⟩ : ∃ k : Nat, y % 32 = k ∧ k < 32 := ⟨(y % 32).toNat, by omega, by omega⟩
            have hP2 := hP.mask hk2
            have hW2 : OwnC iqc 3 92 (w2.setCell ⟨v, k, none⟩ (.bool true)) hb so ms := hP.maskOwn hW _
            have cv := hP.off.cell0 hk2
            have fv := hP.off.free k
            have d1 := hP2.ps.chg.cell d0w id
            have hb3 : hb ≤ (w2.setCell ⟨v, k, none⟩ (.bool true)).heap.size := by have := hP2.off.lt; simp; omega
            have E2 := Lib.hid hk
            have E3 : Hid (y % 8 = (k : Int) % 8) := Lib.hid (by omega)
            have E4 : Hid (y % 32 / 8 = (k : Int) / 8) := Lib.hid (by omega)
            have k0 : (0 : Int) ≤ k := by omega
            have k1 : (k : Int) < 32 := by omega
            have hland : bits .and .i64 y 31 = (k : Int) := by rw [i64_and31, hk]
            have HP2 := Lib.hid hP2; clear hP2 hP
            have HW2 := Lib.hid hW2; clear hW2 hW
            have HO2 := Lib.hid hO; clear hO
            clear hk
            obtain ⟨q0i, hi0, hz0, hz1, hz2⟩ := info_parts Try.info92
            have hown : ∀ o, ((w2.setCell ⟨v, k, none⟩ (.bool true)).alloc o).ownsRow hb 92 3 so ms.length (ms.flatMap iqc) := fun o => Chg.own ((Chg.refl (fun _ => False) _).alloc o) HW2.out (fun _ _ => id)
            have hblk : ((w2.setCell ⟨v, k, none⟩ (.bool true)).alloc (.cells #[.int .i64 y, .int .i64 ((k : Int) / 8), .int .i64 ((k : Int) % 8)] 92)).heap[w2.heap.size]? = some (.cells #[.int .i64 y, .int .i64 ((k : Int) / 8), .int .i64 ((k : Int) % 8)] 92 (0, 0)) := by simpa using blk_new (w2.setCell ⟨v, k, none⟩ (.bool true)) (.cells #[.int .i64 y, .int .i64 ((k : Int) / 8), .int .i64 ((k : Int) % 8)] 92)
            have HBL := Lib.hid hblk; clear hblk
            have hnews := World.news_of_block HBL.out
            have hb4 : hb ≤ ((w2.setCell ⟨v, k, none⟩ (.bool true)).alloc (.cells #[.int .i64 y, .int .i64 ((k : Int) / 8), .int .i64 ((k : Int) % 8)] 92)).heap.size := by simp at hb3 ⊢; omega
            have HOW := Lib.hid hown; clear hown
            go_wp2_with (at_builtin; refine wpList_append_own _ rfl _ _ 77 rfl hb 92 q0i (.agg #[.int .i64 0, .int .i64 0, .int .i64 0]) 3 24 Try.underlying77 hi0 hz0 hz1 hz2 rfl (by decide) so ms.length (ms.flatMap iqc) rfl (HOW.out _) ⟨w2.heap.size, 0, none⟩ 1 1 [.int .i64 y, .int .i64 ((k : Int) / 8), .int .i64 ((k : Int) % 8)] (by rfl) rfl hnews (by simp [Value.oneCell']) (by unfold maxLen; omega) (by omega) hb4 ?_; intro v5 w5 hown5 hgr hn5)
            have hP3 := HP2.out.grow HW2.out (fun g hg hin => by have := HFL.out g hin; have := (own_lt HW2.out hg).1; omega) hb0 (Chg.grown ((Chg.refl _ _).alloc _) hgr (fun k hk _ => hk.symm))
            have hW3 : OwnC iqc 3 92 w5 hb v5 (ms ++ [⟨y, (k : Int) / 8, (k : Int) % 8⟩]) := by
              unfold OwnC
              rw [List.length_append, List.flatMap_append]
              simpa [iqc] using hown5
            go_roundw
            case rel => exact ⟨q + 1, _, ms ++ [⟨y, (k : Int) / 8, (k : Int) % 8⟩], by omega, by omega, by go_num, by simp; omega, hP3, fun c hc => by rw [msk_snoc, HO2.out c hc], hW3, by have := hgr.size; omega⟩
            case measure => simp [intOf]; omega
          · have hend : (q : Int) < ys.length → (20 : Int) ≤ q := by omega
            have hml : ms.length ≤ 9223372036854775807 := by omega
            have HP := Lib.hid hP; clear hP
            have HMK := Lib.hid hO; clear hO
            have HW := Lib.hid hW; clear hW
            clear hlt hq hq20 hb2
            by_cases hl : (q : Int) < ys.length
            · have h20 := hend hl
              clear hend
              go_wp2_with fail
              refine (psTake' (i := 0) HP.out.ps (by omega) (by omega) 5 HW.out hml).mono ?_
              rintro e v1 ⟨va, rfl, F1, P1, V1, f1, k1, g1⟩
              have hfr : ∀ g, so.ownBlock = some g → ¬ F g := fun g hg hin => by have := HFL.out g hin; have := (own_lt HW.out hg).1; omega
              obtain ⟨U1, uF1⟩ := HP.out.up.step HP.out.fu f1 k1
              obtain ⟨O1, oF1⟩ := HP.out.off.step HP.out.fv f1 k1
              obtain ⟨W1, wF1⟩ := own_step HW.out hfr f1 k1
              clear HP HW hfr f1 k1
              go_wp2_with fail
              refine (psTake' (i := 0) P1 (by omega) (by omega) 6 W1 hml).mono ?_
              rintro e v2 ⟨vn, rfl, F2, P2, V2, f2, k2, g2⟩
              rw [take_none] at V2
              obtain ⟨⟨A2, c2, rfl, _⟩, _⟩ := V2
              obtain ⟨U2, uF2⟩ := U1.step uF1 f2 k2
              obtain ⟨O2, oF2⟩ := O1.step oF1 f2 k2
              have V1b := V1.step f2 k2
              clear U1 O1 W1 V1 P1 f2 k2
              go_wp2_with fail
              refine (psTake' (i := 0) (mb := 0) P2 (by omega) (by omega) 7 (OwnC.nil _ _) (by decide)).mono ?_
              rintro e v3 ⟨vb, rfl, F3, P3, V3, f3, k3, g3⟩
              obtain ⟨U3, uF3⟩ := U2.step uF2 f3 k3
              obtain ⟨O3, oF3⟩ := O2.step oF2 f3 k3
              obtain ⟨⟨Aa, cA, rfl, ra⟩, _⟩ := V1b.step f3 k3
              obtain ⟨⟨Ab, cB, rfl, rb⟩, _⟩ := V3
              have hC := P3.chg
              clear U2 O2 V1b P2 P3 f3 k3 g1 g2 g3
              have hT := take_T (S := S) (ms := ms)
              generalize takeS (takeS S ms 0) ms 0 = T at *
              have HC := Lib.hid hC; clear hC
              have HT := Lib.hid hT; clear hT
              have HU3 := Lib.hid U3; clear U3
              have HO3 := Lib.hid O3; clear O3
              have RA := Lib.hid ra; clear ra
              have RB := Lib.hid rb; clear rb
              have hl1 : (takeK S ms 0 32).length = (takeL S ms 0 5).length := by unfold takeL; simp
              have hl2 : (takeK T [] 0 32).length = (takeL T [] 0 7).length := by unfold takeL; simp
              have HL1 := Lib.hid hl1; clear hl1
              have HL2 := Lib.hid hl2; clear hl2
              go_wp2_with fail
              go_loopw [19, 17, 18] (fun s19 s17 s18 w4 => ∃ k : Nat, k ≤ 32 ∧ s19 = .int .i64 k ∧ s17 = .int .i64 (takeK S ms 0 k).length ∧ s18 = .int .i64 (takeK T [] 0 k).length ∧ w4 = v3) (fun s _ _ _ => 32 - (intOf s).toNat)
              case atStart => exact ⟨0, by omega, rfl, rfl, rfl, rfl⟩
              case round =>
                obtain ⟨k, hk, rfl, rfl, rfl, rfl⟩ := hrel
                by_cases hk2 : k < 32
                · have k0 : (0 : Int) ≤ k := by omega
                  have k1 : (k : Int) < 32 := by omega
                  have cu := HU3.out.cell0 hk2
                  have cv := HO3.out.cell0 hk2
                  rw [HMK.out k hk2] at cv
                  have hle1 := takeK_le S ms 0 k
                  have hle2 := takeK_le T [] 0 k
                  have hs1 := takeK_succ S ms 0 k
                  have hs2 := takeK_succ T [] 0 k
                  rw [msk_nil, HT.out k] at hs2
                  cases hS : S 0 k with
                  | false =>
                    rw [hS] at cu hs1 hs2
                    simp at hs1 hs2
                    have H1 := Lib.hid hs1; clear hs1
                    have H2 := Lib.hid hs2; clear hs2
                    clear hS
                    go_wp2_with fail
                    go_roundw
                    case rel => exact ⟨k + 1, by omega, by go_num, by rw [H1.out], by rw [H2.out], trivial⟩
                    case measure => simp [intOf]; omega
                  | true =>
                    cases hM : msk ms k with
                    | false =>
                      obtain ⟨hb, hat⟩ := takeL_at (S := S) (ms := ms) (part := 0) 5 hk2 (by rw [hS, hM]; rfl)
                      obtain ⟨g, o, rfl, d0, d1, d2⟩ := RA.out _ hb
                      rw [hat] at d0 d1 d2
                      rw [hS, hM] at hs1 hs2
                      rw [hS] at cu
                      rw [hM] at cv
                      have hs1' : (takeK S ms 0 (k + 1)).length = (takeK S ms 0 k).length + 1 := by rw [hs1]; simp
                      have hs2' : (takeK T [] 0 (k + 1)).length = (takeK T [] 0 k).length := by rw [hs2]; simp
                      clear hs1 hs2
                      have H1 := Lib.hid hs1'; clear hs1'
                      have H2 := Lib.hid hs2'; clear hs2'
                      dsimp only [toIq] at d0 d1 d2
                      generalize hm : (takeK S ms 0 k).length = m at *
                      have m0 : (0 : Int) ≤ m := by omega
                      have m1 : (m : Int) < ((takeL S ms 0 5).length : Nat) := by omega
                      have m2 : (m : Int) ≤ 32 := by omega
                      generalize hq1 : (k : Int) / 8 = x at *
                      generalize hq2 : (k : Int) % 8 = y at *
                      clear hm hS hM hat
                      go_wp2_with fail
                      go_roundw
                      case rel => exact ⟨k + 1, by omega, by go_num, by rw [H1.out]; go_num, by rw [H2.out], trivial⟩
                      case measure => simp [intOf]; omega
                    | true =>
                      obtain ⟨hb, hat⟩ := takeL_at (S := T) (ms := []) (part := 0) 7 hk2 (by rw [HT.out, hS, hM, msk_nil]; rfl)
                      obtain ⟨g, o, rfl, d0, d1, d2⟩ := RB.out _ hb
                      rw [hat] at d0 d1 d2
                      rw [hS, hM] at hs1 hs2
                      rw [hS] at cu
                      rw [hM] at cv
                      have hs1' : (takeK S ms 0 (k + 1)).length = (takeK S ms 0 k).length := by rw [hs1]; simp
                      have hs2' : (takeK T [] 0 (k + 1)).length = (takeK T [] 0 k).length + 1 := by rw [hs2]; simp
                      clear hs1 hs2
                      have H1 := Lib.hid hs1'; clear hs1'
                      have H2 := Lib.hid hs2'; clear hs2'
                      dsimp only [toIq] at d0 d1 d2
                      generalize hm : (takeK T [] 0 k).length = m at *
                      have m0 : (0 : Int) ≤ m := by omega
                      have m1 : (m : Int) < ((takeL T [] 0 7).length : Nat) := by omega
                      have m2 : (m : Int) ≤ 32 := by omega
                      generalize hq1 : (k : Int) / 8 = x at *
                      generalize hq2 : (k : Int) % 8 = y at *
                      clear hm hS hM hat
                      go_wp2_with fail
                      go_roundw
                      case rel => exact ⟨k + 1, by omega, by go_num, by rw [H1.out], by rw [H2.out]; go_num, trivial⟩
                      case measure => simp [intOf]; omega
                · obtain rfl : k = 32 := by omega
                  clear hk hk2
                  rw [HL1.out, HL2.out]
                  go_wp2_with fail
                  go_ret
                  exact ⟨rfl, HC.out⟩
            · clear hend
              go_wp2_with fail
              refine (psTake' (i := 0) HP.out.ps (by omega) (by omega) 5 HW.out hml).mono ?_
              rintro e v1 ⟨va, rfl, F1, P1, V1, f1, k1, g1⟩
              have hfr : ∀ g, so.ownBlock = some g → ¬ F g := fun g hg hin => by have := HFL.out g hin; have := (own_lt HW.out hg).1; omega
              obtain ⟨U1, uF1⟩ := HP.out.up.step HP.out.fu f1 k1
              obtain ⟨O1, oF1⟩ := HP.out.off.step HP.out.fv f1 k1
              obtain ⟨W1, wF1⟩ := own_step HW.out hfr f1 k1
              clear HP HW hfr f1 k1
              go_wp2_with fail
              refine (psTake' (i := 0) P1 (by omega) (by omega) 6 W1 hml).mono ?_
              rintro e v2 ⟨vn, rfl, F2, P2, V2, f2, k2, g2⟩
              rw [take_none] at V2
              obtain ⟨⟨A2, c2, rfl, _⟩, _⟩ := V2
              obtain ⟨U2, uF2⟩ := U1.step uF1 f2 k2
              obtain ⟨O2, oF2⟩ := O1.step oF1 f2 k2
              have V1b := V1.step f2 k2
              clear U1 O1 W1 V1 P1 f2 k2
              go_wp2_with fail
              refine (psTake' (i := 0) (mb := 0) P2 (by omega) (by omega) 7 (OwnC.nil _ _) (by decide)).mono ?_
              rintro e v3 ⟨vb, rfl, F3, P3, V3, f3, k3, g3⟩
              obtain ⟨U3, uF3⟩ := U2.step uF2 f3 k3
              obtain ⟨O3, oF3⟩ := O2.step oF2 f3 k3
              obtain ⟨⟨Aa, cA, rfl, ra⟩, _⟩ := V1b.step f3 k3
              obtain ⟨⟨Ab, cB, rfl, rb⟩, _⟩ := V3
              have hC := P3.chg
              clear U2 O2 V1b P2 P3 f3 k3 g1 g2 g3
              have hT := take_T (S := S) (ms := ms)
              generalize takeS (takeS S ms 0) ms 0 = T at *
              have HC := Lib.hid hC; clear hC
              have HT := Lib.hid hT; clear hT
              have HU3 := Lib.hid U3; clear U3
              have HO3 := Lib.hid O3; clear O3
              have RA := Lib.hid ra; clear ra
              have RB := Lib.hid rb; clear rb
              have hl1 : (takeK S ms 0 32).length = (takeL S ms 0 5).length := by unfold takeL; simp
              have hl2 : (takeK T [] 0 32).length = (takeL T [] 0 7).length := by unfold takeL; simp
              have HL1 := Lib.hid hl1; clear hl1
              have HL2 := Lib.hid hl2; clear hl2
              go_wp2_with fail
              go_loopw [19, 17, 18] (fun s19 s17 s18 w4 => ∃ k : Nat, k ≤ 32 ∧ s19 = .int .i64 k ∧ s17 = .int .i64 (takeK S ms 0 k).length ∧ s18 = .int .i64 (takeK T [] 0 k).length ∧ w4 = v3) (fun s _ _ _ => 32 - (intOf s).toNat)
              case atStart => exact ⟨0, by omega, rfl, rfl, rfl, rfl⟩
              case round =>
                obtain ⟨k, hk, rfl, rfl, rfl, rfl⟩ := hrel
                by_cases hk2 : k < 32
                · have k0 : (0 : Int) ≤ k := by omega
                  have k1 : (k : Int) < 32 := by omega
                  have cu := HU3.out.cell0 hk2
                  have cv := HO3.out.cell0 hk2
                  rw [HMK.out k hk2] at cv
                  have hle1 := takeK_le S ms 0 k
                  have hle2 := takeK_le T [] 0 k
                  have hs1 := takeK_succ S ms 0 k
                  have hs2 := takeK_succ T [] 0 k
                  rw [msk_nil, HT.out k] at hs2
                  cases hS : S 0 k with
                  | false =>
                    rw [hS] at cu hs1 hs2
                    simp at hs1 hs2
                    have H1 := Lib.hid hs1; clear hs1
                    have H2 := Lib.hid hs2; clear hs2
                    clear hS
                    go_wp2_with fail
                    go_roundw
                    case rel => exact ⟨k + 1, by omega, by go_num, by rw [H1.out], by rw [H2.out], trivial⟩
                    case measure => simp [intOf]; omega
                  | true =>
                    cases hM : msk ms k with
                    | false =>
                      obtain ⟨hb, hat⟩ := takeL_at (S := S) (ms := ms) (part := 0) 5 hk2 (by rw [hS, hM]; rfl)
                      obtain ⟨g, o, rfl, d0, d1, d2⟩ := RA.out _ hb
                      rw [hat] at d0 d1 d2
                      rw [hS, hM] at hs1 hs2
                      rw [hS] at cu
                      rw [hM] at cv
                      have hs1' : (takeK S ms 0 (k + 1)).length = (takeK S ms 0 k).length + 1 := by rw [hs1]; simp
                      have hs2' : (takeK T [] 0 (k + 1)).length = (takeK T [] 0 k).length := by rw [hs2]; simp
                      clear hs1 hs2
                      have H1 := Lib.hid hs1'; clear hs1'
                      have H2 := Lib.hid hs2'; clear hs2'
                      dsimp only [toIq] at d0 d1 d2
                      generalize hm : (takeK S ms 0 k).length = m at *
                      have m0 : (0 : Int) ≤ m := by omega
                      have m1 : (m : Int) < ((takeL S ms 0 5).length : Nat) := by omega
                      have m2 : (m : Int) ≤ 32 := by omega
                      generalize hq1 : (k : Int) / 8 = x at *
                      generalize hq2 : (k : Int) % 8 = y at *
                      clear hm hS hM hat
                      go_wp2_with fail
                      go_roundw
                      case rel => exact ⟨k + 1, by omega, by go_num, by rw [H1.out]; go_num, by rw [H2.out], trivial⟩
                      case measure => simp [intOf]; omega
                    | true =>
                      obtain ⟨hb, hat⟩ := takeL_at (S := T) (ms := []) (part := 0) 7 hk2 (by rw [HT.out, hS, hM, msk_nil]; rfl)
                      obtain ⟨g, o, rfl, d0, d1, d2⟩ := RB.out _ hb
                      rw [hat] at d0 d1 d2
                      rw [hS, hM] at hs1 hs2
                      rw [hS] at cu
                      rw [hM] at cv
                      have hs1' : (takeK S ms 0 (k + 1)).length = (takeK S ms 0 k).length := by rw [hs1]; simp
                      have hs2' : (takeK T [] 0 (k + 1)).length = (takeK T [] 0 k).length + 1 := by rw [hs2]; simp
                      clear hs1 hs2
                      have H1 := Lib.hid hs1'; clear hs1'
                      have H2 := Lib.hid hs2'; clear hs2'
                      dsimp only [toIq] at d0 d1 d2
                      generalize hm : (takeK T [] 0 k).length = m at *
                      have m0 : (0 : Int) ≤ m := by omega
                      have m1 : (m : Int) < ((takeL T [] 0 7).length : Nat) := by omega
                      have m2 : (m : Int) ≤ 32 := by omega
                      generalize hq1 : (k : Int) / 8 = x at *
                      generalize hq2 : (k : Int) % 8 = y at *
                      clear hm hS hM hat
                      go_wp2_with fail
                      go_roundw
                      case rel => exact ⟨k + 1, by omega, by go_num, by rw [H1.out], by rw [H2.out]; go_num, trivial⟩
                      case measure => simp [intOf]; omega
                · obtain rfl : k = 32 := by omega
                  clear hk hk2
                  rw [HL1.out, HL2.out]
                  go_wp2_with fail
                  go_ret
                  exact ⟨rfl, HC.out⟩
      · clear hend
        obtain ⟨hb, hbe⟩ : ∃ x, x = wr.heap.size := ⟨_, rfl⟩
        have hFL : ∀ k, F k → k < hb := by rw [hbe]; exact HP.out.ps.at_.lt.2
        have hb0 : w0.heap.size ≤ hb := by rw [hbe]; exact HP.out.ps.chg.size
        have hb1 : hb ≤ wr.heap.size := by omega
        have HFL := Lib.hid hFL; clear hFL hbe
        have hq0 := j0
        go_wp2_with fail
        go_loopw [12, 9] (fun s so w2 => ∃ (j : Nat) (O : Nat → Nat → Bool) (ms : List Iq), j ≤ ys.length ∧ j ≤ 20 ∧ s = .int .i64 j ∧ ms.length = j ∧ PM w0 w2 p u v S O F ∧ (∀ k, k < 32 → O 0 k = msk ms k) ∧ OwnC iqc 3 92 w2 hb so ms ∧ hb ≤ w2.heap.size) (fun s _ _ => ys.length - (intOf s).toNat)
        case atStart => exact ⟨0, O, [], by omega, by omega, rfl, rfl, HP.out, fun k _ => by rw [HO.out]; rw [msk_nil], OwnC.nil _ _, hb1⟩
        case round =>
          clear HP HO hb1
          obtain ⟨q, O2, ms, hq, hq20, rfl, hml, hP, hO, hW, hb2⟩ := hrel
          obtain ⟨so, hso⟩ : ∃ x, x = u9 := ⟨_, rfl⟩
          subst u9
          clear hq0
          have q0 : (0 : Int) ≤ q := by omega
          by_cases hlt : q < ys.length ∧ q < 20
          · obtain ⟨hlt, h20⟩ := hlt
            have q1 : (q : Int) < ys.length := by omega
            have q2 : (q : Int) < 20 := by omega
            obtain ⟨b, o, rfl, d0w⟩ := intAt ry q hlt
            obtain ⟨w2, hw2⟩ : ∃ x, x = wr := ⟨_, rfl⟩
            subst wr
            have d0 := hP.ps.chg.cell d0w id
            generalize ys[q] = y at *
            obtain ⟨k, hk, hk2⟩ : ∃ k : Nat, y % 32 = k ∧ k < 32 := ⟨(y % 32).toNat, by omega, by omega⟩
            have hP2 := hP.mask hk2
            have hW2 : OwnC iqc 3 92 (w2.setCell ⟨v, k, none⟩ (.bool true)) hb so ms := hP.maskOwn hW _
            have cv := hP.off.cell0 hk2
            have fv := hP.off.free k
            have d1 := hP2.ps.chg.cell d0w id
            have hb3 : hb ≤ (w2.setCell ⟨v, k, none⟩ (.bool true)).heap.size := by have := hP2.off.lt; simp; omega
            have E2 := Lib.hid hk
            have E3 : Hid (y % 8 = (k : Int) % 8) := Lib.hid (by omega)
            have E4 : Hid (y % 32 / 8 = (k : Int) / 8) := Lib.hid (by omega)
            have k0 : (0 : Int) ≤ k := by omega
            have k1 : (k : Int) < 32 := by omega
            have hland : bits .and .i64 y 31 = (k : Int) := by rw [i64_and31, hk]
            have HP2 := Lib.hid hP2; clear hP2 hP
            have HW2 := Lib.hid hW2; clear hW2 hW
            have HO2 := Lib.hid hO; clear hO
            clear hk
            obtain ⟨q0i, hi0, hz0, hz1, hz2⟩ := info_parts Try.info92
            have hown : ∀ o, ((w2.setCell ⟨v, k, none⟩ (.bool true)).alloc o).ownsRow hb 92 3 so ms.length (ms.flatMap iqc) := fun o => Chg.own ((Chg.refl (fun _ => False) _).alloc o) HW2.out (fun _ _ => id)
            have hblk : ((w2.setCell ⟨v, k, none⟩ (.bool true)).alloc (.cells #[.int .i64 y, .int .i64 ((k : Int) / 8), .int .i64 ((k : Int) % 8)] 92)).heap[w2.heap.size]? = some (.cells #[.int .i64 y, .int .i64 ((k : Int) / 8), .int .i64 ((k : Int) % 8)] 92 (0, 0)) := by simpa using blk_new (w2.setCell ⟨v, k, none⟩ (.bool true)) (.cells #[.int .i64 y, .int .i64 ((k : Int) / 8), .int .i64 ((k : Int) % 8)] 92)
            have HBL := Lib.hid hblk; clear hblk
            have hnews := World.news_of_block HBL.out
            have hb4 : hb ≤ ((w2.setCell ⟨v, k, none⟩ (.bool true)).alloc (.cells #[.int .i64 y, .int .i64 ((k : Int) / 8), .int .i64 ((k : Int) % 8)] 92)).heap.size := by simp at hb3 ⊢; omega
            have HOW := Lib.hid hown; clear hown
            go_wp2_with (at_builtin; refine wpList_append_own _ rfl _ _ 77 rfl hb 92 q0i (.agg #[.int .i64 0, .int .i64 0, .int .i64 0]) 3 24 Try.underlying77 hi0 hz0 hz1 hz2 rfl (by decide) so ms.length (ms.flatMap iqc) rfl (HOW.out _) ⟨w2.heap.size, 0, none⟩ 1 1 [.int .i64 y, .int .i64 ((k : Int) / 8), .int .i64 ((k : Int) % 8)] (by rfl) rfl hnews (by simp [Value.oneCell']) (by unfold maxLen; omega) (by omega) hb4 ?_; intro v5 w5 hown5 hgr hn5)
            have hP3 := HP2.out.grow HW2.out (fun g hg hin => by have := HFL.out g hin; have := (own_lt HW2.out hg).1; omega) hb0 (Chg.grown ((Chg.refl _ _).alloc _) hgr (fun k hk _ => hk.symm))
            have hW3 : OwnC iqc 3 92 w5 hb v5 (ms ++ [⟨y, (k : Int) / 8, (k : Int) % 8⟩]) := by
              unfold OwnC
              rw [List.length_append, List.flatMap_append]
              simpa [iqc] using hown5
            go_roundw
            case rel => exact ⟨q + 1, _, ms ++ [⟨y, (k : Int) / 8, (k : Int) % 8⟩], by omega, by omega, by go_num, by simp; omega, hP3, fun c hc => by rw [msk_snoc, HO2.out c hc], hW3, by have := hgr.size; omega⟩
            case measure => simp [intOf]; omega
          · have hend : (q : Int) < ys.length → (20 : Int) ≤ q := by omega
            have hml : ms.length ≤ 9223372036854775807 := by omega
            have HP := Lib.hid hP; clear hP
            have HMK := Lib.hid hO; clear hO
            have HW := Lib.hid hW; clear hW
            clear hlt hq hq20 hb2
            by_cases hl : (q : Int) < ys.length
            · have h20 := hend hl
              clear hend
              go_wp2_with fail
              refine (psTake' (i := 0) HP.out.ps (by omega) (by omega) 5 HW.out hml).mono ?_
              rintro e v1 ⟨va, rfl, F1, P1, V1, f1, k1, g1⟩
              have hfr : ∀ g, so.ownBlock = some g → ¬ F g := fun g hg hin => by have := HFL.out g hin; have := (own_lt HW.out hg).1; omega
              obtain ⟨U1, uF1⟩ := HP.out.up.step HP.out.fu f1 k1
              obtain ⟨O1, oF1⟩ := HP.out.off.step HP.out.fv f1 k1
              obtain ⟨W1, wF1⟩ := own_step HW.out hfr f1 k1
              clear HP HW hfr f1 k1
              go_wp2_with fail
              refine (psTake' (i := 0) P1 (by omega) (by omega) 6 W1 hml).mono ?_
              rintro e v2 ⟨vn, rfl, F2, P2, V2, f2, k2, g2⟩
              rw [take_none] at V2
              obtain ⟨⟨A2, c2, rfl, _⟩, _⟩ := V2
              obtain ⟨U2, uF2⟩ := U1.step uF1 f2 k2
              obtain ⟨O2, oF2⟩ := O1.step oF1 f2 k2
              have V1b := V1.step f2 k2
              clear U1 O1 W1 V1 P1 f2 k2
              go_wp2_with fail
              refine (psTake' (i := 0) (mb := 0) P2 (by omega) (by omega) 7 (OwnC.nil _ _) (by decide)).mono ?_
              rintro e v3 ⟨vb, rfl, F3, P3, V3, f3, k3, g3⟩
              obtain ⟨U3, uF3⟩ := U2.step uF2 f3 k3
              obtain ⟨O3, oF3⟩ := O2.step oF2 f3 k3
              obtain ⟨⟨Aa, cA, rfl, ra⟩, _⟩ := V1b.step f3 k3
              obtain ⟨⟨Ab, cB, rfl, rb⟩, _⟩ := V3
              have hC := P3.chg
              clear U2 O2 V1b P2 P3 f3 k3 g1 g2 g3
              have hT := take_T (S := S) (ms := ms)
              generalize takeS (takeS S ms 0) ms 0 = T at *
              have HC := Lib.hid hC; clear hC
              have HT := Lib.hid hT; clear hT
              have HU3 := Lib.hid U3; clear U3
              have HO3 := Lib.hid O3; clear O3
              have RA := Lib.hid ra; clear ra
              have RB := Lib.hid rb; clear rb
              have hl1 : (takeK S ms 0 32).length = (takeL S ms 0 5).length := by unfold takeL; simp
              have hl2 : (takeK T [] 0 32).length = (takeL T [] 0 7).length := by unfold takeL; simp
              have HL1 := Lib.hid hl1; clear hl1
              have HL2 := Lib.hid hl2; clear hl2
              go_wp2_with fail
              go_loopw [19, 17, 18] (fun s19 s17 s18 w4 => ∃ k : Nat, k ≤ 32 ∧ s19 = .int .i64 k ∧ s17 = .int .i64 (takeK S ms 0 k).length ∧ s18 = .int .i64 (takeK T [] 0 k).length ∧ w4 = v3) (fun s _ _ _ => 32 - (intOf s).toNat)
              case atStart => exact ⟨0, by omega, rfl, rfl, rfl, rfl⟩
              case round =>
                obtain ⟨k, hk, rfl, rfl, rfl, rfl⟩ := hrel
                by_cases hk2 : k < 32
                · have k0 : (0 : Int) ≤ k := by omega
                  have k1 : (k : Int) < 32 := by omega
                  have cu := HU3.out.cell0 hk2
                  have cv := HO3.out.cell0 hk2
                  rw [HMK.out k hk2] at cv
                  have hle1 := takeK_le S ms 0 k
                  have hle2 := takeK_le T [] 0 k
                  have hs1 := takeK_succ S ms 0 k
                  have hs2 := takeK_succ T [] 0 k
                  rw [msk_nil, HT.out k] at hs2
                  cases hS : S 0 k with
                  | false =>
                    rw [hS] at cu hs1 hs2
                    simp at hs1 hs2
                    have H1 := Lib.hid hs1; clear hs1
                    have H2 := Lib.hid hs2; clear hs2
                    clear hS
                    go_wp2_with fail
                    go_roundw
                    case rel => exact ⟨k + 1, by omega, by go_num, by rw [H1.out], by rw [H2.out], trivial⟩
                    case measure => simp [intOf]; omega
                  | true =>
                    cases hM : msk ms k with
                    | false =>
                      obtain ⟨hb, hat⟩ := takeL_at (S := S) (ms := ms) (part := 0) 5 hk2 (by rw [hS, hM]; rfl)
                      obtain ⟨g, o, rfl, d0, d1, d2⟩ := RA.out _ hb
                      rw [hat] at d0 d1 d2
                      rw [hS, hM] at hs1 hs2
                      rw [hS] at cu
                      rw [hM] at cv
                      have hs1' : (takeK S ms 0 (k + 1)).length = (takeK S ms 0 k).length + 1 := by rw [hs1]; simp
                      have hs2' : (takeK T [] 0 (k + 1)).length = (takeK T [] 0 k).length := by rw [hs2]; simp
                      clear hs1 hs2
                      have H1 := Lib.hid hs1'; clear hs1'
                      have H2 := Lib.hid hs2'; clear hs2'
                      dsimp only [toIq] at d0 d1 d2
                      generalize hm : (takeK S ms 0 k).length = m at *
                      have m0 : (0 : Int) ≤ m := by omega
                      have m1 : (m : Int) < ((takeL S ms 0 5).length : Nat) := by omega
                      have m2 : (m : Int) ≤ 32 := by omega
                      generalize hq1 : (k : Int) / 8 = x at *
                      generalize hq2 : (k : Int) % 8 = y at *
                      clear hm hS hM hat
                      go_wp2_with fail
                      go_roundw
                      case rel => exact ⟨k + 1, by omega, by go_num, by rw [H1.out]; go_num, by rw [H2.out], trivial⟩
                      case measure => simp [intOf]; omega
                    | true =>
                      obtain ⟨hb, hat⟩ := takeL_at (S := T) (ms := []) (part := 0) 7 hk2 (by rw [HT.out, hS, hM, msk_nil]; rfl)
                      obtain ⟨g, o, rfl, d0, d1, d2⟩ := RB.out _ hb
                      rw [hat] at d0 d1 d2
                      rw [hS, hM] at hs1 hs2
                      rw [hS] at cu
                      rw [hM] at cv
                      have hs1' : (takeK S ms 0 (k + 1)).length = (takeK S ms 0 k).length := by rw [hs1]; simp
                      have hs2' : (takeK T [] 0 (k + 1)).length = (takeK T [] 0 k).length + 1 := by rw [hs2]; simp
                      clear hs1 hs2
                      have H1 := Lib.hid hs1'; clear hs1'
                      have H2 := Lib.hid hs2'; clear hs2'
                      dsimp only [toIq] at d0 d1 d2
                      generalize hm : (takeK T [] 0 k).length = m at *
                      have m0 : (0 : Int) ≤ m := by omega
                      have m1 : (m : Int) < ((takeL T [] 0 7).length : Nat) := by omega
                      have m2 : (m : Int) ≤ 32 := by omega
                      generalize hq1 : (k : Int) / 8 = x at *
                      generalize hq2 : (k : Int) % 8 = y at *
                      clear hm hS hM hat
                      go_wp2_with fail
                      go_roundw
                      case rel => exact ⟨k + 1, by omega, by go_num, by rw [H1.out], by rw [H2.out]; go_num, trivial⟩
                      case measure => simp [intOf]; omega
                · obtain rfl : k = 32 := by omega
                  clear hk hk2
                  rw [HL1.out, HL2.out]
                  go_wp2_with fail
                  go_ret
                  exact ⟨rfl, HC.out⟩
            · clear hend
              go_wp2_with fail
              refine (psTake' (i := 0) HP.out.ps (by omega) (by omega) 5 HW.out hml).mono ?_
              rintro e v1 ⟨va, rfl, F1, P1, V1, f1, k1, g1⟩
              have hfr : ∀ g, so.ownBlock = some g → ¬ F g := fun g hg hin => by have := HFL.out g hin; have := (own_lt HW.out hg).1; omega
              obtain ⟨U1, uF1⟩ := HP.out.up.step HP.out.fu f1 k1
              obtain ⟨O1, oF1⟩ := HP.out.off.step HP.out.fv f1 k1
              obtain ⟨W1, wF1⟩ := own_step HW.out hfr f1 k1
              clear HP HW hfr f1 k1
              go_wp2_with fail
              refine (psTake' (i := 0) P1 (by omega) (by omega) 6 W1 hml).mono ?_
              rintro e v2 ⟨vn, rfl, F2, P2, V2, f2, k2, g2⟩
              rw [take_none] at V2
              obtain ⟨⟨A2, c2, rfl, _⟩, _⟩ := V2
              obtain ⟨U2, uF2⟩ := U1.step uF1 f2 k2
              obtain ⟨O2, oF2⟩ := O1.step oF1 f2 k2
              have V1b := V1.step f2 k2
              clear U1 O1 W1 V1 P1 f2 k2
              go_wp2_with fail
              refine (psTake' (i := 0) (mb := 0) P2 (by omega) (by omega) 7 (OwnC.nil _ _) (by decide)).mono ?_
              rintro e v3 ⟨vb, rfl, F3, P3, V3, f3, k3, g3⟩
              obtain ⟨U3, uF3⟩ := U2.step uF2 f3 k3
              obtain ⟨O3, oF3⟩ := O2.step oF2 f3 k3
              obtain ⟨⟨Aa, cA, rfl, ra⟩, _⟩ := V1b.step f3 k3
              obtain ⟨⟨Ab, cB, rfl, rb⟩, _⟩ := V3
              have hC := P3.chg
              clear U2 O2 V1b P2 P3 f3 k3 g1 g2 g3
              have hT := take_T (S := S) (ms := ms)
              generalize takeS (takeS S ms 0) ms 0 = T at *
              have HC := Lib.hid hC; clear hC
              have HT := Lib.hid hT; clear hT
              have HU3 := Lib.hid U3; clear U3
              have HO3 := Lib.hid O3; clear O3
              have RA := Lib.hid ra; clear ra
              have RB := Lib.hid rb; clear rb
              have hl1 : (takeK S ms 0 32).length = (takeL S ms 0 5).length := by unfold takeL; simp
              have hl2 : (takeK T [] 0 32).length = (takeL T [] 0 7).length := by unfold takeL; simp
              have HL1 := Lib.hid hl1; clear hl1
              have HL2 := Lib.hid hl2; clear hl2
              go_wp2_with fail
              go_loopw [19, 17, 18] (fun s19 s17 s18 w4 => ∃ k : Nat, k ≤ 32 ∧ s19 = .int .i64 k ∧ s17 = .int .i64 (takeK S ms 0 k).length ∧ s18 = .int .i64 (takeK T [] 0 k).length ∧ w4 = v3) (fun s _ _ _ => 32 - (intOf s).toNat)
              case atStart => exact ⟨0, by omega, rfl, rfl, rfl, rfl⟩
              case round =>
                obtain ⟨k, hk, rfl, rfl, rfl, rfl⟩ := hrel
                by_cases hk2 : k < 32
                · have k0 : (0 : Int) ≤ k := by omega
                  have k1 : (k : Int) < 32 := by omega
                  have cu := HU3.out.cell0 hk2
                  have cv := HO3.out.cell0 hk2
                  rw [HMK.out k hk2] at cv
                  have hle1 := takeK_le S ms 0 k
                  have hle2 := takeK_le T [] 0 k
                  have hs1 := takeK_succ S ms 0 k
                  have hs2 := takeK_succ T [] 0 k
                  rw [msk_nil, HT.out k] at hs2
                  cases hS : S 0 k with
                  | false =>
                    rw [hS] at cu hs1 hs2
                    simp at hs1 hs2
                    have H1 := Lib.hid hs1; clear hs1
                    have H2 := Lib.hid hs2; clear hs2
                    clear hS
                    go_wp2_with fail
                    go_roundw
                    case rel => exact ⟨k + 1, by omega, by go_num, by rw [H1.out], by rw [H2.out], trivial⟩
                    case measure => simp [intOf]; omega
                  | true =>
                    cases hM : msk ms k with
                    | false =>
                      obtain ⟨hb, hat⟩ := takeL_at (S := S) (ms := ms) (part := 0) 5 hk2 (by rw [hS, hM]; rfl)
                      obtain ⟨g, o, rfl, d0, d1, d2⟩ := RA.out _ hb
                      rw [hat] at d0 d1 d2
                      rw [hS, hM] at hs1 hs2
                      rw [hS] at cu
                      rw [hM] at cv
                      have hs1' : (takeK S ms 0 (k + 1)).length = (takeK S ms 0 k).length + 1 := by rw [hs1]; simp
                      have hs2' : (takeK T [] 0 (k + 1)).length = (takeK T [] 0 k).length := by rw [hs2]; simp
                      clear hs1 hs2
                      have H1 := Lib.hid hs1'; clear hs1'
                      have H2 := Lib.hid hs2'; clear hs2'
                      dsimp only [toIq] at d0 d1 d2
                      generalize hm : (takeK S ms 0 k).length = m at *
                      have m0 : (0 : Int) ≤ m := by omega
                      have m1 : (m : Int) < ((takeL S ms 0 5).length : Nat) := by omega
                      have m2 : (m : Int) ≤ 32 := by omega
                      generalize hq1 : (k : Int) / 8 = x at *
                      generalize hq2 : (k : Int) % 8 = y at *
                      clear hm hS hM hat
                      go_wp2_with fail
                      go_roundw
                      case rel => exact ⟨k + 1, by omega, by go_num, by rw [H1.out]; go_num, by rw [H2.out], trivial⟩
                      case measure => simp [intOf]; omega
                    | true =>
                      obtain ⟨hb, hat⟩ := takeL_at (S := T) (ms := []) (part := 0) 7 hk2 (by rw [HT.out, hS, hM, msk_nil]; rfl)
                      obtain ⟨g, o, rfl, d0, d1, d2⟩ := RB.out _ hb
                      rw [hat] at d0 d1 d2
                      rw [hS, hM] at hs1 hs2
                      rw [hS] at cu
                      rw [hM] at cv
                      have hs1' : (takeK S ms 0 (k + 1)).length = (takeK S ms 0 k).length := by rw [hs1]; simp
                      have hs2' : (takeK T [] 0 (k + 1)).length = (takeK T [] 0 k).length + 1 := by rw [hs2]; simp
                      clear hs1 hs2
                      have H1 := Lib.hid hs1'; clear hs1'
                      have H2 := Lib.hid hs2'; clear hs2'
                      dsimp only [toIq] at d0 d1 d2
                      generalize hm : (takeK T [] 0 k).length = m at *
                      have m0 : (0 : Int) ≤ m := by omega
                      have m1 : (m : Int) < ((takeL T [] 0 7).length : Nat) := by omega
                      have m2 : (m : Int) ≤ 32 := by omega
                      generalize hq1 : (k : Int) / 8 = x at *
                      generalize hq2 : (k : Int) % 8 = y at *
                      clear hm hS hM hat
                      go_wp2_with fail
                      go_roundw
                      case rel => exact ⟨k + 1, by omega, by go_num, by rw [H1.out], by rw [H2.out]; go_num, trivial⟩
                      case measure => simp [intOf]; omega
                · obtain rfl : k = 32 := by omega
                  clear hk hk2
                  rw [HL1.out, HL2.out]
                  go_wp2_with fail
                  go_ret
                  exact ⟨rfl, HC.out⟩
theorem pendingMasked_walk (w : World) (A : Option Addr) (ca : Nat) (xs : List Int) (hmx : xs.length ≤ maxLen) (rx : RowC w A (xs.flatMap icell)) (_hw : ∀ x ∈ xs, True) (B : Option Addr) (cb : Nat) (ys : List Int) (hmy : ys.length ≤ maxLen) (ry : RowC w B (ys.flatMap icell)) (_hw2 : ∀ x ∈ ys, True) :
    Calls Try.prog 11 #[.slice A xs.length ca, .slice B ys.length cb] w fun e w' => e = .returned (.bool true) ∧ Below w.heap.size w w' :=
  (pendMasked_main A B ca cb xs ys w (by unfold maxLen at hmx; omega) (by unfold maxLen at hmy; omega) rx ry).mono fun e w' ⟨h1, h2⟩ => ⟨h1, h2.below (Nat.le_refl _) (fun _ h => h.elim)⟩
end Go.Proofs.Ytpnhdiajiieonaa
