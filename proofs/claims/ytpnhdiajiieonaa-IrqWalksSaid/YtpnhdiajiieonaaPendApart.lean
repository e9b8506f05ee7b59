/- The law PendingApart. -/
import Derived.Test.YtpnhdiajiieonaaPendForms
set_option linter.unusedSimpArgs false
set_option linter.unusedVariables false
namespace Go.Proofs.Ytpnhdiajiieonaa
open Go.RowKit Go.ChangeShapes Go.WideShapes Go.Deep
structure PS2 (w0 W : World) (p q n : Nat) (S T : Nat → Nat → Bool) (F G : Nat → Prop) : Prop where
  a : PS w0 W p n S F
  b : PS w0 W q n T G
  apart : ∀ k, F k → ¬ G k
  pa : ¬ G p
  pb : ¬ F q
section
variable {w0 W W' : World} {p q n : Nat} {S S' T T' : Nat → Nat → Bool} {F F' G G' : Nat → Prop}
theorem PS2.swap (h : PS2 w0 W p q n S T F G) : PS2 w0 W q p n T S G F := ⟨h.b, h.a, fun k h1 h2 => h.apart k h2 h1, h.pb, h.pa⟩
theorem PS2.keepN (h : PS2 w0 W p q n S T F G) (hC : Chg (fun _ => False) W W') : PS2 w0 W' p q n S T F G := ⟨h.a.keepN hC, h.b.keepN hC, h.apart, h.pa, h.pb⟩
theorem PS2.step (h : PS2 w0 W p q n S T F G) (ha : PS w0 W' p n S' F') (hf : FootOf W F F') (hC : Chg F W W') : PS2 w0 W' p q n S' T F' G :=
  ⟨ha, ⟨h.b.at_.keep hC h.pb (fun k hk hF => h.apart k hF hk), h.b.ge, ha.chg⟩, fun k hk hG => by
    rcases hf k hk with h1 | h1
    · exact h.apart k h1 hG
    · have := h.b.at_.lt.2 k hG; omega, h.pa, fun hk => by
    rcases hf q hk with h1 | h1
    · exact h.pb h1
    · have := h.b.at_.lt.1; omega⟩
end
/-- b is a's partition 0 and no other. -/
def Like (S T : Nat → Nat → Bool) : Prop := ∀ k, k < 32 → S 0 k = T 0 k ∧ T 1 k = false
theorem takeL_cong {S T : Nat → Nat → Bool} {i : Nat} (h : ∀ k, k < 32 → S i k = T i k) (ms : List Iq) (t : Int) : takeL S ms i t = takeL T ms i t := by
  unfold takeL takeK
  congr 1
  refine List.filter_congr (fun k hk => ?_)
  rw [h k (List.mem_range.1 hk)]
theorem takeL_nil {T : Nat → Nat → Bool} {i : Nat} (h : ∀ k, k < 32 → T i k = false) (ms : List Iq) (t : Int) : takeL T ms i t = [] := by
  unfold takeL takeK
  rw [List.map_eq_nil_iff, List.filter_eq_nil_iff]
  intro k hk
  rw [h k (List.mem_range.1 hk)]; simp
theorem Like.take0 {S T : Nat → Nat → Bool} (h : Like S T) (ms : List Iq) : Like (takeS S ms 0) (takeS T ms 0) := fun k hk => by
  obtain ⟨h1, h2⟩ := h k hk
  unfold takeS; simp [h1, h2]
theorem Like.take1 {S T : Nat → Nat → Bool} (h : Like S T) (ms : List Iq) : Like (takeS S ms 1) T := fun k hk => by
  obtain ⟨h1, h2⟩ := h k hk
  unfold takeS; simp [h1, h2]
theorem Like.raise0 {S T : Nat → Nat → Bool} (h : Like S T) {d v : Int} : Like (raiseS 2 0 d v S) (raiseS 2 0 d v T) := fun k hk => by
  obtain ⟨h1, h2⟩ := h k hk
  unfold raiseS
  split <;> simp [h1, h2]
theorem Like.raise1 {S T : Nat → Nat → Bool} (h : Like S T) {d v : Int} : Like (raiseS 2 1 d v S) T := fun k hk => by
  obtain ⟨h1, h2⟩ := h k hk
  unfold raiseS
  split <;> simp [h1, h2]
theorem Like.raiseB {S T : Nat → Nat → Bool} (h : Like S T) {d v : Int} : raiseB 2 0 d v S = Go.Proofs.Ytpnhdiajiieonaa.raiseB 2 0 d v T := by
  unfold Go.Proofs.Ytpnhdiajiieonaa.raiseB
  split
  · rename_i hr
    unfold raiseP at hr
    have := (h (keyOf d v) (by unfold keyOf; omega)).1
    simp [this]
  · rfl
theorem psTake' {w0 W : World} {p n i mb : Nat} {S : Nat → Nat → Bool} {F : Nat → Prop} {mv : Value} {ms : List Iq} (h : PS w0 W p n S F) (hn : n ≤ 4) (hi : i < n) (tick : Int) (hm : OwnC iqc 3 92 W mb mv ms) (hml : ms.length ≤ 9223372036854775807) :
    Calls Try.prog 51 #[.pointer (some ⟨p, 0, none⟩), .int .i64 i, .int .i64 tick, mv] W fun e w' =>
      ∃ v, e = .returned v ∧ ∃ F', PS w0 w' p n (takeS S ms i) F' ∧ IsV w' F' v (takeL S ms i tick) ∧ FootOf W F F' ∧ Chg F W w' ∧ (∀ g, v.ownBlock = some g → W.heap.size ≤ g) := by
  refine (pTake_in p n i mb tick mv ms S F W h.at_ hn hi hm hml).mono ?_
  rintro e w' ⟨v, rfl, ho, F', h1, h2, h3, h4⟩
  exact ⟨v, rfl, F', h.step h1 h2 h4, ⟨RdI.of ho, fun g hg => ⟨h3 g hg, (own_lt ho hg).2⟩⟩, h2, h4, fun g hg => (own_lt ho hg).1⟩
theorem takeL_len (S : Nat → Nat → Bool) (ms : List Iq) (i : Nat) (t : Int) : (takeL S ms i t).length ≤ 1000000 := by
  unfold takeL takeK
  rw [List.length_map]
  exact Nat.le_trans (List.length_filter_le _ _) (by rw [List.length_range]; omega)
attribute [local go_sem] i64_and1 i64_and7 i64_and31
set_option maxRecDepth 100000 in
set_option maxHeartbeats 8000000 in
theorem pendApart_main (A : Option Addr) (ca : Nat) (xs : List Int) (w0 : World) (hx : xs.length ≤ 9223372036854775807) (rx : RowC w0 A (xs.flatMap icell)) :
    Calls Try.prog 13 #[.slice A xs.length ca] w0 fun e w' => e = .returned (.bool true) ∧ Chg (fun _ => False) w0 w' := by
  go_enter Try.func13, Try.ntmps13
  go_wp2_with fail
  refine (awake12 _).mono ?_
  rintro e w ⟨rfl, hC0⟩
  go_wp2_with fail
  refine (psNew 2 w0 w (by omega) (by omega) hC0).mono ?_
  rintro e w1 ⟨rfl, P, hs1, _⟩
  go_wp2_with fail
  refine (psNew 2 w0 w1 (by omega) (by omega) P.chg).mono ?_
  rintro e w2 ⟨rfl, Q, hs2, k2⟩
  have H : PS2 w0 w2 (w.heap.size + 1) (w1.heap.size + 1) 2 (fun _ _ => false) (fun _ _ => false) (fun k => k = w.heap.size) (fun k => k = w1.heap.size) :=
    ⟨P.keepN k2, Q, fun k e1 e2 => by omega, fun e => by omega, fun e => by omega⟩
  have L0 : Like (fun _ _ => false) (fun _ _ => false) := fun k _ => ⟨rfl, rfl⟩
  clear P Q k2 hC0 hs2
  rw [hs1] at H ⊢
  clear hs1
  generalize hp : w.heap.size + 1 = p at *
  generalize hq : w.heap.size + 2 + 1 = q at *
  have hpq : p ≠ q := by omega
  generalize (fun k => k = w.heap.size) = F at *
  generalize (fun k => k = w.heap.size + 2) = G at *
  generalize hS : (fun (_ _ : Nat) => false) = S at *
  obtain ⟨T, hT⟩ : ∃ T, T = S := ⟨_, rfl⟩
  clear hp hq hS hpq
  go_wp2_with fail
  refine (num16 0 w2).mono ?_
  rintro e w3 ⟨rfl, rfl⟩
  go_wp2_with fail
  refine (num16 0 w2).mono ?_
  rintro e w3 ⟨rfl, rfl⟩
  go_wp2_with fail
  go_loopw [7] (fun s wr => ∃ (j : Nat) (S T : Nat → Nat → Bool) (F G : Nat → Prop), j ≤ xs.length ∧ s = .int .i64 j ∧ PS2 w0 wr p q 2 S T F G ∧ Like S T) (fun s _ => xs.length - (intOf s).toNat)
  case atStart => exact ⟨0, S, S, F, G, by omega, rfl, H, L0⟩
  case round =>
    clear H L0 hT
    clear T
    obtain ⟨j, S, T, F, G, hj, rfl, H, hL⟩ := hrel
    have j0 : (0 : Int) ≤ j := by omega
    by_cases hlt : j < xs.length
    · have j1 : (j : Int) < xs.length := by omega
      by_cases h60 : j < 60
      · have j2 : (j : Int) < 60 := by omega
        obtain ⟨b, o, rfl, c0w⟩ := intAt rx j hlt
        have c0 := H.a.chg.cell c0w id
        have HH := Lib.hid H; clear H
        have HL := Lib.hid hL; clear hL
        generalize xs[j] = x at *
        go_wp2_with fail
        go_quiet (fail)
        rename_i nq
        go_wp2_with fail
        · have H1 := HH.out.keepN (((Chg.refl _ _).drewN nq).alloc (.cells #[.int .i64 0, .int .i64 1, .int .i64 2] 92))
          have hm : OwnC iqc 3 92 ((wr.drewN nq).alloc (.cells #[.int .i64 0, .int .i64 1, .int .i64 2] 92)) 0 (.slice (some ⟨wr.heap.size, 0, none⟩) 1 1) [⟨0, 1, 2⟩] := lit_own (L := [⟨0, 1, 2⟩]) (blk_new (wr.drewN nq) (.cells #[.int .i64 0, .int .i64 1, .int .i64 2] 92)) (by decide)
          clear HH c0 c0w
          rcases (by omega : x % 2 = 0 ∨ x % 2 = 1) with hp0 | hp0 <;> rw [hp0] <;> clear hp0
          · refine (psTake' (i := 0) H1.a (by omega) (by omega) _ hm (by decide)).mono ?_
            rintro e v1 ⟨va, rfl, F1, P1, V1, f1, k1, g1⟩
            have H2 := H1.step P1 f1 k1
            have hG := H1.b.at_.lt.2
            clear H1 P1 hm
            go_wp2_with fail
            have H3 := H2.keepN ((Chg.refl _ _).alloc (.cells #[.int .i64 0, .int .i64 1, .int .i64 2] 92))
            have V1a := V1.keepN ((Chg.refl _ _).alloc (.cells #[.int .i64 0, .int .i64 1, .int .i64 2] 92))
            have hm : OwnC iqc 3 92 (v1.alloc (.cells #[.int .i64 0, .int .i64 1, .int .i64 2] 92)) 0 (.slice (some ⟨v1.heap.size, 0, none⟩) 1 1) [⟨0, 1, 2⟩] := lit_own (L := [⟨0, 1, 2⟩]) (blk_new v1 (.cells #[.int .i64 0, .int .i64 1, .int .i64 2] 92)) (by decide)
            clear H2 V1
            refine (psTake' (i := 0) H3.b (by omega) (by omega) _ hm (by decide)).mono ?_
            rintro e v2 ⟨vb, rfl, G1, Q1, V2, f2, k2, g2⟩
            have H4 := (H3.swap.step Q1 f2 k2).swap
            have r1 := V1a.rd.keep k2 (fun g hg hin => by have := g1 g hg; have := hG g hin; simp at *; omega)
            have r2 := V2.rd
            rw [← takeL_cong (fun k hk => (HL.out k hk).1)] at r2
            clear V1a V2 H3 Q1 hG hm
            go_wp2_with fail
            refine (sameYes va vb _ v2 r1 r2 (Nat.le_trans (takeL_len _ _ _ _) (by decide))).mono ?_
            rintro e v3 ⟨rfl, k3⟩
            have H5 := H4.keepN k3
            clear H4 r1 r2
            go_wp2_with fail
            go_roundw
            case rel => exact ⟨j + 1, _, _, _, _, by omega, by go_num, H5, HL.out.take0 _⟩
            case measure => simp [intOf]; omega
          · refine (psTake' (i := 1) H1.a (by omega) (by omega) _ hm (by decide)).mono ?_
            rintro e v1 ⟨va, rfl, F1, P1, V1, f1, k1, g1⟩
            have H2 := H1.step P1 f1 k1
            clear H1 P1 hm V1
            go_wp2_with fail
            go_roundw
            case rel => exact ⟨j + 1, _, _, _, _, by omega, by go_num, H2, HL.out.take1 _⟩
            case measure => simp [intOf]; omega
        · have H1 := HH.out.keepN ((Chg.refl _ _).drewN nq)
          clear HH c0 c0w
          rcases (by omega : x % 2 = 0 ∨ x % 2 = 1) with hp0 | hp0 <;> rw [hp0] <;> clear hp0
          · refine (psRaise H1.a (by omega) 0 _ _).mono ?_
            rintro e v1 ⟨rfl, F1, P1, f1, k1⟩
            have H2 := H1.step P1 f1 k1
            clear H1 P1
            go_wp2_with fail
            refine (psRaise H2.b (by omega) 0 _ _).mono ?_
            rintro e v2 ⟨rfl, G1, Q1, f2, k2⟩
            have H3 := (H2.swap.step Q1 f2 k2).swap
            have H4 := Lib.hid H3
            rw [HL.out.raiseB]
            clear H2 Q1 H3
            generalize raiseB 2 0 _ _ T = bb
            generalize raiseC 2 0 _ _ = cc
            go_wp2_with fail
            refine (num16 _ v2).mono ?_
            rintro e v3 ⟨rfl, rfl⟩
            go_wp2_with fail
            refine (num16 _ v2).mono ?_
            rintro e v3 ⟨rfl, rfl⟩
            go_wp2_with fail
            go_roundw
            case rel => exact ⟨j + 1, _, _, _, _, by omega, by go_num, H4.out, HL.out.raise0⟩
            case measure => simp [intOf]; omega
          · refine (psRaise H1.a (by omega) 1 _ _).mono ?_
            rintro e v1 ⟨rfl, F1, P1, f1, k1⟩
            have H2 := H1.step P1 f1 k1
            clear H1 P1
            go_wp2_with fail
            go_roundw
            case rel => exact ⟨j + 1, _, _, _, _, by omega, by go_num, H2, HL.out.raise1⟩
            case measure => simp [intOf]; omega
      · have j2 : (60 : Int) ≤ j := by omega
        have c0w := j0
        have HH := Lib.hid H; clear H
        have HL := Lib.hid hL; clear hL
        have H1 := HH.out
        clear HH c0w
        go_wp2_with fail
        refine (psTake' (i := 0) (mb := 0) H1.a (by omega) (by omega) 99 (OwnC.nil _ _) (by decide)).mono ?_
        rintro e v1 ⟨va, rfl, F1, P1, V1, f1, k1, g1⟩
        have H2 := H1.step P1 f1 k1
        have hG := H1.b.at_.lt.2
        go_wp2_with fail
        refine (psTake' (i := 0) (mb := 0) H2.b (by omega) (by omega) 99 (OwnC.nil _ _) (by decide)).mono ?_
        rintro e v2 ⟨vb, rfl, G1, Q1, V2, f2, k2, g2⟩
        have H3 := (H2.swap.step Q1 f2 k2).swap
        have r1 := V1.rd.keep k2 (fun g hg hin => by have := g1 g hg; have := hG g hin; omega)
        have r2 := V2.rd
        rw [← takeL_cong (fun k hk => (HL.out k hk).1)] at r2
        clear V1 V2 H1 H2 P1 Q1 hG
        go_wp2_with fail
        refine (sameYes va vb _ v2 r1 r2 (Nat.le_trans (takeL_len _ _ _ _) (by decide))).mono ?_
        rintro e v3 ⟨rfl, k3⟩
        have H4 := H3.keepN k3
        have hL2 := HL.out.take0 []
        clear H3 r1 r2
        go_wp2_with fail
        refine (psTake' (i := 1) (mb := 0) H4.b (by omega) (by omega) 99 (OwnC.nil _ _) (by decide)).mono ?_
        rintro e v4 ⟨vc, rfl, G2, Q2, V3, _⟩
        rw [takeL_nil (fun k hk => (hL2 k hk).2)] at V3
        obtain ⟨⟨A', c', rfl, _⟩, _⟩ := V3
        have hC := Q2.chg
        clear H4 Q2
        go_wp2_with fail
        go_ret
        exact ⟨rfl, hC⟩
    · obtain rfl : j = xs.length := by omega
      · have c0w := j0
        have HH := Lib.hid H; clear H
        have HL := Lib.hid hL; clear hL
        clear hlt hj
        have H1 := HH.out
        clear HH c0w
        go_wp2_with fail
        refine (psTake' (i := 0) (mb := 0) H1.a (by omega) (by omega) 99 (OwnC.nil _ _) (by decide)).mono ?_
        rintro e v1 ⟨va, rfl, F1, P1, V1, f1, k1, g1⟩
        have H2 := H1.step P1 f1 k1
        have hG := H1.b.at_.lt.2
        go_wp2_with fail
        refine (psTake' (i := 0) (mb := 0) H2.b (by omega) (by omega) 99 (OwnC.nil _ _) (by decide)).mono ?_
        rintro e v2 ⟨vb, rfl, G1, Q1, V2, f2, k2, g2⟩
        have H3 := (H2.swap.step Q1 f2 k2).swap
        have r1 := V1.rd.keep k2 (fun g hg hin => by have := g1 g hg; have := hG g hin; omega)
        have r2 := V2.rd
        rw [← takeL_cong (fun k hk => (HL.out k hk).1)] at r2
        clear V1 V2 H1 H2 P1 Q1 hG
        go_wp2_with fail
        refine (sameYes va vb _ v2 r1 r2 (Nat.le_trans (takeL_len _ _ _ _) (by decide))).mono ?_
        rintro e v3 ⟨rfl, k3⟩
        have H4 := H3.keepN k3
        have hL2 := HL.out.take0 []
        clear H3 r1 r2
        go_wp2_with fail
        refine (psTake' (i := 1) (mb := 0) H4.b (by omega) (by omega) 99 (OwnC.nil _ _) (by decide)).mono ?_
        rintro e v4 ⟨vc, rfl, G2, Q2, V3, _⟩
        rw [takeL_nil (fun k hk => (hL2 k hk).2)] at V3
        obtain ⟨⟨A', c', rfl, _⟩, _⟩ := V3
        have hC := Q2.chg
        clear H4 Q2
        go_wp2_with fail
        go_ret
        exact ⟨rfl, hC⟩
theorem pendingApart_walk (w : World) (A : Option Addr) (ca : Nat) (xs : List Int) (hmx : xs.length ≤ maxLen) (rx : RowC w A (xs.flatMap icell)) (_hw : ∀ x ∈ xs, True) :
    Calls Try.prog 13 #[.slice A xs.length ca] w fun e w' => e = .returned (.bool true) ∧ Below w.heap.size w w' :=
  (pendApart_main A ca xs w (by unfold maxLen at hmx; omega) rx).mono fun e w' ⟨h1, h2⟩ => ⟨h1, h2.below (Nat.le_refl _) (fun _ h => h.elim)⟩
end Go.Proofs.Ytpnhdiajiieonaa
