/- The law PendingOnce. -/
import Derived.Test.YtpnhdiajiieonaaPendApart
set_option linter.unusedSimpArgs false
set_option linter.unusedVariables false
namespace Go.Proofs.Ytpnhdiajiieonaa
open Go.RowKit Go.ChangeShapes Go.WideShapes Go.Deep
attribute [local go_sem] i64_and1 i64_and7 i64_and31
/-- A block of bools is S. -/
def UpAt (t : TypeId) (n : Nat) (w : World) (u : Nat) (S : Nat → Nat → Bool) : Prop := ∃ cs : Array Value, w.heap[u]? = some (.cells cs t (0, 0)) ∧ cs.size = n * 32 ∧ ∀ a k, a < n → k < 32 → cs[a * 32 + k]? = some (.bool (S a k))
theorem UpAt.keep {t : TypeId} {n : Nat} {X : Nat → Prop} {w w' : World} {u : Nat} {S : Nat → Nat → Bool} (h : UpAt t n w u S) (hC : Chg X w w') (hu : ¬ X u) : UpAt t n w' u S := by
  obtain ⟨cs, h1, h2⟩ := h; exact ⟨cs, hC.at h1 hu, h2⟩
theorem UpAt.lt {t : TypeId} {n : Nat} {w : World} {u : Nat} {S : Nat → Nat → Bool} (h : UpAt t n w u S) : u < w.heap.size := by obtain ⟨cs, h1, _⟩ := h; exact lt_of_heap h1
theorem UpAt.cell {t : TypeId} {n : Nat} {w : World} {u : Nat} {S : Nat → Nat → Bool} (h : UpAt t n w u S) {a k : Nat} (ha : a < n) (hk : k < 32) : w.cell? ⟨u, a * 32 + k, none⟩ = some (.bool (S a k)) := by
  obtain ⟨cs, h1, _, h2⟩ := h; exact (blk_cell h1 _).trans (h2 a k ha hk)
theorem UpAt.free {t : TypeId} {n : Nat} {w : World} {u : Nat} {S : Nat → Nat → Bool} (h : UpAt t n w u S) (i : Nat) : w.frozen? ⟨u, i, none⟩ = false := by
  obtain ⟨cs, h1, _⟩ := h; exact blk_free h1 i
theorem UpAt.set {t : TypeId} {n : Nat} {w : World} {u : Nat} {S S' : Nat → Nat → Bool} (h : UpAt t n w u S) {a k : Nat} (ha : a < n) (hk : k < 32) (hS : ∀ b c, b < n → c < 32 → S' b c = (S b c || (decide (b = a) && decide (c = k)))) : UpAt t n (w.setCell ⟨u, a * 32 + k, none⟩ (.bool true)) u S' := by
  obtain ⟨cs, h1, h2, h3⟩ := h
  refine ⟨_, blk_set h1 _ _, by simpa using h2, fun b c hb hc => ?_⟩
  by_cases e : a * 32 + k = b * 32 + c
  · have e1 : b = a := by omega
    have e2 : c = k := by omega
    subst e1 e2
    rw [Array.getElem?_setIfInBounds_self_of_lt (by omega), hS b c hb hc]; simp
  · rw [Array.getElem?_setIfInBounds_ne e, h3 b c hb hc, hS b c hb hc]
    have : (decide (b = a) && decide (c = k)) = false := by
      rw [Bool.eq_false_iff]; intro h; simp at h; omega
    rw [this, Bool.or_false]
theorem PS.setU {w0 W : World} {p n m u i : Nat} {S T : Nat → Nat → Bool} {F : Nat → Prop} {t : TypeId} (h : PS w0 W p n S F) (hU : UpAt t m W u T) (ht : t ≠ 151) (hF : ¬ F u) (hu : w0.heap.size ≤ u) (x : Value) : PS w0 (W.setCell ⟨u, i, none⟩ x) p n S F := by
  have hC : Chg (fun k => k = u) W (W.setCell ⟨u, i, none⟩ x) := (Chg.refl (fun k => k = u) W).setCell (p := ⟨u, i, none⟩) (fun _ => rfl) x
  refine ⟨h.at_.keep hC (fun e => ?_) (fun k hk e => hF (by rw [← e]; exact hk)), h.ge, h.chg.trans' hC (fun k hk e => by omega)⟩
  obtain ⟨R, vs, f, hV, _, _⟩ := h.at_
  obtain ⟨cs, hb, _⟩ := hU
  have := hV.hp
  rw [e, hb] at this
  injection this with this; injection this with _ h2; exact ht h2
theorem takeK_succ (S : Nat → Nat → Bool) (ms : List Iq) (part m : Nat) : takeK S ms part (m + 1) = takeK S ms part m ++ (if (S part m && !msk ms m) = true then [m] else []) := by
  unfold takeK
  rw [List.range_succ, List.filter_append]
  congr 1
  cases hh : (S part m && !msk ms m) <;> simp [hh]
theorem takeK_pre (S : Nat → Nat → Bool) (ms : List Iq) (part m : Nat) : ∀ d, ∃ r, takeK S ms part (m + d) = takeK S ms part m ++ r
  | 0 => ⟨[], by simp⟩
  | d + 1 => by
    obtain ⟨r, h⟩ := takeK_pre S ms part m d
    exact ⟨_, by rw [← Nat.add_assoc, takeK_succ, h, List.append_assoc]⟩
theorem takeL_at {S : Nat → Nat → Bool} {ms : List Iq} {part k : Nat} (tick : Int) (hk : k < 32) (hS : (S part k && !msk ms k) = true) : ∃ h : (takeK S ms part k).length < (takeL S ms part tick).length, (takeL S ms part tick)[(takeK S ms part k).length] = toIq tick k := by
  obtain ⟨r, h⟩ := takeK_pre S ms part (k + 1) (32 - (k + 1))
  rw [show k + 1 + (32 - (k + 1)) = 32 from by omega] at h
  rw [takeK_succ S ms part k, if_pos hS] at h
  have hl : takeL S ms part tick = (takeK S ms part k).map (toIq tick) ++ (toIq tick k :: r.map (toIq tick)) := by
    unfold takeL; rw [h]; simp
  have h1 : (takeK S ms part k).length < (takeL S ms part tick).length := by rw [hl]; simp
  refine ⟨h1, ?_⟩
  have h2 : (takeL S ms part tick)[(takeK S ms part k).length]? = some (toIq tick k) := by
    rw [hl, List.getElem?_append_right (by simp)]; simp
  rw [List.getElem?_eq_getElem h1] at h2
  injection h2
theorem msk_nil (k : Nat) : msk [] k = false := by unfold msk; simp
theorem takeK_le (S : Nat → Nat → Bool) (ms : List Iq) (part k : Nat) : (takeK S ms part k).length ≤ k := by
  unfold takeK
  exact Nat.le_trans (List.length_filter_le _ _) (by rw [List.length_range]; exact Nat.le_refl _)
set_option maxRecDepth 100000 in
set_option maxHeartbeats 8000000 in
theorem pendOnce_main (A : Option Addr) (ca : Nat) (xs : List Int) (tick : Int) (w0 : World) (hx : xs.length ≤ 9223372036854775807) (rx : RowC w0 A (xs.flatMap icell)) :
    Calls Try.prog 10 #[.slice A xs.length ca, .int .i64 tick] w0 fun e w' => e = .returned (.bool true) ∧ Chg (fun _ => False) w0 w' := by
  go_enter Try.func10, Try.ntmps10
  go_wp2_with fail
  refine (awake12 _).mono ?_
  rintro e w ⟨rfl, hC0⟩
  go_wp2_with fail
  refine (psNew 2 w0 w (by omega) (by omega) hC0).mono ?_
  rintro e w1 ⟨rfl, P, hs1, _⟩
  have hF0 : w1.heap.size ≠ w.heap.size := by omega
  clear hs1
  generalize w.heap.size + 1 = p at *
  generalize hF : (fun k => k = w.heap.size) = F at *
  have hF1 : ¬ F w1.heap.size := by rw [← hF]; exact hF0
  clear hF hF0 hC0
  go_wp2_with fail
  refine (num16 0 w1).mono ?_
  rintro e w3 ⟨rfl, rfl⟩
  go_wp2_with fail
  have hU0 : UpAt 90 2 (w1.alloc (.cells (Array.replicate 64 (.bool false)) 90)) w1.heap.size (fun _ _ => false) :=
    ⟨_, blk_new w1 _, by simp, fun a k ha hk => by rw [Array.getElem?_replicate, if_pos (by omega)]⟩
  have hP0 := P.keepN ((Chg.refl _ _).alloc (.cells (Array.replicate 64 (.bool false)) 90))
  have hu0 : w0.heap.size ≤ w1.heap.size := P.chg.size
  generalize hu : w1.heap.size = u at *
  generalize hS : (fun (_ _ : Nat) => false) = S at *
  have HP0 := Lib.hid hP0; clear hP0
  have HU0 := Lib.hid hU0; clear hU0
  clear P hS
  go_loopw [8] (fun s wr => ∃ (j : Nat) (S : Nat → Nat → Bool) (F : Nat → Prop), j ≤ xs.length ∧ s = .int .i64 j ∧ PS w0 wr p 2 S F ∧ UpAt 90 2 wr u S ∧ ¬ F u) (fun s _ => xs.length - (intOf s).toNat)
  case atStart => exact ⟨0, S, F, by omega, rfl, HP0.out, HU0.out, hF1⟩
  case round =>
    clear hF1 HP0 HU0 hu
    clear S F
    obtain ⟨j, S, F, hj, rfl, hP, hU, hFu⟩ := hrel
    have j0 : (0 : Int) ≤ j := by omega
    by_cases hlt : j < xs.length
    · have j1 : (j : Int) < xs.length := by omega
      by_cases h60 : j < 60
      · have j2 : (j : Int) < 60 := by omega
        obtain ⟨b, o, rfl, c0w⟩ := intAt rx j hlt
        have c0 := hP.chg.cell c0w id
        have HP := Lib.hid hP; clear hP
        have HU := Lib.hid hU; clear hU
        generalize xs[j] = x at *
        obtain ⟨a, ha, ha2⟩ : ∃ a : Nat, x % 2 = a ∧ a < 2 := ⟨(x % 2).toNat, by omega, by omega⟩
        obtain ⟨k, hk, hk2⟩ : ∃ k : Nat, x / 2 % 32 = k ∧ k < 32 := ⟨(x / 2 % 32).toNat, by omega, by omega⟩
        have hk8 : x / 2 % 8 = (k : Int) % 8 := by omega
        have E1 := Lib.hid ha; clear ha
        have E2 := Lib.hid hk; clear hk
        have E3 := Lib.hid hk8; clear hk8
        go_wp2_with fail
        go_quiet (fail)
        rename_i nq
        go_wp2_with fail
        rw [E1.out, E2.out, E3.out]
        have hP1 := HP.out.keepN ((Chg.refl _ _).drewN nq)
        have hU1 := HU.out.keep (X := fun _ => False) ((Chg.refl _ _).drewN nq) id
        clear c0 c0w HP HU E1 E2 E3
        refine (pRaise_in p 2 a k S F _ hP1.at_ (by omega) ha2 hk2).mono ?_
        rintro e v1 ⟨rfl, F1, h1, f1, k1⟩
        have hP2 := hP1.step h1 f1 k1
        have hU2 := hU1.keep k1 hFu
        have hFu2 : ¬ F1 u := fun hin => by
          rcases f1 u hin with h | h
          · exact hFu h
          · have := hU1.lt; omega
        have cu := hU2.cell ha2 hk2
        have fu := hU2.free (a * 32 + k)
        have HP2 := Lib.hid hP2; clear hP2 hP1 h1 f1 k1
        have HU2 := Lib.hid hU2; clear hU2 hU1
        have a0 : (0 : Int) ≤ a := by omega
        have a1 : (a : Int) < 2 := by omega
        have k0 : (0 : Int) ≤ k := by omega
        have k1 : (k : Int) < 32 := by omega
        go_wp2_with fail
        refine (num16 0 v1).mono ?_
        rintro e v2 ⟨rfl, rfl⟩
        have hcase : (!S a k) ≠ S a k := by cases S a k <;> decide
        go_wp2_with fail
        go_roundw
        case rel => exact ⟨j + 1, _, F1, by omega, by go_num, HP2.out.setU HU2.out (by decide) hFu2 hu0 _, HU2.out.set ha2 hk2 (fun _ _ _ _ => rfl), hFu2⟩
        case measure => simp [intOf]; omega
      · have j2 : (60 : Int) ≤ j := by omega
        have HP := Lib.hid hP; clear hP
        have HU := Lib.hid hU; clear hU
        have HUL := hlt
        clear hlt
        go_wp2_with fail
        go_loopw [13] (fun s w2 => ∃ (c : Nat) (S' : Nat → Nat → Bool) (F : Nat → Prop), c ≤ 2 ∧ s = .int .i64 c ∧ PS w0 w2 p 2 S' F ∧ (∀ a k, c ≤ a → k < 32 → S' a k = S a k) ∧ UpAt 90 2 w2 u S ∧ ¬ F u) (fun s _ => 2 - (intOf s).toNat)
        case atStart => exact ⟨0, S, F, by omega, rfl, HP.out, fun _ _ _ _ => rfl, HU.out, hFu⟩
        case round =>
          clear HP HU hFu HUL
          clear F
          obtain ⟨c, S', F, hc, rfl, hP, hSS, hU, hFu⟩ := hrel
          have c0 : (0 : Int) ≤ c := by omega
          by_cases hc2 : c < 2
          · have c1 : (c : Int) < 2 := by omega
            have HP := Lib.hid hP; clear hP
            have HU := Lib.hid hU; clear hU
            have HS := Lib.hid hSS; clear hSS
            go_wp2_with fail
            refine (psTake' (i := c) (mb := 0) HP.out (by omega) hc2 tick (OwnC.nil _ _) (by decide)).mono ?_
            rintro e v1 ⟨va, rfl, F1, P1, V1, f1, k1, g1⟩
            have hU1 := HU.out.keep k1 hFu
            have hFu1 : ¬ F1 u := fun hin => by
              rcases f1 u hin with h | h
              · exact hFu h
              · have := HU.out.lt; omega
            rw [takeL_cong (T := S) (fun k hk => HS.out c k (Nat.le_refl _) hk)] at V1
            have hnil := takeL_nil (T := takeS S' [] c) (i := c) (fun k hk => by unfold takeS; simp [msk_nil]) [] tick
            have hSS2 : ∀ a k, c + 1 ≤ a → k < 32 → takeS (takeS S' [] c) [] c a k = S a k := fun a k ha hk => by
              have hne : a ≠ c := by omega
              unfold takeS; simp [hne]; exact HS.out a k (by omega) hk
            have hlen : (takeK S [] c 32).length = (takeL S [] c tick).length := by unfold takeL; simp
            have HN := Lib.hid hnil; clear hnil
            have HS2 := Lib.hid hSS2; clear hSS2 HS
            have HP1 := Lib.hid P1; clear P1 HP k1 f1 HU
            obtain ⟨A', ca', rfl, hrd⟩ := V1.rd
            have HRD := Lib.hid hrd; clear hrd V1
            have HU1 := Lib.hid hU1; clear hU1
            have HLEN := Lib.hid hlen; clear hlen
            go_wp2_with fail
            go_loopw [16, 15] (fun s16 s15 w3 => ∃ k : Nat, k ≤ 32 ∧ s16 = .int .i64 k ∧ s15 = .int .i64 (takeK S [] c k).length ∧ w3 = v1) (fun s _ _ => 32 - (intOf s).toNat)
            case atStart => exact ⟨0, by omega, rfl, rfl, rfl⟩
            case round =>
              obtain ⟨k, hk, rfl, rfl, rfl⟩ := hrel
              by_cases hk2 : k < 32
              · have k0 : (0 : Int) ≤ k := by omega
                have k1 : (k : Int) < 32 := by omega
                have cu := HU1.out.cell hc2 hk2
                have hle := takeK_le S [] c k
                cases hS : S c k with
                | false =>
                  rw [hS] at cu
                  have hs2 : takeK S [] c (k + 1) = takeK S [] c k := by rw [takeK_succ, hS]; simp
                  have HK := Lib.hid hs2; clear hs2 hS
                  go_wp2_with fail
                  go_roundw
                  case rel => exact ⟨k + 1, by omega, by go_num, by rw [HK.out], trivial⟩
                  case measure => simp [intOf]; omega
                | true =>
                  rw [hS] at cu
                  obtain ⟨hb, hat⟩ := takeL_at (S := S) (ms := []) (part := c) tick hk2 (by rw [hS, msk_nil]; rfl)
                  obtain ⟨g, o, rfl, d0, d1, d2⟩ := HRD.out _ hb
                  rw [hat] at d0 d1 d2
                  have hs2 : (takeK S [] c (k + 1)).length = (takeK S [] c k).length + 1 := by rw [takeK_succ, hS, msk_nil]; simp
                  have HK := Lib.hid hs2; clear hs2 hS hat
                  dsimp only [toIq] at d0 d1 d2
                  generalize hm : (takeK S [] c k).length = m at *
                  have m0 : (0 : Int) ≤ m := by omega
                  have m1 : (m : Int) < ((takeL S [] c tick).length : Nat) := by omega
                  have m2 : (m : Int) ≤ 32 := by omega
                  generalize hq1 : (k : Int) / 8 = x at *
                  generalize hq2 : (k : Int) % 8 = y at *
                  clear hm
                  go_wp2_with fail
                  go_roundw
                  case rel => exact ⟨k + 1, by omega, by go_num, by rw [HK.out]; go_num, trivial⟩
                  case measure => simp [intOf]; omega
              · obtain rfl : k = 32 := by omega
                clear hk hk2
                rw [HLEN.out]
                go_wp2_with fail
                refine (psTake' (i := c) (mb := 0) HP1.out (by omega) hc2 tick (OwnC.nil _ _) (by decide)).mono ?_
                rintro e v2 ⟨vb, rfl, F2, P2, V2, f2, k2, g2⟩
                rw [HN.out] at V2
                obtain ⟨⟨A2, c2, rfl, _⟩, _⟩ := V2
                have U2 := HU1.out.keep k2 hFu1
                have hFu2 : ¬ F2 u := fun hin => by
                  rcases f2 u hin with h | h
                  · exact hFu1 h
                  · have := HU1.out.lt; omega
                have HP2 := Lib.hid P2; clear P2 k2 f2 g2
                have HU2 := Lib.hid U2; clear U2
                go_wp2_with fail
                go_roundw
                case rel => exact ⟨c + 1, _, F2, by omega, by go_num, HP2.out, HS2.out, HU2.out, hFu2⟩
                case measure => simp [intOf]; omega
          · obtain rfl : c = 2 := by omega
            have hC := hP.chg
            clear hP hU hSS hc hc2
            go_wp2_with fail
            go_ret
            exact ⟨rfl, hC⟩
    · obtain rfl : j = xs.length := by omega
      · have HP := Lib.hid hP; clear hP
        have HU := Lib.hid hU; clear hU
        have HUL := hlt
        clear hlt
        go_wp2_with fail
        go_loopw [13] (fun s w2 => ∃ (c : Nat) (S' : Nat → Nat → Bool) (F : Nat → Prop), c ≤ 2 ∧ s = .int .i64 c ∧ PS w0 w2 p 2 S' F ∧ (∀ a k, c ≤ a → k < 32 → S' a k = S a k) ∧ UpAt 90 2 w2 u S ∧ ¬ F u) (fun s _ => 2 - (intOf s).toNat)
        case atStart => exact ⟨0, S, F, by omega, rfl, HP.out, fun _ _ _ _ => rfl, HU.out, hFu⟩
        case round =>
          clear HP HU hFu HUL
          clear F
          obtain ⟨c, S', F, hc, rfl, hP, hSS, hU, hFu⟩ := hrel
          have c0 : (0 : Int) ≤ c := by omega
          by_cases hc2 : c < 2
          · have c1 : (c : Int) < 2 := by omega
            have HP := Lib.hid hP; clear hP
            have HU := Lib.hid hU; clear hU
            have HS := Lib.hid hSS; clear hSS
            go_wp2_with fail
            refine (psTake' (i := c) (mb := 0) HP.out (by omega) hc2 tick (OwnC.nil _ _) (by decide)).mono ?_
            rintro e v1 ⟨va, rfl, F1, P1, V1, f1, k1, g1⟩
            have hU1 := HU.out.keep k1 hFu
            have hFu1 : ¬ F1 u := fun hin => by
              rcases f1 u hin with h | h
              · exact hFu h
              · have := HU.out.lt; omega
            rw [takeL_cong (T := S) (fun k hk => HS.out c k (Nat.le_refl _) hk)] at V1
            have hnil := takeL_nil (T := takeS S' [] c) (i := c) (fun k hk => by unfold takeS; simp [msk_nil]) [] tick
            have hSS2 : ∀ a k, c + 1 ≤ a → k < 32 → takeS (takeS S' [] c) [] c a k = S a k := fun a k ha hk => by
              have hne : a ≠ c := by omega
              unfold takeS; simp [hne]; exact HS.out a k (by omega) hk
            have hlen : (takeK S [] c 32).length = (takeL S [] c tick).length := by unfold takeL; simp
            have HN := Lib.hid hnil; clear hnil
            have HS2 := Lib.hid hSS2; clear hSS2 HS
            have HP1 := Lib.hid P1; clear P1 HP k1 f1 HU
            obtain ⟨A', ca', rfl, hrd⟩ := V1.rd
            have HRD := Lib.hid hrd; clear hrd V1
            have HU1 := Lib.hid hU1; clear hU1
            have HLEN := Lib.hid hlen; clear hlen
            go_wp2_with fail
            go_loopw [16, 15] (fun s16 s15 w3 => ∃ k : Nat, k ≤ 32 ∧ s16 = .int .i64 k ∧ s15 = .int .i64 (takeK S [] c k).length ∧ w3 = v1) (fun s _ _ => 32 - (intOf s).toNat)
            case atStart => exact ⟨0, by omega, rfl, rfl, rfl⟩
            case round =>
              obtain ⟨k, hk, rfl, rfl, rfl⟩ := hrel
              by_cases hk2 : k < 32
              · have k0 : (0 : Int) ≤ k := by omega
                have k1 : (k : Int) < 32 := by omega
                have cu := HU1.out.cell hc2 hk2
                have hle := takeK_le S [] c k
                cases hS : S c k with
                | false =>
                  rw [hS] at cu
                  have hs2 : takeK S [] c (k + 1) = takeK S [] c k := by rw [takeK_succ, hS]; simp
                  have HK := Lib.hid hs2; clear hs2 hS
                  go_wp2_with fail
                  go_roundw
                  case rel => exact ⟨k + 1, by omega, by go_num, by rw [HK.out], trivial⟩
                  case measure => simp [intOf]; omega
                | true =>
                  rw [hS] at cu
                  obtain ⟨hb, hat⟩ := takeL_at (S := S) (ms := []) (part := c) tick hk2 (by rw [hS, msk_nil]; rfl)
                  obtain ⟨g, o, rfl, d0, d1, d2⟩ := HRD.out _ hb
                  rw [hat] at d0 d1 d2
                  have hs2 : (takeK S [] c (k + 1)).length = (takeK S [] c k).length + 1 := by rw [takeK_succ, hS, msk_nil]; simp
                  have HK := Lib.hid hs2; clear hs2 hS hat
                  dsimp only [toIq] at d0 d1 d2
                  generalize hm : (takeK S [] c k).length = m at *
                  have m0 : (0 : Int) ≤ m := by omega
                  have m1 : (m : Int) < ((takeL S [] c tick).length : Nat) := by omega
                  have m2 : (m : Int) ≤ 32 := by omega
                  generalize hq1 : (k : Int) / 8 = x at *
                  generalize hq2 : (k : Int) % 8 = y at *
                  clear hm
                  go_wp2_with fail
                  go_roundw
                  case rel => exact ⟨k + 1, by omega, by go_num, by rw [HK.out]; go_num, trivial⟩
                  case measure => simp [intOf]; omega
              · obtain rfl : k = 32 := by omega
                clear hk hk2
                rw [HLEN.out]
                go_wp2_with fail
                refine (psTake' (i := c) (mb := 0) HP1.out (by omega) hc2 tick (OwnC.nil _ _) (by decide)).mono ?_
                rintro e v2 ⟨vb, rfl, F2, P2, V2, f2, k2, g2⟩
                rw [HN.out] at V2
                obtain ⟨⟨A2, c2, rfl, _⟩, _⟩ := V2
                have U2 := HU1.out.keep k2 hFu1
                have hFu2 : ¬ F2 u := fun hin => by
                  rcases f2 u hin with h | h
                  · exact hFu1 h
                  · have := HU1.out.lt; omega
                have HP2 := Lib.hid P2; clear P2 k2 f2 g2
                have HU2 := Lib.hid U2; clear U2
                go_wp2_with fail
                go_roundw
                case rel => exact ⟨c + 1, _, F2, by omega, by go_num, HP2.out, HS2.out, HU2.out, hFu2⟩
                case measure => simp [intOf]; omega
          · obtain rfl : c = 2 := by omega
            have hC := hP.chg
            clear hP hU hSS hc hc2
            go_wp2_with fail
            go_ret
            exact ⟨rfl, hC⟩
theorem pendingOnce_walk (w : World) (A : Option Addr) (ca : Nat) (xs : List Int) (hmx : xs.length ≤ maxLen) (rx : RowC w A (xs.flatMap icell)) (_hw : ∀ x ∈ xs, True) (tick : Int) :
    Calls Try.prog 10 #[.slice A xs.length ca, .int .i64 tick] w fun e w' => e = .returned (.bool true) ∧ Below w.heap.size w w' :=
  (pendOnce_main A ca xs tick w (by unfold maxLen at hmx; omega) rx).mono fun e w' ⟨h1, h2⟩ => ⟨h1, h2.below (Nat.le_refl _) (fun _ h => h.elim)⟩
end Go.Proofs.Ytpnhdiajiieonaa
