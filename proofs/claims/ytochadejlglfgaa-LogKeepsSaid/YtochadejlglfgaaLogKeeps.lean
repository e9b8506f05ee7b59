/- The law LogKeeps. -/
import Derived.Test.YtochadejlglfgaaLog6
namespace Go.Proofs.Ytochadejlglfgaa
open Go.RowKit
attribute [local go_sem] i64_and3 i64_and63 i64_and1023 i64_and7

def kf (j : Nat) : Flt := ⟨j, (j : Int) % 4, 0, false, 0⟩
def ks (k j : Nat) : List Flt := (List.range (min j k)).map kf
def kc (k j : Nat) : Int := ((min (j - k) 65535 : Nat) : Int)
theorem k_of (most : Int) : ∃ k : Nat, wrap64 (1 + wrap64 ((IntKind.u64.wrap most).tmod 16)) = (k : Int) ∧ 1 ≤ k ∧ k ≤ 16 := by
  have h0 : 0 ≤ IntKind.u64.wrap most := wrap_u64_nonneg most
  have h1 : (IntKind.u64.wrap most).tmod 16 = IntKind.u64.wrap most % 16 := Int.tmod_eq_emod_of_nonneg h0
  generalize IntKind.u64.wrap most = z at *
  rw [h1]
  refine ⟨(1 + z % 16).toNat, ?_, by omega, by omega⟩
  unfold wrap64
  omega
theorem ks_len (k j : Nat) : (ks k j).length = min j k := by simp [ks]
theorem ks_add (k j : Nat) : addX (k : Int) (ks k j) (kf j) = ks k (j + 1) := by
  unfold addX
  rw [ks_len]
  by_cases h : j < k
  · rw [if_pos (by omega)]
    unfold ks
    rw [Nat.min_eq_left (by omega), Nat.min_eq_left (by omega), List.range_succ]
    simp
  · rw [if_neg (by omega)]
    unfold ks
    rw [Nat.min_eq_right (by omega), Nat.min_eq_right (by omega)]
theorem kc_add (k j : Nat) : addN (k : Int) (ks k j) (kc k j) = kc k (j + 1) := by
  unfold addN kc
  rw [ks_len]
  by_cases h : j < k
  · rw [if_pos (by omega)]; omega
  · rw [if_neg (by omega)]; omega
theorem kc_le (k j : Nat) : 0 ≤ kc k j ∧ kc k j ≤ 65535 := by unfold kc; omega

theorem ks_get (k j t : Nat) (h : t < (ks k j).length) : (ks k j)[t] = kf t := by simp [ks]
theorem row_addr {w : World} {A : Option Addr} {xs : List Flt} (h : RowC w A (xs.flatMap Flt.cells)) {t : Nat} (ht : t < xs.length) : ∃ b o, A = some ⟨b, o, none⟩ := by
  have h0 := flat_get Flt.cells 5 (fun _ => rfl) 0 (by omega) xs t
  rw [List.getElem?_eq_getElem (l := xs) ht, Option.bind_some] at h0
  obtain ⟨b, o, e, _⟩ := h _ _ h0
  exact ⟨b, o, e⟩

set_option maxRecDepth 100000 in
set_option maxHeartbeats 2000000 in
theorem keeps_a (most many : Int) (w : World) (hmany : (many % 1024 == 7) = false) :
    Calls Try.prog 4 #[.int .i64 most, .int .i64 many] w fun e w' => e = .returned (.bool true) ∧ Chg (fun _ => False) w w' := by
  obtain ⟨k, hk, hk1, hk2⟩ := k_of most
  have Hk := Lib.hid hk; clear hk
  go_enter Try.func4, Try.ntmps4
  go_wp2_with fail
  refine (awake17 _).mono ?_
  rintro e w0 ⟨rfl, hC⟩
  go_wp2_with fail
  rw [Hk.out]
  clear Hk
  refine (new14_ok k w0.heap.size w0 (by omega) (by omega)).mono ?_
  rintro e w1 ⟨rfl, hL, hw1⟩
  have hC1 : Chg (fun _ => False) w w1 := by rw [hw1]; exact hC.alloc _
  clear hw1
  have hB := hC.size
  clear hC
  generalize w0.heap.size = B at *
  go_wp2_with fail
  refine (num16 _ _).mono ?_
  rintro e w2 ⟨rfl, rfl⟩
  go_wp2_with fail
  obtain ⟨m, hm, hm2⟩ : ∃ m : Nat, many % 64 = (m : Int) ∧ m ≤ 63 := ⟨(many % 64).toNat, by omega, by omega⟩
  rw [hm]
  clear hm
  go_loopw [9] (fun i wr => ∃ j : Nat, j ≤ m ∧ i = .int .i64 j ∧ ∃ g, LogAt wr 96 B B g k (ks k j) (kc k j) ∧ Chg (fun _ => False) w wr) (fun i _ => m - (intOf i).toNat)
  case atStart => exact ⟨0, Nat.zero_le _, rfl, none, by simpa [ks, kc] using hL, hC1⟩
  case round =>
    obtain ⟨j, hj, rfl, g, hl, hC⟩ := hrel
    have hkc := kc_le k j
    by_cases hlt : j < m
    · have hBw := hl.lt.1
      go_wp2_with fail
      refine (add18 B B g k (kc k j) (ks k j) (kf j) wr hl (by omega) (by omega) hkc.1 hkc.2).mono ?_
      rintro e w2 ⟨rfl, g', hL2, hg', hC2⟩
      rw [ks_add, kc_add] at hL2
      have hC3 : Chg (fun _ => False) w w2 := hC.trans' hC2 (fun i hi h => by
        rcases h with h | h
        · omega
        · have := hl.lt.2 i h.symm; omega)
      clear hg'
      go_wp2
      go_roundw
      case rel => exact ⟨j + 1, by omega, by go_num, g', hL2, hC3⟩
      case measure => simp [intOf]; omega
    · obtain rfl : j = m := by omega
      clear hlt hj
      go_wp2_with fail
      refine (take20 B B g k _ _ wr hl).mono ?_
      rintro e w2 ⟨A, c, rfl, hA, hown, hL2, hC2⟩
      have hBw := hl.lt.1
      have hC3 : Chg (fun _ => False) w w2 := hC.trans' hC2 (fun j hj h => by omega)
      have hrow := RowC_own hown
      clear hA hL2 hC2 hown hl hC hC1 hL
      have hlen := ks_len k j
      rcases Nat.lt_trichotomy j k with hjk | hjk | hjk
      · have hjk1 : (j : Int) - k < 0 := by omega
        have hjk2 : (j : Int) < k := by omega
        · have hq : kc k j = 0 := by unfold kc; omega
          have hlen' : (ks k j).length = j := by rw [hlen]; omega
          rw [hq, hlen']
          have Hq := Lib.hid hq; clear hq
          have Hlen := Lib.hid hlen'; clear hlen' hlen
          go_wp2_with fail
          go_loop [12] (fun i => ∃ t : Nat, t ≤ j ∧ i = .int .i64 t) (fun i => j - (intOf i).toNat)
          case atStart => exact ⟨0, Nat.zero_le _, rfl⟩
          case round =>
            obtain ⟨t, ht, rfl⟩ := hrel
            by_cases hlt : t < j
            · obtain ⟨b, o, rfl⟩ := row_addr hrow (t := t) (by rw [Hlen.out]; omega)
              have hf := fltCell hrow t (by rw [Hlen.out]; omega)
              rw [ks_get] at hf
              obtain ⟨c0, c1, c2, c3, c4⟩ := hf
              unfold kf at c0 c1 c2 c3 c4
              dsimp only at c0 c1 c2 c3 c4
              go_wp2
              go_round
              case rel => exact ⟨t + 1, by omega, by go_num⟩
              case measure => simp [intOf]; omega
            · go_wp2_with fail
              refine (new14_no (1 - k) w2 (by omega)).mono ?_
              rintro e w3 ⟨rfl, rfl⟩
              go_wp2_with fail
              refine (new14_no (16 + k) w2 (by omega)).mono ?_
              rintro e w3 ⟨rfl, rfl⟩
              go_wp2_with fail
              refine (num16 _ _).mono ?_
              rintro e w3 ⟨rfl, rfl⟩
              go_wp2_with fail
              refine (num16 _ _).mono ?_
              rintro e w3 ⟨rfl, rfl⟩
              go_wp2
              go_ret
              exact ⟨rfl, hC3⟩
      · subst hjk
        · have hq : kc j j = 0 := by unfold kc; omega
          have hlen' : (ks j j).length = j := by rw [hlen]; omega
          rw [hq, hlen']
          have Hq := Lib.hid hq; clear hq
          have Hlen := Lib.hid hlen'; clear hlen' hlen
          go_wp2_with fail
          go_loop [12] (fun i => ∃ t : Nat, t ≤ j ∧ i = .int .i64 t) (fun i => j - (intOf i).toNat)
          case atStart => exact ⟨0, Nat.zero_le _, rfl⟩
          case round =>
            obtain ⟨t, ht, rfl⟩ := hrel
            by_cases hlt : t < j
            · obtain ⟨b, o, rfl⟩ := row_addr hrow (t := t) (by rw [Hlen.out]; omega)
              have hf := fltCell hrow t (by rw [Hlen.out]; omega)
              rw [ks_get] at hf
              obtain ⟨c0, c1, c2, c3, c4⟩ := hf
              unfold kf at c0 c1 c2 c3 c4
              dsimp only at c0 c1 c2 c3 c4
              go_wp2
              go_round
              case rel => exact ⟨t + 1, by omega, by go_num⟩
              case measure => simp [intOf]; omega
            · go_wp2_with fail
              refine (new14_no (1 - j) w2 (by omega)).mono ?_
              rintro e w3 ⟨rfl, rfl⟩
              go_wp2_with fail
              refine (new14_no (16 + j) w2 (by omega)).mono ?_
              rintro e w3 ⟨rfl, rfl⟩
              go_wp2_with fail
              refine (num16 _ _).mono ?_
              rintro e w3 ⟨rfl, rfl⟩
              go_wp2_with fail
              refine (num16 _ _).mono ?_
              rintro e w3 ⟨rfl, rfl⟩
              go_wp2
              go_ret
              exact ⟨rfl, hC3⟩
      · have hjk1 : (k : Int) < j := by omega
        have hjk2 : 0 < (j : Int) - k := by omega
        by_cases hjm : j - k ≤ 65535
        · have hjm1 : (j : Int) - k ≤ 65535 := by omega
          · have hq : kc k j = (j : Int) - k := by unfold kc; omega
            have hlen' : (ks k j).length = k := by rw [hlen]; omega
            rw [hq, hlen']
            have Hq := Lib.hid hq; clear hq
            have Hlen := Lib.hid hlen'; clear hlen' hlen
            go_wp2_with fail
            go_loop [12] (fun i => ∃ t : Nat, t ≤ k ∧ i = .int .i64 t) (fun i => k - (intOf i).toNat)
            case atStart => exact ⟨0, Nat.zero_le _, rfl⟩
            case round =>
              obtain ⟨t, ht, rfl⟩ := hrel
              by_cases hlt : t < k
              · obtain ⟨b, o, rfl⟩ := row_addr hrow (t := t) (by rw [Hlen.out]; omega)
                have hf := fltCell hrow t (by rw [Hlen.out]; omega)
                rw [ks_get] at hf
                obtain ⟨c0, c1, c2, c3, c4⟩ := hf
                unfold kf at c0 c1 c2 c3 c4
                dsimp only at c0 c1 c2 c3 c4
                go_wp2
                go_round
                case rel => exact ⟨t + 1, by omega, by go_num⟩
                case measure => simp [intOf]; omega
              · go_wp2_with fail
                refine (new14_no (1 - k) w2 (by omega)).mono ?_
                rintro e w3 ⟨rfl, rfl⟩
                go_wp2_with fail
                refine (new14_no (16 + k) w2 (by omega)).mono ?_
                rintro e w3 ⟨rfl, rfl⟩
                go_wp2_with fail
                refine (num16 _ _).mono ?_
                rintro e w3 ⟨rfl, rfl⟩
                go_wp2_with fail
                refine (num16 _ _).mono ?_
                rintro e w3 ⟨rfl, rfl⟩
                go_wp2
                go_ret
                exact ⟨rfl, hC3⟩
        · have hjm1 : 65535 < (j : Int) - k := by omega
          omega
set_option maxRecDepth 100000 in
set_option maxHeartbeats 2000000 in
theorem keeps_b (most many : Int) (w : World) (hmany : (many % 1024 == 7) = true) :
    Calls Try.prog 4 #[.int .i64 most, .int .i64 many] w fun e w' => e = .returned (.bool true) ∧ Chg (fun _ => False) w w' := by
  obtain ⟨k, hk, hk1, hk2⟩ := k_of most
  have Hk := Lib.hid hk; clear hk
  go_enter Try.func4, Try.ntmps4
  go_wp2_with fail
  refine (awake17 _).mono ?_
  rintro e w0 ⟨rfl, hC⟩
  go_wp2_with fail
  rw [Hk.out]
  clear Hk
  refine (new14_ok k w0.heap.size w0 (by omega) (by omega)).mono ?_
  rintro e w1 ⟨rfl, hL, hw1⟩
  have hC1 : Chg (fun _ => False) w w1 := by rw [hw1]; exact hC.alloc _
  clear hw1
  have hB := hC.size
  clear hC
  generalize w0.heap.size = B at *
  go_wp2_with fail
  refine (num16 _ _).mono ?_
  rintro e w2 ⟨rfl, rfl⟩
  go_wp2_with fail
  obtain ⟨m, hm, hm2⟩ : ∃ m : Nat, 65535 + (k : Int) + many / 1024 % 8 = (m : Int) ∧ m ≤ 65558 := ⟨(65535 + (k : Int) + many / 1024 % 8).toNat, by omega, by omega⟩

  rw [hm]
  clear hm
  go_loopw [9] (fun i wr => ∃ j : Nat, j ≤ m ∧ i = .int .i64 j ∧ ∃ g, LogAt wr 96 B B g k (ks k j) (kc k j) ∧ Chg (fun _ => False) w wr) (fun i _ => m - (intOf i).toNat)
  case atStart => exact ⟨0, Nat.zero_le _, rfl, none, by simpa [ks, kc] using hL, hC1⟩
  case round =>
    obtain ⟨j, hj, rfl, g, hl, hC⟩ := hrel
    have hkc := kc_le k j
    by_cases hlt : j < m
    · have hBw := hl.lt.1
      go_wp2_with fail
      refine (add18 B B g k (kc k j) (ks k j) (kf j) wr hl (by omega) (by omega) hkc.1 hkc.2).mono ?_
      rintro e w2 ⟨rfl, g', hL2, hg', hC2⟩
      rw [ks_add, kc_add] at hL2
      have hC3 : Chg (fun _ => False) w w2 := hC.trans' hC2 (fun i hi h => by
        rcases h with h | h
        · omega
        · have := hl.lt.2 i h.symm; omega)
      clear hg'
      go_wp2
      go_roundw
      case rel => exact ⟨j + 1, by omega, by go_num, g', hL2, hC3⟩
      case measure => simp [intOf]; omega
    · obtain rfl : j = m := by omega
      clear hlt hj
      go_wp2_with fail
      refine (take20 B B g k _ _ wr hl).mono ?_
      rintro e w2 ⟨A, c, rfl, hA, hown, hL2, hC2⟩
      have hBw := hl.lt.1
      have hC3 : Chg (fun _ => False) w w2 := hC.trans' hC2 (fun j hj h => by omega)
      have hrow := RowC_own hown
      clear hA hL2 hC2 hown hl hC hC1 hL
      have hlen := ks_len k j
      rcases Nat.lt_trichotomy j k with hjk | hjk | hjk
      · have hjk1 : (j : Int) - k < 0 := by omega
        have hjk2 : (j : Int) < k := by omega
        · have hq : kc k j = 0 := by unfold kc; omega
          have hlen' : (ks k j).length = j := by rw [hlen]; omega
          rw [hq, hlen']
          have Hq := Lib.hid hq; clear hq
          have Hlen := Lib.hid hlen'; clear hlen' hlen
          go_wp2_with fail
          go_loop [12] (fun i => ∃ t : Nat, t ≤ j ∧ i = .int .i64 t) (fun i => j - (intOf i).toNat)
          case atStart => exact ⟨0, Nat.zero_le _, rfl⟩
          case round =>
            obtain ⟨t, ht, rfl⟩ := hrel
            by_cases hlt : t < j
            · obtain ⟨b, o, rfl⟩ := row_addr hrow (t := t) (by rw [Hlen.out]; omega)
              have hf := fltCell hrow t (by rw [Hlen.out]; omega)
              rw [ks_get] at hf
              obtain ⟨c0, c1, c2, c3, c4⟩ := hf
              unfold kf at c0 c1 c2 c3 c4
              dsimp only at c0 c1 c2 c3 c4
              go_wp2
              go_round
              case rel => exact ⟨t + 1, by omega, by go_num⟩
              case measure => simp [intOf]; omega
            · go_wp2_with fail
              refine (new14_no (1 - k) w2 (by omega)).mono ?_
              rintro e w3 ⟨rfl, rfl⟩
              go_wp2_with fail
              refine (new14_no (16 + k) w2 (by omega)).mono ?_
              rintro e w3 ⟨rfl, rfl⟩
              go_wp2_with fail
              refine (num16 _ _).mono ?_
              rintro e w3 ⟨rfl, rfl⟩
              go_wp2_with fail
              refine (num16 _ _).mono ?_
              rintro e w3 ⟨rfl, rfl⟩
              go_wp2
              go_ret
              exact ⟨rfl, hC3⟩
      · subst hjk
        · have hq : kc j j = 0 := by unfold kc; omega
          have hlen' : (ks j j).length = j := by rw [hlen]; omega
          rw [hq, hlen']
          have Hq := Lib.hid hq; clear hq
          have Hlen := Lib.hid hlen'; clear hlen' hlen
          go_wp2_with fail
          go_loop [12] (fun i => ∃ t : Nat, t ≤ j ∧ i = .int .i64 t) (fun i => j - (intOf i).toNat)
          case atStart => exact ⟨0, Nat.zero_le _, rfl⟩
          case round =>
            obtain ⟨t, ht, rfl⟩ := hrel
            by_cases hlt : t < j
            · obtain ⟨b, o, rfl⟩ := row_addr hrow (t := t) (by rw [Hlen.out]; omega)
              have hf := fltCell hrow t (by rw [Hlen.out]; omega)
              rw [ks_get] at hf
              obtain ⟨c0, c1, c2, c3, c4⟩ := hf
              unfold kf at c0 c1 c2 c3 c4
              dsimp only at c0 c1 c2 c3 c4
              go_wp2
              go_round
              case rel => exact ⟨t + 1, by omega, by go_num⟩
              case measure => simp [intOf]; omega
            · go_wp2_with fail
              refine (new14_no (1 - j) w2 (by omega)).mono ?_
              rintro e w3 ⟨rfl, rfl⟩
              go_wp2_with fail
              refine (new14_no (16 + j) w2 (by omega)).mono ?_
              rintro e w3 ⟨rfl, rfl⟩
              go_wp2_with fail
              refine (num16 _ _).mono ?_
              rintro e w3 ⟨rfl, rfl⟩
              go_wp2_with fail
              refine (num16 _ _).mono ?_
              rintro e w3 ⟨rfl, rfl⟩
              go_wp2
              go_ret
              exact ⟨rfl, hC3⟩
      · have hjk1 : (k : Int) < j := by omega
        have hjk2 : 0 < (j : Int) - k := by omega
        by_cases hjm : j - k ≤ 65535
        · have hjm1 : (j : Int) - k ≤ 65535 := by omega
          · have hq : kc k j = (j : Int) - k := by unfold kc; omega
            have hlen' : (ks k j).length = k := by rw [hlen]; omega
            rw [hq, hlen']
            have Hq := Lib.hid hq; clear hq
            have Hlen := Lib.hid hlen'; clear hlen' hlen
            go_wp2_with fail
            go_loop [12] (fun i => ∃ t : Nat, t ≤ k ∧ i = .int .i64 t) (fun i => k - (intOf i).toNat)
            case atStart => exact ⟨0, Nat.zero_le _, rfl⟩
            case round =>
              obtain ⟨t, ht, rfl⟩ := hrel
              by_cases hlt : t < k
              · obtain ⟨b, o, rfl⟩ := row_addr hrow (t := t) (by rw [Hlen.out]; omega)
                have hf := fltCell hrow t (by rw [Hlen.out]; omega)
                rw [ks_get] at hf
                obtain ⟨c0, c1, c2, c3, c4⟩ := hf
                unfold kf at c0 c1 c2 c3 c4
                dsimp only at c0 c1 c2 c3 c4
                go_wp2
                go_round
                case rel => exact ⟨t + 1, by omega, by go_num⟩
                case measure => simp [intOf]; omega
              · go_wp2_with fail
                refine (new14_no (1 - k) w2 (by omega)).mono ?_
                rintro e w3 ⟨rfl, rfl⟩
                go_wp2_with fail
                refine (new14_no (16 + k) w2 (by omega)).mono ?_
                rintro e w3 ⟨rfl, rfl⟩
                go_wp2_with fail
                refine (num16 _ _).mono ?_
                rintro e w3 ⟨rfl, rfl⟩
                go_wp2_with fail
                refine (num16 _ _).mono ?_
                rintro e w3 ⟨rfl, rfl⟩
                go_wp2
                go_ret
                exact ⟨rfl, hC3⟩
        · have hjm1 : 65535 < (j : Int) - k := by omega
          · have hq : kc k j = 65535 := by unfold kc; omega
            have hlen' : (ks k j).length = k := by rw [hlen]; omega
            rw [hq, hlen']
            have Hq := Lib.hid hq; clear hq
            have Hlen := Lib.hid hlen'; clear hlen' hlen
            go_wp2_with fail
            go_loop [12] (fun i => ∃ t : Nat, t ≤ k ∧ i = .int .i64 t) (fun i => k - (intOf i).toNat)
            case atStart => exact ⟨0, Nat.zero_le _, rfl⟩
            case round =>
              obtain ⟨t, ht, rfl⟩ := hrel
              by_cases hlt : t < k
              · obtain ⟨b, o, rfl⟩ := row_addr hrow (t := t) (by rw [Hlen.out]; omega)
                have hf := fltCell hrow t (by rw [Hlen.out]; omega)
                rw [ks_get] at hf
                obtain ⟨c0, c1, c2, c3, c4⟩ := hf
                unfold kf at c0 c1 c2 c3 c4
                dsimp only at c0 c1 c2 c3 c4
                go_wp2
                go_round
                case rel => exact ⟨t + 1, by omega, by go_num⟩
                case measure => simp [intOf]; omega
              · go_wp2_with fail
                refine (new14_no (1 - k) w2 (by omega)).mono ?_
                rintro e w3 ⟨rfl, rfl⟩
                go_wp2_with fail
                refine (new14_no (16 + k) w2 (by omega)).mono ?_
                rintro e w3 ⟨rfl, rfl⟩
                go_wp2_with fail
                refine (num16 _ _).mono ?_
                rintro e w3 ⟨rfl, rfl⟩
                go_wp2_with fail
                refine (num16 _ _).mono ?_
                rintro e w3 ⟨rfl, rfl⟩
                go_wp2
                go_ret
                exact ⟨rfl, hC3⟩

theorem keeps_walk (w : World) (most many : Int) :
    Calls Try.prog 4 #[.int .i64 most, .int .i64 many] w fun e w' => e = .returned (.bool true) ∧ Below w.heap.size w w' := by
  cases h : (many % 1024 == 7) with
  | false => exact (keeps_a most many w h).mono fun e w' ⟨h1, h2⟩ => ⟨h1, h2.below (Nat.le_refl _) (fun _ h => h.elim)⟩
  | true => exact (keeps_b most many w h).mono fun e w' ⟨h1, h2⟩ => ⟨h1, h2.below (Nat.le_refl _) (fun _ h => h.elim)⟩

end Go.Proofs.Ytochadejlglfgaa
