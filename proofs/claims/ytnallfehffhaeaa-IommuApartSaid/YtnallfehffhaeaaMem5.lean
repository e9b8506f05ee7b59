/- The walks of the reference's memory. -/
import Derived.Test.YtnallfehffhaeaaMem4
set_option linter.unusedSimpArgs false
set_option linter.unusedVariables false
namespace Go.Proofs.Ytnallfehffhaeaa
open Go.RowKit

theorem frames60 (p r : Nat) (bs : List UInt8) (w : World) (h : MemAt w 71 p r bs) (hl : bs.length ≤ 4096) :
    Calls Try.prog 47 #[.pointer (some ⟨p, 0, none⟩)] w fun e w' => e = .returned (.int .i64 ((bs.length : Int) / 64)) ∧ w = w' := by
  have c0 := h.hdr
  clear h
  go_enter Try.func47, Try.ntmps47
  go_wp2
  go_ret
  exact ⟨rfl, rfl⟩

theorem or_join (x y : Int) (i : Nat) (p : Int) (hp : (2 : Int) ^ i = p) (h0 : 0 ≤ x) (h1 : x < p) (h2 : 0 ≤ y) (h3 : y % p = 0) (h4 : y < 9223372036854775808) (h5 : p ≤ 9223372036854775808) : bits .or .i64 x y = x + y := by
  have hc : bits .or .i64 x y = bits .or .i64 y x := by simp only [bits, BitVec.or_comm]
  have e63 : (2 : Int) ^ 63 = 9223372036854775808 := by decide
  rw [hc, bits_join .i64 63 (by decide) ?_ i y x h2 (by rw [hp]; exact h3) (by rw [e63]; omega) h0 (by rw [hp]; exact h1) (by rw [e63]; omega)]
  · omega
  · intro n hn0 hn1
    rw [e63] at hn1
    rw [IntKind.wrap_i64]; omega

set_option maxRecDepth 100000 in
set_option maxHeartbeats 1000000 in
theorem word49 (p r : Nat) (bs : List UInt8) (a : Int) (w : World) (h : MemAt w 71 p r bs) (hl : bs.length ≤ 4096) :
    Calls Try.prog 83 #[.pointer (some ⟨p, 0, none⟩), .int .i64 a] w fun e w' => e = .returned (.tuple #[.int .i64 (wordR bs a), .int .i64 (wordE bs a)]) ∧ ∃ n, w' = w.drewN n := by
  have c0 := h.hdr
  unfold wordR wordE
  by_cases hw : wordP bs a
  · rw [if_pos hw, if_pos hw]
    obtain ⟨h41, hmm⟩ := hw
    have hm' := hmm
    obtain ⟨h1, h2, h3, h4, h5⟩ := hm'
    obtain ⟨a, rfl⟩ := Int.eq_ofNat_of_zero_le h1
    rw [Int.toNat_natCast]
    have h41b : ((a : Int) % 4 == 0) = true := by simp [h41]
    have h41c : ((a : Int) % 4 != 0) = false := by simp [h41]
    have c1 := h.byteA a (by omega)
    have c2 := h.byteA (a + 1) (by omega)
    have c3 := h.byteA (a + 2) (by omega)
    have c4 := h.byteA (a + 3) (by omega)
    have b1 := byteAt_le bs a
    have b2 := byteAt_le bs (a + 1)
    have b3 := byteAt_le bs (a + 2)
    have b4 := byteAt_le bs (a + 3)
    unfold wordV
    clear h h41
    generalize byteAt bs a = x1 at *
    generalize byteAt bs (a + 1) = x2 at *
    generalize byteAt bs (a + 2) = x3 at *
    generalize byteAt bs (a + 3) = x4 at *
    obtain ⟨b11, b12⟩ := b1
    obtain ⟨b21, b22⟩ := b2
    obtain ⟨b31, b32⟩ := b3
    obtain ⟨b41, b42⟩ := b4
    have o1 := or_join x1 (x2 * 256) 8 256 (by decide) (by omega) (by omega) (by omega) (by omega) (by omega) (by omega)
    have o2 := or_join (x1 + x2 * 256) (x3 * 65536) 16 65536 (by decide) (by omega) (by omega) (by omega) (by omega) (by omega) (by omega)
    have o3 := or_join (x1 + x2 * 256 + x3 * 65536) (x4 * 16777216) 24 16777216 (by decide) (by omega) (by omega) (by omega) (by omega) (by omega) (by omega)
    have g1 : (a : Int) < bs.length := by omega
    have g2 : (a : Int) + 1 < bs.length := by omega
    have g3 : (a : Int) + 2 < bs.length := by omega
    have g4 : (a : Int) + 3 < bs.length := by omega
    have n1 : ((a : Int) + 1).toNat = a + 1 := by omega
    have n2 : ((a : Int) + 2).toNat = a + 2 := by omega
    have n3 : ((a : Int) + 3).toNat = a + 3 := by omega
    have q1 : (0 : Int) ≤ (a : Int) + 1 := by omega
    have q2 : (0 : Int) ≤ (a : Int) + 2 := by omega
    have q3 : (0 : Int) ≤ (a : Int) + 3 := by omega
    go_enter Try.func83, Try.ntmps83
    go_wp2_with fail
    refine (may57_yes _ _ _ _ hmm (by omega)).mono ?_
    rintro e w' ⟨rfl, rfl⟩
    clear hmm
    go_wp2_with fail
    go_quiet (fail)
    rename_i nq
    go_wp2
    go_ret2
    exact ⟨rfl, nq, rfl⟩
  · rw [if_neg hw, if_neg hw]
    clear h
    by_cases h0 : 0 ≤ a
    · by_cases h4 : a % 4 = 0
      · have hm : ¬ mayP a 4 bs.length := fun hm => hw ⟨h4, hm⟩
        have h41c : (a % 4 != 0) = false := by simp [h4]
        clear hw h4
        go_enter Try.func83, Try.ntmps83
        go_wp2_with fail
        refine (may57_no _ _ _ _ hm (by omega)).mono ?_
        rintro e w' ⟨rfl, rfl⟩
        clear hm
        go_wp2
        go_ret2
        exact ⟨rfl, 0, rfl⟩
      · have h41c : (a % 4 != 0) = true := by simp [h4]
        clear hw h4
        go_enter Try.func83, Try.ntmps83
        go_wp2
        go_ret2
        exact ⟨rfl, 0, rfl⟩
    · clear hw
      go_enter Try.func83, Try.ntmps83
      go_wp2
      go_ret2
      exact ⟨rfl, 0, rfl⟩

end Go.Proofs.Ytnallfehffhaeaa
