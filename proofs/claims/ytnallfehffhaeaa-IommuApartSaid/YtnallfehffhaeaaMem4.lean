/- The walks of the memory: words. -/
import Derived.Test.YtnallfehffhaeaaMem3
set_option linter.unusedSimpArgs false
set_option linter.unusedVariables false
namespace Go.Proofs.Ytnallfehffhaeaa
open Go.RowKit

def wbj (x : Int) (j : Nat) : UInt8 := UInt8.ofNat (x / 2 ^ (8 * j) % 256).toNat
def wb (x : Int) : List UInt8 := (List.range 4).map (wbj x)
theorem wbj_nat (x : Int) (j : Nat) : ((wbj x j).toNat : Int) = x / 2 ^ (8 * j) % 256 := by
  unfold wbj
  have h := Int.emod_nonneg (x / 2 ^ (8 * j)) (show (256 : Int) ≠ 0 by decide)
  have h2 := Int.emod_lt_of_pos (x / 2 ^ (8 * j)) (show (0 : Int) < 256 by decide)
  generalize x / 2 ^ (8 * j) % 256 = z at *
  simp
  omega
theorem wb_len (x : Int) : (wb x).length = 4 := by simp [wb]
theorem wb_get (x : Int) (j : Nat) (h : j < (wb x).length) : (wb x)[j] = wbj x j := by simp [wb]
def putP (bs : List UInt8) (a x : Int) : Prop := wordP bs a ∧ 0 ≤ x ∧ x ≤ 4294967295
instance (bs : List UInt8) (a x : Int) : Decidable (putP bs a x) := by unfold putP; infer_instance
def putC (bs : List UInt8) (a x : Int) : Int := if putP bs a x then 0 else 300
def putB (bs : List UInt8) (a x : Int) : List UInt8 := if putP bs a x then splice bs a.toNat (wb x) else bs

set_option maxRecDepth 100000 in
set_option maxHeartbeats 1000000 in
theorem put43_yes (p r : Nat) (bs : List UInt8) (a x : Int) (w : World) (h : MemAt w 93 p r bs) (hl : bs.length ≤ 4096) (hm : putP bs a x) :
    Calls Try.prog 33 #[.pointer (some ⟨p, 0, none⟩), .int .i64 a, .int .i64 x] w fun e w' => e = .returned (.int .i64 0) ∧ MemAt w' 93 p r (splice bs a.toNat (wb x)) ∧ Chg (fun k => k = r) w w' := by
  obtain ⟨hw, hx0, hx1⟩ := hm
  have hm' := hw
  obtain ⟨_, h1, h2, h3, h4, h5⟩ := hm'
  obtain ⟨a, rfl⟩ := Int.eq_ofNat_of_zero_le h1
  rw [Int.toNat_natCast]
  go_enter Try.func33, Try.ntmps33
  go_wp2_with fail
  refine (wordAt58_yes _ _ _ _ _ h hl hw).mono ?_
  rintro e w' ⟨rfl, rfl⟩
  clear hw
  go_wp2_with fail
  go_loopw [24] (fun i wr => ∃ j : Nat, j ≤ 4 ∧ i = .int .i64 j ∧ MemAt wr 93 p r (splice bs a ((wb x).take j)) ∧ Chg (fun k => k = r) w wr) (fun i _ => 4 - (intOf i).toNat)
  case atStart => exact ⟨0, by omega, rfl, by rw [List.take_zero, splice_nil]; exact h, Chg.refl _ _⟩
  case round =>
    clear h
    obtain ⟨j, hj, rfl, h, hC⟩ := hrel
    by_cases hj4 : j < 4
    · have hlen : (splice bs a ((wb x).take j)).length = bs.length := splice_len _ _ _ (by rw [List.length_take, wb_len]; omega)
      have c0 := h.hdr
      rw [hlen] at c0
      obtain ⟨old, c1⟩ : ∃ old : Int, wr.cell? ⟨r, a + j, none⟩ = some (.int .u8 old) := ⟨_, h.byte (a + j) (by rw [hlen]; omega)⟩
      have f1 := h.free (a + j)
      have HL := Lib.hid hlen; clear hlen
      have i0 : (0 : Int) ≤ (a : Int) + j := by omega
      have i1 : (a : Int) + j < bs.length := by omega
      have i2 : (0 : Int) ≤ 8 * (j : Int) := by omega
      have i3 : ((a : Int) + j).toNat = a + j := by omega
      have H := Lib.hid h; clear h
      go_wp2_with fail
      go_region
      go_wp2
      go_roundw
      case rel =>
        refine ⟨j + 1, by omega, by go_num, ?_, ?_⟩
        · have hs := (H.out.set (by decide) (a + j) (wbj x j)).1
          rw [wbj_nat] at hs
          have hj2 : j < (wb x).length := by rw [wb_len]; exact hj4
          have hst := splice_step bs a (wb x) (by rw [wb_len]; omega) j hj2
          rw [wb_get] at hst
          rw [hst] at hs
          exact hs
        · exact (hC.set1 _).drew
      case measure => simp [intOf]; omega
    · obtain rfl : j = 4 := by omega
      rw [List.take_of_length_le (by rw [wb_len]; omega)] at h
      have H := Lib.hid h; clear h
      go_wp2
      go_ret
      exact ⟨rfl, H.out, hC⟩

set_option maxRecDepth 100000 in
set_option maxHeartbeats 1000000 in
theorem put43 (p r : Nat) (bs : List UInt8) (a x : Int) (w : World) (h : MemAt w 93 p r bs) (hl : bs.length ≤ 4096) :
    Calls Try.prog 33 #[.pointer (some ⟨p, 0, none⟩), .int .i64 a, .int .i64 x] w fun e w' => e = .returned (.int .i64 (putC bs a x)) ∧ MemAt w' 93 p r (putB bs a x) ∧ Chg (fun k => k = r) w w' := by
  unfold putC putB
  by_cases hm : putP bs a x
  · rw [if_pos hm, if_pos hm]; exact put43_yes p r bs a x w h hl hm
  · rw [if_neg hm, if_neg hm]
    have H : Hid (MemAt w 93 p r bs) := h
    by_cases hw : wordP bs a
    · have hx : ¬ (0 ≤ x ∧ x ≤ 4294967295) := fun hx => hm ⟨hw, hx⟩
      clear hm
      by_cases hx0 : 0 ≤ x
      · have hx1 : ¬ x ≤ 4294967295 := by omega
        clear hx
        go_enter Try.func33, Try.ntmps33
        go_wp2_with fail
        refine (wordAt58_yes _ _ _ _ _ h hl hw).mono ?_
        rintro e w' ⟨rfl, rfl⟩
        clear hw h
        go_wp2
        go_ret
        exact ⟨rfl, H.out, Chg.refl _ _⟩
      · clear hx
        go_enter Try.func33, Try.ntmps33
        go_wp2_with fail
        refine (wordAt58_yes _ _ _ _ _ h hl hw).mono ?_
        rintro e w' ⟨rfl, rfl⟩
        clear hw h
        go_wp2
        go_ret
        exact ⟨rfl, H.out, Chg.refl _ _⟩
    · clear hm
      go_enter Try.func33, Try.ntmps33
      go_wp2_with fail
      refine (wordAt58_no _ _ _ _ _ h hl hw).mono ?_
      rintro e w' ⟨rfl, rfl⟩
      clear hw h
      go_wp2
      go_ret
      exact ⟨rfl, H.out, Chg.refl _ _⟩

def byteAt (bs : List UInt8) (i : Nat) : Int := ((bs[i]?).getD 0).toNat
theorem byteAt_le (bs : List UInt8) (i : Nat) : 0 ≤ byteAt bs i ∧ byteAt bs i < 256 := by
  unfold byteAt
  have := UInt8.toNat_lt ((bs[i]?).getD 0)
  omega
theorem MemAt.byteA {w : World} {T p r : Nat} {bs : List UInt8} (h : MemAt w T p r bs) (i : Nat) (hi : i < bs.length) : w.cell? ⟨r, i, none⟩ = some (.int .u8 (byteAt bs i)) := by
  rw [h.byte i hi]; unfold byteAt; rw [List.getElem?_eq_getElem hi]; rfl
def wordV (bs : List UInt8) (a : Nat) : Int := byteAt bs a + byteAt bs (a + 1) * 256 + byteAt bs (a + 2) * 65536 + byteAt bs (a + 3) * 16777216
def wordR (bs : List UInt8) (a : Int) : Int := if wordP bs a then wordV bs a.toNat else 0
def wordE (bs : List UInt8) (a : Int) : Int := if wordP bs a then 0 else 300
theorem or_byte (x b : Int) (h0 : 0 ≤ x) (h1 : x < 16777216) (h2 : 0 ≤ b) (h3 : b < 256) : bits .or .i64 (x * 256) b = x * 256 + b := by
  have e63 : (2 : Int) ^ 63 = 9223372036854775808 := by decide
  have e8 : (2 : Int) ^ 8 = 256 := by decide
  refine bits_join .i64 63 (by decide) ?_ 8 (x * 256) b (by omega) (by rw [e8]; omega) (by rw [e63]; omega) h2 (by rw [e8]; omega) (by rw [e63]; omega)
  intro n hn0 hn1
  rw [e63] at hn1
  rw [IntKind.wrap_i64]; omega
def topW (bs : List UInt8) (a : Nat) : Nat → Int
  | 0 => 0
  | j + 1 => topW bs a j * 256 + byteAt bs (a + (3 - j))
theorem topW_4 (bs : List UInt8) (a : Nat) : topW bs a 4 = wordV bs a := by
  simp only [topW, wordV, Nat.add_zero, Nat.sub_zero, show 3 - 1 = 2 from rfl, show 3 - 2 = 1 from rfl, show 3 - 3 = 0 from rfl]
  omega
theorem topW_le (bs : List UInt8) (a : Nat) : ∀ j, j < 4 → 0 ≤ topW bs a j ∧ topW bs a j < 16777216
  | 0, _ => by simp [topW]
  | 1, _ => by have := byteAt_le bs (a + (3 - 0)); simp only [topW] at *; omega
  | 2, _ => by have := byteAt_le bs (a + (3 - 0)); have := byteAt_le bs (a + (3 - 1)); simp only [topW] at *; omega
  | 3, _ => by have := byteAt_le bs (a + (3 - 0)); have := byteAt_le bs (a + (3 - 1)); have := byteAt_le bs (a + (3 - 2)); simp only [topW] at *; omega

set_option maxRecDepth 100000 in
set_option maxHeartbeats 1000000 in
theorem word48 (p r : Nat) (bs : List UInt8) (a : Int) (w : World) (h : MemAt w 93 p r bs) (hl : bs.length ≤ 4096) :
    Calls Try.prog 57 #[.pointer (some ⟨p, 0, none⟩), .int .i64 a] w fun e w' => e = .returned (.tuple #[.int .i64 (wordR bs a), .int .i64 (wordE bs a)]) ∧ w = w' := by
  unfold wordR wordE
  by_cases hw : wordP bs a
  · rw [if_pos hw, if_pos hw]
    have hm' := hw
    obtain ⟨_, h1, h2, h3, h4, h5⟩ := hm'
    obtain ⟨a, rfl⟩ := Int.eq_ofNat_of_zero_le h1
    rw [Int.toNat_natCast, ← topW_4]
    have c0 := h.hdr
    go_enter Try.func57, Try.ntmps57
    go_wp2_with fail
    refine (wordAt58_yes _ _ _ _ _ h hl hw).mono ?_
    rintro e w' ⟨rfl, rfl⟩
    clear hw
    go_wp2_with fail
    go_loop [6, 7] (fun x i => ∃ j : Nat, j ≤ 4 ∧ i = .int .i64 (3 - (j : Int)) ∧ x = .int .i64 (topW bs a j)) (fun _ i => (intOf i + 1).toNat)
    case atStart => exact ⟨0, by omega, rfl, rfl⟩
    case round =>
      obtain ⟨j, hj, rfl, rfl⟩ := hrel
      by_cases hj4 : j < 4
      · have ht := topW_le bs a j hj4
        have hb := byteAt_le bs (a + (3 - j))
        have c1 := h.byteA (a + (3 - j)) (by omega)
        have ho := or_byte _ _ ht.1 ht.2 hb.1 hb.2
        have hnext : topW bs a j * 256 + byteAt bs (a + (3 - j)) = topW bs a (j + 1) := rfl
        have HN := Lib.hid hnext; clear hnext
        have H := Lib.hid h; clear h
        obtain ⟨b0, b1⟩ := hb
        obtain ⟨t0, t1⟩ := ht
        generalize byteAt bs (a + (3 - j)) = b at *
        generalize topW bs a j = x at *
        have i0 : (0 : Int) ≤ (a : Int) + (3 - (j : Int)) := by omega
        have i1 : (a : Int) + (3 - (j : Int)) < bs.length := by omega
        have i2 : ((a : Int) + (3 - (j : Int))).toNat = a + (3 - j) := by omega
        have i3 : (0 : Int) ≤ 3 - (j : Int) := by omega
        go_wp2_with fail
        exact ⟨⟨j + 1, by omega, congrArg (Value.int .i64) (by omega), by rw [← HN.out]⟩, by simp [intOf]; omega⟩
      · obtain rfl : j = 4 := by omega
        clear h
        go_wp2
        go_ret2
        exact ⟨rfl, rfl⟩
  · rw [if_neg hw, if_neg hw]
    go_enter Try.func57, Try.ntmps57
    go_wp2_with fail
    refine (wordAt58_no _ _ _ _ _ h hl hw).mono ?_
    rintro e w' ⟨rfl, rfl⟩
    clear hw h
    go_wp2
    go_ret2
    exact ⟨rfl, rfl⟩

end Go.Proofs.Ytnallfehffhaeaa
