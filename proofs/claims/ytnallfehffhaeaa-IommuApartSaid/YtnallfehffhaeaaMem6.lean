/- The walks of the reference's memory that write. -/
import Derived.Test.YtnallfehffhaeaaMem5
set_option linter.unusedSimpArgs false
set_option linter.unusedVariables false
namespace Go.Proofs.Ytnallfehffhaeaa
open Go.RowKit

theorem bs_get (s : ByteArray) (k : Nat) (h : k < s.size) : s.data.toList[k]'(by simpa using h) = s[k] := rfl
set_option maxRecDepth 100000 in
set_option maxHeartbeats 1000000 in
theorem write42 (p r : Nat) (bs : List UInt8) (a : Int) (s : ByteArray) (w : World) (h : MemAt w 71 p r bs) (hl : bs.length ≤ 4096) (hs : s.size ≤ 140737488351232) :
    Calls Try.prog 22 #[.pointer (some ⟨p, 0, none⟩), .int .i64 a, .string s] w fun e w' => e = .returned (.int .i64 (errC bs a s.size)) ∧ MemAt w' 71 p r (writeB bs a s) ∧ Chg (fun k => k = r) w w' := by
  have c0 := h.hdr
  unfold writeB errC
  by_cases hm : mayP a s.size bs.length
  · rw [if_pos hm, if_pos hm]
    have hm' := hm
    obtain ⟨h1, h2, h3, h4, h5⟩ := hm'
    obtain ⟨a, rfl⟩ := Int.eq_ofNat_of_zero_le h1
    rw [Int.toNat_natCast]
    go_enter Try.func22, Try.ntmps22
    go_wp2_with fail
    refine (may57_yes _ _ _ _ hm (by omega)).mono ?_
    rintro e w' ⟨rfl, rfl⟩
    clear hm c0
    go_wp2_with fail
    go_loopw [7] (fun i wr => ∃ j : Nat, j ≤ s.size ∧ i = .int .i64 j ∧ MemAt wr 71 p r (splice bs a (s.data.toList.take j)) ∧ Chg (fun k => k = r) w wr) (fun i _ => s.size - (intOf i).toNat)
    case atStart => exact ⟨0, by omega, rfl, by rw [List.take_zero, splice_nil]; exact h, Chg.refl _ _⟩
    case round =>
      clear h
      obtain ⟨j, hj, rfl, h, hC⟩ := hrel
      have hsl : s.data.toList.length = s.size := by simp
      by_cases hlt : j < s.size
      · have hlen : (splice bs a (s.data.toList.take j)).length = bs.length := splice_len _ _ _ (by rw [List.length_take, hsl]; omega)
        have c0 := h.hdr
        rw [hlen] at c0
        obtain ⟨old, c1⟩ : ∃ old : Int, wr.cell? ⟨r, a + j, none⟩ = some (.int .u8 old) := ⟨_, h.byte (a + j) (by rw [hlen]; omega)⟩
        have f1 := h.free (a + j)
        have HL := Lib.hid hlen; clear hlen
        have i0 : (0 : Int) ≤ (a : Int) + j := by omega
        have i1 : (a : Int) + j < bs.length := by omega
        have i3 : ((a : Int) + j).toNat = a + j := by omega
        have H := Lib.hid h; clear h
        have HS := Lib.hid hsl; clear hsl
        have hj0 : (0 : Int) ≤ j := by omega
        have hj1 : (j : Int) < s.size := by omega
        go_wp2_with fail
        go_region
        all_goals
          go_wp2
          go_roundw
          case rel =>
            refine ⟨j + 1, by omega, by go_num, ?_, ?_⟩
            · have hs2 := (H.out.set (by decide) (a + j) s[j]).1
              have hj2 : j < s.data.toList.length := by rw [HS.out]; exact hlt
              have hst := splice_step bs a s.data.toList (by rw [HS.out]; omega) j hj2
              rw [bs_get s j hlt] at hst
              rw [hst] at hs2
              exact hs2
            · exact (hC.set1 _).drew
          case measure => simp [intOf]; omega
      · obtain rfl : j = s.size := by omega
        rw [List.take_of_length_le (by rw [hsl]; omega)] at h
        have H := Lib.hid h; clear h hsl
        go_wp2
        go_ret
        exact ⟨rfl, H.out, hC⟩
  · rw [if_neg hm, if_neg hm]
    have H : Hid (MemAt w 71 p r bs) := h
    clear h
    go_enter Try.func22, Try.ntmps22
    go_wp2_with fail
    refine (may57_no _ _ _ _ hm (by omega)).mono ?_
    rintro e w' ⟨rfl, rfl⟩
    clear hm
    go_wp2
    go_ret
    exact ⟨rfl, H.out, Chg.refl _ _⟩

set_option maxRecDepth 100000 in
set_option maxHeartbeats 1000000 in
theorem put44_yes (p r : Nat) (bs : List UInt8) (a x : Int) (w : World) (h : MemAt w 71 p r bs) (hl : bs.length ≤ 4096) (hm : putP bs a x) :
    Calls Try.prog 55 #[.pointer (some ⟨p, 0, none⟩), .int .i64 a, .int .i64 x] w fun e w' => e = .returned (.int .i64 0) ∧ MemAt w' 71 p r (splice bs a.toNat (wb x)) ∧ Chg (fun k => k = r) w w' := by
  obtain ⟨hw, hx0, hx1⟩ := hm
  obtain ⟨h41, hmm⟩ := hw
  have h41c : (a % 4 != 0) = false := by simp [h41]
  have hm' := hmm
  obtain ⟨h1, h2, h3, h4, h5⟩ := hm'
  obtain ⟨a, rfl⟩ := Int.eq_ofNat_of_zero_le h1
  rw [Int.toNat_natCast]
  have c0 := h.hdr
  clear h41
  go_enter Try.func55, Try.ntmps55
  go_wp2_with fail
  refine (may57_yes _ _ _ _ hmm (by omega)).mono ?_
  rintro e w' ⟨rfl, rfl⟩
  clear hmm c0
  go_wp2_with fail
  go_loopw [7] (fun i wr => ∃ j : Nat, j ≤ 4 ∧ i = .int .i64 j ∧ MemAt wr 71 p r (splice bs a ((wb x).take j)) ∧ Chg (fun k => k = r) w wr) (fun i _ => 4 - (intOf i).toNat)
  case atStart => exact ⟨0, by omega, rfl, by rw [List.take_zero, splice_nil]; exact h, Chg.refl _ _⟩
  case round =>
    clear h
    obtain ⟨j, hj, rfl, h, hC⟩ := hrel
    by_cases hj4 : j < 4
    · have hlen : (splice bs a ((wb x).take j)).length = bs.length := splice_len _ _ _ (by rw [List.length_take, wb_len]; omega)
      have c0 := h.hdr
      rw [hlen] at c0
      obtain ⟨old, c1⟩ : ∃ old : Int, wr.cell? ⟨r, a + j, none⟩ = some (.int .u8 old) := ⟨_, h.byte (a + j) (by rw [hlen]; omega)⟩
      have f1 := h.free (a + j)
      have HL := Lib.hid hlen; clear hlen
      have i0 : (0 : Int) ≤ (a : Int) + j := by omega
      have i1 : (a : Int) + j < bs.length := by omega
      have i2 : (0 : Int) ≤ 8 * (j : Int) := by omega
      have i3 : ((a : Int) + j).toNat = a + j := by omega
      have i4 : IntKind.u64.wrap (8 * (j : Int)) = 8 * (j : Int) := by rw [IntKind.wrap_u64]; omega
      have H := Lib.hid h; clear h
      go_wp2
      go_roundw
      case rel =>
        refine ⟨j + 1, by omega, by go_num, ?_, ?_⟩
        · have hs := (H.out.set (by decide) (a + j) (wbj x j)).1
          rw [wbj_nat] at hs
          have hj2 : j < (wb x).length := by rw [wb_len]; exact hj4
          have hst := splice_step bs a (wb x) (by rw [wb_len]; omega) j hj2
          rw [wb_get] at hst
          rw [hst] at hs
          exact hs
        · exact hC.set1 _
      case measure => simp [intOf]; omega
    · obtain rfl : j = 4 := by omega
      rw [List.take_of_length_le (by rw [wb_len]; omega)] at h
      have H := Lib.hid h; clear h
      go_wp2
      go_ret
      exact ⟨rfl, H.out, hC⟩

set_option maxRecDepth 100000 in
set_option maxHeartbeats 1000000 in
theorem put44 (p r : Nat) (bs : List UInt8) (a x : Int) (w : World) (h : MemAt w 71 p r bs) (hl : bs.length ≤ 4096) :
    Calls Try.prog 55 #[.pointer (some ⟨p, 0, none⟩), .int .i64 a, .int .i64 x] w fun e w' => e = .returned (.int .i64 (putC bs a x)) ∧ MemAt w' 71 p r (putB bs a x) ∧ Chg (fun k => k = r) w w' := by
  unfold putC putB
  by_cases hm : putP bs a x
  · rw [if_pos hm, if_pos hm]; exact put44_yes p r bs a x w h hl hm
  · rw [if_neg hm, if_neg hm]
    have H : Hid (MemAt w 71 p r bs) := h
    have c0 := h.hdr
    clear h
    by_cases h0 : 0 ≤ a
    · by_cases h4 : a % 4 = 0
      · by_cases hmm : mayP a 4 bs.length
        · have hx : ¬ (0 ≤ x ∧ x ≤ 4294967295) := fun hx => hm ⟨⟨h4, hmm⟩, hx⟩
          have h41c : (a % 4 != 0) = false := by simp [h4]
          clear hm h4
          by_cases hx0 : 0 ≤ x
          · have hx1 : ¬ x ≤ 4294967295 := by omega
            clear hx
            go_enter Try.func55, Try.ntmps55
            go_wp2_with fail
            refine (may57_yes _ _ _ _ hmm (by omega)).mono ?_
            rintro e w' ⟨rfl, rfl⟩
            clear hmm
            go_wp2
            go_ret
            exact ⟨rfl, H.out, Chg.refl _ _⟩
          · clear hx
            go_enter Try.func55, Try.ntmps55
            go_wp2_with fail
            refine (may57_yes _ _ _ _ hmm (by omega)).mono ?_
            rintro e w' ⟨rfl, rfl⟩
            clear hmm
            go_wp2
            go_ret
            exact ⟨rfl, H.out, Chg.refl _ _⟩
        · have h41c : (a % 4 != 0) = false := by simp [h4]
          clear hm h4
          go_enter Try.func55, Try.ntmps55
          go_wp2_with fail
          refine (may57_no _ _ _ _ hmm (by omega)).mono ?_
          rintro e w' ⟨rfl, rfl⟩
          clear hmm
          go_wp2
          go_ret
          exact ⟨rfl, H.out, Chg.refl _ _⟩
      · have h41c : (a % 4 != 0) = true := by simp [h4]
        clear hm h4
        go_enter Try.func55, Try.ntmps55
        go_wp2
        go_ret
        exact ⟨rfl, H.out, Chg.refl _ _⟩
    · clear hm
      go_enter Try.func55, Try.ntmps55
      go_wp2
      go_ret
      exact ⟨rfl, H.out, Chg.refl _ _⟩

set_option maxRecDepth 100000 in
set_option maxHeartbeats 1000000 in
theorem zero46 (p r : Nat) (bs : List UInt8) (f : Int) (w : World) (h : MemAt w 71 p r bs) (hl : bs.length ≤ 4096) :
    Calls Try.prog 49 #[.pointer (some ⟨p, 0, none⟩), .int .i64 f] w fun e w' => e = .returned (.int .i64 (zeroC bs f)) ∧ MemAt w' 71 p r (zeroB bs f) ∧ Chg (fun k => k = r) w w' := by
  unfold zeroC zeroB
  by_cases hm : frameP bs f
  · rw [if_pos hm, if_pos hm]
    obtain ⟨h1, h2⟩ := hm
    obtain ⟨f, rfl⟩ := Int.eq_ofNat_of_zero_le h1
    rw [Int.toNat_natCast]
    have h3 : f * 64 + 64 ≤ bs.length := by omega
    go_enter Try.func49, Try.ntmps49
    go_wp2_with fail
    refine (frames60 _ _ _ _ h hl).mono ?_
    rintro e w' ⟨rfl, rfl⟩
    go_wp2_with fail
    go_loopw [5] (fun i wr => ∃ j : Nat, j ≤ 64 ∧ i = .int .i64 j ∧ MemAt wr 71 p r (splice bs (f * 64) ((List.replicate 64 0).take j)) ∧ Chg (fun k => k = r) w wr) (fun i _ => 64 - (intOf i).toNat)
    case atStart => exact ⟨0, by omega, rfl, by rw [List.take_zero, splice_nil]; exact h, Chg.refl _ _⟩
    case round =>
      clear h
      obtain ⟨j, hj, rfl, h, hC⟩ := hrel
      by_cases hj4 : j < 64
      · have hlen : (splice bs (f * 64) ((List.replicate 64 (0 : UInt8)).take j)).length = bs.length := splice_len _ _ _ (by rw [List.length_take, List.length_replicate]; omega)
        have c0 := h.hdr
        rw [hlen] at c0
        obtain ⟨old, c1⟩ : ∃ old : Int, wr.cell? ⟨r, f * 64 + j, none⟩ = some (.int .u8 old) := ⟨_, h.byte (f * 64 + j) (by rw [hlen]; omega)⟩
        have f1 := h.free (f * 64 + j)
        have HL := Lib.hid hlen; clear hlen
        have i0 : (0 : Int) ≤ (f : Int) * 64 + j := by omega
        have i1 : (f : Int) * 64 + j < bs.length := by omega
        have i3 : ((f : Int) * 64 + j).toNat = f * 64 + j := by omega
        have H := Lib.hid h; clear h
        go_wp2
        go_roundw
        case rel =>
          refine ⟨j + 1, by omega, by go_num, ?_, ?_⟩
          · have hs := (H.out.set (by decide) (f * 64 + j) 0).1
            have hst := splice_step bs (f * 64) (List.replicate 64 0) (by rw [List.length_replicate]; omega) j (by rw [List.length_replicate]; exact hj4)
            rw [List.getElem_replicate] at hst
            rw [hst] at hs
            exact hs
          · exact hC.set1 _
        case measure => simp [intOf]; omega
      · obtain rfl : j = 64 := by omega
        rw [List.take_of_length_le (by rw [List.length_replicate]; omega)] at h
        have H := Lib.hid h; clear h
        go_wp2
        go_ret
        exact ⟨rfl, H.out, hC⟩
  · rw [if_neg hm, if_neg hm]
    have H : Hid (MemAt w 71 p r bs) := h
    unfold frameP at hm
    by_cases h0 : 0 ≤ f
    · have h1 : decide ((bs.length : Int) / 64 ≤ f) = true := by simp; omega
      clear hm
      go_enter Try.func49, Try.ntmps49
      go_wp2_with fail
      refine (frames60 _ _ _ _ h hl).mono ?_
      rintro e w' ⟨rfl, rfl⟩
      clear h
      go_wp2
      go_ret
      exact ⟨rfl, H.out, Chg.refl _ _⟩
    · clear hm h
      go_enter Try.func49, Try.ntmps49
      go_wp2
      go_ret
      exact ⟨rfl, H.out, Chg.refl _ _⟩

end Go.Proofs.Ytnallfehffhaeaa
