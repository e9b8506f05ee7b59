/- The walks of the memory. -/
import Derived.Test.YtnallfehffhaeaaMem
set_option linter.unusedSimpArgs false
set_option linter.unusedVariables false
namespace Go.Proofs.Ytnallfehffhaeaa
open Go.RowKit

def mayP (a n size : Int) : Prop := 0 ≤ a ∧ 0 ≤ n ∧ 0 ≤ size ∧ a ≤ size ∧ n ≤ size - a
instance (a n size : Int) : Decidable (mayP a n size) := by unfold mayP; infer_instance

theorem may56_yes (a n size : Int) (w : World) (h : mayP a n size) (hs : size ≤ 9223372036854775807) :
    Calls Try.prog 39 #[.int .i64 a, .int .i64 n, .int .i64 size] w fun e w' => e = .returned (.bool true) ∧ w = w' := by
  obtain ⟨h1, h2, h3, h4, h5⟩ := h
  go_enter Try.func39, Try.ntmps39
  go_wp2
  go_ret
  exact ⟨rfl, rfl⟩
theorem may56_no (a n size : Int) (w : World) (h : ¬ mayP a n size) (hs : size ≤ 9223372036854775807) :
    Calls Try.prog 39 #[.int .i64 a, .int .i64 n, .int .i64 size] w fun e w' => e = .returned (.bool false) ∧ w = w' := by
  unfold mayP at h
  by_cases h1 : 0 ≤ a
  · by_cases h2 : 0 ≤ n
    · by_cases h3 : 0 ≤ size
      · by_cases h4 : a ≤ size
        · have h5 : ¬ n ≤ size - a := by omega
          clear h
          go_enter Try.func39, Try.ntmps39
          go_wp2
          go_ret
          exact ⟨rfl, rfl⟩
        · clear h
          go_enter Try.func39, Try.ntmps39
          go_wp2
          go_ret
          exact ⟨rfl, rfl⟩
      · clear h
        go_enter Try.func39, Try.ntmps39
        go_wp2
        go_ret
        exact ⟨rfl, rfl⟩
    · clear h
      go_enter Try.func39, Try.ntmps39
      go_wp2
      go_ret
      exact ⟨rfl, rfl⟩
  · clear h
    go_enter Try.func39, Try.ntmps39
    go_wp2
    go_ret
    exact ⟨rfl, rfl⟩

theorem may57_yes (a n size : Int) (w : World) (h : mayP a n size) (hs : size ≤ 9223372036854775807) :
    Calls Try.prog 46 #[.int .i64 a, .int .i64 n, .int .i64 size] w fun e w' => e = .returned (.bool true) ∧ w = w' := by
  obtain ⟨h1, h2, h3, h4, h5⟩ := h
  go_enter Try.func46, Try.ntmps46
  go_wp2
  go_ret
  exact ⟨rfl, rfl⟩
theorem may57_no (a n size : Int) (w : World) (h : ¬ mayP a n size) (hs : size ≤ 9223372036854775807) :
    Calls Try.prog 46 #[.int .i64 a, .int .i64 n, .int .i64 size] w fun e w' => e = .returned (.bool false) ∧ w = w' := by
  unfold mayP at h
  by_cases h1 : 0 ≤ a
  · by_cases h2 : 0 ≤ n
    · by_cases h3 : 0 ≤ size
      · by_cases h4 : a ≤ size
        · have h5 : ¬ n ≤ size - a := by omega
          clear h
          go_enter Try.func46, Try.ntmps46
          go_wp2
          go_ret
          exact ⟨rfl, rfl⟩
        · clear h
          go_enter Try.func46, Try.ntmps46
          go_wp2
          go_ret
          exact ⟨rfl, rfl⟩
      · clear h
        go_enter Try.func46, Try.ntmps46
        go_wp2
        go_ret
        exact ⟨rfl, rfl⟩
    · clear h
      go_enter Try.func46, Try.ntmps46
      go_wp2
      go_ret
      exact ⟨rfl, rfl⟩
  · clear h
    go_enter Try.func46, Try.ntmps46
    go_wp2
    go_ret
    exact ⟨rfl, rfl⟩

theorem Try.info5 : (Try.prog.info? 5).map (fun i => (i.zero, i.size, i.bytes)) = some (some (.int .u8 0), 1, 1) := by kernel_rfl
theorem made_bytes (n : Nat) : madeCells #[.int .u8 0] n = ((List.replicate n (0 : UInt8)).map bv).toArray := by
  apply Array.ext'
  simp only [madeCells, bv, List.map_replicate]
  simp [Nat.mod_one]
  rw [List.map_const', List.length_range]

theorem mnew37_ok (n : Nat) (w : World) (h1 : 1 ≤ n) (h2 : n ≤ 64) :
    Calls Try.prog 19 #[.int .i64 n] w fun e w' => e = .returned (.tuple #[.pointer (some ⟨w.heap.size + 1, 0, none⟩), .int .i64 0]) ∧ MemAt w' 93 (w.heap.size + 1) w.heap.size (List.replicate (n * 64) 0) ∧ w'.heap.size = w.heap.size + 2 ∧ Chg (fun _ => False) w w' := by
  obtain ⟨i0, hi, hz0, hz1, hz2⟩ := info_parts Try.info5
  have hmk : ∀ W : World, (Instr.makeSlice 52 (.int .i64 ((n : Int) * 64)) (.int .i64 ((n : Int) * 64))).run Try.prog W = .ok (.slice (some ⟨W.heap.size, 0, none⟩) (n * 64) (n * 64)) (W.alloc (.cells ((List.replicate (n * 64) (0 : UInt8)).map bv).toArray 5)) := fun W => by
    have := run_make (P := Try.prog) W 52 5 i0 _ Try.underlying52 hi hz0 .i64 .i64 ((n : Int) * 64) ((n : Int) * 64) (by omega) (by omega) (by rw [hz2]; omega) (by omega)
    rw [hz1, show (Value.int IntKind.u8 0).cells = #[Value.int .u8 0] from rfl, Nat.mul_one, made_bytes] at this
    rw [show ((n : Int) * 64).toNat = n * 64 from by omega] at this
    exact this
  clear hi hz0 hz1 hz2
  go_enter Try.func19, Try.ntmps19
  go_wp2
  all_goals go_ret2
  refine ⟨rfl, ⟨by simpa using blk_new (w.alloc _) _, by simpa using blk_alloc (blk_new w (.cells (Array.replicate (n * 64) (bv 0)) 5)) _⟩, by simp, ((Chg.refl _ _).alloc _).alloc _⟩
theorem mnew37_no (n : Int) (w : World) (h1 : ¬ (1 ≤ n ∧ n ≤ 64)) :
    Calls Try.prog 19 #[.int .i64 n] w fun e w' => e = .returned (.tuple #[.pointer none, .int .i64 300]) ∧ w = w' := by
  by_cases h : 1 ≤ n
  · have h2 : ¬ n ≤ 64 := by omega
    go_enter Try.func19, Try.ntmps19
    go_wp2
    all_goals go_ret2
    all_goals exact ⟨rfl, rfl⟩
  · go_enter Try.func19, Try.ntmps19
    go_wp2
    all_goals go_ret2
    all_goals exact ⟨rfl, rfl⟩

theorem mnew38_ok (n : Nat) (w : World) (h1 : 1 ≤ n) (h2 : n ≤ 64) :
    Calls Try.prog 20 #[.int .i64 n] w fun e w' => e = .returned (.tuple #[.pointer (some ⟨w.heap.size + 1, 0, none⟩), .int .i64 0]) ∧ MemAt w' 71 (w.heap.size + 1) w.heap.size (List.replicate (n * 64) 0) ∧ w'.heap.size = w.heap.size + 2 ∧ Chg (fun _ => False) w w' := by
  obtain ⟨i0, hi, hz0, hz1, hz2⟩ := info_parts Try.info5
  have hmk : ∀ W : World, (Instr.makeSlice 52 (.int .i64 ((n : Int) * 64)) (.int .i64 ((n : Int) * 64))).run Try.prog W = .ok (.slice (some ⟨W.heap.size, 0, none⟩) (n * 64) (n * 64)) (W.alloc (.cells ((List.replicate (n * 64) (0 : UInt8)).map bv).toArray 5)) := fun W => by
    have := run_make (P := Try.prog) W 52 5 i0 _ Try.underlying52 hi hz0 .i64 .i64 ((n : Int) * 64) ((n : Int) * 64) (by omega) (by omega) (by rw [hz2]; omega) (by omega)
    rw [hz1, show (Value.int IntKind.u8 0).cells = #[Value.int .u8 0] from rfl, Nat.mul_one, made_bytes] at this
    rw [show ((n : Int) * 64).toNat = n * 64 from by omega] at this
    exact this
  clear hi hz0 hz1 hz2
  go_enter Try.func20, Try.ntmps20
  go_wp2
  all_goals go_ret2
  refine ⟨rfl, ⟨by simpa using blk_new (w.alloc _) _, by simpa using blk_alloc (blk_new w (.cells (Array.replicate (n * 64) (bv 0)) 5)) _⟩, by simp, ((Chg.refl _ _).alloc _).alloc _⟩
theorem mnew38_no (n : Int) (w : World) (h1 : ¬ (1 ≤ n ∧ n ≤ 64)) :
    Calls Try.prog 20 #[.int .i64 n] w fun e w' => e = .returned (.tuple #[.pointer none, .int .i64 300]) ∧ w = w' := by
  by_cases h : 1 ≤ n
  · have h2 : ¬ n ≤ 64 := by omega
    go_enter Try.func20, Try.ntmps20
    go_wp2
    all_goals go_ret2
    all_goals exact ⟨rfl, rfl⟩
  · go_enter Try.func20, Try.ntmps20
    go_wp2
    all_goals go_ret2
    all_goals exact ⟨rfl, rfl⟩

set_option maxHeartbeats 400000 in
theorem size40 (p r : Nat) (bs : List UInt8) (w : World) (h : MemAt w 93 p r bs) :
    Calls Try.prog 61 #[.pointer (some ⟨p, 0, none⟩)] w fun e w' => e = .returned (.int .i64 bs.length) ∧ w = w' := by
  have c0 := h.hdr
  clear h
  go_enter Try.func61, Try.ntmps61
  go_wp2
  go_ret
  exact ⟨rfl, rfl⟩

def readS (bs : List UInt8) (a n : Int) : ByteArray := if mayP a n bs.length then str ((bs.drop a.toNat).take n.toNat) else ByteArray.empty
def errC (bs : List UInt8) (a n : Int) : Int := if mayP a n bs.length then 0 else 300
def writeB (bs : List UInt8) (a : Int) (s : ByteArray) : List UInt8 := if mayP a s.size bs.length then splice bs a.toNat s.data.toList else bs

set_option maxHeartbeats 400000 in
theorem read47 (p r : Nat) (bs : List UInt8) (a n : Int) (w : World) (h : MemAt w 93 p r bs) (hl : bs.length ≤ 4096) :
    Calls Try.prog 18 #[.pointer (some ⟨p, 0, none⟩), .int .i64 a, .int .i64 n] w fun e w' => e = .returned (.tuple #[.string (readS bs a n), .int .i64 (errC bs a n)]) ∧ w = w' := by
  have c0 := h.hdr
  unfold readS errC
  by_cases hm : mayP a n bs.length
  · rw [if_pos hm, if_pos hm]
    have hm' := hm
    obtain ⟨h1, h2, h3, h4, h5⟩ := hm'
    obtain ⟨a, rfl⟩ := Int.eq_ofNat_of_zero_le h1
    obtain ⟨n, rfl⟩ := Int.eq_ofNat_of_zero_le h2
    simp only [Int.toNat_natCast]
    by_cases he : a < bs.length
    · have hcv : ∀ c, (convert 52 9 (.slice (some ⟨r, a, none⟩) n c)).run Try.prog w = .ok (.string (str ((bs.drop a).take n))) w := fun c => mem_string h a n c (by omega)
      clear h
      generalize str ((bs.drop a).take n) = s at *
      have hna : ¬ bs.length = a := by omega
      go_enter Try.func18, Try.ntmps18
      go_wp2_with fail
      refine (may56_yes _ _ _ _ hm (by omega)).mono ?_
      rintro e w' ⟨rfl, rfl⟩
      clear hm
      go_wp2
      go_ret2
      exact ⟨rfl, rfl⟩
    · obtain rfl : n = 0 := by omega
      obtain rfl : a = bs.length := by omega
      have hcv : ∀ c, (convert 52 9 (.slice (some ⟨r, 0, none⟩) 0 c)).run Try.prog w = .ok (.string (str [])) w := fun c => by simpa using mem_string h 0 0 c (by omega)
      clear h he
      rw [List.take_zero]
      generalize str [] = s at *
      go_enter Try.func18, Try.ntmps18
      go_wp2_with fail
      refine (may56_yes _ _ _ _ hm (by omega)).mono ?_
      rintro e w' ⟨rfl, rfl⟩
      clear hm
      go_wp2
      go_ret2
      exact ⟨rfl, rfl⟩
  · rw [if_neg hm, if_neg hm]
    clear h
    go_enter Try.func18, Try.ntmps18
    go_wp2_with fail
    refine (may56_no _ _ _ _ hm (by omega)).mono ?_
    rintro e w' ⟨rfl, rfl⟩
    clear hm
    go_wp2
    go_ret2
    exact ⟨rfl, rfl⟩

set_option maxHeartbeats 400000 in
theorem write41 (p r : Nat) (bs : List UInt8) (a : Int) (s : ByteArray) (w : World) (h : MemAt w 93 p r bs) (hl : bs.length ≤ 4096) (hs : s.size ≤ 140737488351232) :
    Calls Try.prog 21 #[.pointer (some ⟨p, 0, none⟩), .int .i64 a, .string s] w fun e w' => e = .returned (.int .i64 (errC bs a s.size)) ∧ MemAt w' 93 p r (writeB bs a s) ∧ Chg (fun k => k = r) w w' := by
  have c0 := h.hdr
  unfold writeB errC
  by_cases hm : mayP a s.size bs.length
  · rw [if_pos hm, if_pos hm]
    have hm' := hm
    obtain ⟨h1, h2, h3, h4, h5⟩ := hm'
    obtain ⟨a, rfl⟩ := Int.eq_ofNat_of_zero_le h1
    rw [Int.toNat_natCast]
    have hsl : s.data.toList.length = s.size := by simp
    have hfin := h.splice (by decide) a s.data.toList (by omega)
    clear hsl
    have HF := Lib.hid hfin; clear hfin
    by_cases he : a < bs.length
    · have hcp : ∀ ty c, (Builtin.copy_ #[52, 9] ty #[.slice (some ⟨r, a, none⟩) (bs.length - a) c, .string s]).run Try.prog w = .ok (.int .i64 s.size) (w.setCells r a (s.data.toList.map bv)) := fun ty c => mem_copy h ty a _ c s (by omega) (by omega)
      clear h
      have hna : ¬ bs.length = a := by omega
      generalize s.data.toList.map bv = vs at *
      go_enter Try.func21, Try.ntmps21
      go_wp2_with fail
      refine (may56_yes _ _ _ _ hm (by omega)).mono ?_
      rintro e w' ⟨rfl, rfl⟩
      clear hm
      go_wp2
      go_ret
      exact ⟨rfl, HF.out⟩
    · have hs0 : s.size = 0 := by omega
      obtain rfl : a = bs.length := by omega
      have hcp : ∀ ty c, (Builtin.copy_ #[52, 9] ty #[.slice (some ⟨r, 0, none⟩) 0 c, .string s]).run Try.prog w = .ok (.int .i64 0) w := fun ty c => by
        have := mem_copy h ty 0 0 c s (by omega) (by omega)
        have hl0 : s.data.toList = [] := by
          have : s.data.toList.length = 0 := by simpa using hs0
          exact List.length_eq_zero_iff.1 this
        rw [hl0, hs0] at this
        exact this
      have hl0 : s.data.toList = [] := by
        have : s.data.toList.length = 0 := by simpa using hs0
        exact List.length_eq_zero_iff.1 this
      have H : Hid (MemAt w 93 p r (splice bs bs.length s.data.toList)) := by show MemAt w 93 p r _; rw [hl0, splice_nil]; exact h
      clear h he HF hl0
      have HS := Lib.hid hs0; clear hs0
      generalize splice bs bs.length s.data.toList = bs' at *
      go_enter Try.func21, Try.ntmps21
      go_wp2_with fail
      refine (may56_yes _ _ _ _ hm (by omega)).mono ?_
      rintro e w' ⟨rfl, rfl⟩
      clear hm
      go_wp2
      go_ret
      exact ⟨rfl, H.out, Chg.refl _ _⟩
  · rw [if_neg hm, if_neg hm]
    have H := Lib.hid h; clear h
    go_enter Try.func21, Try.ntmps21
    go_wp2_with fail
    refine (may56_no _ _ _ _ hm (by omega)).mono ?_
    rintro e w' ⟨rfl, rfl⟩
    clear hm
    go_wp2
    go_ret
    exact ⟨rfl, H.out, Chg.refl _ _⟩

end Go.Proofs.Ytnallfehffhaeaa
