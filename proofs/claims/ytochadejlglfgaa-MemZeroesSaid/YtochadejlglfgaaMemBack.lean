/- The law MemBack. -/
import Derived.Test.YtochadejlglfgaaMemForms
import Derived.BigQuiet
namespace Go.Proofs.Ytochadejlglfgaa
open Go.RowKit

/-- One byte as a string. -/
theorem conv1 (v : Int) (W : World) (c : Nat) : (convert 77 9 (.slice (some ⟨W.heap.size, 0, none⟩) 1 c)).run Try.prog (W.alloc (.cells #[.int .u8 v] 5)) = .ok (.string (strOfNums [v])) (W.alloc (.cells #[.int .u8 v] 5)) :=
  run_convert_bytes_arg (P := Try.prog) (w := W.alloc (.cells #[.int .u8 v] 5)) 77 5 Try.underlying77 Try.underlying5 _ 0 1 c [v] (by simp) (fun i hi => by
    rw [blk_cell (blk_new W (.cells #[.int .u8 v] 5))]
    obtain rfl : i = 0 := by omega
    rfl) 9 Try.underlying9
theorem ba_list (s : ByteArray) : s.data.toList.length = s.size := by simp
theorem splice_all {α : Type} (l vs : List α) (h : vs.length = l.length) : splice l 0 vs = vs := by
  unfold splice
  rw [List.take_zero, List.nil_append, Nat.zero_add, h, List.drop_length, List.append_nil]
theorem back_eq (s t : ByteArray) (a : Nat) : str (splice s.data.toList a t.data.toList) = s.extract 0 a ++ t ++ s.extract (a + t.size) s.size := by
  apply ByteArray.ext
  apply Array.ext'
  unfold splice str
  simp only [ByteArray.data_append, ByteArray.data_extract, Array.toList_append, Array.toList_extract, ba_list]
  rw [List.extract_eq_take_drop, List.extract_eq_take_drop, List.drop_zero, Nat.sub_zero, List.take_of_length_le (l := List.drop _ _) (by rw [List.length_drop, ba_list]; omega)]
theorem back_read (s t : ByteArray) (a : Nat) (h : a + t.size ≤ s.size) : str (((splice s.data.toList a t.data.toList).drop a).take t.size) = t := by
  rw [show ((splice s.data.toList a t.data.toList).drop a).take t.size = t.data.toList from ?_]
  · rw [str_of_data]
  · unfold splice
    have h1 : (s.data.toList.take a).length = a := by rw [List.length_take, ba_list]; omega
    rw [List.append_assoc, List.drop_append_of_le_length (by omega), List.drop_of_length_le (by omega), List.nil_append, List.take_append_of_le_length (by rw [ba_list]; omega), List.take_of_length_le (by rw [ba_list]; omega)]
theorem at_of (a0 n : Int) (h1 : 1 ≤ n) (h2 : n ≤ 257) : ∃ a : Nat, wrap64 ((IntKind.u64.wrap a0).tmod n) = a ∧ (a : Int) < n := by
  have h0 : 0 ≤ IntKind.u64.wrap a0 := wrap_u64_nonneg a0
  generalize IntKind.u64.wrap a0 = z at *
  rw [Int.tmod_eq_emod_of_nonneg h0]
  have h3 := Int.emod_nonneg z (show n ≠ 0 by omega)
  have h4 := Int.emod_lt_of_pos z (show 0 < n by omega)
  generalize z % n = q at *
  refine ⟨q.toNat, ?_, by omega⟩
  unfold wrap64
  omega

set_option maxRecDepth 100000 in
set_option maxHeartbeats 4000000 in
theorem memBack_walk (w : World) (a0 : Int) (s : ByteArray) (hs : s.size ≤ 140737488351232) (x : Int) :
    Calls Try.prog 10 #[.int .i64 a0, .string s, .int .i64 x] w fun e w' => e = .returned (.bool true) ∧ Below w.heap.size w w' := by
  suffices hS : Calls Try.prog 10 #[.int .i64 a0, .string s, .int .i64 x] w fun e w' => e = .returned (.bool true) ∧ Chg (fun _ => False) w w' from hS.mono fun e w' ⟨h1, h2⟩ => ⟨h1, h2.below (Nat.le_refl _) (fun _ h => h.elim)⟩
  go_enter Try.func10, Try.ntmps10
  go_wp2_with fail
  refine (awake39 _).mono ?_
  rintro e w0 ⟨rfl, hC⟩
  by_cases hl : (s.size : Int) ≤ 200
  case neg =>
    go_wp2
    go_ret
    exact ⟨rfl, hC⟩
  go_wp2_with fail
  refine (mnew37_ok 4 w0 (by omega) (by omega)).mono ?_
  rintro e w1 ⟨rfl, h1, _, hC1⟩
  have hB := hC.size
  replace hC := hC.trans hC1
  clear hC1
  rw [show 4 * 64 = 256 from rfl] at h1
  generalize w0.heap.size = B at *
  have hcv := conv1
  go_wp2_with fail
  refine (num16 _ _).mono ?_
  rintro e w2 ⟨rfl, rfl⟩
  obtain ⟨a, ha, ha2⟩ := at_of a0 (256 - s.size + 1) (by omega) (by omega)
  go_wp2_with fail
  rw [ha]
  have ha3 : a + s.size ≤ 256 := by omega
  clear ha ha2
  generalize (256 - (s.size : Int) + 1) = q1 at *
  go_loopw [10, 11] (fun s10 i wr => ∃ j : Nat, j ≤ 256 ∧ i = .int .i64 j ∧ (∃ all : ByteArray, all.size = j ∧ s10 = .string all) ∧ MemAt wr 117 (B + 1) B (List.replicate 256 0) ∧ Chg (fun _ => False) w wr) (fun _ i _ => 256 - (intOf i).toNat)
  case atStart => exact ⟨0, by omega, rfl, ⟨_, rfl, rfl⟩, h1, hC⟩
  case round =>
    clear h1 hC
    obtain ⟨j, hj, rfl, ⟨all, hall, rfl⟩, h1, hC⟩ := hrel
    have H1 := Lib.hid h1; clear h1
    by_cases hj4 : j < 256
    · go_wp2_with fail
      case isTrue h => exfalso; rw [strOfNums_size] at h; simp at h; omega
      refine ⟨⟨j + 1, by omega, by go_num, ⟨_, by rw [ByteArray.size_append, hall, strOfNums_size]; rfl, rfl⟩, H1.out.keep ((Chg.refl (fun _ => False) _).alloc _) (by simp) (by simp), hC.alloc _⟩, ?_⟩
      simp [intOf]; omega
    · obtain rfl : j = 256 := by omega
      clear hcv hj hj4
      go_wp2_with fail
      refine (write41 _ _ _ 0 all wr H1.out (by rw [List.length_replicate]; decide) (by omega)).mono ?_
      rintro e w2 ⟨rfl, h2, hD⟩
      have hC2 : Chg (fun _ => False) w w2 := hC.trans' hD (fun j hj h => by omega)
      clear H1 hD hC
      have m1 : mayP 0 all.size (List.replicate 256 (0 : UInt8)).length := by rw [hall, List.length_replicate]; decide
      rw [show writeB (List.replicate 256 0) 0 all = all.data.toList from by rw [writeB, if_pos m1]; exact splice_all _ _ (by rw [List.length_replicate, ba_list, hall])] at h2
      rw [show errC (List.replicate 256 0) 0 all.size = 0 from if_pos m1]
      clear m1
      go_wp2_with fail
      refine (write41 _ _ _ a s w2 h2 (by rw [ba_list]; omega) hs).mono ?_
      rintro e w3 ⟨rfl, h3, hD⟩
      have hC3 : Chg (fun _ => False) w w3 := hC2.trans' hD (fun j hj h => by omega)
      clear h2 hD hC2
      have m1 : mayP a s.size all.data.toList.length := by rw [ba_list, hall]; unfold mayP; omega
      rw [show writeB all.data.toList a s = splice all.data.toList a s.data.toList from if_pos m1] at h3
      rw [show errC all.data.toList a s.size = 0 from if_pos m1]
      clear m1
      have hlen : (splice all.data.toList a s.data.toList).length = 256 := by rw [splice_len _ _ _ (by rw [ba_list, ba_list]; omega), ba_list, hall]
      go_wp2_with fail
      refine (read47 _ _ _ 0 256 w3 h3 (by rw [hlen]; decide)).mono ?_
      rintro e w4 ⟨rfl, rfl⟩
      rw [show errC (splice all.data.toList a s.data.toList) 0 256 = 0 from if_pos (by rw [hlen]; decide)]
      rw [show readS (splice all.data.toList a s.data.toList) 0 256 = str (splice all.data.toList a s.data.toList) from by
        rw [readS, if_pos (by rw [hlen]; decide)]
        rw [show (0 : Int).toNat = 0 from rfl, List.drop_zero, List.take_of_length_le (by rw [hlen]; decide)]]
      go_wp2_with fail
      refine (read47 _ _ _ a s.size w3 h3 (by rw [hlen]; decide)).mono ?_
      rintro e w4 ⟨rfl, rfl⟩
      have m1 : mayP a s.size (splice all.data.toList a s.data.toList).length := by rw [hlen]; unfold mayP; omega
      rw [show errC (splice all.data.toList a s.data.toList) a s.size = 0 from if_pos m1]
      rw [show readS (splice all.data.toList a s.data.toList) a s.size = s from by
        rw [readS, if_pos m1]
        exact back_read _ _ _ (by omega)]
      rw [back_eq]
      clear m1 h3 hlen
      have hx : (all.extract 0 a).size = a := by rw [ByteArray.size_extract]; omega
      have hy : (all.extract (a + s.size) all.size).size = 256 - (a + s.size) := by rw [ByteArray.size_extract]; omega
      have hn : ((a : Int) + s.size).toNat = a + s.size := by omega
      go_wp2_with fail
      go_quiet ((go_at_call 16; exact Calls.quiet_of_same (num16q _ _)))
      rename_i nq
      go_wp2
      go_ret
      exact ⟨rfl, hC3.drewN _⟩

end Go.Proofs.Ytochadejlglfgaa
