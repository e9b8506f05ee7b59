/- The law MemBack. -/
import Derived.Test.YtpnhdiajiieonaaMemForms
import Derived.BigQuiet
set_option linter.unusedSimpArgs false
set_option linter.unusedVariables false
namespace Go.Proofs.Ytpnhdiajiieonaa
open Go.RowKit

/-- One byte as a string. -/
theorem conv1 (v : Int) (W : World) (c : Nat) : (convert 33 9 (.slice (some ⟨W.heap.size, 0, none⟩) 1 c)).run Try.prog (W.alloc (.cells #[.int .u8 v] 5)) = .ok (.string (strOfNums [v])) (W.alloc (.cells #[.int .u8 v] 5)) :=
  run_convert_bytes_arg (P := Try.prog) (w := W.alloc (.cells #[.int .u8 v] 5)) 33 5 Try.underlying33 Try.underlying5 _ 0 1 c [v] (by simp) (fun i hi => by
    rw [blk_cell (blk_new W (.cells #[.int .u8 v] 5))]
    obtain rfl : i = 0 := by omega
    rfl) 9 Try.underlying9
theorem ba_list (s : ByteArray) : s.data.toList.length = s.size := by simp
theorem splice_all {α : Type} (l vs : List α) (h : vs.length = l.length) : splice l 0 vs = vs := by
  unfold splice
  rw [List.take_zero, List.nil_append, Nat.zero_add, h, List.drop_length, List.append_nil]
theorem back_eq (s t : ByteArray) (a : Nat) : str (splice s.data.toList a t.data.toList) = s.extract 0 a ++ t ++ s.extract (a + t.size) s.size := by
  apply ByteArray.ext
  apply Array.ext'
  unfold splice str
  simp only [ByteArray.data_append, ByteArray.data_extract, Array.toList_append, Array.toList_extract, ba_list]
  rw [List.extract_eq_take_drop, List.extract_eq_take_drop, List.drop_zero, Nat.sub_zero, List.take_of_length_le (l := List.drop _ _) (by rw [List.length_drop, ba_list]; omega)]
theorem back_read (s t : ByteArray) (a : Nat) (h : a + t.size ≤ s.size) : str (((splice s.data.toList a t.data.toList).drop a).take t.size) = t := by
  rw [show ((splice s.data.toList a t.data.toList).drop a).take t.size = t.data.toList from ?_]
  · rw [str_of_data]
  · unfold splice
    have h1 : (s.data.toList.take a).length = a := by rw [List.length_take, ba_list]; omega
    rw [List.append_assoc, List.drop_append_of_le_length (by omega), List.drop_of_length_le (by omega), List.nil_append, List.take_append_of_le_length (by rw [ba_list]; omega), List.take_of_length_le (by rw [ba_list]; omega)]
theorem at_of (a0 n : Int) (h1 : 1 ≤ n) (h2 : n ≤ 257) : ∃ a : Nat, wrap64 ((IntKind.u64.wrap a0).tmod n) = a ∧ (a : Int) < n := by
  have h0 : 0 ≤ IntKind.u64.wrap a0 := wrap_u64_nonneg a0
  generalize IntKind.u64.wrap a0 = z at *
  rw [Int.tmod_eq_emod_of_nonneg h0]
  have h3 := Int.emod_nonneg z (show n ≠ 0 by omega)
  have h4 := Int.emod_lt_of_pos z (show 0 < n by omega)
  generalize z % n = q at *
  refine ⟨q.toNat, ?_, by omega⟩
  unfold wrap64
  omega


end Go.Proofs.Ytpnhdiajiieonaa
