/- The law MemZeroes. -/
import Derived.Test.YtochadejlglfgaaMemBack
import Derived.Deep.RegionHeld3
import Derived.IntWalk
namespace Go.Proofs.Ytochadejlglfgaa
open Go.RowKit
attribute [local go_sem] i64_and3

theorem zero_eq (s : ByteArray) (a : Nat) : str (splice s.data.toList a (List.replicate 64 0)) = s.extract 0 a ++ str (List.replicate 64 0) ++ s.extract (a + 64) s.size := by
  have h := back_eq s (str (List.replicate 64 0)) a
  rw [str_data, str_size, List.length_replicate] at h
  exact h

theorem conv77d (n : Nat) (W : World) (c : Nat) : (convert 77 9 (.slice (some ⟨W.heap.size, 0, none⟩) n c)).run Try.prog (W.alloc (.cells ((List.replicate n (0 : UInt8)).map bv).toArray 5)).drew = .ok (.string (str (List.replicate n 0))) (W.alloc (.cells ((List.replicate n (0 : UInt8)).map bv).toArray 5)).drew := by
  have h0 : (W.alloc (.cells ((List.replicate n (0 : UInt8)).map bv).toArray 5)).drew.heap[W.heap.size]? = some (.cells ((List.replicate n (0 : UInt8)).map bv).toArray 5 (0, 0)) := blk_new W (.cells ((List.replicate n (0 : UInt8)).map bv).toArray 5)
  have := blk_string h0 c
  rw [List.length_replicate] at this
  exact this

set_option maxRecDepth 100000 in
set_option maxHeartbeats 4000000 in
theorem memZeroes_walk (w : World) (t : ByteArray) (ht : t.size ≤ 140737488351232) (f : Int) :
    Calls Try.prog 13 #[.string t, .int .i64 f] w fun e w' => e = .returned (.bool true) ∧ Below w.heap.size w w' := by
  suffices hS : Calls Try.prog 13 #[.string t, .int .i64 f] w fun e w' => e = .returned (.bool true) ∧ Chg (fun _ => False) w w' from hS.mono fun e w' ⟨h1, h2⟩ => ⟨h1, h2.below (Nat.le_refl _) (fun _ h => h.elim)⟩
  go_enter Try.func13, Try.ntmps13
  go_wp2_with fail
  refine (awake39 _).mono ?_
  rintro e w0 ⟨rfl, hC⟩
  go_wp2_with fail
  refine (mnew37_ok 4 w0 (by omega) (by omega)).mono ?_
  rintro e w1 ⟨rfl, h1, _, hC1⟩
  have hB := hC.size
  replace hC := hC.trans hC1
  clear hC1
  rw [show 4 * 64 = 256 from rfl] at h1
  generalize w0.heap.size = B at *
  have hcv := conv1
  go_wp2_with fail
  refine (num16 _ _).mono ?_
  rintro e w2 ⟨rfl, rfl⟩
  go_wp2_with fail
  go_loopw [7, 8] (fun s10 i wr => ∃ j : Nat, j ≤ 256 ∧ i = .int .i64 j ∧ (∃ all : ByteArray, all.size = j ∧ s10 = .string all) ∧ MemAt wr 117 (B + 1) B (List.replicate 256 0) ∧ Chg (fun _ => False) w wr) (fun _ i _ => 256 - (intOf i).toNat)
  case atStart => exact ⟨0, by omega, rfl, ⟨_, rfl, rfl⟩, h1, hC⟩
  case round =>
    clear h1 hC
    obtain ⟨j, hj, rfl, ⟨all, hall, rfl⟩, h1, hC⟩ := hrel
    have H1 := Lib.hid h1; clear h1
    by_cases hj4 : j < 256
    · go_wp2_with fail
      all_goals first
        | (case isTrue h => exfalso; rw [strOfNums_size] at h; simp at h; omega)
        | (refine ⟨⟨j + 1, by omega, by go_num, ⟨_, by rw [ByteArray.size_append, hall, strOfNums_size]; rfl, rfl⟩, H1.out.keep ((Chg.refl (fun _ => False) _).alloc _) (by simp) (by simp), hC.alloc _⟩, ?_⟩
           simp [intOf]; omega)
        | skip
    · obtain rfl : j = 256 := by omega
      clear hcv hj hj4
      go_wp2_with fail
      refine (write41 _ _ _ 0 all wr H1.out (by rw [List.length_replicate]; decide) (by omega)).mono ?_
      rintro e w2 ⟨rfl, h2, hD⟩
      have hC2 : Chg (fun _ => False) w w2 := hC.trans' hD (fun j hj h => by omega)
      clear H1 hD hC
      have m1 : mayP 0 all.size (List.replicate 256 (0 : UInt8)).length := by rw [hall, List.length_replicate]; decide
      rw [show writeB (List.replicate 256 0) 0 all = all.data.toList from by rw [writeB, if_pos m1]; exact splice_all _ _ (by rw [List.length_replicate, ba_list, hall])] at h2
      rw [show errC (List.replicate 256 0) 0 all.size = 0 from if_pos m1]
      clear m1
      go_wp2_with fail
      obtain ⟨k, hk, hk4⟩ : ∃ k : Nat, f % 4 = k ∧ k < 4 := ⟨(f % 4).toNat, by omega, by omega⟩
      rw [hk]
      clear hk
      refine (zero45 _ _ _ k w2 h2 (by rw [ba_list]; omega)).mono ?_
      rintro e w3 ⟨rfl, h3, hD⟩
      have hC3 : Chg (fun _ => False) w w3 := hC2.trans' hD (fun j hj h => by omega)
      clear h2 hD hC2
      have m1 : frameP all.data.toList k := by rw [frameP, ba_list, hall]; omega
      rw [show zeroB all.data.toList k = splice all.data.toList (64 * k) (List.replicate 64 0) from by rw [zeroB, if_pos m1, Int.toNat_natCast, Nat.mul_comm]] at h3
      rw [show zeroC all.data.toList k = 0 from if_pos m1]
      clear m1
      have hlen : (splice all.data.toList (64 * k) (List.replicate 64 0)).length = 256 := by rw [splice_len _ _ _ (by rw [ba_list, List.length_replicate]; omega), ba_list, hall]
      go_wp2_with fail
      refine (read47 _ _ _ 0 256 w3 h3 (by rw [hlen]; decide)).mono ?_
      rintro e w4 ⟨rfl, rfl⟩
      rw [show errC (splice all.data.toList (64 * k) (List.replicate 64 0)) 0 256 = 0 from if_pos (by rw [hlen]; decide)]
      rw [show readS (splice all.data.toList (64 * k) (List.replicate 64 0)) 0 256 = str (splice all.data.toList (64 * k) (List.replicate 64 0)) from by
        rw [readS, if_pos (by rw [hlen]; decide)]
        rw [show (0 : Int).toNat = 0 from rfl, List.drop_zero, List.take_of_length_le (by rw [hlen]; decide)]]
      rw [zero_eq]
      clear h3 hlen
      have hx : (all.extract 0 (64 * k)).size = 64 * k := by rw [ByteArray.size_extract]; omega
      have hy : (all.extract (64 * k + 64) all.size).size = 256 - (64 * k + 64) := by rw [ByteArray.size_extract]; omega
      have hn : (64 * (k : Int) + 64).toNat = 64 * k + 64 := by omega
      have hn2 : (64 * (k : Int)).toNat = 64 * k := by omega
      have hmk : ∀ W : World, (Instr.makeSlice 77 (.int .i64 64) (.int .i64 64)).run Try.prog W = _ := make77 64 (by decide)
      have hcv := conv77d 64
      have hz : (str (List.replicate 64 0)).size = 64 := by rw [str_size]; rfl
      generalize ((List.replicate 64 (0 : UInt8)).map bv).toArray = X at *
      generalize str (List.replicate 64 0) = Y at *
      have hs1 : ∀ W : World, (Instr.slice 9 (.string all) none (some (.int .i64 (64 * (k : Int)))) none).run Try.prog W = .ok (.string (all.extract 0 (64 * k))) W := fun W => by
        rw [run_slice_string_h W 9 all Try.underlying9 _ _ (by omega) (by omega), hn2]
      have hs2 : ∀ W : World, (Instr.slice 9 (.string all) (some (.int .i64 (64 * (k : Int) + 64))) none none).run Try.prog W = .ok (.string (all.extract (64 * k + 64) all.size)) W := fun W => by
        rw [run_slice_string_l W 9 all Try.underlying9 _ _ (by omega) (by omega), hn]
      have b1 : (0 : Int) ≤ 64 * (k : Int) := by omega
      have b2 : (0 : Int) ≤ 64 * (k : Int) + 64 := by omega
      have b3 : 64 * (k : Int) ≤ 256 := by omega
      have b4 : 64 * (k : Int) + 64 ≤ 256 := by omega
      have v1 : IntKind.i64.wrap (64 * (k : Int)) = 64 * (k : Int) := IntWalk.i64_in _ (by omega)
      have v2 : IntKind.i64.wrap (64 * (k : Int) + 64) = 64 * (k : Int) + 64 := IntWalk.i64_in _ (by omega)
      clear hn hn2
      generalize all.extract 0 (64 * k) = A1 at *
      generalize all.extract (64 * k + 64) all.size = A2 at *
      have z1 : (A1 ++ Y).size = 64 * k + 64 := by rw [ByteArray.size_append]; omega
      have z2 : (A1 ++ Y ++ A2).size = 256 := by rw [ByteArray.size_append]; omega
      have o1 : ¬ 9223372036854775807 < A1.size + Y.size := by omega
      have o2 : ¬ 9223372036854775807 < (A1 ++ Y).size + A2.size := by rw [ByteArray.size_append]; omega
      have o3 : ¬ 9223372036854775807 < A1.size + Y.size + A2.size := by omega
      clear hB b1 b2 b3 b4 hk4 hx hy hz z1 z2
      go_wp2_with fail
      go_region_held3 (fun _ => True) (trivial) ((go_at_call 16; (with_reducible refine (num16 _ _).mono ?_); rintro e w6 ⟨rfl, rfl⟩))
      all_goals
        go_wp2
        go_ret
        exact ⟨rfl, (hC3.alloc _).drew⟩

end Go.Proofs.Ytochadejlglfgaa
