/- The law MemZeroes. -/
import Derived.Test.YtpnhdiajiieonaaMemBack
import Derived.Deep.RegionHeld3
import Derived.IntWalk
set_option linter.unusedSimpArgs false
set_option linter.unusedVariables false
namespace Go.Proofs.Ytpnhdiajiieonaa
open Go.RowKit
attribute [local go_sem] i64_and3

theorem zero_eq (s : ByteArray) (a : Nat) : str (splice s.data.toList a (List.replicate 64 0)) = s.extract 0 a ++ str (List.replicate 64 0) ++ s.extract (a + 64) s.size := by
  have h := back_eq s (str (List.replicate 64 0)) a
  rw [str_data, str_size, List.length_replicate] at h
  exact h

theorem conv77d (n : Nat) (W : World) (c : Nat) : (convert 33 9 (.slice (some ⟨W.heap.size, 0, none⟩) n c)).run Try.prog (W.alloc (.cells ((List.replicate n (0 : UInt8)).map bv).toArray 5)).drew = .ok (.string (str (List.replicate n 0))) (W.alloc (.cells ((List.replicate n (0 : UInt8)).map bv).toArray 5)).drew := by
  have h0 : (W.alloc (.cells ((List.replicate n (0 : UInt8)).map bv).toArray 5)).drew.heap[W.heap.size]? = some (.cells ((List.replicate n (0 : UInt8)).map bv).toArray 5 (0, 0)) := blk_new W (.cells ((List.replicate n (0 : UInt8)).map bv).toArray 5)
  have := blk_string h0 c
  rw [List.length_replicate] at this
  exact this

set_option maxRecDepth 100000 in
set_option maxHeartbeats 4000000 in
theorem memZeroes_walk (w : World) (t : ByteArray) (ht : t.size ≤ 140737488351232) (f : Int) :
    Calls Try.prog 4 #[.string t, .int .i64 f] w fun e w' => e = .returned (.bool true) ∧ Below w.heap.size w w' := by
  suffices hS : Calls Try.prog 4 #[.string t, .int .i64 f] w fun e w' => e = .returned (.bool true) ∧ Chg (fun _ => False) w w' from hS.mono fun e w' ⟨h1, h2⟩ => ⟨h1, h2.below (Nat.le_refl _) (fun _ h => h.elim)⟩
  go_enter Try.func4, Try.ntmps4
  go_wp2_with fail
  refine (awake39 _).mono ?_
  rintro e w0 ⟨rfl, hC⟩
  go_wp2_with fail
  refine (mnew37_ok 4 w0 (by omega) (by omega)).mono ?_
  rintro e w1 ⟨rfl, h1, _, hC1⟩
  have hB := hC.size
  replace hC := hC.trans hC1
  clear hC1
  rw [show 4 * 64 = 256 from rfl] at h1
  generalize w0.heap.size = B at *
  have hcv := conv1
  go_wp2_with fail
  refine (num16 _ _).mono ?_
  rintro e w2 ⟨rfl, rfl⟩
  go_wp2_with fail
  go_loopw [7, 8] (fun s10 i wr => ∃ j : Nat, j ≤ 256 ∧ i = .int .i64 j ∧ (∃ all : ByteArray, all.size = j ∧ s10 = .string all) ∧ MemAt wr 141 (B + 1) B (List.replicate 256 0) ∧ Chg (fun _ => False) w wr) (fun _ i _ => 256 - (intOf i).toNat)
  case atStart => exact ⟨0, by omega, rfl, ⟨_, rfl, rfl⟩, h1, hC⟩
  case round =>
    clear h1 hC
    obtain ⟨j, hj, rfl, ⟨all, hall, rfl⟩, h1, hC⟩ := hrel
    have H1 := Lib.hid h1; clear h1
    by_cases hj4 : j < 256
    · go_wp2_with fail
      all_goals first
        | (case isTrue h => exfalso; rw [strOfNums_size] at h; simp at h; omega)
        | (refine ⟨⟨j + 1, by omega, by go_num, ⟨_, by rw [ByteArray.size_append, hall, strOfNums_size]; rfl, rfl⟩, H1.out.keep ((Chg.refl (fun _ => False) _).alloc _) (by simp) (by simp), hC.alloc _⟩, ?_⟩
           simp [intOf]; omega)
        | skip
    · obtain rfl : j = 256 := by omega
      clear hcv hj hj4
      go_wp2_with fail
      refine (write41 _ _ _ 0 all wr H1.out (by rw [List.length_replicate]; decide) (by omega)).mono ?_
      rintro e w2 ⟨rfl, h2, hD⟩
      have hC2 : Chg (fun _ => False) w w2 := hC.trans' hD (fun j hj h => by omega)
      clear H1 hD hC
      have m1 : mayP 0 all.size (List.replicate 256 (0 : UInt8)).length := by rw [hall, List.length_replicate]; decide
      rw [show writeB (List.replicate 256 0) 0 all = all.data.toList from by rw [writeB, if_pos m1]; exact splice_all _ _ (by rw [List.length_replicate, ba_list, hall])] at h2
      rw [show errC (List.replicate 256 0) 0 all.size = 0 from if_pos m1]
      clear m1
      go_wp2_with fail
      obtain ⟨k, hk, hk4⟩ : ∃ k : Nat, f % 4 = k ∧ k < 4 := ⟨(f % 4).toNat, by omega, by omega⟩
      rw [hk]
      clear hk
      refine (zero45 _ _ _ k w2 h2 (by rw [ba_list]; omega)).mono ?_
      rintro e w3 ⟨rfl, h3, hD⟩
      have hC3 : Chg (fun _ => False) w w3 := hC2.trans' hD (fun j hj h => by omega)
      clear h2 hD hC2
      have m1 : frameP all.data.toList k := by rw [frameP, ba_list, hall]; omega
      rw [show zeroB all.data.toList k = splice all.data.toList (64 * k) (List.replicate 64 0) from by rw [zeroB, if_pos m1, Int.toNat_natCast, Nat.mul_comm]] at h3
      rw [show zeroC all.data.toList k = 0 from if_pos m1]
      clear m1
      have hlen : (splice all.data.toList (64 * k) (List.replicate 64 0)).length = 256 := by rw [splice_len _ _ _ (by rw [ba_list, List.length_replicate]; omega), ba_list, hall]
      go_wp2_with fail
      refine (read47 _ _ _ 0 256 w3 h3 (by rw [hlen]; decide)).mono ?_
      rintro e w4 ⟨rfl, rfl⟩
      rw [show errC (splice all.data.toList (64 * k) (List.replicate 64 0)) 0 256 = 0 from if_pos (by rw [hlen]; decide)]
      rw [show readS (splice all.data.toList (64 * k) (List.replicate 64 0)) 0 256 = str (splice all.data.toList (64 * k) (List.replicate 64 0)) from by
        rw [readS, if_pos (by rw [hlen]; decide)]
        rw [show (0 : Int).toNat = 0 from rfl, List.drop_zero, List.take_of_length_le (by rw [hlen]; decide)]]
      rw [zero_eq]
      clear h3 hlen
      have hx : (all.extract 0 (64 * k)).size = 64 * k := by rw [ByteArray.size_extract]; omega
      have hy : (all.extract (64 * k + 64) all.size).size = 256 - (64 * k + 64) := by rw [ByteArray.size_extract]; omega
      have hn : (64 * (k : Int) + 64).toNat = 64 * k + 64 := by omega
      have hn2 : (64 * (k : Int)).toNat = 64 * k := by omega
      have hmk : ∀ W : World, (Instr.makeSlice 33 (.int .i64 64) (.int .i64 64)).run Try.prog W = _ := make77 64 (by decide)
      have hcv := conv77d 64
      have hz : (str (List.replicate 64 0)).size = 64 := by rw [str_size]; rfl
      generalize ((List.replicate 64 (0 : UInt8)).map bv).toArray = X at *
      generalize str (List.replicate 64 0) = Y at *
      have hs1 : ∀ W : World, (Instr.slice 9 (.string all) none (some (.int .i64 (64 * (k : Int)))) none).run Try.prog W = .ok (.string (all.extract 0 (64 * k))) W := fun W => by
        rw [run_slice_string_h W 9 all Try.underlying9 _ _ (by omega) (by omega), hn2]
      have hs2 : ∀ W : World, (Instr.slice 9 (.string all) (some (.int .i64 (64 * (k : Int) + 64))) none none).run Try.prog W = .ok (.string (all.extract (64 * k + 64) all.size)) W := fun W => by
        rw [run_slice_string_l W 9 all Try.underlying9 _ _ (by omega) (by omega), hn]
      have b1 : (0 : Int) ≤ 64 * (k : Int) := by omega
      have b2 : (0 : Int) ≤ 64 * (k : Int) + 64 := by omega
      have b3 : 64 * (k : Int) ≤ 256 := by omega
      have b4 : 64 * (k : Int) + 64 ≤ 256 := by omega
      have v1 : IntKind.i64.wrap (64 * (k : Int)) = 64 * (k : Int) := IntWalk.i64_in _ (by omega)
      have v2 : IntKind.i64.wrap (64 * (k : Int) + 64) = 64 * (k : Int) + 64 := IntWalk.i64_in _ (by omega)
      clear hn hn2
      generalize all.extract 0 (64 * k) = A1 at *
      generalize all.extract (64 * k + 64) all.size = A2 at *
      have z1 : (A1 ++ Y).size = 64 * k + 64 := by rw [ByteArray.size_append]; omega
      have z2 : (A1 ++ Y ++ A2).size = 256 := by rw [ByteArray.size_append]; omega
      have o1 : ¬ 9223372036854775807 < A1.size + Y.size := by omega
      have o2 : ¬ 9223372036854775807 < (A1 ++ Y).size + A2.size := by rw [ByteArray.size_append]; omega
      have o3 : ¬ 9223372036854775807 < A1.size + Y.size + A2.size := by omega
      clear hB b1 b2 b3 b4 hk4 hx hy hz z1 z2
      go_wp2_with fail
      refine wp_region_held_drew (S := fun _ => True) (by kernel_rfl) trivial (fun hHeld => ?_)
      refine wpAnyH_take (i := 0) (oi := ({ dst := some 60, op := Go.Op.move (Go.Operand.tmp 10), type := 24, pos := "deep.go:30", after := #[], guard := none } : Oper)) (v := ?_) rfl (by kernel_rfl) (by kernel_rfl) (by kernel_rfl) (fun _ _ _ h => h) (Or.inl ⟨by rfl, ?_⟩) (by assumption) ?_
      rotate_left
      · (intro w hSw; (try dsimp only at hSw); go_simp; try with_reducible rfl)
      try simp only [Act.put, List.setIfInBounds_toArray, List.set_cons_zero, List.set_cons_succ]
      refine wpAnyH_ready (rs := [1]) (by kernel_rfl) (by simp) ?_
      refine AllReadyH.cons rfl (fun K hK => ?_) AllReadyH.nil
      go_simp
      (go_at_call 27; (with_reducible refine (num16 _ _).mono ?_); rintro e w6 ⟨rfl, rfl⟩)
      refine hK.out _ _ trivial (fun hHeld => ?_)
      clear hK K
      try simp only [Act.put, List.setIfInBounds_toArray, List.set_cons_zero, List.set_cons_succ]
      refine wpAnyH_take (i := 2) (oi := ({ dst := some 62, op := Go.Op.binOp Go.BinOp.eql 3 (Go.Operand.tmp 61) (Go.Operand.const (Go.Value.int Go.IntKind.i64 0)) 3, type := 4, pos := "deep.go:30", after := #[{ on := 1, ground := Go.Ground.data }], guard := none } : Oper)) (v := ?_) rfl (by kernel_rfl) (by kernel_rfl) (by kernel_rfl) (fun _ _ _ h => h) (Or.inl ⟨by rfl, ?_⟩) (by assumption) ?_
      rotate_left
      · (intro w hSw; (try dsimp only at hSw); go_simp; try with_reducible rfl)
      try simp only [Act.put, List.setIfInBounds_toArray, List.set_cons_zero, List.set_cons_succ]
      refine wpAnyH_take (i := 3) (oi := ({ dst := some 63, op := Go.Op.move (Go.Operand.tmp 62), type := 4, pos := "deep.go:30", after := #[{ on := 2, ground := Go.Ground.data }, { on := 1, ground := Go.Ground.chain }], guard := none } : Oper)) (v := ?_) rfl (by kernel_rfl) (by kernel_rfl) (by kernel_rfl) (fun _ _ _ h => h) (Or.inl ⟨by rfl, ?_⟩) (by assumption) ?_
      rotate_left
      · (intro w hSw; (try dsimp only at hSw); go_simp; try with_reducible rfl)
      try simp only [Act.put, List.setIfInBounds_toArray, List.set_cons_zero, List.set_cons_succ]
      refine wpAnyH_take (i := 4) (oi := ({ dst := some 64, op := Go.Op.move (Go.Operand.tmp 12), type := 24, pos := "deep.go:30", after := #[{ on := 3, ground := Go.Ground.guard }], guard := some (3, true) } : Oper)) (v := ?_) rfl (by kernel_rfl) (by kernel_rfl) (by kernel_rfl) (fun _ _ _ h => h) (Or.inl ⟨by rfl, ?_⟩) (by assumption) ?_
      rotate_left
      · (intro w hSw; (try dsimp only at hSw); go_simp; try with_reducible rfl)
      try simp only [Act.put, List.setIfInBounds_toArray, List.set_cons_zero, List.set_cons_succ]
      refine wpAnyH_ready (rs := [5]) (by kernel_rfl) (by simp) ?_
      refine AllReadyH.cons rfl (fun K hK => ?_) AllReadyH.nil
      go_simp
      (go_at_call 27; (with_reducible refine (num16 _ _).mono ?_); rintro e w6 ⟨rfl, rfl⟩)
      refine hK.out _ _ trivial (fun hHeld => ?_)
      clear hK K
      try simp only [Act.put, List.setIfInBounds_toArray, List.set_cons_zero, List.set_cons_succ]
      refine wpAnyH_take (i := 6) (oi := ({ dst := some 66, op := Go.Op.binOp Go.BinOp.eql 3 (Go.Operand.tmp 65) (Go.Operand.const (Go.Value.int Go.IntKind.i64 0)) 3, type := 4, pos := "deep.go:30", after := #[{ on := 5, ground := Go.Ground.data }, { on := 3, ground := Go.Ground.guard }], guard := some (3, true) } : Oper)) (v := ?_) rfl (by kernel_rfl) (by kernel_rfl) (by kernel_rfl) (fun _ _ _ h => h) (Or.inl ⟨by rfl, ?_⟩) (by assumption) ?_
      rotate_left
      · (intro w hSw; (try dsimp only at hSw); go_simp; try with_reducible rfl)
      try simp only [Act.put, List.setIfInBounds_toArray, List.set_cons_zero, List.set_cons_succ]
      refine wpAnyH_take (i := 7) (oi := ({ dst := some 67, op := Go.Op.pick (Go.Operand.tmp 63) (Go.Operand.tmp 66) (Go.Operand.const (Go.Value.bool false)), type := 4, pos := "deep.go:30", after := #[{ on := 3, ground := Go.Ground.data }, { on := 6, ground := Go.Ground.data }], guard := none } : Oper)) (v := ?_) rfl (by kernel_rfl) (by kernel_rfl) (by kernel_rfl) (fun _ _ _ h => h) (Or.inl ⟨by rfl, ?_⟩) (by assumption) ?_
      rotate_left
      · (intro w hSw; (try dsimp only at hSw); go_simp; try with_reducible rfl)
      try simp only [Act.put, List.setIfInBounds_toArray, List.set_cons_zero, List.set_cons_succ]
      refine wpAnyH_take (i := 8) (oi := ({ dst := some 68, op := Go.Op.move (Go.Operand.tmp 67), type := 4, pos := "deep.go:30", after := #[{ on := 7, ground := Go.Ground.data }, { on := 5, ground := Go.Ground.chain }], guard := none } : Oper)) (v := ?_) rfl (by kernel_rfl) (by kernel_rfl) (by kernel_rfl) (fun _ _ _ h => h) (Or.inl ⟨by rfl, ?_⟩) (by assumption) ?_
      rotate_left
      · (intro w hSw; (try dsimp only at hSw); go_simp; try with_reducible rfl)
      try simp only [Act.put, List.setIfInBounds_toArray, List.set_cons_zero, List.set_cons_succ]
      refine wpAnyH_take (i := 9) (oi := ({ dst := some 69, op := Go.Op.move (Go.Operand.tmp 14), type := 24, pos := "deep.go:30", after := #[{ on := 8, ground := Go.Ground.guard }], guard := some (8, true) } : Oper)) (v := ?_) rfl (by kernel_rfl) (by kernel_rfl) (by kernel_rfl) (fun _ _ _ h => h) (Or.inl ⟨by rfl, ?_⟩) (by assumption) ?_
      rotate_left
      · (intro w hSw; (try dsimp only at hSw); go_simp; try with_reducible rfl)
      try simp only [Act.put, List.setIfInBounds_toArray, List.set_cons_zero, List.set_cons_succ]
      refine wpAnyH_ready (rs := [10]) (by kernel_rfl) (by simp) ?_
      refine AllReadyH.cons rfl (fun K hK => ?_) AllReadyH.nil
      go_simp
      (go_at_call 27; (with_reducible refine (num16 _ _).mono ?_); rintro e w6 ⟨rfl, rfl⟩)
      refine hK.out _ _ trivial (fun hHeld => ?_)
      clear hK K
      try simp only [Act.put, List.setIfInBounds_toArray, List.set_cons_zero, List.set_cons_succ]
      refine wpAnyH_take (i := 11) (oi := ({ dst := some 71, op := Go.Op.binOp Go.BinOp.eql 3 (Go.Operand.tmp 70) (Go.Operand.const (Go.Value.int Go.IntKind.i64 0)) 3, type := 4, pos := "deep.go:30", after := #[{ on := 10, ground := Go.Ground.data }, { on := 8, ground := Go.Ground.guard }], guard := some (8, true) } : Oper)) (v := ?_) rfl (by kernel_rfl) (by kernel_rfl) (by kernel_rfl) (fun _ _ _ h => h) (Or.inl ⟨by rfl, ?_⟩) (by assumption) ?_
      rotate_left
      · (intro w hSw; (try dsimp only at hSw); go_simp; try with_reducible rfl)
      try simp only [Act.put, List.setIfInBounds_toArray, List.set_cons_zero, List.set_cons_succ]
      refine wpAnyH_take (i := 12) (oi := ({ dst := some 72, op := Go.Op.pick (Go.Operand.tmp 68) (Go.Operand.tmp 71) (Go.Operand.const (Go.Value.bool false)), type := 4, pos := "deep.go:30", after := #[{ on := 8, ground := Go.Ground.data }, { on := 11, ground := Go.Ground.data }], guard := none } : Oper)) (v := ?_) rfl (by kernel_rfl) (by kernel_rfl) (by kernel_rfl) (fun _ _ _ h => h) (Or.inl ⟨by rfl, ?_⟩) (by assumption) ?_
      rotate_left
      · (intro w hSw; (try dsimp only at hSw); go_simp; try with_reducible rfl)
      try simp only [Act.put, List.setIfInBounds_toArray, List.set_cons_zero, List.set_cons_succ]
      refine wpAnyH_take (i := 13) (oi := ({ dst := some 73, op := Go.Op.move (Go.Operand.tmp 72), type := 4, pos := "deep.go:30", after := #[{ on := 12, ground := Go.Ground.data }, { on := 10, ground := Go.Ground.chain }], guard := none } : Oper)) (v := ?_) rfl (by kernel_rfl) (by kernel_rfl) (by kernel_rfl) (fun _ _ _ h => h) (Or.inl ⟨by rfl, ?_⟩) (by assumption) ?_
      rotate_left
      · (intro w hSw; (try dsimp only at hSw); go_simp; try with_reducible rfl)
      try simp only [Act.put, List.setIfInBounds_toArray, List.set_cons_zero, List.set_cons_succ]
      refine wpAnyH_take (i := 14) (oi := ({ dst := some 74, op := Go.Op.move (Go.Operand.tmp 13), type := 9, pos := "deep.go:30", after := #[{ on := 13, ground := Go.Ground.guard }], guard := some (13, true) } : Oper)) (v := ?_) rfl (by kernel_rfl) (by kernel_rfl) (by kernel_rfl) (fun _ _ _ h => h) (Or.inl ⟨by rfl, ?_⟩) (by assumption) ?_
      rotate_left
      · (intro w hSw; (try dsimp only at hSw); go_simp; try with_reducible rfl)
      try simp only [Act.put, List.setIfInBounds_toArray, List.set_cons_zero, List.set_cons_succ]
      refine wpAnyH_take (i := 15) (oi := ({ dst := some 75, op := Go.Op.move (Go.Operand.tmp 7), type := 9, pos := "deep.go:30", after := #[{ on := 13, ground := Go.Ground.guard }], guard := some (13, true) } : Oper)) (v := ?_) rfl (by kernel_rfl) (by kernel_rfl) (by kernel_rfl) (fun _ _ _ h => h) (Or.inl ⟨by rfl, ?_⟩) (by assumption) ?_
      rotate_left
      · (intro w hSw; (try dsimp only at hSw); go_simp; try with_reducible rfl)
      try simp only [Act.put, List.setIfInBounds_toArray, List.set_cons_zero, List.set_cons_succ]
      refine wpAnyH_take (i := 16) (oi := ({ dst := some 76, op := Go.Op.move (Go.Operand.tmp 11), type := 3, pos := "deep.go:30", after := #[{ on := 13, ground := Go.Ground.guard }], guard := some (13, true) } : Oper)) (v := ?_) rfl (by kernel_rfl) (by kernel_rfl) (by kernel_rfl) (fun _ _ _ h => h) (Or.inl ⟨by rfl, ?_⟩) (by assumption) ?_
      rotate_left
      · (intro w hSw; (try dsimp only at hSw); go_simp; try with_reducible rfl)
      try simp only [Act.put, List.setIfInBounds_toArray, List.set_cons_zero, List.set_cons_succ]
      refine wpAnyH_take (i := 17) (oi := ({ dst := some 77, op := Go.Op.binOp Go.BinOp.mul 3 (Go.Operand.const (Go.Value.int Go.IntKind.i64 64)) (Go.Operand.tmp 76) 3, type := 3, pos := "deep.go:30", after := #[{ on := 16, ground := Go.Ground.data }, { on := 13, ground := Go.Ground.guard }], guard := some (13, true) } : Oper)) (v := ?_) rfl (by kernel_rfl) (by kernel_rfl) (by kernel_rfl) (fun _ _ _ h => h) (Or.inl ⟨by rfl, ?_⟩) (by assumption) ?_
      rotate_left
      · (intro w hSw; (try dsimp only at hSw); go_simp; try with_reducible rfl)
      try simp only [Act.put, List.setIfInBounds_toArray, List.set_cons_zero, List.set_cons_succ]
      refine wpAnyH_take (i := 18) (oi := ({ dst := some 78, op := Go.Op.slice 9 (Go.Operand.tmp 75) none (some (Go.Operand.tmp 77)) none, type := 9, pos := "deep.go:30", after := #[{ on := 15, ground := Go.Ground.data }, { on := 17, ground := Go.Ground.data }, { on := 13, ground := Go.Ground.guard }], guard := some (13, true) } : Oper)) (v := ?_) rfl (by kernel_rfl) (by kernel_rfl) (by kernel_rfl) (fun _ _ _ h => h) (Or.inl ⟨by rfl, ?_⟩) (by assumption) ?_
      rotate_left
      · (intro w hSw; (try dsimp only at hSw); go_simp; try with_reducible rfl)
      try simp only [Act.put, List.setIfInBounds_toArray, List.set_cons_zero, List.set_cons_succ]
      refine wpAnyH_take (i := 22) (oi := ({ dst := some 82, op := Go.Op.move (Go.Operand.tmp 7), type := 9, pos := "deep.go:30", after := #[{ on := 13, ground := Go.Ground.guard }], guard := some (13, true) } : Oper)) (v := ?_) rfl (by kernel_rfl) (by kernel_rfl) (by kernel_rfl) (fun _ _ _ h => h) (Or.inl ⟨by rfl, ?_⟩) (by assumption) ?_
      rotate_left
      · (intro w hSw; (try dsimp only at hSw); go_simp; try with_reducible rfl)
      try simp only [Act.put, List.setIfInBounds_toArray, List.set_cons_zero, List.set_cons_succ]
      refine wpAnyH_take (i := 23) (oi := ({ dst := some 83, op := Go.Op.move (Go.Operand.tmp 11), type := 3, pos := "deep.go:30", after := #[{ on := 13, ground := Go.Ground.guard }], guard := some (13, true) } : Oper)) (v := ?_) rfl (by kernel_rfl) (by kernel_rfl) (by kernel_rfl) (fun _ _ _ h => h) (Or.inl ⟨by rfl, ?_⟩) (by assumption) ?_
      rotate_left
      · (intro w hSw; (try dsimp only at hSw); go_simp; try with_reducible rfl)
      try simp only [Act.put, List.setIfInBounds_toArray, List.set_cons_zero, List.set_cons_succ]
      refine wpAnyH_take (i := 24) (oi := ({ dst := some 84, op := Go.Op.binOp Go.BinOp.mul 3 (Go.Operand.const (Go.Value.int Go.IntKind.i64 64)) (Go.Operand.tmp 83) 3, type := 3, pos := "deep.go:30", after := #[{ on := 23, ground := Go.Ground.data }, { on := 13, ground := Go.Ground.guard }], guard := some (13, true) } : Oper)) (v := ?_) rfl (by kernel_rfl) (by kernel_rfl) (by kernel_rfl) (fun _ _ _ h => h) (Or.inl ⟨by rfl, ?_⟩) (by assumption) ?_
      rotate_left
      · (intro w hSw; (try dsimp only at hSw); go_simp; try with_reducible rfl)
      try simp only [Act.put, List.setIfInBounds_toArray, List.set_cons_zero, List.set_cons_succ]
      refine wpAnyH_take (i := 25) (oi := ({ dst := some 85, op := Go.Op.binOp Go.BinOp.add 3 (Go.Operand.tmp 84) (Go.Operand.const (Go.Value.int Go.IntKind.i64 64)) 3, type := 3, pos := "deep.go:30", after := #[{ on := 24, ground := Go.Ground.data }, { on := 13, ground := Go.Ground.guard }], guard := some (13, true) } : Oper)) (v := ?_) rfl (by kernel_rfl) (by kernel_rfl) (by kernel_rfl) (fun _ _ _ h => h) (Or.inl ⟨by rfl, ?_⟩) (by assumption) ?_
      rotate_left
      · (intro w hSw; (try dsimp only at hSw); go_simp; try with_reducible rfl)
      try simp only [Act.put, List.setIfInBounds_toArray, List.set_cons_zero, List.set_cons_succ]
      refine wpAnyH_take (i := 26) (oi := ({ dst := some 86, op := Go.Op.slice 9 (Go.Operand.tmp 82) (some (Go.Operand.tmp 85)) none none, type := 9, pos := "deep.go:30", after := #[{ on := 22, ground := Go.Ground.data }, { on := 25, ground := Go.Ground.data }, { on := 13, ground := Go.Ground.guard }], guard := some (13, true) } : Oper)) (v := ?_) rfl (by kernel_rfl) (by kernel_rfl) (by kernel_rfl) (fun _ _ _ h => h) (Or.inl ⟨by rfl, ?_⟩) (by assumption) ?_
      rotate_left
      · (intro w hSw; (try dsimp only at hSw); go_simp; try with_reducible rfl)
      try simp only [Act.put, List.setIfInBounds_toArray, List.set_cons_zero, List.set_cons_succ]
      refine wpAnyH_ready (rs := [19]) (by kernel_rfl) (by simp) ?_
      refine AllReadyH.cons rfl (fun K hK => ?_) AllReadyH.nil
      go_simp
      refine hK.out _ _ trivial (fun hHeld => ?_)
      clear hK K
      try simp only [Act.put, List.setIfInBounds_toArray, List.set_cons_zero, List.set_cons_succ]
      refine wpAnyH_ready (rs := [20]) (by kernel_rfl) (by simp) ?_
      refine AllReadyH.cons rfl (fun K hK => ?_) AllReadyH.nil
      go_simp
      refine hK.out _ _ trivial (fun hHeld => ?_)
      clear hK K
      try simp only [Act.put, List.setIfInBounds_toArray, List.set_cons_zero, List.set_cons_succ]
      refine wpAnyH_take (i := 21) (oi := ({ dst := some 81, op := Go.Op.binOp Go.BinOp.add 9 (Go.Operand.tmp 78) (Go.Operand.tmp 80) 9, type := 9, pos := "deep.go:30", after := #[{ on := 18, ground := Go.Ground.data }, { on := 20, ground := Go.Ground.data }, { on := 13, ground := Go.Ground.guard }], guard := some (13, true) } : Oper)) (v := ?_) rfl (by kernel_rfl) (by kernel_rfl) (by kernel_rfl) (fun _ _ _ h => h) (Or.inl ⟨by rfl, ?_⟩) (by assumption) ?_
      rotate_left
      · (intro w hSw; (try dsimp only at hSw); go_simp; try with_reducible rfl)
      try simp only [Act.put, List.setIfInBounds_toArray, List.set_cons_zero, List.set_cons_succ]
      refine wpAnyH_take (i := 27) (oi := ({ dst := some 87, op := Go.Op.binOp Go.BinOp.add 9 (Go.Operand.tmp 81) (Go.Operand.tmp 86) 9, type := 9, pos := "deep.go:30", after := #[{ on := 21, ground := Go.Ground.data }, { on := 26, ground := Go.Ground.data }, { on := 13, ground := Go.Ground.guard }], guard := some (13, true) } : Oper)) (v := ?_) rfl (by kernel_rfl) (by kernel_rfl) (by kernel_rfl) (fun _ _ _ h => h) (Or.inl ⟨by rfl, ?_⟩) (by assumption) ?_
      rotate_left
      · (intro w hSw; (try dsimp only at hSw); go_simp; try with_reducible rfl)
      try simp only [Act.put, List.setIfInBounds_toArray, List.set_cons_zero, List.set_cons_succ]
      refine wpAnyH_take (i := 28) (oi := ({ dst := some 88, op := Go.Op.binOp Go.BinOp.eql 9 (Go.Operand.tmp 74) (Go.Operand.tmp 87) 9, type := 4, pos := "deep.go:30", after := #[{ on := 14, ground := Go.Ground.data }, { on := 27, ground := Go.Ground.data }, { on := 13, ground := Go.Ground.guard }], guard := some (13, true) } : Oper)) (v := ?_) rfl (by kernel_rfl) (by kernel_rfl) (by kernel_rfl) (fun _ _ _ h => h) (Or.inl ⟨by rfl, ?_⟩) (by assumption) ?_
      rotate_left
      · (intro w hSw; (try dsimp only at hSw); go_simp; try with_reducible rfl)
      try simp only [Act.put, List.setIfInBounds_toArray, List.set_cons_zero, List.set_cons_succ]
      refine wpAnyH_take (i := 29) (oi := ({ dst := some 89, op := Go.Op.pick (Go.Operand.tmp 73) (Go.Operand.tmp 88) (Go.Operand.const (Go.Value.bool false)), type := 4, pos := "deep.go:30", after := #[{ on := 13, ground := Go.Ground.data }, { on := 28, ground := Go.Ground.data }], guard := none } : Oper)) (v := ?_) rfl (by kernel_rfl) (by kernel_rfl) (by kernel_rfl) (fun _ _ _ h => h) (Or.inl ⟨by rfl, ?_⟩) (by assumption) ?_
      rotate_left
      · (intro w hSw; (try dsimp only at hSw); go_simp; try with_reducible rfl)
      try simp only [Act.put, List.setIfInBounds_toArray, List.set_cons_zero, List.set_cons_succ]
      refine wpAnyH_take (i := 30) (oi := ({ dst := some 4, op := Go.Op.assign (Go.Operand.tmp 89), type := 4, pos := "deep.go:30", after := #[{ on := 29, ground := Go.Ground.data }, { on := 13, ground := Go.Ground.chain }, { on := 0, ground := Go.Ground.phase }, { on := 1, ground := Go.Ground.phase }, { on := 2, ground := Go.Ground.phase }, { on := 3, ground := Go.Ground.phase }, { on := 4, ground := Go.Ground.phase }, { on := 5, ground := Go.Ground.phase }, { on := 6, ground := Go.Ground.phase }, { on := 7, ground := Go.Ground.phase }, { on := 8, ground := Go.Ground.phase }, { on := 9, ground := Go.Ground.phase }, { on := 10, ground := Go.Ground.phase }, { on := 11, ground := Go.Ground.phase }, { on := 12, ground := Go.Ground.phase }, { on := 13, ground := Go.Ground.phase }, { on := 14, ground := Go.Ground.phase }, { on := 15, ground := Go.Ground.phase }, { on := 16, ground := Go.Ground.phase }, { on := 17, ground := Go.Ground.phase }, { on := 18, ground := Go.Ground.phase }, { on := 19, ground := Go.Ground.phase }, { on := 20, ground := Go.Ground.phase }, { on := 21, ground := Go.Ground.phase }, { on := 22, ground := Go.Ground.phase }, { on := 23, ground := Go.Ground.phase }, { on := 24, ground := Go.Ground.phase }, { on := 25, ground := Go.Ground.phase }, { on := 26, ground := Go.Ground.phase }, { on := 27, ground := Go.Ground.phase }, { on := 28, ground := Go.Ground.phase }, { on := 29, ground := Go.Ground.phase }], guard := none } : Oper)) (v := ?_) rfl (by kernel_rfl) (by kernel_rfl) (by kernel_rfl) (fun _ _ _ h => h) (Or.inl ⟨by rfl, ?_⟩) (by assumption) ?_
      rotate_left
      · (intro w hSw; (try dsimp only at hSw); go_simp; try with_reducible rfl)
      try simp only [Act.put, List.setIfInBounds_toArray, List.set_cons_zero, List.set_cons_succ]
      refine wpAnyH_done (by kernel_rfl) ?_ _
      all_goals
        go_wp2
        go_ret
        exact ⟨rfl, (hC3.alloc _).drew⟩

end Go.Proofs.Ytpnhdiajiieonaa
