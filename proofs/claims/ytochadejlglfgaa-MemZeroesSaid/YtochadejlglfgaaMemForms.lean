/- The law MemForms. -/
import Derived.Test.YtochadejlglfgaaMem7
import Derived.Test.YtochadejlglfgaaRemapLast
namespace Go.Proofs.Ytochadejlglfgaa
open Go.RowKit
attribute [local go_sem] i64_and1023

theorem blk_string {w : World} {r : Nat} {bs : List UInt8} (h : w.heap[r]? = some (.cells (bs.map bv).toArray 5 (0, 0))) (c : Nat) :
    (convert 77 9 (.slice (some ⟨r, 0, none⟩) bs.length c)).run Try.prog w = .ok (.string (str bs)) w := by
  have := run_convert_bytes_arg (P := Try.prog) (w := w) 77 5 Try.underlying77 Try.underlying5 r 0 bs.length c (bs.map fun b => (b.toNat : Int)) (by simp) (fun i hi => by
    rw [blk_cell h]
    simp [bv, hi, List.getD_eq_getElem?_getD]) 9 Try.underlying9
  rw [strOf_bytes] at this
  exact this
theorem make77 (n : Nat) (hn : n ≤ 4096) (W : World) : (Instr.makeSlice 77 (.int .i64 n) (.int .i64 n)).run Try.prog W = .ok (.slice (some ⟨W.heap.size, 0, none⟩) n n) (W.alloc (.cells ((List.replicate n (0 : UInt8)).map bv).toArray 5)) := by
  obtain ⟨i0, hi, hz0, hz1, hz2⟩ := info_parts Try.info5
  have := run_make (P := Try.prog) W 77 5 i0 _ Try.underlying77 hi hz0 .i64 .i64 (n : Int) (n : Int) (by omega) (by omega) (by rw [hz2]; omega) (by omega)
  rw [hz1, show (Value.int IntKind.u8 0).cells = #[Value.int .u8 0] from rfl, Nat.mul_one, made_bytes] at this
  exact this
theorem conv77 (n : Nat) (W : World) (c : Nat) : (convert 77 9 (.slice (some ⟨W.heap.size, 0, none⟩) n c)).run Try.prog (W.alloc (.cells ((List.replicate n (0 : UInt8)).map bv).toArray 5)) = .ok (.string (str (List.replicate n 0))) (W.alloc (.cells ((List.replicate n (0 : UInt8)).map bv).toArray 5)) := by
  have := blk_string (blk_new W (.cells ((List.replicate n (0 : UInt8)).map bv).toArray 5)) c
  rw [List.length_replicate] at this
  exact this

theorem write41_bad (p r : Nat) (bs : List UInt8) (a : Int) (s : ByteArray) (w : World) (h : MemAt w 117 p r bs) (hl : bs.length ≤ 4096) (hs : s.size ≤ 140737488351232) (hb : ¬ mayP a s.size bs.length) :
    Calls Try.prog 41 #[.pointer (some ⟨p, 0, none⟩), .int .i64 a, .string s] w fun e w' => e = .returned (.int .i64 300) ∧ MemAt w' 117 p r bs ∧ Chg (fun k => k = r) w w' := by
  refine (write41 p r bs a s w h hl hs).mono ?_
  rintro e w' ⟨rfl, h1, h2⟩
  rw [show writeB bs a s = bs from if_neg hb] at h1
  exact ⟨by rw [show errC bs a s.size = 300 from if_neg hb], h1, h2⟩
theorem put43_bad (p r : Nat) (bs : List UInt8) (a x : Int) (w : World) (h : MemAt w 117 p r bs) (hl : bs.length ≤ 4096) (hb : ¬ putP bs a x) :
    Calls Try.prog 43 #[.pointer (some ⟨p, 0, none⟩), .int .i64 a, .int .i64 x] w fun e w' => e = .returned (.int .i64 300) ∧ MemAt w' 117 p r bs ∧ Chg (fun k => k = r) w w' := by
  refine (put43 p r bs a x w h hl).mono ?_
  rintro e w' ⟨rfl, h1, h2⟩
  rw [show putB bs a x = bs from if_neg hb] at h1
  exact ⟨by rw [show putC bs a x = 300 from if_neg hb], h1, h2⟩
theorem zero45_bad (p r : Nat) (bs : List UInt8) (f : Int) (w : World) (h : MemAt w 117 p r bs) (hl : bs.length ≤ 4096) (hb : ¬ frameP bs f) :
    Calls Try.prog 45 #[.pointer (some ⟨p, 0, none⟩), .int .i64 f] w fun e w' => e = .returned (.int .i64 300) ∧ MemAt w' 117 p r bs ∧ Chg (fun k => k = r) w w' := by
  refine (zero45 p r bs f w h hl).mono ?_
  rintro e w' ⟨rfl, h1, h2⟩
  rw [show zeroB bs f = bs from if_neg hb] at h1
  exact ⟨by rw [show zeroC bs f = 300 from if_neg hb], h1, h2⟩
theorem read47_bad (p r : Nat) (bs : List UInt8) (a n : Int) (w : World) (h : MemAt w 117 p r bs) (hl : bs.length ≤ 4096) (hb : ¬ mayP a n bs.length) :
    Calls Try.prog 47 #[.pointer (some ⟨p, 0, none⟩), .int .i64 a, .int .i64 n] w fun e w' => e = .returned (.tuple #[.string ByteArray.empty, .int .i64 300]) ∧ MemAt w' 117 p r bs ∧ Chg (fun k => k = r) w w' := by
  refine (read47 p r bs a n w h hl).mono ?_
  rintro e w' ⟨rfl, rfl⟩
  exact ⟨by rw [show errC bs a n = 300 from if_neg hb, show readS bs a n = _ from if_neg hb], h, Chg.refl _ _⟩
theorem word48_bad (p r : Nat) (bs : List UInt8) (a : Int) (w : World) (h : MemAt w 117 p r bs) (hl : bs.length ≤ 4096) (hb : ¬ wordP bs a) :
    Calls Try.prog 48 #[.pointer (some ⟨p, 0, none⟩), .int .i64 a] w fun e w' => e = .returned (.tuple #[.int .i64 0, .int .i64 300]) ∧ MemAt w' 117 p r bs ∧ Chg (fun k => k = r) w w' := by
  refine (word48 p r bs a w h hl).mono ?_
  rintro e w' ⟨rfl, rfl⟩
  exact ⟨by rw [show wordE bs a = 300 from if_neg hb, show wordR bs a = 0 from if_neg hb], h, Chg.refl _ _⟩

def bsF : List UInt8 := writeB (List.replicate 128 0) 0 ⟨#[97, 98, 99, 100, 101, 102, 103, 104]⟩
set_option maxRecDepth 100000 in
theorem bsF_len : bsF.length = 128 := by decide
set_option maxRecDepth 100000 in
theorem bsF_read : readS bsF 0 128 = ⟨#[97, 98, 99, 100, 101, 102, 103, 104]⟩ ++ str (List.replicate 120 0) := by rfl

set_option maxRecDepth 100000 in
set_option maxHeartbeats 4000000 in
theorem memForms_walk (w : World) (which x : Int) :
    Calls Try.prog 12 #[.int .i64 which, .int .i64 x] w fun e w' => e = .returned (.bool true) ∧ Below w.heap.size w w' := by
  suffices hS : Calls Try.prog 12 #[.int .i64 which, .int .i64 x] w fun e w' => e = .returned (.bool true) ∧ Chg (fun _ => False) w w' from hS.mono fun e w' ⟨h1, h2⟩ => ⟨h1, h2.below (Nat.le_refl _) (fun _ h => h.elim)⟩
  obtain ⟨d, hd, hd1, hd2⟩ : ∃ d : Int, 1 + x % 1024 = d ∧ 1 ≤ d ∧ d ≤ 1024 := ⟨1 + x % 1024, rfl, by omega, by omega⟩
  have Hd := Lib.hid hd; clear hd
  go_enter Try.func12, Try.ntmps12
  go_wp2_with fail
  refine (awake39 _).mono ?_
  rintro e w0 ⟨rfl, hC⟩
  go_wp2_with fail
  rw [Hd.out]
  clear Hd
  refine (mnew37_no _ _ (by omega)).mono ?_
  rintro e w1 ⟨rfl, rfl⟩
  go_wp2_with fail
  refine (mnew37_no _ _ (by omega)).mono ?_
  rintro e w1 ⟨rfl, rfl⟩
  go_wp2_with fail
  refine (mnew37_ok 2 w0 (by omega) (by omega)).mono ?_
  rintro e w1 ⟨rfl, h1, _, hC1⟩
  have hB := hC.size
  replace hC := hC.trans hC1
  clear hC1
  rw [show 2 * 64 = 128 from rfl] at h1
  generalize w0.heap.size = B at *
  go_wp2_with fail
  refine (num16 _ _).mono ?_
  rintro e w2 ⟨rfl, rfl⟩
  go_wp2_with fail
  refine (write41 _ _ _ 0 _ w1 h1 (by decide) (by decide)).mono ?_
  rintro e w2 ⟨rfl, h2, hD⟩
  replace hC := hC.trans' hD (fun j hj h => by omega)
  clear hD h1
  change MemAt w2 117 _ _ bsF at h2
  go_wp2_with fail
  all_goals
    first
      | refine (write41_bad _ _ _ _ _ w2 h2 (by decide) (by decide) (by unfold mayP; rw [bsF_len, show (ByteArray.mk #[120]).size = 1 from rfl]; omega)).mono ?_
      | refine (put43_bad _ _ _ _ _ w2 h2 (by decide) (by unfold putP wordP mayP; rw [bsF_len]; omega)).mono ?_
      | refine (zero45_bad _ _ _ _ w2 h2 (by decide) (by unfold frameP; rw [bsF_len]; omega)).mono ?_
      | refine (read47_bad _ _ _ _ _ w2 h2 (by decide) (by unfold mayP; rw [bsF_len]; omega)).mono ?_
      | refine (word48_bad _ _ _ _ w2 h2 (by decide) (by unfold wordP mayP; rw [bsF_len]; omega)).mono ?_
    rintro e w3 ⟨rfl, h3, hD⟩
    replace hC := hC.trans' hD (fun j hj h => by omega)
    clear hD h2
    go_wp2_with fail
    refine (num16 _ _).mono ?_
    rintro e w4 ⟨rfl, rfl⟩
    go_wp2_with fail
    refine (read47 _ _ _ 0 128 w3 h3 (by decide)).mono ?_
    rintro e w4 ⟨rfl, rfl⟩
    rw [bsF_read, show errC bsF 0 128 = 0 from rfl]
    have hmk : ∀ W : World, (Instr.makeSlice 77 (.int .i64 120) (.int .i64 120)).run Try.prog W = _ := make77 120 (by decide)
    have hcv := conv77 120
    generalize ((List.replicate 120 (0 : UInt8)).map bv).toArray = X at *
    have hY : (str (List.replicate 120 0)).size = 120 := by rw [str_size]; rfl
    generalize str (List.replicate 120 0) = Y at *
    clear h3
    go_wp2_with ((refine (num16 _ _).mono ?_; rintro e w6 ⟨rfl, rfl⟩))
    go_ret
    exact ⟨rfl, (hC.alloc _)⟩

end Go.Proofs.Ytochadejlglfgaa
