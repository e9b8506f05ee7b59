/- The law MemForms. -/
import Derived.Test.YtnallfehffhaeaaMem7
set_option linter.unusedSimpArgs false
set_option linter.unusedVariables false
namespace Go.Proofs.Ytnallfehffhaeaa
open Go.RowKit
attribute [local go_sem] i64_and1023

theorem blk_string {w : World} {r : Nat} {bs : List UInt8} (h : w.heap[r]? = some (.cells (bs.map bv).toArray 5 (0, 0))) (c : Nat) :
    (convert 52 9 (.slice (some ⟨r, 0, none⟩) bs.length c)).run Try.prog w = .ok (.string (str bs)) w := by
  have := run_convert_bytes_arg (P := Try.prog) (w := w) 52 5 Try.underlying52 Try.underlying5 r 0 bs.length c (bs.map fun b => (b.toNat : Int)) (by simp) (fun i hi => by
    rw [blk_cell h]
    simp [bv, hi, List.getD_eq_getElem?_getD]) 9 Try.underlying9
  rw [strOf_bytes] at this
  exact this
theorem make77 (n : Nat) (hn : n ≤ 4096) (W : World) : (Instr.makeSlice 52 (.int .i64 n) (.int .i64 n)).run Try.prog W = .ok (.slice (some ⟨W.heap.size, 0, none⟩) n n) (W.alloc (.cells ((List.replicate n (0 : UInt8)).map bv).toArray 5)) := by
  obtain ⟨i0, hi, hz0, hz1, hz2⟩ := info_parts Try.info5
  have := run_make (P := Try.prog) W 52 5 i0 _ Try.underlying52 hi hz0 .i64 .i64 (n : Int) (n : Int) (by omega) (by omega) (by rw [hz2]; omega) (by omega)
  rw [hz1, show (Value.int IntKind.u8 0).cells = #[Value.int .u8 0] from rfl, Nat.mul_one, made_bytes] at this
  exact this
theorem conv77 (n : Nat) (W : World) (c : Nat) : (convert 52 9 (.slice (some ⟨W.heap.size, 0, none⟩) n c)).run Try.prog (W.alloc (.cells ((List.replicate n (0 : UInt8)).map bv).toArray 5)) = .ok (.string (str (List.replicate n 0))) (W.alloc (.cells ((List.replicate n (0 : UInt8)).map bv).toArray 5)) := by
  have := blk_string (blk_new W (.cells ((List.replicate n (0 : UInt8)).map bv).toArray 5)) c
  rw [List.length_replicate] at this
  exact this

theorem write41_bad (p r : Nat) (bs : List UInt8) (a : Int) (s : ByteArray) (w : World) (h : MemAt w 93 p r bs) (hl : bs.length ≤ 4096) (hs : s.size ≤ 140737488351232) (hb : ¬ mayP a s.size bs.length) :
    Calls Try.prog 21 #[.pointer (some ⟨p, 0, none⟩), .int .i64 a, .string s] w fun e w' => e = .returned (.int .i64 300) ∧ MemAt w' 93 p r bs ∧ Chg (fun k => k = r) w w' := by
  refine (write41 p r bs a s w h hl hs).mono ?_
  rintro e w' ⟨rfl, h1, h2⟩
  rw [show writeB bs a s = bs from if_neg hb] at h1
  exact ⟨by rw [show errC bs a s.size = 300 from if_neg hb], h1, h2⟩
theorem put43_bad (p r : Nat) (bs : List UInt8) (a x : Int) (w : World) (h : MemAt w 93 p r bs) (hl : bs.length ≤ 4096) (hb : ¬ putP bs a x) :
    Calls Try.prog 33 #[.pointer (some ⟨p, 0, none⟩), .int .i64 a, .int .i64 x] w fun e w' => e = .returned (.int .i64 300) ∧ MemAt w' 93 p r bs ∧ Chg (fun k => k = r) w w' := by
  refine (put43 p r bs a x w h hl).mono ?_
  rintro e w' ⟨rfl, h1, h2⟩
  rw [show putB bs a x = bs from if_neg hb] at h1
  exact ⟨by rw [show putC bs a x = 300 from if_neg hb], h1, h2⟩
theorem zero45_bad (p r : Nat) (bs : List UInt8) (f : Int) (w : World) (h : MemAt w 93 p r bs) (hl : bs.length ≤ 4096) (hb : ¬ frameP bs f) :
    Calls Try.prog 44 #[.pointer (some ⟨p, 0, none⟩), .int .i64 f] w fun e w' => e = .returned (.int .i64 300) ∧ MemAt w' 93 p r bs ∧ Chg (fun k => k = r) w w' := by
  refine (zero45 p r bs f w h hl).mono ?_
  rintro e w' ⟨rfl, h1, h2⟩
  rw [show zeroB bs f = bs from if_neg hb] at h1
  exact ⟨by rw [show zeroC bs f = 300 from if_neg hb], h1, h2⟩
theorem read47_bad (p r : Nat) (bs : List UInt8) (a n : Int) (w : World) (h : MemAt w 93 p r bs) (hl : bs.length ≤ 4096) (hb : ¬ mayP a n bs.length) :
    Calls Try.prog 18 #[.pointer (some ⟨p, 0, none⟩), .int .i64 a, .int .i64 n] w fun e w' => e = .returned (.tuple #[.string ByteArray.empty, .int .i64 300]) ∧ MemAt w' 93 p r bs ∧ Chg (fun k => k = r) w w' := by
  refine (read47 p r bs a n w h hl).mono ?_
  rintro e w' ⟨rfl, rfl⟩
  exact ⟨by rw [show errC bs a n = 300 from if_neg hb, show readS bs a n = _ from if_neg hb], h, Chg.refl _ _⟩
theorem word48_bad (p r : Nat) (bs : List UInt8) (a : Int) (w : World) (h : MemAt w 93 p r bs) (hl : bs.length ≤ 4096) (hb : ¬ wordP bs a) :
    Calls Try.prog 57 #[.pointer (some ⟨p, 0, none⟩), .int .i64 a] w fun e w' => e = .returned (.tuple #[.int .i64 0, .int .i64 300]) ∧ MemAt w' 93 p r bs ∧ Chg (fun k => k = r) w w' := by
  refine (word48 p r bs a w h hl).mono ?_
  rintro e w' ⟨rfl, rfl⟩
  exact ⟨by rw [show wordE bs a = 300 from if_neg hb, show wordR bs a = 0 from if_neg hb], h, Chg.refl _ _⟩


end Go.Proofs.Ytnallfehffhaeaa
