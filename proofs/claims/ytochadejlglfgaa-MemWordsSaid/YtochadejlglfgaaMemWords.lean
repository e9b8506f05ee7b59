/- The law MemWords. -/
import Derived.Test.YtochadejlglfgaaMemBack
import Derived.Test.YtochadejlglfgaaOpen
import Derived.Deep.RegionHeld3
import Derived.IntWalk
namespace Go.Proofs.Ytochadejlglfgaa
open Go.RowKit Go.ChangeShapes Go.WideShapes Go.Deep
attribute [local go_sem] i64_and15

/-- The words that the memory holds are those of the row. -/
def WordsOf (bs : List UInt8) (g : Nat → Int) : Prop := bs.length = 64 ∧ ∀ j, j < 16 → wordV bs (4 * j) = g j
theorem byteAt_splice (bs vs : List UInt8) (a i : Nat) (h : a + vs.length ≤ bs.length) : byteAt (splice bs a vs) i = if a ≤ i ∧ i < a + vs.length then byteAt vs (i - a) else byteAt bs i := by
  unfold byteAt
  rw [splice_get _ _ _ h]
  split <;> rfl
theorem byteAt_wb (v : Int) (j : Nat) (h : j < 4) : byteAt (wb v) j = v / 2 ^ (8 * j) % 256 := by
  unfold byteAt
  rw [List.getElem?_eq_getElem (by rw [wb_len]; exact h), wb_get]
  exact wbj_nat v j
theorem wordV_wb (v : Int) (h0 : 0 ≤ v) (h1 : v ≤ 4294967295) : wordV (wb v) 0 = v := by
  unfold wordV
  rw [byteAt_wb v 0 (by omega), byteAt_wb v (0 + 1) (by omega), byteAt_wb v (0 + 2) (by omega), byteAt_wb v (0 + 3) (by omega)]
  simp only [show (2 : Int) ^ (8 * 0) = 1 from rfl, show (2 : Int) ^ (8 * (0 + 1)) = 256 from rfl, show (2 : Int) ^ (8 * (0 + 2)) = 65536 from rfl, show (2 : Int) ^ (8 * (0 + 3)) = 16777216 from rfl]
  omega
theorem wordV_splice (bs : List UInt8) (v : Int) (k j : Nat) (hk : 4 * k + 4 ≤ bs.length) (h0 : 0 ≤ v) (h1 : v ≤ 4294967295) :
    wordV (splice bs (4 * k) (wb v)) (4 * j) = if j = k then v else wordV bs (4 * j) := by
  have hb := byteAt_splice bs (wb v) (4 * k)
  rw [wb_len] at hb
  by_cases hj : j = k
  · subst hj
    rw [if_pos rfl]
    conv => rhs; rw [← wordV_wb v h0 h1]
    unfold wordV
    rw [hb _ hk, hb _ hk, hb _ hk, hb _ hk, if_pos (by omega), if_pos (by omega), if_pos (by omega), if_pos (by omega)]
    simp only [Nat.sub_self, Nat.add_sub_cancel_left, Nat.zero_add]
  · rw [if_neg hj]
    unfold wordV
    rw [hb _ hk, hb _ hk, hb _ hk, hb _ hk, if_neg (by omega), if_neg (by omega), if_neg (by omega), if_neg (by omega)]
theorem words_put {bs : List UInt8} {g : Nat → Int} (h : WordsOf bs g) (k : Nat) (hk : k < 16) (v : Int) (h0 : 0 ≤ v) (h1 : v ≤ 4294967295) :
    WordsOf (splice bs (4 * k) (wb v)) (fun j => if j = k then v else g j) := by
  obtain ⟨hl, hg⟩ := h
  refine ⟨by rw [splice_len _ _ _ (by rw [wb_len]; omega)]; exact hl, fun j hj => ?_⟩
  rw [wordV_splice _ _ _ _ (by omega) h0 h1, hg j hj]
theorem words_zero : WordsOf (List.replicate 64 0) (fun _ => 0) := by
  refine ⟨by simp, fun j hj => ?_⟩
  have hz : ∀ i, byteAt (List.replicate 64 0) i = 0 := fun i => by
    unfold byteAt
    rw [List.getElem?_replicate]
    split <;> rfl
  unfold wordV
  rw [hz, hz, hz, hz]; rfl
theorem drop_take_splice (bs vs : List UInt8) (a : Nat) (h : a + vs.length ≤ bs.length) : ((splice bs a vs).drop a).take vs.length = vs := by
  unfold splice
  have h1 : (bs.take a).length = a := by rw [List.length_take]; omega
  rw [List.append_assoc, List.drop_append_of_le_length (by omega), List.drop_of_length_le (by omega), List.nil_append, List.take_append_of_le_length (by omega), List.take_of_length_le (by omega)]
theorem splice_length_any {α : Type} (l : List α) (o : Nat) (vs : List α) : (splice l o vs).length = min o l.length + vs.length + (l.length - (o + vs.length)) := by
  unfold splice
  rw [List.length_append, List.length_append, List.length_take, List.length_drop]
theorem str_wb (v : Int) : str (wb v) = strOfNums [v % 256, v / 256 % 256, v / 65536 % 256, v / 16777216 % 256] := by
  unfold str wb strOfNums wbj
  simp [List.range, List.range.loop]

theorem i64_and32 (n : Int) : bits .and .i64 n 4294967295 = n % 4294967296 := by
  have h : (BitVec.ofInt 64 4294967295).toNat = 2 ^ 32 - 1 := by decide
  have key : (BitVec.ofInt 64 n &&& BitVec.ofInt 64 4294967295).toNat = (n % ((2 ^ 64 : Nat) : Int)).toNat % 2 ^ 32 := by
    rw [BitVec.toNat_and, BitVec.toNat_ofInt, h, Nat.and_two_pow_sub_one_eq_mod]
  show IntKind.i64.wrap ((BitVec.ofInt 64 n &&& BitVec.ofInt 64 4294967295).toNat : Nat) = n % 4294967296
  rw [key, IntKind.wrap_i64]
  omega
attribute [local go_sem] i64_and32
theorem conv4 (a b c d : Int) (W : World) (n : Nat) : (convert 77 9 (.slice (some ⟨W.heap.size, 0, none⟩) 4 n)).run Try.prog (W.alloc (.cells #[.int .u8 a, .int .u8 b, .int .u8 c, .int .u8 d] 5)) = .ok (.string (strOfNums [a, b, c, d])) (W.alloc (.cells #[.int .u8 a, .int .u8 b, .int .u8 c, .int .u8 d] 5)) :=
  run_convert_bytes_arg (P := Try.prog) (w := W.alloc (.cells #[.int .u8 a, .int .u8 b, .int .u8 c, .int .u8 d] 5)) 77 5 Try.underlying77 Try.underlying5 _ 0 4 n [a, b, c, d] (by simp) (fun i hi => by
    rw [blk_cell (blk_new W (.cells #[.int .u8 a, .int .u8 b, .int .u8 c, .int .u8 d] 5))]
    match i, hi with
    | 0, _ | 1, _ | 2, _ | 3, _ => rfl
    | n + 4, h => exact absurd h (by omega)) 9 Try.underlying9
def icell (n : Int) : List Value := [.int .i64 n]
theorem icells (xs : List Int) (k : Nat) (hk : k < xs.length) : (xs.flatMap icell)[k]? = some (.int .i64 xs[k]) := by
  have := flat_get icell 1 (fun _ => rfl) 0 (by omega) xs k
  rw [Nat.mul_one, Nat.add_zero, List.getElem?_eq_getElem hk] at this
  exact this

set_option maxRecDepth 100000 in
set_option maxHeartbeats 4000000 in
theorem memWords_main (w : World) (A : Option Addr) (c : Nat) (xs : List Int) (hn : xs.length ≤ 9223372036854775807) (hr : RowC w A (xs.flatMap icell)) (x : Int) :
    Calls Try.prog 11 #[.slice A xs.length c, .int .i64 x] w fun e w' => e = .returned (.bool true) ∧ Chg (fun _ => False) w w' := by
  go_enter Try.func11, Try.ntmps11
  go_wp2_with fail
  refine (awake39 _).mono ?_
  rintro e w0 ⟨rfl, hC⟩
  go_wp2_with fail
  refine (mnew37_ok 1 w0 (by omega) (by omega)).mono ?_
  rintro e w1 ⟨rfl, h1, hs, hC1⟩
  have hB := hC.size
  replace hC := hC.trans hC1
  clear hC1
  rw [show 1 * 64 = 64 from rfl] at h1
  have HS := Lib.hid hs; clear hs
  go_wp2_with fail
  refine (num16 _ _).mono ?_
  rintro e w2 ⟨rfl, rfl⟩
  go_wp2_with fail
  refine wp_abs (fun W => MemAt W 117 (w0.heap.size + 1) w0.heap.size (List.replicate 64 0) ∧ AtI W w1.heap.size 64 16 (fun _ => 0) ∧ Chg (fun _ => False) w W) ?_ ?_
  · exact ⟨h1.keep (S := fun _ => False) ((Chg.refl _ _).alloc _) id id, ⟨_, blk_new _ _, rfl, fun j hj => by
      match j, hj with
      | 0, _ | 1, _ | 2, _ | 3, _ | 4, _ | 5, _ | 6, _ | 7, _ | 8, _ | 9, _ | 10, _ | 11, _ | 12, _ | 13, _ | 14, _ | 15, _ => rfl
      | n + 16, h => exact absurd h (by omega)⟩, hC.alloc _⟩
  clear h1 hC
  rintro W ⟨h1, hP, hC⟩
  have hqB : w0.heap.size + 2 = w1.heap.size := HS.out.symm
  clear HS
  generalize w1.heap.size = q at *
  generalize w0.heap.size = B at *
  have HQB := Lib.hid hqB; clear hqB
  have hcv := conv4
  go_loopw [8] (fun i wr => ∃ k : Nat, k ≤ xs.length ∧ i = .int .i64 k ∧ ∃ bs g, WordsOf bs g ∧ MemAt wr 117 (B + 1) B bs ∧ AtI wr q 64 16 g ∧ Chg (fun _ => False) w wr) (fun i _ => xs.length - (intOf i).toNat)
  case atStart => exact ⟨0, by omega, rfl, _, _, words_zero, h1, hP, hC⟩
  case round =>
    clear h1 hP hC
    obtain ⟨k, hk, rfl, bs, g, hg, h1, hP, hC⟩ := hrel
    by_cases hlt : k < xs.length
    · obtain ⟨b, o, rfl, c0⟩ := hr k _ (icells xs k hlt)
      have hk0 : (0 : Int) ≤ k := by omega
      have hk1 : (k : Int) < xs.length := by omega
      by_cases h40 : k < 40
      · replace c0 := hC.cell c0 id
        generalize xs[k] = y at *
        have HG := Lib.hid hg; clear hg
        obtain ⟨a, ha, ha16⟩ : ∃ a : Nat, ((k : Int) * 5 + x % 16).tmod 16 = a ∧ a < 16 := by
          rw [Int.tmod_eq_emod_of_nonneg (by omega)]
          exact ⟨(((k : Int) * 5 + x % 16) % 16).toNat, by omega, by omega⟩
        have v1 : IntKind.i64.wrap ((k : Int) * 5) = (k : Int) * 5 := IntWalk.i64_in _ (by omega)
        have v2 : IntKind.i64.wrap ((k : Int) * 5 + x % 16) = (k : Int) * 5 + x % 16 := IntWalk.i64_in _ (by omega)
        have v3 : IntKind.i64.wrap (a : Int) = a := IntWalk.i64_in _ (by omega)
        go_wp2_with fail
        go_quiet (fail)
        rename_i nq
        go_wp2_with fail
        clear v1 v2 v3 ha c0
        generalize hv : y % 4294967296 = v
        have hv0 : 0 ≤ v ∧ v ≤ 4294967295 := by omega
        clear hv
        obtain ⟨hv0, hv1⟩ := hv0
        have hbl := HG.out.1
        refine (put43 _ _ bs (4 * (a : Int)) v (wr.drewN nq) (h1.keep (S := fun _ => False) ((Chg.refl _ _).drewN nq) id id) (by omega)).mono ?_
        rintro e w2 ⟨rfl, h2, hD⟩
        have hqB := HQB.out
        have hP2 := (hP.keep (S := fun _ => False) ((Chg.refl _ _).drewN nq) id).keep hD (by omega)
        have hC2 := (hC.drewN nq).trans' hD (fun i hi h => by omega)
        clear h1 hP hC hD
        have m1 : putP bs (4 * (a : Int)) v := by unfold putP wordP mayP; omega
        have m2 : (4 * (a : Int)).toNat = 4 * a := by omega
        rw [show putC bs (4 * (a : Int)) v = 0 from if_pos m1]
        rw [show putB bs (4 * (a : Int)) v = splice bs (4 * a) (wb v) from by rw [putB, if_pos m1, m2]] at h2
        have HG2 := Lib.hid (words_put HG.out a ha16 v hv0 hv1)
        clear m1 m2 hqB HG
        have d0 := hP2.cell ha16
        have f0 := hP2.free a
        have ha1 : (a : Int) < 16 := by omega
        go_wp2_with fail
        refine calls_abs (fun W => MemAt W 117 (B + 1) B (splice bs (4 * a) (wb v)) ∧ AtI W q 64 16 (upd g a v) ∧ Chg (fun _ => False) w W) ⟨MemAt.keep (w := w2) h2 (chg_far _) (by have := HQB.out; omega) (by have := HQB.out; omega), AtI.set (w := w2) hP2 ha16 v, Chg.trans' hC2 (chg_far _) (fun i hi h => by have := HQB.out; omega)⟩ ?_
        clear h2 hP2 hC2 d0 f0
        rintro W ⟨h1, hP, hC⟩
        have hlen := HG2.out.1
        have hst : str (((splice bs (4 * a) (wb v)).drop (4 * a)).take 4) = strOfNums [v % 256, v / 256 % 256, v / 65536 % 256, v / 16777216] := by
          rw [show v / 16777216 = v / 16777216 % 256 from by omega, ← str_wb]
          have := drop_take_splice bs (wb v) (4 * a) (by rw [wb_len]; omega)
          rw [wb_len] at this
          rw [this]
        have HG3 : Hid (WordsOf (splice bs (4 * a) (wb v)) (upd g a v)) := HG2.out
        clear HG2
        generalize splice bs (4 * a) (wb v) = bs2 at *
        generalize upd g a v = g2 at *
        refine (read47 _ _ bs2 (4 * (a : Int)) 4 W h1 (by omega)).mono ?_
        rintro e w3 ⟨rfl, rfl⟩
        have m1 : mayP (4 * (a : Int)) 4 bs2.length := by unfold mayP; omega
        have m2 : (4 * (a : Int)).toNat = 4 * a := by omega
        rw [show errC bs2 (4 * (a : Int)) 4 = 0 from if_pos m1]
        rw [show readS bs2 (4 * (a : Int)) 4 = strOfNums [v % 256, v / 256 % 256, v / 65536 % 256, v / 16777216] from by rw [readS, if_pos m1, m2]; exact hst]
        clear m1 m2 hst hlen
        go_wp2_with ((refine (num16 _ _).mono ?_; rintro e w6 ⟨rfl, rfl⟩))
        clear hcv hv0 hv1
        go_loopw [14] (fun i wr => ∃ j : Nat, j ≤ 16 ∧ i = .int .i64 j ∧ MemAt wr 117 (B + 1) B bs2 ∧ AtI wr q 64 16 g2 ∧ Chg (fun _ => False) w wr) (fun i _ => 16 - (intOf i).toNat)
        case atStart => exact ⟨0, by omega, rfl, h1.keep (S := fun _ => False) ((Chg.refl _ _).alloc _) id id, hP.keep (S := fun _ => False) ((Chg.refl _ _).alloc _) id, hC.alloc _⟩
        case round =>
          clear h1 hP hC
          obtain ⟨j, hj, rfl, h1, hP, hC⟩ := hrel
          by_cases hj16 : j < 16
          · have c0 := hP.cell hj16
            have hj1 : (j : Int) < 16 := by omega
            have hw : wordR bs2 (4 * (j : Int)) = g2 j ∧ wordE bs2 (4 * (j : Int)) = 0 := by
              have hl := HG3.out.1
              have m1 : wordP bs2 (4 * (j : Int)) := by unfold wordP mayP; omega
              have m2 : (4 * (j : Int)).toNat = 4 * j := by omega
              rw [wordR, wordE, if_pos m1, if_pos m1, m2]
              exact ⟨HG3.out.2 j hj16, rfl⟩
            go_wp2_with fail
            refine (word48 _ _ bs2 (4 * (j : Int)) _ h1 (by have := HG3.out.1; omega)).mono ?_
            rintro e w4 ⟨rfl, rfl⟩
            rw [hw.1, hw.2]
            clear hw
            generalize g2 j = gj at *
            go_wp2_with ((refine (num16 _ _).mono ?_; rintro e w6 ⟨rfl, rfl⟩))
            go_roundw
            case rel => exact ⟨j + 1, by omega, by go_num, h1, hP, hC⟩
            case measure => simp [intOf]; omega
          · have HC := Lib.hid hC; clear hC
            go_wp2
            go_roundw
            case rel => exact ⟨k + 1, by omega, by go_num, bs2, g2, HG3.out, h1, hP, HC.out⟩
            case measure => simp [intOf]; omega
      · go_wp2
        go_ret
        exact ⟨rfl, hC⟩
    · go_wp2
      go_ret
      exact ⟨rfl, hC⟩

set_option maxRecDepth 100000 in
theorem trod_icell {H : Type} {enc : TypeId × Value → H} {w : World} {base : Nat} {spare : Nat → Bool} {held : Bool} {m : Nat} {cs : List Value} {y : DataW H × List MemPlace} (h : DataW.trod enc Try.prog w base spare held m 3 cs = some y) : ∃ x : Int, cs = icell x ∧ True := by
  obtain ⟨n, e, _⟩ := DataW.trod_int Try.underlying3 h
  exact ⟨n, e, trivial⟩
theorem memWords_walk (w : World) (A : Option Addr) (c : Nat) (xs : List Int) (hm : xs.length ≤ maxLen) (hr : RowC w A (xs.flatMap icell)) (_hw : ∀ x ∈ xs, True) (x : Int) :
    Calls Try.prog 11 #[.slice A xs.length c, .int .i64 x] w fun e w' => e = .returned (.bool true) ∧ Below w.heap.size w w' :=
  (memWords_main w A c xs (by unfold maxLen at hm; omega) hr x).mono fun e w' ⟨h1, h2⟩ => ⟨h1, h2.below (Nat.le_refl _) (fun _ h => h.elim)⟩

end Go.Proofs.Ytochadejlglfgaa
