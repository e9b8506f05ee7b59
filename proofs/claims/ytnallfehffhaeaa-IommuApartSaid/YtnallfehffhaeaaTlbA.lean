/- Lines of found entries: the closures, slices.IndexFunc, slices.DeleteFunc. Printed by mktlb.py. -/
import Derived.Test.YtnallfehffhaeaaTlb
import Derived.Deep.DeepCutAuto
import Derived.Deep.CutBlock
import Derived.StillTailTactics
set_option linter.unusedSimpArgs false
set_option linter.unusedVariables false
namespace Go.Proofs.Ytnallfehffhaeaa
open Go.RowKit

theorem Try.infoLine : (Try.prog.info? 106).map (fun i => (i.zero, i.size, i.bytes)) = some (some (.agg #[.int .i64 0, .int .i64 0, .int .i64 0, .int .i64 0]), 4, 32) := by kernel_rfl
theorem run_cut_any {P : Program} (t e : TypeId) (ht : P.underlying t = some (.slice e)) (i : TypeInfo) (hi : P.info? e = some i) (A : Option Addr) (len cap n : Nat) (hn : n ≤ cap) (W : World) :
    (Instr.slice t (.slice A len cap) none (some (.int .i64 n)) none).run P W = .ok (.slice A n cap) W := by
  have ht' : P.underlying t = some (.slice (P.elem t)) := by simp [Program.elem, ht]
  have he : P.elem t = e := by simp [Program.elem, ht]
  rw [run_slice_h W t _ _ _ ht' .i64 _ (by omega) (by omega), he]
  have hz : (sizeOf e).run P W = .ok i.size W := by simp [sizeOf, typeInfo, hi]
  rw [hz]
  simp only [Result.andThen, sliced, Nat.zero_mul, Int.toNat_natCast, Nat.sub_zero]
  congr 2
  cases A <;> (split <;> simp [Addr.add])
theorem run_tail_at {P : Program} (t e : TypeId) (ht : P.underlying t = some (.slice e)) (i : TypeInfo) (hi : P.info? e = some i) (hs : i.size = 4) (g o len cap k : Nat) (hk : k ≤ len) (hc : k < cap) (W : World) :
    (Instr.slice t (.slice (some ⟨g, o, none⟩) len cap) (some (.int .i64 k)) none none).run P W = .ok (.slice (some ⟨g, o + k * 4, none⟩) (len - k) (cap - k)) W := by
  have ht' : P.underlying t = some (.slice (P.elem t)) := by simp [Program.elem, ht]
  have he : P.elem t = e := by simp [Program.elem, ht]
  rw [run_slice_l W t _ _ _ ht' .i64 _ (by omega) (by omega), he]
  have hz : (sizeOf e).run P W = .ok i.size W := by simp [sizeOf, typeInfo, hi]
  rw [hz, hs]
  simp only [Result.andThen, sliced, Int.toNat_natCast]
  rw [if_neg (by omega)]
  simp [Addr.add]
theorem zeroLine (W : World) : (zeroValue 106).run Try.prog W = .ok (.agg #[.int .i64 0, .int .i64 0, .int .i64 0, .int .i64 0]) W := by kernel_rfl
theorem setCells_chgL (g : Nat) (w : World) (vs : List Value) (o : Nat) : Chg (fun k => k = g) w (w.setCells g o vs) := Chg.setCells vs (Chg.refl _ _) o
/-- A tail is cleared; the lines ahead of it stay. -/
theorem clear_lines {w : World} {g o c n : Nat} {cs : Array Value} {nf : Int} (hb : w.heap[g]? = some (.cells cs 106 (0, 0))) (hs : cs.size = (o + c) * 4) (hl : ∀ k, k < n → LnC cs (o + k) nf) (hnc : n ≤ c) (i m k : Nat) (hi : i + m = n) (hm : 0 < m) (ty : TypeId) :
    ∃ W', (Builtin.clear_ #[113] ty #[.slice (some ⟨g, o * 4 + i * 4, none⟩) m k]).run Try.prog w = .ok (.tuple #[]) W' ∧ (∀ cm, cm = c ∧ c ≤ maxLen → LinesAt W' (.slice (some ⟨g, o * 4, none⟩) i cm) nf i) ∧ Chg (fun k => k = g) w W' := by
  obtain ⟨q, rfl⟩ : ∃ q, m = q + 1 := ⟨m - 1, by omega⟩
  have hcell : ∀ j, j < (q + 1) * 4 → (w.cell? ⟨g, o * 4 + i * 4 + j, none⟩).isSome = true := fun j hj => by
    rw [blk_cell hb, Array.getElem?_eq_getElem (by omega)]; rfl
  have hzc : ((Builtin.zeroCells (Value.agg #[.int .i64 0, .int .i64 0, .int .i64 0, .int .i64 0]).cells (q + 1)).toList).length = (q + 1) * 4 := by
    simp [Builtin.zeroCells, Value.cells]
  have h1 : ∀ v ∈ (Builtin.zeroCells (Value.agg #[.int .i64 0, .int .i64 0, .int .i64 0, .int .i64 0]).cells (q + 1)).toList, v.oneCell' = true := by
    intro v hv
    obtain ⟨j, hj, rfl⟩ := List.mem_iff_getElem.1 hv
    simp [Builtin.zeroCells, Value.cells]
    rcases (show j % 4 = 0 ∨ j % 4 = 1 ∨ j % 4 = 2 ∨ j % 4 = 3 by omega) with e | e | e | e <;> simp [e] <;> rfl
  have hst := run_storeCells_cells (P := Try.prog) g (o * 4 + i * 4) _ 0 w (by rw [hzc]; intro j hj; rw [Nat.add_zero]; exact hcell j hj) (fun j _ => by rw [Nat.add_zero]; exact blk_free hb _) h1
  simp only [Nat.add_zero] at hst
  refine ⟨w.setCells g (o * 4 + i * 4) (Builtin.zeroCells (Value.agg #[.int .i64 0, .int .i64 0, .int .i64 0, .int .i64 0]).cells (q + 1)).toList, ?_, ?_, setCells_chgL _ _ _ _⟩
  · simp [Builtin.clear_, run_underlying Try.underlying113, zeroLine, hst, Result.andThen]
  · rintro cm ⟨rfl, hcm⟩
    refine .inr ⟨g, o, cm, _, rfl, blk_setCells _ hb _, by rw [wl_size, hs], by omega, hcm, fun j hj => ?_⟩
    obtain ⟨d, p, f, x, e0, e1, e2, e3, hg⟩ := hl j (by omega)
    exact ⟨d, p, f, x, by rw [wl_out _ _ _ _ (.inl (by omega))]; exact e0, by rw [wl_out _ _ _ _ (.inl (by omega))]; exact e1, by rw [wl_out _ _ _ _ (.inl (by omega))]; exact e2, by rw [wl_out _ _ _ _ (.inl (by omega))]; exact e3, hg⟩
def LIdxPost (n : Nat) (w : World) (e : Ending) (w' : World) : Prop := (e = .returned (.int .i64 (-1)) ∨ ∃ i : Nat, i < n ∧ e = .returned (.int .i64 i)) ∧ Chg (fun _ => False) w w'
def LDelPost (v : Value) (nf : Int) (n : Nat) (w : World) (e : Ending) (w' : World) : Prop := ∃ v' m, e = .returned v' ∧ LinesAt w' v' nf m ∧ m ≤ n ∧ v'.ownBlock = v.ownBlock ∧ Chg (fun j => some j = v.ownBlock) w w'
set_option maxRecDepth 100000 in
theorem tfClo (b1 b2 : Nat) (x y : Int) (d p f q : Int) (w : World) (hb1 : w.cell? ⟨b1, 0, none⟩ = some (.int .i64 x)) (hb2 : w.cell? ⟨b2, 0, none⟩ = some (.int .i64 y)) :
    Calls Try.prog 82 #[.agg #[.int .i64 d, .int .i64 p, .int .i64 f, .int .i64 q], .pointer (some ⟨b1, 0, none⟩), .pointer (some ⟨b2, 0, none⟩)] w fun e w' => (∃ b, e = .returned (.bool b)) ∧ Chg (fun _ => False) w w' := by
  have lb1 := World.block_lt_of_cell? w _ hb1
  simp only at lb1
  have lb2 := World.block_lt_of_cell? w _ hb2
  simp only at lb2
  by_cases e1 : d = x
  · subst e1
    by_cases e2 : p = y
    · subst e2
      go_enter Try.func82, Try.ntmps82
      go_wp2
      go_ret
      exact ⟨⟨_, rfl⟩, (Chg.refl _ _).alloc _⟩
    · have d2 : (p == y) = false := by simpa using e2
      clear e2
      go_enter Try.func82, Try.ntmps82
      go_wp2
      go_ret
      exact ⟨⟨_, rfl⟩, (Chg.refl _ _).alloc _⟩
  · have d1 : (d == x) = false := by simpa using e1
    clear e1
    go_enter Try.func82, Try.ntmps82
    go_wp2
    go_ret
    exact ⟨⟨_, rfl⟩, (Chg.refl _ _).alloc _⟩
set_option maxRecDepth 100000 in
theorem tdClo (b1 b2 : Nat) (x y : Int) (d p f q : Int) (w : World) (hb1 : w.cell? ⟨b1, 0, none⟩ = some (.int .i64 x)) (hb2 : w.cell? ⟨b2, 0, none⟩ = some (.int .i64 y)) :
    Calls Try.prog 59 #[.agg #[.int .i64 d, .int .i64 p, .int .i64 f, .int .i64 q], .pointer (some ⟨b1, 0, none⟩), .pointer (some ⟨b2, 0, none⟩)] w fun e w' => (∃ b, e = .returned (.bool b)) ∧ Chg (fun _ => False) w w' := by
  have lb1 := World.block_lt_of_cell? w _ hb1
  simp only at lb1
  have lb2 := World.block_lt_of_cell? w _ hb2
  simp only at lb2
  by_cases e1 : d = x
  · subst e1
    by_cases e2 : p = y
    · subst e2
      go_enter Try.func59, Try.ntmps59
      go_wp2
      go_ret
      exact ⟨⟨_, rfl⟩, (Chg.refl _ _).alloc _⟩
    · have d2 : (p == y) = false := by simpa using e2
      clear e2
      go_enter Try.func59, Try.ntmps59
      go_wp2
      go_ret
      exact ⟨⟨_, rfl⟩, (Chg.refl _ _).alloc _⟩
  · have d1 : (d == x) = false := by simpa using e1
    clear e1
    go_enter Try.func59, Try.ntmps59
    go_wp2
    go_ret
    exact ⟨⟨_, rfl⟩, (Chg.refl _ _).alloc _⟩
set_option maxRecDepth 100000 in
theorem taClo (b1 : Nat) (x : Int) (d p f q : Int) (w : World) (hb1 : w.cell? ⟨b1, 0, none⟩ = some (.int .i64 x)) :
    Calls Try.prog 68 #[.agg #[.int .i64 d, .int .i64 p, .int .i64 f, .int .i64 q], .pointer (some ⟨b1, 0, none⟩)] w fun e w' => (∃ b, e = .returned (.bool b)) ∧ Chg (fun _ => False) w w' := by
  have lb1 := World.block_lt_of_cell? w _ hb1
  simp only at lb1
  go_enter Try.func68, Try.ntmps68
  go_wp2
  go_ret
  exact ⟨⟨_, rfl⟩, (Chg.refl _ _).alloc _⟩
set_option maxRecDepth 100000 in
set_option maxHeartbeats 1000000 in
theorem tfIndex (b1 b2 : Nat) (x y : Int) (v : Value) (nf : Int) (n : Nat) (w : World) (h : LinesAt w v nf n) (hn : n ≤ 17) (hb1 : w.cell? ⟨b1, 0, none⟩ = some (.int .i64 x)) (hb2 : w.cell? ⟨b2, 0, none⟩ = some (.int .i64 y)) :
    Calls Try.prog 81 #[v, .func (.func 82) #[] #[.pointer (some ⟨b1, 0, none⟩), .pointer (some ⟨b2, 0, none⟩)]] w (LIdxPost n w) := by
  obtain ⟨A, c, rfl⟩ := h.form
  have H := Lib.hid h; clear h
  have HCL : Hid (∀ (d p f q : Int) (W : World), Chg (fun _ => False) w W → Calls Try.prog 82 #[.agg #[.int .i64 d, .int .i64 p, .int .i64 f, .int .i64 q], .pointer (some ⟨b1, 0, none⟩), .pointer (some ⟨b2, 0, none⟩)] W fun e w' => (∃ b, e = .returned (.bool b)) ∧ Chg (fun _ => False) W w') := fun d p f q W hC => tfClo b1 b2 x y d p f q W (hC.cell hb1 id) (hC.cell hb2 id)
  clear hb1 hb2
  go_enter Try.func81, Try.ntmps81
  go_wp2_with fail
  go_loopw [8] (fun s wr => ∃ j : Nat, j ≤ n ∧ s = .int .i64 j ∧ Chg (fun _ => False) w wr) (fun s _ => n - (intOf s).toNat)
  case atStart => exact ⟨0, by omega, rfl, Chg.refl _ _⟩
  case round =>
    obtain ⟨j, hj, rfl, hC⟩ := hrel
    have j0 : (0 : Int) ≤ j := by omega
    by_cases hlt : j < n
    · have j1 : (j : Int) < n := by omega
      have n17 : (n : Int) ≤ 17 := by omega
      obtain ⟨g, o, c', cs, hv, hb, hs, hnc, hcm, hl⟩ := H.out.some_ (by omega)
      injection hv with e1 e2 e3
      subst e1 e3
      obtain ⟨d, p, f, q, a0, a1, a2, a3, _⟩ := lnC_cells (hC.at hb id) (hl j hlt)
      have hc := HCL.out d p f q wr hC
      have HC := Lib.hid hC; clear hC
      have HCC := Lib.hid hc; clear hc hb hs hl hcm
      go_wp2_with fail
      refine HCC.out.mono ?_
      rintro e w1 ⟨⟨b, rfl⟩, k1⟩
      have HC1 := Lib.hid (HC.out.trans k1); clear k1 a0 a1 a2 a3 HC HCC
      cases b with
      | true =>
        go_wp2_with fail
        go_ret
        exact ⟨.inr ⟨j, hlt, rfl⟩, HC1.out⟩
      | false =>
        go_wp2_with fail
        go_roundw
        case rel => exact ⟨j + 1, by omega, by go_num, HC1.out⟩
        case measure => simp [intOf]; omega
    · obtain rfl : j = n := by omega
      have HC := Lib.hid hC; clear hC hlt hj
      go_wp2_with fail
      go_ret
      exact ⟨.inl rfl, HC.out⟩
set_option maxRecDepth 100000 in
set_option maxHeartbeats 1000000 in
theorem tdIndex (b1 b2 : Nat) (x y : Int) (v : Value) (nf : Int) (n : Nat) (w : World) (h : LinesAt w v nf n) (hn : n ≤ 17) (hb1 : w.cell? ⟨b1, 0, none⟩ = some (.int .i64 x)) (hb2 : w.cell? ⟨b2, 0, none⟩ = some (.int .i64 y)) :
    Calls Try.prog 81 #[v, .func (.func 59) #[] #[.pointer (some ⟨b1, 0, none⟩), .pointer (some ⟨b2, 0, none⟩)]] w (LIdxPost n w) := by
  obtain ⟨A, c, rfl⟩ := h.form
  have H := Lib.hid h; clear h
  have HCL : Hid (∀ (d p f q : Int) (W : World), Chg (fun _ => False) w W → Calls Try.prog 59 #[.agg #[.int .i64 d, .int .i64 p, .int .i64 f, .int .i64 q], .pointer (some ⟨b1, 0, none⟩), .pointer (some ⟨b2, 0, none⟩)] W fun e w' => (∃ b, e = .returned (.bool b)) ∧ Chg (fun _ => False) W w') := fun d p f q W hC => tdClo b1 b2 x y d p f q W (hC.cell hb1 id) (hC.cell hb2 id)
  clear hb1 hb2
  go_enter Try.func81, Try.ntmps81
  go_wp2_with fail
  go_loopw [8] (fun s wr => ∃ j : Nat, j ≤ n ∧ s = .int .i64 j ∧ Chg (fun _ => False) w wr) (fun s _ => n - (intOf s).toNat)
  case atStart => exact ⟨0, by omega, rfl, Chg.refl _ _⟩
  case round =>
    obtain ⟨j, hj, rfl, hC⟩ := hrel
    have j0 : (0 : Int) ≤ j := by omega
    by_cases hlt : j < n
    · have j1 : (j : Int) < n := by omega
      have n17 : (n : Int) ≤ 17 := by omega
      obtain ⟨g, o, c', cs, hv, hb, hs, hnc, hcm, hl⟩ := H.out.some_ (by omega)
      injection hv with e1 e2 e3
      subst e1 e3
      obtain ⟨d, p, f, q, a0, a1, a2, a3, _⟩ := lnC_cells (hC.at hb id) (hl j hlt)
      have hc := HCL.out d p f q wr hC
      have HC := Lib.hid hC; clear hC
      have HCC := Lib.hid hc; clear hc hb hs hl hcm
      go_wp2_with fail
      refine HCC.out.mono ?_
      rintro e w1 ⟨⟨b, rfl⟩, k1⟩
      have HC1 := Lib.hid (HC.out.trans k1); clear k1 a0 a1 a2 a3 HC HCC
      cases b with
      | true =>
        go_wp2_with fail
        go_ret
        exact ⟨.inr ⟨j, hlt, rfl⟩, HC1.out⟩
      | false =>
        go_wp2_with fail
        go_roundw
        case rel => exact ⟨j + 1, by omega, by go_num, HC1.out⟩
        case measure => simp [intOf]; omega
    · obtain rfl : j = n := by omega
      have HC := Lib.hid hC; clear hC hlt hj
      go_wp2_with fail
      go_ret
      exact ⟨.inl rfl, HC.out⟩
set_option maxRecDepth 100000 in
set_option maxHeartbeats 1000000 in
theorem taIndex (b1 : Nat) (x : Int) (v : Value) (nf : Int) (n : Nat) (w : World) (h : LinesAt w v nf n) (hn : n ≤ 17) (hb1 : w.cell? ⟨b1, 0, none⟩ = some (.int .i64 x)) :
    Calls Try.prog 81 #[v, .func (.func 68) #[] #[.pointer (some ⟨b1, 0, none⟩)]] w (LIdxPost n w) := by
  obtain ⟨A, c, rfl⟩ := h.form
  have H := Lib.hid h; clear h
  have HCL : Hid (∀ (d p f q : Int) (W : World), Chg (fun _ => False) w W → Calls Try.prog 68 #[.agg #[.int .i64 d, .int .i64 p, .int .i64 f, .int .i64 q], .pointer (some ⟨b1, 0, none⟩)] W fun e w' => (∃ b, e = .returned (.bool b)) ∧ Chg (fun _ => False) W w') := fun d p f q W hC => taClo b1 x d p f q W (hC.cell hb1 id)
  clear hb1
  go_enter Try.func81, Try.ntmps81
  go_wp2_with fail
  go_loopw [8] (fun s wr => ∃ j : Nat, j ≤ n ∧ s = .int .i64 j ∧ Chg (fun _ => False) w wr) (fun s _ => n - (intOf s).toNat)
  case atStart => exact ⟨0, by omega, rfl, Chg.refl _ _⟩
  case round =>
    obtain ⟨j, hj, rfl, hC⟩ := hrel
    have j0 : (0 : Int) ≤ j := by omega
    by_cases hlt : j < n
    · have j1 : (j : Int) < n := by omega
      have n17 : (n : Int) ≤ 17 := by omega
      obtain ⟨g, o, c', cs, hv, hb, hs, hnc, hcm, hl⟩ := H.out.some_ (by omega)
      injection hv with e1 e2 e3
      subst e1 e3
      obtain ⟨d, p, f, q, a0, a1, a2, a3, _⟩ := lnC_cells (hC.at hb id) (hl j hlt)
      have hc := HCL.out d p f q wr hC
      have HC := Lib.hid hC; clear hC
      have HCC := Lib.hid hc; clear hc hb hs hl hcm
      go_wp2_with fail
      refine HCC.out.mono ?_
      rintro e w1 ⟨⟨b, rfl⟩, k1⟩
      have HC1 := Lib.hid (HC.out.trans k1); clear k1 a0 a1 a2 a3 HC HCC
      cases b with
      | true =>
        go_wp2_with fail
        go_ret
        exact ⟨.inr ⟨j, hlt, rfl⟩, HC1.out⟩
      | false =>
        go_wp2_with fail
        go_roundw
        case rel => exact ⟨j + 1, by omega, by go_num, HC1.out⟩
        case measure => simp [intOf]; omega
    · obtain rfl : j = n := by omega
      have HC := Lib.hid hC; clear hC hlt hj
      go_wp2_with fail
      go_ret
      exact ⟨.inl rfl, HC.out⟩
set_option maxRecDepth 100000 in
set_option maxHeartbeats 2000000 in
theorem tdDel (b1 b2 : Nat) (x y : Int) (v : Value) (nf : Int) (n : Nat) (w : World) (h : LinesAt w v nf n) (hn : n ≤ 17) (hb1 : w.cell? ⟨b1, 0, none⟩ = some (.int .i64 x)) (nb1 : v.ownBlock ≠ some b1) (hb2 : w.cell? ⟨b2, 0, none⟩ = some (.int .i64 y)) (nb2 : v.ownBlock ≠ some b2) :
    Calls Try.prog 76 #[v, .func (.func 59) #[] #[.pointer (some ⟨b1, 0, none⟩), .pointer (some ⟨b2, 0, none⟩)]] w (LDelPost v nf n w) := by
  have HIX := Lib.hid (tdIndex b1 b2 x y v nf n w h hn hb1 hb2)
  have HCL : Hid (∀ (d p f q : Int) (W : World), Chg (fun j => some j = v.ownBlock) w W → Calls Try.prog 59 #[.agg #[.int .i64 d, .int .i64 p, .int .i64 f, .int .i64 q], .pointer (some ⟨b1, 0, none⟩), .pointer (some ⟨b2, 0, none⟩)] W fun e w' => (∃ b, e = .returned (.bool b)) ∧ Chg (fun _ => False) W w') := fun d p f q W hC => tdClo b1 b2 x y d p f q W (hC.cell hb1 (fun h => nb1 h.symm)) (hC.cell hb2 (fun h => nb2 h.symm))
  obtain ⟨A, c, rfl⟩ := h.form
  have H := Lib.hid h; clear h
  clear hb1 nb1 hb2 nb2
  obtain ⟨l0', li, lz0, lz1, lz2⟩ := info_parts Try.infoLine
  go_enter Try.func76, Try.ntmps76
  go_wp2_with fail
  refine HIX.out.mono ?_
  rintro e w1 ⟨hcase, hC⟩
  rcases hcase with rfl | ⟨i0, hi0, rfl⟩
  · have HC := Lib.hid hC; clear hC
    go_wp2_with fail
    go_ret
    exact ⟨_, n, rfl, H.out.keep HC.out (fun _ _ => id), Nat.le_refl _, rfl, HC.out.toF _⟩
  · obtain ⟨g, o, c', cs, hv, hb, hs, hnc, hcm, hl⟩ := H.out.some_ (by omega)
    injection hv with e1 e2 e3
    subst e1 e3
    have hm1 : ((i0 : Int) == -1) = false := beq_eq_false_iff_ne.2 (by omega)
    have hi00 : (0 : Int) ≤ i0 := by omega
    have hn17 : (n : Int) ≤ 17 := by omega
    have hb1 := hC.at hb id
    have HB := Lib.hid hb1; clear hb1 hb
    have HL := Lib.hid hl; clear hl
    have HS := Lib.hid hs; clear hs
    have HC := Lib.hid hC; clear hC
    unfold maxLen at hcm
    go_wp2_with fail
    go_loopw [5, 6] (fun si sj wr => ∃ (i j : Nat) (cs' : Array Value), si = .int .i64 i ∧ sj = .int .i64 j ∧ i < j ∧ j ≤ n ∧ wr.heap[g]? = some (.cells cs' 106 (0, 0)) ∧ cs'.size = (o + c) * 4 ∧ (∀ k, k < n → LnC cs' (o + k) nf) ∧ Chg (fun k => k = g) w wr) (fun _ sj _ => n - (intOf sj).toNat)
    case atStart => exact ⟨i0, i0 + 1, cs, rfl, by go_num, by omega, by omega, HB.out, HS.out, HL.out, HC.out.toF _⟩
    case round =>
      clear HB HL HS HC
      obtain ⟨i, j, cs', rfl, rfl, hij, hj, hb, hs, hl, hC⟩ := hrel
      have j0 : (0 : Int) ≤ j := by omega
      have i0' : (0 : Int) ≤ i := by omega
      have i1' : (i : Int) < n := by omega
      have HC := Lib.hid hC; clear hC
      have HB := Lib.hid hb
      have HS := Lib.hid hs
      have HL := Lib.hid hl
      by_cases hlt : j < n
      · have j1 : (j : Int) < n := by omega
        obtain ⟨d, p, f, q, a0, a1, a2, a3, hg⟩ := lnC_cells hb (hl j hlt)
        have hgl : g < wr.heap.size := lt_of_heap hb
        obtain ⟨W1, hW1⟩ : ∃ W, W = wr.alloc (.cells #[.int .i64 d, .int .i64 p, .int .i64 f, .int .i64 q] 106) := ⟨_, rfl⟩
        obtain ⟨sb, hsb⟩ : ∃ b, b = wr.heap.size := ⟨_, rfl⟩
        have hA : Chg (fun _ => False) wr W1 := by rw [hW1]; exact (Chg.refl _ _).alloc _
        have HBN : Hid (W1.heap[sb]? = some (.cells #[.int .i64 d, .int .i64 p, .int .i64 f, .int .i64 q] 106 (0, 0))) := by rw [hW1, hsb]; exact blk_new wr _
        have HA := Lib.hid hA
        have hne : g ≠ sb := by omega
        have HG := Lib.hid hg
        have HCC := Lib.hid (HCL.out d p f q W1 (((HC.out.trans (hA.toF _))).mono (fun k _ h => by rw [h]; rfl)))
        clear hb hs hl hA hg
        go_upto_region 8 with fail
        rw [← hW1]
        try rw [← hsb]
        clear hW1 hsb a0 a1 a2 a3 hgl
        have z0 := blk_cell HBN.out 0
        have z1 := blk_cell HBN.out 1
        have z2 := blk_cell HBN.out 2
        have z3 := blk_cell HBN.out 3
        simp only [List.getElem?_toArray, List.getElem?_cons_zero, List.getElem?_cons_succ] at z0 z1 z2 z3
        go_wp2_with fail
        refine HCC.out.mono ?_
        rintro e w2 ⟨⟨bb, rfl⟩, k2⟩
        clear z0 z1 z2 z3 HCC
        have HK2 : Hid (Chg (fun _ => False) wr w2) := HA.out.trans k2
        have hbn2 := k2.at HBN.out id
        have hb2 := HK2.out.at HB.out id
        clear k2 HBN HA
        cases bb with
        | true =>
          go_wp2_with fail
          go_roundw
          case rel => exact ⟨i, j + 1, cs', rfl, by go_num, by omega, by omega, hb2, HS.out, HL.out, HC.out.trans (HK2.out.toF _)⟩
          case measure => simp [intOf]; omega
        | false =>
          have z0 := blk_cell hbn2 0
          have z1 := blk_cell hbn2 1
          have z2 := blk_cell hbn2 2
          have z3 := blk_cell hbn2 3
          simp only [List.getElem?_toArray, List.getElem?_cons_zero, List.getElem?_cons_succ] at z0 z1 z2 z3
          obtain ⟨d', p', f', q', i0c, i1c, i2c, i3c, _⟩ := lnC_cells hb2 (HL.out i (by omega))
          have g0 := blk_free hb2 (o * 4 + i * 4)
          have g1 := blk_free hb2 (o * 4 + i * 4 + 1)
          have g2 := blk_free hb2 (o * 4 + i * 4 + 2)
          have g3 := blk_free hb2 (o * 4 + i * 4 + 3)
          have hgl := lt_of_heap hb2
          have HST := Lib.hid (blk_set (blk_set (blk_set (blk_set hb2 (o * 4 + i * 4) (.int .i64 d)) (o * 4 + i * 4 + 1) (.int .i64 p)) (o * 4 + i * 4 + 2) (.int .i64 f)) (o * 4 + i * 4 + 3) (.int .i64 q))
          have HKS : Hid (Chg (fun k => k = g) w2 ((((w2.setCell ⟨g, o * 4 + i * 4, none⟩ (.int .i64 d)).setCell ⟨g, o * 4 + i * 4 + 1, none⟩ (.int .i64 p)).setCell ⟨g, o * 4 + i * 4 + 2, none⟩ (.int .i64 f)).setCell ⟨g, o * 4 + i * 4 + 3, none⟩ (.int .i64 q))) := ((((Chg.refl _ _).set1 _).set1 _).set1 _).set1 _
          have HNL := Lib.hid (fun k (hk : k < n) => lines_set (n := n) (g := g) (c := c) (d := d) (p := p) HS.out hnc HL.out (i := i) (by omega) (fun _ _ => trivial) HG.out k (.inl hk))
          clear hb2 hbn2
          go_wp2_with fail
          go_roundw
          case rel => exact ⟨i + 1, j + 1, _, by go_num, by go_num, by omega, by omega, HST.out, by simp; exact HS.out, HNL.out, (HC.out.trans (HK2.out.toF _)).trans HKS.out⟩
          case measure => simp [intOf]; omega
      · obtain rfl : j = n := by omega
        obtain ⟨W', hcl, hown, hCc⟩ := clear_lines hb hs hl hnc i (j - i) (c - i) (by omega) (by omega) 0
        have hcast : ((j : Int) - (i : Int)) = ((j - i : Nat) : Int) := by omega
        have i2' : (i : Int) ≤ c := by omega
        have hsl := run_tail_at (P := Try.prog) 113 106 Try.underlying113 l0' li lz1 g (o * 4) j c i (by omega) (by omega)
        have hcut := run_cut_any (P := Try.prog) 113 106 Try.underlying113 l0' li (some ⟨g, o * 4, none⟩) j c i (by omega)
        have hj1 : decide ((j : Int) < j) = false := by simp
        have H1 := Lib.hid hown; clear hown hb hs hl HB HS HL
        have H5 := Lib.hid hCc; clear hCc
        go_wp2_with fail
        go_ret
        exact ⟨_, i, rfl, H1.out _ ⟨rfl, by unfold maxLen; omega⟩, by omega, rfl, (HC.out.trans H5.out).mono (fun j _ h => by rw [h]; rfl)⟩
set_option maxRecDepth 100000 in
set_option maxHeartbeats 2000000 in
theorem taDel (b1 : Nat) (x : Int) (v : Value) (nf : Int) (n : Nat) (w : World) (h : LinesAt w v nf n) (hn : n ≤ 17) (hb1 : w.cell? ⟨b1, 0, none⟩ = some (.int .i64 x)) (nb1 : v.ownBlock ≠ some b1) :
    Calls Try.prog 76 #[v, .func (.func 68) #[] #[.pointer (some ⟨b1, 0, none⟩)]] w (LDelPost v nf n w) := by
  have HIX := Lib.hid (taIndex b1 x v nf n w h hn hb1)
  have HCL : Hid (∀ (d p f q : Int) (W : World), Chg (fun j => some j = v.ownBlock) w W → Calls Try.prog 68 #[.agg #[.int .i64 d, .int .i64 p, .int .i64 f, .int .i64 q], .pointer (some ⟨b1, 0, none⟩)] W fun e w' => (∃ b, e = .returned (.bool b)) ∧ Chg (fun _ => False) W w') := fun d p f q W hC => taClo b1 x d p f q W (hC.cell hb1 (fun h => nb1 h.symm))
  obtain ⟨A, c, rfl⟩ := h.form
  have H := Lib.hid h; clear h
  clear hb1 nb1
  obtain ⟨l0', li, lz0, lz1, lz2⟩ := info_parts Try.infoLine
  go_enter Try.func76, Try.ntmps76
  go_wp2_with fail
  refine HIX.out.mono ?_
  rintro e w1 ⟨hcase, hC⟩
  rcases hcase with rfl | ⟨i0, hi0, rfl⟩
  · have HC := Lib.hid hC; clear hC
    go_wp2_with fail
    go_ret
    exact ⟨_, n, rfl, H.out.keep HC.out (fun _ _ => id), Nat.le_refl _, rfl, HC.out.toF _⟩
  · obtain ⟨g, o, c', cs, hv, hb, hs, hnc, hcm, hl⟩ := H.out.some_ (by omega)
    injection hv with e1 e2 e3
    subst e1 e3
    have hm1 : ((i0 : Int) == -1) = false := beq_eq_false_iff_ne.2 (by omega)
    have hi00 : (0 : Int) ≤ i0 := by omega
    have hn17 : (n : Int) ≤ 17 := by omega
    have hb1 := hC.at hb id
    have HB := Lib.hid hb1; clear hb1 hb
    have HL := Lib.hid hl; clear hl
    have HS := Lib.hid hs; clear hs
    have HC := Lib.hid hC; clear hC
    unfold maxLen at hcm
    go_wp2_with fail
    go_loopw [5, 6] (fun si sj wr => ∃ (i j : Nat) (cs' : Array Value), si = .int .i64 i ∧ sj = .int .i64 j ∧ i < j ∧ j ≤ n ∧ wr.heap[g]? = some (.cells cs' 106 (0, 0)) ∧ cs'.size = (o + c) * 4 ∧ (∀ k, k < n → LnC cs' (o + k) nf) ∧ Chg (fun k => k = g) w wr) (fun _ sj _ => n - (intOf sj).toNat)
    case atStart => exact ⟨i0, i0 + 1, cs, rfl, by go_num, by omega, by omega, HB.out, HS.out, HL.out, HC.out.toF _⟩
    case round =>
      clear HB HL HS HC
      obtain ⟨i, j, cs', rfl, rfl, hij, hj, hb, hs, hl, hC⟩ := hrel
      have j0 : (0 : Int) ≤ j := by omega
      have i0' : (0 : Int) ≤ i := by omega
      have i1' : (i : Int) < n := by omega
      have HC := Lib.hid hC; clear hC
      have HB := Lib.hid hb
      have HS := Lib.hid hs
      have HL := Lib.hid hl
      by_cases hlt : j < n
      · have j1 : (j : Int) < n := by omega
        obtain ⟨d, p, f, q, a0, a1, a2, a3, hg⟩ := lnC_cells hb (hl j hlt)
        have hgl : g < wr.heap.size := lt_of_heap hb
        obtain ⟨W1, hW1⟩ : ∃ W, W = wr.alloc (.cells #[.int .i64 d, .int .i64 p, .int .i64 f, .int .i64 q] 106) := ⟨_, rfl⟩
        obtain ⟨sb, hsb⟩ : ∃ b, b = wr.heap.size := ⟨_, rfl⟩
        have hA : Chg (fun _ => False) wr W1 := by rw [hW1]; exact (Chg.refl _ _).alloc _
        have HBN : Hid (W1.heap[sb]? = some (.cells #[.int .i64 d, .int .i64 p, .int .i64 f, .int .i64 q] 106 (0, 0))) := by rw [hW1, hsb]; exact blk_new wr _
        have HA := Lib.hid hA
        have hne : g ≠ sb := by omega
        have HG := Lib.hid hg
        have HCC := Lib.hid (HCL.out d p f q W1 (((HC.out.trans (hA.toF _))).mono (fun k _ h => by rw [h]; rfl)))
        clear hb hs hl hA hg
        go_upto_region 8 with fail
        rw [← hW1]
        try rw [← hsb]
        clear hW1 hsb a0 a1 a2 a3 hgl
        have z0 := blk_cell HBN.out 0
        have z1 := blk_cell HBN.out 1
        have z2 := blk_cell HBN.out 2
        have z3 := blk_cell HBN.out 3
        simp only [List.getElem?_toArray, List.getElem?_cons_zero, List.getElem?_cons_succ] at z0 z1 z2 z3
        go_wp2_with fail
        refine HCC.out.mono ?_
        rintro e w2 ⟨⟨bb, rfl⟩, k2⟩
        clear z0 z1 z2 z3 HCC
        have HK2 : Hid (Chg (fun _ => False) wr w2) := HA.out.trans k2
        have hbn2 := k2.at HBN.out id
        have hb2 := HK2.out.at HB.out id
        clear k2 HBN HA
        cases bb with
        | true =>
          go_wp2_with fail
          go_roundw
          case rel => exact ⟨i, j + 1, cs', rfl, by go_num, by omega, by omega, hb2, HS.out, HL.out, HC.out.trans (HK2.out.toF _)⟩
          case measure => simp [intOf]; omega
        | false =>
          have z0 := blk_cell hbn2 0
          have z1 := blk_cell hbn2 1
          have z2 := blk_cell hbn2 2
          have z3 := blk_cell hbn2 3
          simp only [List.getElem?_toArray, List.getElem?_cons_zero, List.getElem?_cons_succ] at z0 z1 z2 z3
          obtain ⟨d', p', f', q', i0c, i1c, i2c, i3c, _⟩ := lnC_cells hb2 (HL.out i (by omega))
          have g0 := blk_free hb2 (o * 4 + i * 4)
          have g1 := blk_free hb2 (o * 4 + i * 4 + 1)
          have g2 := blk_free hb2 (o * 4 + i * 4 + 2)
          have g3 := blk_free hb2 (o * 4 + i * 4 + 3)
          have hgl := lt_of_heap hb2
          have HST := Lib.hid (blk_set (blk_set (blk_set (blk_set hb2 (o * 4 + i * 4) (.int .i64 d)) (o * 4 + i * 4 + 1) (.int .i64 p)) (o * 4 + i * 4 + 2) (.int .i64 f)) (o * 4 + i * 4 + 3) (.int .i64 q))
          have HKS : Hid (Chg (fun k => k = g) w2 ((((w2.setCell ⟨g, o * 4 + i * 4, none⟩ (.int .i64 d)).setCell ⟨g, o * 4 + i * 4 + 1, none⟩ (.int .i64 p)).setCell ⟨g, o * 4 + i * 4 + 2, none⟩ (.int .i64 f)).setCell ⟨g, o * 4 + i * 4 + 3, none⟩ (.int .i64 q))) := ((((Chg.refl _ _).set1 _).set1 _).set1 _).set1 _
          have HNL := Lib.hid (fun k (hk : k < n) => lines_set (n := n) (g := g) (c := c) (d := d) (p := p) HS.out hnc HL.out (i := i) (by omega) (fun _ _ => trivial) HG.out k (.inl hk))
          clear hb2 hbn2
          go_wp2_with fail
          go_roundw
          case rel => exact ⟨i + 1, j + 1, _, by go_num, by go_num, by omega, by omega, HST.out, by simp; exact HS.out, HNL.out, (HC.out.trans (HK2.out.toF _)).trans HKS.out⟩
          case measure => simp [intOf]; omega
      · obtain rfl : j = n := by omega
        obtain ⟨W', hcl, hown, hCc⟩ := clear_lines hb hs hl hnc i (j - i) (c - i) (by omega) (by omega) 0
        have hcast : ((j : Int) - (i : Int)) = ((j - i : Nat) : Int) := by omega
        have i2' : (i : Int) ≤ c := by omega
        have hsl := run_tail_at (P := Try.prog) 113 106 Try.underlying113 l0' li lz1 g (o * 4) j c i (by omega) (by omega)
        have hcut := run_cut_any (P := Try.prog) 113 106 Try.underlying113 l0' li (some ⟨g, o * 4, none⟩) j c i (by omega)
        have hj1 : decide ((j : Int) < j) = false := by simp
        have H1 := Lib.hid hown; clear hown hb hs hl HB HS HL
        have H5 := Lib.hid hCc; clear hCc
        go_wp2_with fail
        go_ret
        exact ⟨_, i, rfl, H1.out _ ⟨rfl, by unfold maxLen; omega⟩, by omega, rfl, (HC.out.trans H5.out).mono (fun j _ h => by rw [h]; rfl)⟩
end Go.Proofs.Ytnallfehffhaeaa
