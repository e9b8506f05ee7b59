/- Chapter 12: the document's sets: New, Raise, among, Take. -/
import Derived.Test.YtpnhdiajiieonaaPendOnce
set_option linter.unusedSimpArgs false
set_option linter.unusedVariables false
namespace Go.Proofs.Ytpnhdiajiieonaa
open Go.RowKit

/-- The document's sets at block p, their bools at block R. -/
structure RefAt (w : World) (p R n : Nat) (S : Nat → Nat → Bool) : Prop where
  hp : w.heap[p]? = some (.cells #[.slice (some ⟨R, 0, none⟩) n n] 154 (0, 0))
  up : UpAt 162 n w R S
section
variable {w w' : World} {p R n : Nat} {S S' : Nat → Nat → Bool}
theorem RefAt.keep {X : Nat → Prop} (h : RefAt w p R n S) (hC : Chg X w w') (hp : ¬ X p) (hR : ¬ X R) : RefAt w' p R n S := ⟨hC.at h.hp hp, h.up.keep hC hR⟩
theorem RefAt.keepN (h : RefAt w p R n S) (hC : Chg (fun _ => False) w w') : RefAt w' p R n S := h.keep hC id id
theorem RefAt.ne (h : RefAt w p R n S) : p ≠ R := by
  rintro rfl
  obtain ⟨cs, h1, _⟩ := h.up
  have := h.hp
  rw [h1] at this; injection this with this; injection this with _ this; exact absurd this (by decide)
theorem RefAt.cong (h : RefAt w p R n S) (e : ∀ a k, a < n → k < 32 → S a k = S' a k) : RefAt w p R n S' := by
  obtain ⟨cs, h1, h2, h3⟩ := h.up
  exact ⟨h.hp, cs, h1, h2, fun a k ha hk => by rw [← e a k ha hk]; exact h3 a k ha hk⟩
theorem RefAt.put (h : RefAt w p R n S) {a k : Nat} (ha : a < n) (hk : k < 32) (b : Bool) : RefAt (w.setCell ⟨R, a * 32 + k, none⟩ (.bool b)) p R n (fun a' k' => if a' = a ∧ k' = k then b else S a' k') := by
  obtain ⟨cs, h1, h2, h3⟩ := h.up
  refine ⟨blk_far h.hp h.ne _, _, blk_set h1 _ _, by simpa using h2, fun a' k' ha' hk' => ?_⟩
  by_cases e : a * 32 + k = a' * 32 + k'
  · have e1 : a' = a := by omega
    have e2 : k' = k := by omega
    subst e1 e2
    rw [Array.getElem?_setIfInBounds_self_of_lt (by omega)]; simp
  · rw [Array.getElem?_setIfInBounds_ne e, h3 a' k' ha' hk']
    show _ = some (Value.bool (if a' = a ∧ k' = k then b else S a' k'))
    rw [if_neg (by omega)]
theorem RefAt.chg (h : RefAt w p R n S) (i : Nat) (b : Value) : Chg (fun k => k = R) w (w.setCell ⟨R, i, none⟩ b) := Chg.set1 (Chg.refl _ _) b
end
theorem Try.info162 : (Try.prog.info? 162).map (fun i => (i.zero, i.size, i.bytes)) = some (some (.agg (Array.replicate 32 (.bool false))), 32, 32) := by kernel_rfl
theorem made32 (n : Nat) : madeCells (Array.replicate 32 (Value.bool false)) (n * 32) = Array.replicate (n * 32) (.bool false) := by
  apply Array.ext
  · simp [madeCells]
  · intro i h1 h2
    simp [madeCells] at h1
    have h3 := madeCells_get (Array.replicate 32 (Value.bool false)) (n * 32) i h1 (by simp)
    rw [Array.getElem?_eq_getElem (by simp [madeCells]; exact h1)] at h3
    rw [Array.getElem?_replicate, if_pos (by simp; omega)] at h3
    injection h3 with h3
    rw [h3, Array.getElem_replicate]
def RNewPost (n : Nat) (w : World) (e : Ending) (w' : World) : Prop := e = .returned (.tuple #[.pointer (some ⟨w.heap.size + 1, 0, none⟩), .int .i64 0]) ∧ w'.heap.size = w.heap.size + 2 ∧ RefAt w' (w.heap.size + 1) w.heap.size n (fun _ _ => false) ∧ Chg (fun _ => False) w w'
set_option maxRecDepth 100000 in
theorem rNew_ok (n : Nat) (w : World) (h1 : 1 ≤ n) (h2 : n ≤ 4) : Calls Try.prog 46 #[.int .i64 n] w (RNewPost n w) := by
  obtain ⟨i0, hi, hz0, hz1, hz2⟩ := info_parts Try.info162
  have hmk : ∀ W : World, (Instr.makeSlice 152 (.int .i64 n) (.int .i64 n)).run Try.prog W = .ok (.slice (some ⟨W.heap.size, 0, none⟩) n n) (W.alloc (.cells (Array.replicate (n * 32) (.bool false)) 162)) := fun W => by
    have := run_make (P := Try.prog) W 152 162 i0 _ Try.underlying152 hi hz0 .i64 .i64 (n : Int) (n : Int) (by omega) (by omega) (by rw [hz2]; omega) (by omega)
    rw [hz1, show (Value.agg (Array.replicate 32 (Value.bool false))).cells = Array.replicate 32 (Value.bool false) from rfl] at this
    rw [Int.toNat_natCast, made32] at this
    exact this
  have hn1 : (1 : Int) ≤ n := by omega
  have hn2 : (n : Int) ≤ 4 := by omega
  have fin : ∀ W : World, W = (w.alloc (.cells (Array.replicate (n * 32) (.bool false)) 162)).alloc (.cells #[.slice (some ⟨w.heap.size, 0, none⟩) n n] 154) → W.heap.size = w.heap.size + 2 ∧ RefAt W (w.heap.size + 1) w.heap.size n (fun _ _ => false) ∧ Chg (fun _ => False) w W := by
    rintro W rfl
    refine ⟨by simp, ⟨by simpa using blk_new (w.alloc (.cells (Array.replicate (n * 32) (.bool false)) 162)) (.cells #[.slice (some ⟨w.heap.size, 0, none⟩) n n] 154), _, blk_alloc (blk_new _ _) _, by simp, fun a k ha hk => by rw [Array.getElem?_replicate, if_pos (by omega)]⟩, ((Chg.refl _ _).alloc _).alloc _⟩
  have FIN := Lib.hid fin; clear fin
  clear hz1 hz2
  generalize Array.replicate (n * 32) (Value.bool false) = vs at *
  go_enter Try.func46, Try.ntmps46
  go_wp2
  go_ret2
  exact ⟨rfl, FIN.out _ rfl⟩
theorem rNew_no (n : Int) (w : World) (h1 : ¬ (1 ≤ n ∧ n ≤ 4)) : Calls Try.prog 46 #[.int .i64 n] w fun e w' => e = .returned (.tuple #[.pointer none, .int .i64 1200]) ∧ w = w' := by
  by_cases h : 1 ≤ n
  · have h2 : ¬ n ≤ 4 := by omega
    have h3 : 4 < n := by omega
    go_enter Try.func46, Try.ntmps46
    go_wp2
    go_ret2
    exact ⟨rfl, rfl⟩
  · have h3 : n < 1 := by omega
    go_enter Try.func46, Try.ntmps46
    go_wp2
    go_ret2
    exact ⟨rfl, rfl⟩
theorem rRaise_out (p R n : Nat) (part d v : Int) (S : Nat → Nat → Bool) (w : World) (h : RefAt w p R n S) (hn : n ≤ 4) (hr : ¬ raiseP n part d v) :
    Calls Try.prog 49 #[.pointer (some ⟨p, 0, none⟩), .int .i64 part, .int .i64 d, .int .i64 v] w fun e w' => e = .returned (.tuple #[.bool false, .int .i64 1200]) ∧ w = w' := by
  have c0 := blk_cell h.hp 0
  clear h
  unfold raiseP at hr
  have hn0 : (0 : Int) ≤ n := by omega
  have hn4 : (n : Int) ≤ 4 := by omega
  by_cases h1 : 0 ≤ part
  · by_cases h2 : part < n
    · by_cases h3 : 0 ≤ d
      · by_cases h4 : d < 4
        · by_cases h5 : 0 ≤ v
          · have h6 : 8 ≤ v := by omega
            clear hr
            go_enter Try.func49, Try.ntmps49
            go_wp2
            go_ret2
            exact ⟨rfl, rfl⟩
          · have h6 : v < 0 := by omega
            clear hr h5
            go_enter Try.func49, Try.ntmps49
            go_wp2
            go_ret2
            exact ⟨rfl, rfl⟩
        · have h6 : 4 ≤ d := by omega
          clear hr h4
          go_enter Try.func49, Try.ntmps49
          go_wp2
          go_ret2
          exact ⟨rfl, rfl⟩
      · have h6 : d < 0 := by omega
        clear hr h3
        go_enter Try.func49, Try.ntmps49
        go_wp2
        go_ret2
        exact ⟨rfl, rfl⟩
    · have h6 : (n : Int) ≤ part := by omega
      clear hr h2
      go_enter Try.func49, Try.ntmps49
      go_wp2
      go_ret2
      exact ⟨rfl, rfl⟩
  · have h6 : part < 0 := by omega
    clear hr h1
    go_enter Try.func49, Try.ntmps49
    go_wp2
    go_ret2
    exact ⟨rfl, rfl⟩
set_option maxRecDepth 100000 in
theorem rRaise (p R n : Nat) (part d v : Int) (S : Nat → Nat → Bool) (w : World) (h : RefAt w p R n S) (hn : n ≤ 4) :
    Calls Try.prog 49 #[.pointer (some ⟨p, 0, none⟩), .int .i64 part, .int .i64 d, .int .i64 v] w fun e w' =>
      e = .returned (.tuple #[.bool (raiseB n part d v S), .int .i64 (raiseC n part d v)]) ∧ RefAt w' p R n (raiseS n part d v S) ∧ Chg (fun k => k = R) w w' := by
  unfold raiseS raiseB raiseC
  by_cases hr : raiseP n part d v
  · rw [if_pos hr, if_pos hr, if_pos hr]
    unfold raiseP at hr
    obtain ⟨h1, h2, h3, h4, h5, h6⟩ := hr
    have hk : keyOf d v = d.toNat * 8 + v.toNat := by unfold keyOf; omega
    have hk32 : keyOf d v < 32 := by rw [hk]; omega
    have ha : part.toNat < n := by omega
    have c0 := blk_cell h.hp 0
    have c1 := h.up.cell ha hk32
    have f1 := h.up.free (part.toNat * 32 + (d.toNat * 8 + v.toNat))
    have hput := h.put ha hk32 true
    rw [hk] at c1 hput ⊢
    rw [← Nat.add_assoc] at c1 f1 hput
    have hfin : RefAt (w.setCell ⟨R, part.toNat * 32 + d.toNat * 8 + v.toNat, none⟩ (.bool true)) p R n (fun a b => S a b || (decide (a = part.toNat) && decide (b = d.toNat * 8 + v.toNat))) ∧ Chg (fun k => k = R) w (w.setCell ⟨R, part.toNat * 32 + d.toNat * 8 + v.toNat, none⟩ (.bool true)) := by
      refine ⟨hput.cong (fun a k _ _ => ?_), h.chg _ _⟩
      by_cases e : a = part.toNat ∧ k = d.toNat * 8 + v.toNat
      · rw [if_pos e, e.1, e.2]; simp
      · rw [if_neg e]
        have : (decide (a = part.toNat) && decide (k = d.toNat * 8 + v.toNat)) = false := by rw [Bool.eq_false_iff]; intro hh; simp at hh; exact e hh
        rw [this, Bool.or_false]
    have FIN := Lib.hid hfin; clear hfin hput h
    clear hk hk32
    generalize S part.toNat (d.toNat * 8 + v.toNat) = b at *
    go_enter Try.func49, Try.ntmps49
    go_wp2
    go_ret2
    exact ⟨rfl, FIN.out⟩
  · rw [if_neg hr, if_neg hr, if_neg hr]
    refine (rRaise_out p R n part d v S w h hn hr).mono ?_
    rintro e w' ⟨rfl, rfl⟩
    exact ⟨rfl, h, Chg.refl _ _⟩
/-- A slice of interrupts reads as ms. -/
def AmPost (ms : List Iq) (d v : Int) (w : World) (e : Ending) (w' : World) : Prop := e = .returned (.bool (decide ((d, v) ∈ ms.map dv))) ∧ w = w'
set_option maxRecDepth 100000 in
theorem rAmong (mv : Value) (ms : List Iq) (d v : Int) (w : World) (h : RdI w mv ms) (hn : ms.length ≤ 9223372036854775807) :
    Calls Try.prog 98 #[mv, .int .i64 d, .int .i64 v] w (AmPost ms d v w) := by
  obtain ⟨A, c, rfl, h⟩ := h
  have H := Lib.hid h; clear h
  go_enter Try.func98, Try.ntmps98
  go_wp2_with fail
  go_loop [7] (fun s => ∃ j : Nat, j ≤ ms.length ∧ s = .int .i64 j ∧ (d, v) ∉ (ms.take j).map dv) (fun s => ms.length - (intOf s).toNat)
  case atStart => exact ⟨0, by omega, rfl, by simp⟩
  case round =>
    obtain ⟨j, hj, rfl, hno⟩ := hrel
    have j0 : (0 : Int) ≤ j := by omega
    by_cases hlt : j < ms.length
    · have j1 : (j : Int) < ms.length := by omega
      obtain ⟨g, o, rfl, _, a1, a2⟩ := H.out j hlt
      have hs : (ms.take (j + 1)).map dv = (ms.take j).map dv ++ [dv ms[j]] := by rw [List.take_succ_eq_append_getElem hlt, List.map_append]; rfl
      have hin : dv ms[j] ∈ ms.map dv := List.mem_map_of_mem (List.getElem_mem hlt)
      unfold dv at hs hin
      by_cases e1 : ms[j].d = d
      · by_cases e2 : ms[j].v = v
        · rw [e1] at a1 hin
          rw [e2] at a2 hin
          have hy : decide ((d, v) ∈ ms.map dv) = true := decide_eq_true hin
          have HY := Lib.hid hy; clear hy hin hs hno e1 e2
          go_wp2_with fail
          go_ret
          exact ⟨by rw [HY.out]; rfl, rfl⟩
        · have hno' : (d, v) ∉ (ms.take (j + 1)).map dv := by
            unfold dv at hno ⊢
            rw [hs, List.mem_append]; rintro (hh | hh)
            · exact hno hh
            · simp at hh; exact e2 hh.2.symm
          rw [e1] at a1
          have HN := Lib.hid hno'; clear hno' hno hs hin e1
          have e3 : (ms[j].v == v) = false := by simpa using e2
          generalize ms[j].v = y at *
          clear e2
          go_wp2_with fail
          go_round
          case rel => exact ⟨j + 1, by omega, by go_num, HN.out⟩
          case measure => simp [intOf]; omega
      · have hno' : (d, v) ∉ (ms.take (j + 1)).map dv := by
          unfold dv at hno ⊢
          rw [hs, List.mem_append]; rintro (hh | hh)
          · exact hno hh
          · simp at hh; exact e1 hh.1.symm
        have HN := Lib.hid hno'; clear hno' hno hs hin
        have e3 : (ms[j].d == d) = false := by simpa using e1
        generalize ms[j].d = x at *
        clear e1 a2
        go_wp2_with fail
        go_round
        case rel => exact ⟨j + 1, by omega, by go_num, HN.out⟩
        case measure => simp [intOf]; omega
    · obtain rfl : j = ms.length := by omega
      rw [List.take_of_length_le (Nat.le_refl _)] at hno
      have hy : decide ((d, v) ∈ ms.map dv) = false := decide_eq_false hno
      have HY := Lib.hid hy; clear hy hno hlt hj
      go_wp2_with fail
      go_ret
      exact ⟨by rw [HY.out]; rfl, rfl⟩
end Go.Proofs.Ytpnhdiajiieonaa
