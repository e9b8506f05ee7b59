/- Whose devices are: assign's New, there, Owner, Move, Tick. Printed by mkasg.py. -/
import Derived.Test.YtncbcjjdnlmjbaaCopy2
import Derived.StillTailTactics
set_option linter.unusedSimpArgs false
set_option linter.unusedVariables false
namespace Go.Proofs.Ytncbcjjdnlmjbaa
open Go.RowKit

/-! ### Plain: a device is a partition's, or will be when no ticks are left -/
abbrev AL := List (Int × Int)
def ainA (A : AL) (d : Int) : Prop := 0 ≤ d ∧ d < A.length
instance (A : AL) (d : Int) : Decidable (ainA A d) := by unfold ainA; infer_instance
def agetA (A : AL) (d : Int) : Int × Int := A.getD d.toNat (0, 0)
def ownA (A : AL) (d : Int) : Int := if ainA A d ∧ ¬ 0 < (agetA A d).2 then (agetA A d).1 else -1
def mvC (np : Int) (A : AL) (d to_ : Int) : Int := if ¬ (ainA A d ∧ 0 ≤ to_ ∧ to_ < np) then 1500 else if 0 < (agetA A d).2 then 1501 else 0
def mvA (q np : Int) (A : AL) (d to_ : Int) : AL := if mvC np A d to_ = 0 then A.set d.toNat (to_, q) else A
def tickS (x : Int × Int) : Int × Int := if x.2 = 0 then x else (x.1, x.2 - 1)
def tickA (A : AL) : AL := A.map tickS
def tickFrom (i : Nat) : AL → List Int
  | [] => []
  | x :: A => if x.2 = 1 then (i : Int) :: tickFrom (i + 1) A else tickFrom (i + 1) A
def tickL (A : AL) : List Int := tickFrom 0 A
/-- What is left is within bounds. -/
def AOk (A : AL) : Prop := A.length ≤ 4 ∧ ∀ x ∈ A, 0 ≤ x.2 ∧ x.2 ≤ 8
theorem agetA_at (A : AL) (d : Nat) (h : d < A.length) : agetA A d = A[d] := by unfold agetA; simp [h]
theorem ecell_len (x : Int × Int) : (ecell x).length = 2 := rfl
/-- Block a is a table, its row is block r. -/
def AsgAt (w : World) (a r : Nat) (q np : Int) (A : AL) : Prop :=
  ∃ cap, w.heap[a]? = some (.cells #[.int .i64 q, .int .i64 np, .slice (some ⟨r, 0, none⟩) A.length cap] 180 (0, 0)) ∧ OwnC ecell 2 182 w r (.slice (some ⟨r, 0, none⟩) A.length cap) A
section
variable {w w' : World} {a r : Nat} {q np : Int} {A : AL} {S : Nat → Prop}
theorem AsgAt.keep (h : AsgAt w a r q np A) (hC : Chg S w w') (ha : ¬ S a) (hr : ¬ S r) : AsgAt w' a r q np A := by
  obtain ⟨cap, h1, h2⟩ := h
  exact ⟨cap, hC.at h1 ha, h2.keep hC (fun k hk => by simp [Value.ownBlock] at hk; subst hk; exact hr)⟩
theorem AsgAt.keepN (h : AsgAt w a r q np A) (hC : Chg (fun _ => False) w w') : AsgAt w' a r q np A := h.keep hC id id
theorem AsgAt.lt (h : AsgAt w a r q np A) : a < w.heap.size ∧ r < w.heap.size := by
  obtain ⟨cap, h1, h2⟩ := h; exact ⟨lt_of_heap h1, (own_lt h2 rfl).2⟩
theorem AsgAt.ne (h : AsgAt w a r q np A) : a ≠ r := by
  obtain ⟨cap, h1, h2⟩ := h
  rintro rfl
  exact own_ne h2 h1 (by decide) rfl
end
theorem Try.infoSt : (Try.prog.info? 182).map (fun i => (i.zero, i.size, i.bytes)) = some (some (.agg #[.int .i64 0, .int .i64 0]), 2, 16) := by kernel_rfl
def AsgNewPost (q np : Int) (L : List Int) (w : World) (e : Ending) (w' : World) : Prop := ∃ a r, e = .returned (.tuple #[.pointer (some ⟨a, 0, none⟩), .int .i64 0]) ∧ AsgAt w' a r q np (L.map (fun x => (x, 0))) ∧ w.heap.size ≤ a ∧ w.heap.size ≤ r ∧ Chg (fun _ => False) w w'
set_option maxRecDepth 100000 in
set_option maxHeartbeats 4000000 in
theorem asgNew (v : Value) (q np : Int) (L : List Int) (w : World) (h : RdN w v L) (h0 : 1 ≤ q) (h1 : q ≤ 8) (h2 : 1 ≤ np) (h3 : np ≤ 4) (h4 : 1 ≤ L.length) (h5 : L.length ≤ 4) (hL : ∀ x ∈ L, 0 ≤ x ∧ x < np) :
    Calls Try.prog 74 #[.int .i64 q, .int .i64 np, v] w (AsgNewPost q np L w) := by
  obtain ⟨s0, si, sz0, sz1, sz2⟩ := info_parts Try.infoSt
  have HR : Hid (∀ W, Chg (fun _ => False) w W → RdN W v L) := fun W hW => h.keepN hW
  obtain ⟨_, AA, cc, rfl, _⟩ := h
  have HL := Lib.hid hL; clear hL
  have hl : (L.length : Int) ≤ 4 := by omega
  have hl1 : (1 : Int) ≤ L.length := by omega
  have g0 : decide (q < 1) = false := decide_eq_false (by omega)
  have g1 : decide (8 < q) = false := decide_eq_false (by omega)
  have g2 : decide (np < 1) = false := decide_eq_false (by omega)
  have g3 : decide (4 < np) = false := decide_eq_false (by omega)
  have g4 : decide (L.length < 1) = false := decide_eq_false (by omega)
  have g5 : decide (4 < (L.length : Int)) = false := decide_eq_false (by omega)
  have g6 : decide ((L.length : Int) < 1) = false := decide_eq_false (by omega)
  have g7 : decide (4 < L.length) = false := decide_eq_false (by omega)
  go_enter Try.func74, Try.ntmps74
  go_upto_region 4 with fail
  refine wp_abs (fun W => W.heap[w.heap.size]? = some (.cells #[.int .i64 q, .int .i64 np, .slice none 0 0] 180 (0, 0)) ∧ Chg (fun _ => False) w W) ⟨blk_new _ _, (Chg.refl _ _).alloc _⟩ ?_
  rintro W0 ⟨hcb, hC⟩
  have HCB := Lib.hid hcb; clear hcb
  have HC := Lib.hid hC; clear hC
  have HO0 := Lib.hid (OwnC.nil (cells := ecell) (C := 2) (e := 182) W0 w.heap.size)
  clear g0 g1 g2 g3 g4 g5 g6 g7
  go_wp2_with fail
  go_loopw [41] (fun s41 wr => ∃ (i : Nat) (vv : Value), i ≤ L.length ∧ s41 = .int .i64 i ∧ wr.heap[w.heap.size]? = some (.cells #[.int .i64 q, .int .i64 np, vv] 180 (0, 0)) ∧ OwnC ecell 2 182 wr w.heap.size vv ((L.take i).map (fun x => (x, 0))) ∧ Chg (fun _ => False) w wr) (fun s41 _ => (L.length - intOf s41).toNat)
  case atStart => exact ⟨0, _, by omega, rfl, HCB.out, HO0.out, HC.out⟩
  case round =>
    clear HCB HC HO0
    obtain ⟨i, vv, hi, rfl, hcb, ho, hC⟩ := hrel
    have i0 : (0 : Int) ≤ i := by omega
    have HC := Lib.hid hC; clear hC
    obtain ⟨BB, kk, rfl⟩ := ho.slice
    have hml : ((L.take i).map (fun x => (x, (0 : Int)))).length = i := by simp; omega
    by_cases hlt : i < L.length
    · have i1 : (i : Int) < L.length := by omega
      obtain ⟨_, A', c', hv, hel⟩ := HR.out wr HC.out
      injection hv with e1 e2 e3
      subst e1 e3
      obtain ⟨g, o, rfl, a0⟩ := hel i hlt
      clear hel e2
      obtain ⟨X, hX⟩ : ∃ X, X = L[i] := ⟨_, rfl⟩
      obtain ⟨x0, x1⟩ := HL.out _ (List.getElem_mem hlt)
      rw [← hX] at a0 x0 x1
      have HTK : Hid ((L.take (i + 1)).map (fun x => (x, (0 : Int))) = (L.take i).map (fun x => (x, 0)) ++ [(X, 0)]) := by unfold Hid; rw [List.take_succ_eq_append_getElem hlt, List.map_append, ← hX]; rfl
      clear hX
      generalize hLL : (L.take i).map (fun x => (x, (0 : Int))) = LL at *
      clear hLL
      have d0 : decide (X < 0) = false := decide_eq_false (by omega)
      have d1 : decide (np ≤ X) = false := decide_eq_false (by omega)
      have y0 := blk_cell hcb 0
      have y1 := blk_cell hcb 1
      have y2 := blk_cell hcb 2
      simp only [List.getElem?_toArray, List.getElem?_cons_zero, List.getElem?_cons_succ] at y0 y1 y2
      have hBK : ∀ o, OwnC ecell 2 182 (wr.alloc o) w.heap.size (.slice BB LL.length kk) LL := fun o => ho.keep ((Chg.refl (fun _ => False) _).alloc o) (fun _ _ => id)
      have hLT : ∀ k, Value.ownBlock (.slice BB LL.length kk) = some k → w.heap.size ≤ k ∧ k ≠ w.heap.size := fun k hk => ⟨(own_lt ho hk).1, by rintro rfl; exact own_ne ho hcb (by decide) hk⟩
      have HN := Lib.hid (rowc_blk (blk_new wr (.cells #[.int .i64 X, .int .i64 0] 182)))
      have HBK := Lib.hid hBK; clear hBK ho
      have HLT := Lib.hid hLT; clear hLT
      have HCB := Lib.hid hcb; clear hcb
      have HM := Lib.hid (show LL.length + 1 ≤ maxLen by unfold maxLen; omega)
      have HY := Lib.hid (show (LL.length + 1) * 16 ≤ 140737488355328 by omega)
      have HBS : Hid (∀ o, w.heap.size ≤ (wr.alloc o).heap.size) := fun o => by have := HC.out.size; simp; omega
      have HML := Lib.hid hml; clear hml
      go_wp2_with (at_builtin; refine wpList_append_row _ rfl _ _ 178 rfl w.heap.size 182 s0 (.agg #[.int .i64 0, .int .i64 0]) 2 16 Try.underlying178 si sz0 sz1 sz2 rfl (by decide) (.slice BB LL.length kk) LL.length (LL.flatMap ecell) rfl (HBK.out _) (some ⟨wr.heap.size, 0, none⟩) 1 1 [.int .i64 X, .int .i64 0] rfl rfl HN.out (by intro u hu; simp at hu; rcases hu with rfl | rfl <;> rfl) HM.out HY.out (HBS.out _) ?_)
      intro v5 w5 hown5 hgr hat5
      have hO5 : OwnC ecell 2 182 w5 w.heap.size v5 (LL ++ [(X, 0)]) := by simpa [OwnC, ecell] using hown5
      have hC5 : Chg (fun k => some k = Value.ownBlock (.slice BB LL.length kk)) wr w5 := Chg.grown ((Chg.refl _ _).alloc _) hgr (fun k hk _ => hk.symm)
      have hcb5 := hC5.at HCB.out (fun e => (HLT.out _ e.symm).2 rfl)
      have HC5 : Hid (Chg (fun _ => False) w w5) := HC.out.trans' hC5 (fun k hk e => by have := (HLT.out k e.symm).1; omega)
      obtain ⟨B5, k5, hv5⟩ := hO5.slice
      rw [List.length_append, List.length_singleton] at hv5
      subst hv5
      clear y0 y1 y2 a0
      have y2 := blk_cell hcb5 2
      have yf := blk_free hcb5 2
      have yl := lt_of_heap hcb5
      simp only [List.getElem?_toArray, List.getElem?_cons_zero, List.getElem?_cons_succ] at y2
      have HO5 := Lib.hid hO5
      have HCB5 := Lib.hid hcb5
      have HST : Hid (∀ u, Chg (fun k => k = w.heap.size) w5 (w5.setCell ⟨w.heap.size, 2, none⟩ u)) := fun u => (Chg.refl _ _).set1 _
      clear hO5 hcb5 hC5 hown5 hgr hat5 HBK HLT HCB HC HN HM HY HBS
      go_wp2_with fail
      go_roundw
      case rel => exact ⟨i + 1, _, by omega, by go_num, blk_set HCB5.out 2 _, by rw [HTK.out]; exact HO5.out.far HCB5.out (by decide) (HST.out _), HC5.out.trans' (HST.out _) (fun k hk e => by omega)⟩
      case measure => simp [intOf]; omega
    · obtain rfl : i = L.length := by omega
      rw [List.take_length] at ho hcb hml
      have hpos : 0 < (L.map (fun x => (x, (0 : Int)))).length := by simp; omega
      obtain ⟨g, cap, hv, hg1, hg2, _⟩ := ho.form hpos
      injection hv with e1 e2 e3
      subst e1 e3
      have HF : Hid (AsgAt wr w.heap.size g q np (L.map (fun x => (x, 0)))) := ⟨_, hcb, by
        obtain ⟨o1, o2⟩ := ho
        refine ⟨o1, ?_⟩
        rcases o2 with ⟨o3, _⟩ | ⟨g', cap', cur, hv, _, r⟩
        · cases o3
        · injection hv with e1 e2 e3; injection e1 with e1; injection e1 with e1
          subst e1 e3
          exact .inr ⟨g, _, cur, rfl, Nat.le_refl _, r⟩⟩
      clear ho hcb hml
      go_wp2_with fail
      go_ret2
      exact ⟨_, g, rfl, HF.out, Nat.le_refl _, hg1, HC.out⟩
theorem AsgAt.open {w : World} {a r : Nat} {q np : Int} {A : AL} (h : AsgAt w a r q np A) : ∃ cap, w.cell? ⟨a, 0, none⟩ = some (.int .i64 q) ∧ w.cell? ⟨a, 1, none⟩ = some (.int .i64 np) ∧ w.cell? ⟨a, 2, none⟩ = some (.slice (some ⟨r, 0, none⟩) A.length cap) := by
  obtain ⟨cap, h1, h2⟩ := h
  exact ⟨cap, blk_cell h1 0, blk_cell h1 1, blk_cell h1 2⟩
theorem AsgAt.elem {w : World} {a r : Nat} {q np : Int} {A : AL} (h : AsgAt w a r q np A) {i : Nat} (hi : i < A.length) : w.cell? ⟨r, i * 2, none⟩ = some (.int .i64 A[i].1) ∧ w.cell? ⟨r, i * 2 + 1, none⟩ = some (.int .i64 A[i].2) ∧ w.frozen? ⟨r, i * 2, none⟩ = false ∧ w.frozen? ⟨r, i * 2 + 1, none⟩ = false := by
  obtain ⟨cap, h1, h2⟩ := h
  have q0 := h2.cell ecell_len hi (show 0 < 2 by omega)
  have q1 := h2.cell ecell_len hi (show 1 < 2 by omega)
  exact ⟨by simpa [ecell] using q0, by simpa [ecell] using q1, h2.free _, h2.free _⟩
theorem AsgAt.set {w : World} {a r : Nat} {q np : Int} {A : AL} (h : AsgAt w a r q np A) {i : Nat} (hi : i < A.length) (x : Int × Int) : AsgAt ((w.setCell ⟨r, i * 2, none⟩ (.int .i64 x.1)).setCell ⟨r, i * 2 + 1, none⟩ (.int .i64 x.2)) a r q np (A.set i x) := by
  have hne := h.ne
  obtain ⟨cap, h1, h2⟩ := h
  have h3 := h2.set ecell_len hi x
  refine ⟨cap, ?_, ?_⟩
  · rw [List.length_set]
    exact (((Chg.refl (fun k => k = r) w).set1 (i := i * 2) (.int .i64 x.1)).set1 (i := i * 2 + 1) (.int .i64 x.2)).at h1 hne
  · rw [List.length_set]; exact h3
set_option maxRecDepth 100000 in
theorem asgThere (a r : Nat) (q np : Int) (A : AL) (d : Int) (w : World) (h : AsgAt w a r q np A) : Calls Try.prog 168 #[.pointer (some ⟨a, 0, none⟩), .int .i64 d] w fun e w' => e = .returned (.bool (decide (ainA A d))) ∧ w = w' := by
  obtain ⟨cap, c0, c1, c2⟩ := h.open
  clear h
  by_cases h0 : 0 ≤ d
  · by_cases h1 : d < A.length
    · have EN := Lib.hid (decide_eq_true (show ainA A d from ⟨h0, h1⟩))
      have b0 : decide (0 ≤ d) = true := decide_eq_true h0
      have b1 : decide (d < (A.length : Int)) = true := decide_eq_true h1
      go_enter Try.func168, Try.ntmps168
      go_wp2
      go_ret
      exact ⟨retB EN.out.symm, rfl⟩
    · have EN := Lib.hid (decide_eq_false (fun h : ainA A d => h1 h.2))
      have b0 : decide (0 ≤ d) = true := decide_eq_true h0
      have b1 : decide (d < (A.length : Int)) = false := decide_eq_false h1
      go_enter Try.func168, Try.ntmps168
      go_wp2
      go_ret
      exact ⟨retB EN.out.symm, rfl⟩
  · have EN := Lib.hid (decide_eq_false (fun h : ainA A d => h0 h.1))
    have b0 : decide (0 ≤ d) = false := decide_eq_false h0
    go_enter Try.func168, Try.ntmps168
    go_wp2
    go_ret
    exact ⟨retB EN.out.symm, rfl⟩
theorem retN {x y : Int} (h : x = y) : Ending.returned (.int .i64 x) = Ending.returned (.int .i64 y) := by rw [h]
set_option maxRecDepth 100000 in
set_option maxHeartbeats 1000000 in
theorem asgOwner (a r : Nat) (q np : Int) (A : AL) (d : Int) (w : World) (h : AsgAt w a r q np A) : Calls Try.prog 131 #[.pointer (some ⟨a, 0, none⟩), .int .i64 d] w fun e w' => e = .returned (.int .i64 (ownA A d)) ∧ w = w' := by
  have HT := Lib.hid (asgThere a r q np A d w h)
  obtain ⟨cap, c0, c1, c2⟩ := h.open
  by_cases hin : ainA A d
  · obtain ⟨i, rfl⟩ := Int.eq_ofNat_of_zero_le hin.1
    have hi : i < A.length := by have := hin.2; omega
    have i0 : (0 : Int) ≤ i := by omega
    have i1 : (i : Int) < A.length := by omega
    obtain ⟨e0, e1, _, _⟩ := h.elem hi
    rw [decide_eq_true hin] at HT
    clear h
    by_cases hl : 0 < A[i].2
    · have EN : Hid (ownA A i = -1) := by unfold Hid ownA; rw [if_neg (by rw [agetA_at A i hi]; exact fun h => h.2 hl)]
      have b0 : decide (0 < A[i].2) = true := decide_eq_true hl
      clear hin
      go_enter Try.func131, Try.ntmps131
      go_wp2_with fail
      refine HT.out.mono ?_
      rintro e w1 ⟨rfl, rfl⟩
      go_wp2_with fail
      go_ret
      exact ⟨retN EN.out.symm, rfl⟩
    · have EN : Hid (ownA A i = A[i].1) := by unfold Hid ownA; rw [agetA_at A i hi, if_pos ⟨hin, hl⟩]
      have b0 : decide (0 < A[i].2) = false := decide_eq_false hl
      clear hin
      go_enter Try.func131, Try.ntmps131
      go_wp2_with fail
      refine HT.out.mono ?_
      rintro e w1 ⟨rfl, rfl⟩
      go_wp2_with fail
      go_ret
      exact ⟨retN EN.out.symm, rfl⟩
  · rw [decide_eq_false hin] at HT
    have EN : Hid (ownA A d = -1) := by unfold Hid ownA; rw [if_neg (fun h => hin h.1)]
    clear h hin
    go_enter Try.func131, Try.ntmps131
    go_wp2_with fail
    refine HT.out.mono ?_
    rintro e w1 ⟨rfl, rfl⟩
    go_wp2_with fail
    go_ret
    exact ⟨retN EN.out.symm, rfl⟩
def AsgMovePost (a r : Nat) (q np : Int) (A : AL) (d to_ : Int) (w : World) (e : Ending) (w' : World) : Prop := e = .returned (.int .i64 (mvC np A d to_)) ∧ AsgAt w' a r q np (mvA q np A d to_) ∧ Chg (fun k => k = r) w w'
set_option maxRecDepth 100000 in
set_option maxHeartbeats 2000000 in
theorem asgMove (a r : Nat) (q np : Int) (A : AL) (d to_ : Int) (w : World) (h : AsgAt w a r q np A) : Calls Try.prog 132 #[.pointer (some ⟨a, 0, none⟩), .int .i64 d, .int .i64 to_] w (AsgMovePost a r q np A d to_ w) := by
  have HT := Lib.hid (asgThere a r q np A d w h)
  obtain ⟨cap, c0, c1, c2⟩ := h.open
  have HH := Lib.hid h
  have bad : ¬ (ainA A d ∧ 0 ≤ to_ ∧ to_ < np) → AsgMovePost a r q np A d to_ w (.returned (.int .i64 1500)) w := fun hb => by
    have e1 : mvC np A d to_ = 1500 := by unfold mvC; rw [if_pos hb]
    refine ⟨by rw [e1], ?_, Chg.refl _ _⟩
    unfold mvA; rw [e1, if_neg (by decide)]; exact HH.out
  have BAD := Lib.hid bad; clear bad
  by_cases hin : ainA A d
  · rw [decide_eq_true hin] at HT
    by_cases t0 : 0 ≤ to_
    · have b0 : decide (to_ < 0) = false := decide_eq_false (by omega)
      by_cases t1 : to_ < np
      · have b1 : decide (np ≤ to_) = false := decide_eq_false (by omega)
        obtain ⟨i, rfl⟩ := Int.eq_ofNat_of_zero_le hin.1
        have hi : i < A.length := by have := hin.2; omega
        have i0 : (0 : Int) ≤ i := by omega
        have i1 : (i : Int) < A.length := by omega
        obtain ⟨e0, e1, f0, f1⟩ := h.elem hi
        by_cases hl : 0 < A[i].2
        · have hc : mvC np A i to_ = 1501 := by unfold mvC; rw [if_neg (fun hn => hn ⟨hin, t0, t1⟩), agetA_at A i hi, if_pos hl]
          have HF : Hid (AsgMovePost a r q np A i to_ w (.returned (.int .i64 1501)) w) := ⟨by rw [hc], by unfold mvA; rw [hc, if_neg (by decide)]; exact h, Chg.refl _ _⟩
          have b2 : decide (0 < A[i].2) = true := decide_eq_true hl
          clear h hin hc
          go_enter Try.func132, Try.ntmps132
          go_wp2_with fail
          refine HT.out.mono ?_
          rintro e w1 ⟨rfl, rfl⟩
          go_wp2_with fail
          go_ret
          exact HF.out
        · have hc : mvC np A i to_ = 0 := by unfold mvC; rw [if_neg (fun hn => hn ⟨hin, t0, t1⟩), agetA_at A i hi, if_neg hl]
          have hset := (h.keepN (w' := w.drew) (Chg.refl _ _).drew).set hi (to_, q)
          have HF : Hid (AsgMovePost a r q np A i to_ w (.returned (.int .i64 0)) (((w.drew).setCell ⟨r, i * 2, none⟩ (.int .i64 to_)).setCell ⟨r, i * 2 + 1, none⟩ (.int .i64 q))) := ⟨by rw [hc], by
            unfold mvA; rw [hc, if_pos rfl]; exact hset, (((Chg.refl (fun k => k = r) w).drew).set1 _).set1 _⟩
          have b2 : decide (0 < A[i].2) = false := decide_eq_false hl
          have hlr := h.lt.2
          clear h hin hc hset
          go_enter Try.func132, Try.ntmps132
          go_wp2_with fail
          refine HT.out.mono ?_
          rintro e w1 ⟨rfl, rfl⟩
          go_wp2_with fail
          go_still_tail 11, (by kernel_rfl)
          change wpList _ _ _ _ _ w.drew
          go_wp2_with fail
          go_ret
          exact HF.out
      · have b1 : decide (np ≤ to_) = true := decide_eq_true (by omega)
        have HF := Lib.hid (BAD.out (fun h => t1 h.2.2))
        clear h hin
        go_enter Try.func132, Try.ntmps132
        go_wp2_with fail
        refine HT.out.mono ?_
        rintro e w1 ⟨rfl, rfl⟩
        go_wp2_with fail
        go_ret
        exact HF.out
    · have b0 : decide (to_ < 0) = true := decide_eq_true (by omega)
      have HF := Lib.hid (BAD.out (fun h => t0 h.2.1))
      clear h hin
      go_enter Try.func132, Try.ntmps132
      go_wp2_with fail
      refine HT.out.mono ?_
      rintro e w1 ⟨rfl, rfl⟩
      go_wp2_with fail
      go_ret
      exact HF.out
  · rw [decide_eq_false hin] at HT
    have HF := Lib.hid (BAD.out (fun h => hin h.1))
    clear h hin
    go_enter Try.func132, Try.ntmps132
    go_wp2_with fail
    refine HT.out.mono ?_
    rintro e w1 ⟨rfl, rfl⟩
    go_wp2_with fail
    go_ret
    exact HF.out
theorem tickFrom_app : ∀ (A B : AL) (i : Nat), tickFrom i (A ++ B) = tickFrom i A ++ tickFrom (i + A.length) B
  | [], B, i => by simp [tickFrom]
  | x :: A, B, i => by
    simp only [List.cons_append, tickFrom, List.length_cons]
    rw [tickFrom_app A B (i + 1), show i + 1 + A.length = i + (A.length + 1) from by omega]
    split <;> rfl
theorem tickL_succ (A : AL) (i : Nat) (hi : i < A.length) : tickL (A.take (i + 1)) = tickL (A.take i) ++ (if A[i].2 = 1 then [(i : Int)] else []) := by
  unfold tickL
  rw [List.take_succ_eq_append_getElem hi, tickFrom_app]
  have : 0 + (A.take i).length = i := by simp; omega
  rw [this]
  simp [tickFrom]
def tickB (A : AL) (i : Nat) : AL := (A.take i).map tickS ++ A.drop i
theorem tickB_len (A : AL) (i : Nat) (hi : i ≤ A.length) : (tickB A i).length = A.length := by unfold tickB; simp; omega
theorem tickB_get (A : AL) (i : Nat) (hi : i < A.length) : (tickB A i)[i]'(by rw [tickB_len A i (by omega)]; exact hi) = A[i] := by
  unfold tickB
  rw [List.getElem_append_right (by simp; omega)]
  simp
  congr 1
  omega
theorem tickB_succ (A : AL) (i : Nat) (hi : i < A.length) : tickB A (i + 1) = (tickB A i).set i (tickS A[i]) := by
  unfold tickB
  rw [List.take_succ_eq_append_getElem hi, List.map_append, List.set_append_right _ _ (by simp; omega)]
  have h1 : i - ((A.take i).map tickS).length = 0 := by simp; omega
  rw [h1, show A.drop i = A[i] :: A.drop (i + 1) from List.drop_eq_getElem_cons hi, List.set_cons_zero]
  simp
theorem AsgAt.set1 {w : World} {a r : Nat} {q np : Int} {A : AL} (h : AsgAt w a r q np A) {i : Nat} (hi : i < A.length) (y : Int) : AsgAt (w.setCell ⟨r, i * 2 + 1, none⟩ (.int .i64 y)) a r q np (A.set i (A[i].1, y)) := by
  have hne := h.ne
  obtain ⟨cap, h1, h2⟩ := h
  have h3 := h2.set1 ecell_len hi (show 1 < 2 by omega) (u := .int .i64 y) (x := (A[i].1, y)) rfl
  refine ⟨cap, ?_, ?_⟩
  · rw [List.length_set]; exact ((Chg.refl (fun k => k = r) w).set1 (i := i * 2 + 1) (.int .i64 y)).at h1 hne
  · rw [List.length_set]; exact h3
theorem tickB_all (A : AL) : tickB A A.length = tickA A := by unfold tickB tickA; simp
theorem tickL_len : ∀ (A : AL) (i : Nat), (tickFrom i A).length ≤ A.length
  | [], _ => by simp [tickFrom]
  | x :: A, i => by
    have := tickL_len A (i + 1)
    unfold tickFrom
    split <;> simp <;> omega
def AsgTickPost (a r : Nat) (q np : Int) (A : AL) (w : World) (e : Ending) (w' : World) : Prop := ∃ v, e = .returned v ∧ OwnC icell 1 3 w' w.heap.size v (tickL A) ∧ AsgAt w' a r q np (tickA A) ∧ Chg (fun k => k = r) w w'
set_option maxRecDepth 100000 in
set_option maxHeartbeats 4000000 in
theorem asgTick (a r : Nat) (q np : Int) (A : AL) (w : World) (h : AsgAt w a r q np A) (hok : AOk A) : Calls Try.prog 133 #[.pointer (some ⟨a, 0, none⟩)] w (AsgTickPost a r q np A w) := by
  obtain ⟨i0', ii, iz0, iz1, iz2⟩ := info_parts Try.infoInt
  obtain ⟨cap, c0, c1, c2⟩ := h.open
  have hl4 : (A.length : Int) ≤ 4 := by have := hok.1; omega
  have HOK := Lib.hid hok; clear hok
  have HH := Lib.hid h
  have HLT := Lib.hid h.lt
  clear h
  have HO0 := Lib.hid (OwnC.nil (cells := icell) (C := 1) (e := 3) w w.heap.size)
  go_enter Try.func133, Try.ntmps133
  go_wp2_with fail
  clear c0 c1 c2
  go_loopw [3, 12] (fun s3 s12 wr => ∃ i : Nat, i ≤ A.length ∧ s12 = .int .i64 i ∧ OwnC icell 1 3 wr w.heap.size s3 (tickL (A.take i)) ∧ AsgAt wr a r q np (tickB A i) ∧ Chg (fun k => k = r) w wr) (fun s3 s12 _ => (A.length - intOf s12).toNat)
  case atStart => exact ⟨0, by omega, rfl, HO0.out, by simpa [tickB] using HH.out, Chg.refl _ _⟩
  case round =>
    clear HO0 HH
    obtain ⟨i, hi, rfl, ho, hA, hC⟩ := hrel
    have i0 : (0 : Int) ≤ i := by omega
    obtain ⟨BB, kk, rfl⟩ := ho.slice
    have HC := Lib.hid hC; clear hC
    by_cases hlt : i < A.length
    · have i1 : (i : Int) < A.length := by omega
      have hBl := tickB_len A i hi
      have hBi := tickB_get A i hlt
      obtain ⟨cap2, c0, c1, c2⟩ := hA.open
      obtain ⟨e0, e1, f0, f1⟩ := hA.elem (i := i) (by omega)
      rw [hBi] at e0 e1
      rw [hBl] at c2
      have HTL := Lib.hid (tickL_succ A i hlt)
      have HTB := Lib.hid (tickB_succ A i hlt)
      obtain ⟨l0, l1⟩ := HOK.out.2 _ (List.getElem_mem hlt)
      have hset : ∀ y, AsgAt (wr.setCell ⟨r, i * 2 + 1, none⟩ (.int .i64 y)) a r q np ((tickB A i).set i (A[i].1, y)) := fun y => by
        have := hA.set1 (i := i) (by omega) y
        rw [hBi] at this; exact this
      have hself : (tickB A i).set i A[i] = tickB A i := by
        have h1 := @List.set_getElem_self _ (tickB A i) i (by omega)
        rw [hBi] at h1; exact h1
      have HSELF := Lib.hid hself
      have HSET := Lib.hid hset
      obtain ⟨X, hX⟩ : ∃ X, X = A[i] := ⟨_, rfl⟩
      rw [← hX] at HTL HTB e0 e1 l0 l1 HSELF HSET
      clear hBl hBi hX hset hself
      have hlr := hA.lt.2
      by_cases hz : X.2 = 0
      · have b0 : (X.2 == 0) = true := by simpa using hz
        have HN : Hid (tickL (A.take (i + 1)) = tickL (A.take i) ∧ tickB A (i + 1) = tickB A i) := by
          refine ⟨by rw [HTL.out, if_neg (by omega)]; simp, ?_⟩
          rw [HTB.out]; unfold tickS; rw [if_pos hz]; exact HSELF.out
        have HO := Lib.hid ho; clear ho
        have HAA := Lib.hid hA; clear hA hz
        go_wp2_with fail
        go_roundw
        case rel => exact ⟨i + 1, by omega, by go_num, by rw [HN.out.1]; exact HO.out, by rw [HN.out.2]; exact HAA.out, HC.out⟩
        case measure => simp [intOf]; omega
      · have b0 : (X.2 == 0) = false := by simpa using hz
        have HA2 : Hid (AsgAt (wr.setCell ⟨r, i * 2 + 1, none⟩ (.int .i64 (X.2 - 1))) a r q np (tickB A (i + 1))) := by
          unfold Hid; rw [HTB.out]; unfold tickS; rw [if_neg hz]; exact HSET.out _
        have hcar : a ≠ r := hA.ne
        have hrn := fun k (hk : Value.ownBlock (.slice BB (tickL (A.take i)).length kk) = some k) => (own_lt ho hk).1
        have HO2 : Hid (OwnC icell 1 3 (wr.setCell ⟨r, i * 2 + 1, none⟩ (.int .i64 (X.2 - 1))) w.heap.size (.slice BB (tickL (A.take i)).length kk) (tickL (A.take i))) := ho.keep ((Chg.refl (fun k => k = r) wr).set1 _) (fun k hk e => by have := hrn k hk; have := HLT.out.2; omega)
        have HC2 : Hid (Chg (fun k => k = r) w (wr.setCell ⟨r, i * 2 + 1, none⟩ (.int .i64 (X.2 - 1)))) := HC.out.set1 _
        clear ho hA hrn HSET HSELF HC
        go_upto_region 9 with fail
        obtain ⟨W8, hW8⟩ : ∃ W, W = wr.setCell ⟨r, i * 2 + 1, none⟩ (.int .i64 (X.2 - 1)) := ⟨_, rfl⟩
        rw [← hW8] at HA2 HO2 HC2
        rw [← hW8]
        clear c0 c1 c2 e0 e1 f0 f1 hlr hW8
        obtain ⟨cap3, c0, c1, c2⟩ := HA2.out.open
        rw [tickB_len A (i + 1) (by omega)] at c2
        have e1 : W8.cell? ⟨r, i * 2 + 1, none⟩ = some (.int .i64 (X.2 - 1)) := by
          have hq := (HA2.out.elem (i := i) (by rw [tickB_len A (i + 1) (by omega)]; exact hlt)).2.1
          have hg : ((tickB A (i + 1))[i]'(by rw [tickB_len A (i + 1) (by omega)]; exact hlt)) = (X.1, X.2 - 1) := by
            simp only [HTB.out, List.getElem_set_self]; unfold tickS; rw [if_neg hz]
          rw [hg] at hq; exact hq
        by_cases hone : X.2 = 1
        · have b1 : (X.2 - 1 == 0) = true := by simp; omega
          have HN : Hid (tickL (A.take (i + 1)) = tickL (A.take i) ++ [(i : Int)]) := by unfold Hid; rw [HTL.out, if_pos hone]
          generalize hLL : tickL (A.take i) = LL at *
          have hll : LL.length ≤ 4 := by rw [← hLL]; have h1 := tickL_len (A.take i) 0; unfold tickL; simp at h1; omega
          clear hLL
          have HBK : Hid (∀ o, OwnC icell 1 3 (W8.alloc o) w.heap.size (.slice BB LL.length kk) LL) := fun o => HO2.out.keep ((Chg.refl (fun _ => False) _).alloc o) (fun _ _ => id)
          have HLT2 : Hid (∀ k, Value.ownBlock (.slice BB LL.length kk) = some k → w.heap.size ≤ k) := fun k hk => (own_lt HO2.out hk).1
          have HNW := Lib.hid (rowc_blk (blk_new W8 (.cells #[.int .i64 i] 3)))
          have HM := Lib.hid (show LL.length + 1 ≤ maxLen by unfold maxLen; omega)
          have HY := Lib.hid (show (LL.length + 1) * 8 ≤ 140737488355328 by omega)
          have HBS : Hid (∀ o, w.heap.size ≤ (W8.alloc o).heap.size) := fun o => by have := HC2.out.size; simp; omega
          clear hll
          go_wp2_with (at_builtin; refine wpList_append_row _ rfl _ _ 38 rfl w.heap.size 3 i0' (.int .i64 0) 1 8 Try.underlying38 ii iz0 iz1 iz2 rfl (by decide) (.slice BB LL.length kk) LL.length (LL.flatMap icell) rfl (HBK.out _) (some ⟨W8.heap.size, 0, none⟩) 1 1 [.int .i64 i] rfl rfl HNW.out (by intro u hu; simp at hu; subst hu; rfl) HM.out HY.out (HBS.out _) ?_)
          intro v5 w5 hown5 hgr hat5
          have hO5 : OwnC icell 1 3 w5 w.heap.size v5 (LL ++ [(i : Int)]) := by simpa [OwnC, icell] using hown5
          have hC5 : Chg (fun k => some k = Value.ownBlock (.slice BB LL.length kk)) W8 w5 := Chg.grown ((Chg.refl _ _).alloc _) hgr (fun k hk _ => hk.symm)
          have HF : Hid (AsgAt w5 a r q np (tickB A (i + 1)) ∧ Chg (fun k => k = r) w w5) := ⟨HA2.out.keep hC5 (fun e => by have := HLT2.out _ e.symm; have := HLT.out.1; omega) (fun e => by have := HLT2.out _ e.symm; have := HLT.out.2; omega), HC2.out.trans' hC5 (fun k hk e => by have := HLT2.out _ e.symm; omega)⟩
          have HO5 := Lib.hid hO5; clear hO5 hC5 hown5 hgr hat5 HBK HLT2 HNW HM HY HBS c0 c1 c2 e1
          go_wp2_with fail
          go_roundw
          case rel => exact ⟨i + 1, by omega, by go_num, by rw [HN.out]; exact HO5.out, HF.out.1, HF.out.2⟩
          case measure => simp [intOf]; omega
        · have b1 : (X.2 - 1 == 0) = false := by simp; omega
          have HN : Hid (tickL (A.take (i + 1)) = tickL (A.take i)) := by unfold Hid; rw [HTL.out, if_neg hone]; simp
          go_wp2_with fail
          go_roundw
          case rel => exact ⟨i + 1, by omega, by go_num, by rw [HN.out]; exact HO2.out, HA2.out, HC2.out⟩
          case measure => simp [intOf]; omega
    · obtain rfl : i = A.length := by omega
      rw [tickB_all] at hA
      have HO : Hid (OwnC icell 1 3 wr w.heap.size (.slice BB (tickL (A.take A.length)).length kk) (tickL A)) := by
        have e : tickL A = tickL (A.take A.length) := by rw [List.take_length]
        unfold Hid; rw [e]; exact ho
      have HAA := Lib.hid hA; clear hA ho
      go_wp2_with fail
      go_ret
      exact ⟨_, rfl, HO.out, HAA.out, HC.out⟩
end Go.Proofs.Ytncbcjjdnlmjbaa
