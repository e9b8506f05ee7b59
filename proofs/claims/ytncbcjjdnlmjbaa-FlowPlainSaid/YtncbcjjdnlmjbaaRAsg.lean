/- The document's side of whose devices are: NewAssign, there, Owner, Move, Tick; owners, call. -/
import Derived.Test.YtncbcjjdnlmjbaaPurg
import Derived.StillTailTactics
set_option linter.unusedSimpArgs false
set_option linter.unusedVariables false
namespace Go.Proofs.Ytncbcjjdnlmjbaa
open Go.RowKit

/-! ### Plain: a device's state as the document has it -/
structure Hd where
  owner : Int
  to_ : Int
  left : Int
abbrev HL := List Hd
def Hd.ab (h : Hd) : Int × Int := if 0 < h.left then (h.to_, h.left) else (h.owner, h.left)
def Hd.Ok (h : Hd) : Prop := 0 ≤ h.left ∧ (0 < h.left → h.owner = -1)
def hcell (h : Hd) : List Value := [.int .i64 h.owner, .int .i64 h.to_, .int .i64 h.left]
theorem hcell_len (x : Hd) : (hcell x).length = 3 := rfl
/-- Block a is the document's table, its row is block r. -/
def RAsgH (w : World) (a r : Nat) (q np : Int) (H : HL) : Prop :=
  ∃ cap, w.heap[a]? = some (.cells #[.int .i64 q, .int .i64 np, .slice (some ⟨r, 0, none⟩) H.length cap] 191 (0, 0)) ∧ OwnC hcell 3 188 w r (.slice (some ⟨r, 0, none⟩) H.length cap) H
def RAsgAt (w : World) (a r : Nat) (q np : Int) (A : AL) : Prop := ∃ H, RAsgH w a r q np H ∧ A = H.map Hd.ab ∧ ∀ h ∈ H, h.Ok
section
variable {w w' : World} {a r : Nat} {q np : Int} {A : AL} {H : HL} {S : Nat → Prop}
theorem RAsgH.keep (h : RAsgH w a r q np H) (hC : Chg S w w') (ha : ¬ S a) (hr : ¬ S r) : RAsgH w' a r q np H := by
  obtain ⟨cap, h1, h2⟩ := h
  exact ⟨cap, hC.at h1 ha, h2.keep hC (fun k hk => by simp [Value.ownBlock] at hk; subst hk; exact hr)⟩
theorem RAsgH.keepN (h : RAsgH w a r q np H) (hC : Chg (fun _ => False) w w') : RAsgH w' a r q np H := h.keep hC id id
theorem RAsgH.lt (h : RAsgH w a r q np H) : a < w.heap.size ∧ r < w.heap.size := by
  obtain ⟨cap, h1, h2⟩ := h; exact ⟨lt_of_heap h1, (own_lt h2 rfl).2⟩
theorem RAsgH.ne (h : RAsgH w a r q np H) : a ≠ r := by
  obtain ⟨cap, h1, h2⟩ := h
  rintro rfl
  exact own_ne h2 h1 (by decide) rfl
theorem RAsgH.open (h : RAsgH w a r q np H) : ∃ cap, w.cell? ⟨a, 0, none⟩ = some (.int .i64 q) ∧ w.cell? ⟨a, 1, none⟩ = some (.int .i64 np) ∧ w.cell? ⟨a, 2, none⟩ = some (.slice (some ⟨r, 0, none⟩) H.length cap) := by
  obtain ⟨cap, h1, h2⟩ := h
  exact ⟨cap, blk_cell h1 0, blk_cell h1 1, blk_cell h1 2⟩
theorem RAsgH.elem (h : RAsgH w a r q np H) {i : Nat} (hi : i < H.length) : w.cell? ⟨r, i * 3, none⟩ = some (.int .i64 H[i].owner) ∧ w.cell? ⟨r, i * 3 + 1, none⟩ = some (.int .i64 H[i].to_) ∧ w.cell? ⟨r, i * 3 + 2, none⟩ = some (.int .i64 H[i].left) ∧ w.frozen? ⟨r, i * 3, none⟩ = false ∧ w.frozen? ⟨r, i * 3 + 1, none⟩ = false ∧ w.frozen? ⟨r, i * 3 + 2, none⟩ = false := by
  obtain ⟨cap, h1, h2⟩ := h
  have q0 := h2.cell hcell_len hi (show 0 < 3 by omega)
  have q1 := h2.cell hcell_len hi (show 1 < 3 by omega)
  have q2 := h2.cell hcell_len hi (show 2 < 3 by omega)
  exact ⟨by simpa [hcell] using q0, by simpa [hcell] using q1, by simpa [hcell] using q2, h2.free _, h2.free _, h2.free _⟩
theorem RAsgH.set (h : RAsgH w a r q np H) {i : Nat} (hi : i < H.length) (x : Hd) : RAsgH (((w.setCell ⟨r, i * 3, none⟩ (.int .i64 x.owner)).setCell ⟨r, i * 3 + 1, none⟩ (.int .i64 x.to_)).setCell ⟨r, i * 3 + 2, none⟩ (.int .i64 x.left)) a r q np (H.set i x) := by
  have hne := h.ne
  obtain ⟨cap, h1, h2⟩ := h
  have h3 := h2.set hcell_len hi x
  refine ⟨cap, ?_, ?_⟩
  · rw [List.length_set]
    exact ((((Chg.refl (fun k => k = r) w).set1 (i := i * 3) (.int .i64 x.owner)).set1 (i := i * 3 + 1) (.int .i64 x.to_)).set1 (i := i * 3 + 2) (.int .i64 x.left)).at h1 hne
  · rw [List.length_set]; exact h3
theorem RAsgH.setL (h : RAsgH w a r q np H) {i : Nat} (hi : i < H.length) (y : Int) : RAsgH (w.setCell ⟨r, i * 3 + 2, none⟩ (.int .i64 y)) a r q np (H.set i ⟨H[i].owner, H[i].to_, y⟩) := by
  have hne := h.ne
  obtain ⟨cap, h1, h2⟩ := h
  have h3 := h2.set1 hcell_len hi (show 2 < 3 by omega) (u := .int .i64 y) (x := ⟨H[i].owner, H[i].to_, y⟩) rfl
  refine ⟨cap, ?_, ?_⟩
  · rw [List.length_set]; exact ((Chg.refl (fun k => k = r) w).set1 (i := i * 3 + 2) (.int .i64 y)).at h1 hne
  · rw [List.length_set]; exact h3
theorem RAsgH.setO (h : RAsgH w a r q np H) {i : Nat} (hi : i < H.length) (y : Int) : RAsgH (w.setCell ⟨r, i * 3, none⟩ (.int .i64 y)) a r q np (H.set i ⟨y, H[i].to_, H[i].left⟩) := by
  have hne := h.ne
  obtain ⟨cap, h1, h2⟩ := h
  have h3 := h2.set1 hcell_len hi (show 0 < 3 by omega) (u := .int .i64 y) (x := ⟨y, H[i].to_, H[i].left⟩) rfl
  refine ⟨cap, ?_, ?_⟩
  · rw [List.length_set]; exact ((Chg.refl (fun k => k = r) w).set1 (i := i * 3) (.int .i64 y)).at h1 hne
  · rw [List.length_set]; exact h3
theorem RAsgAt.keep (h : RAsgAt w a r q np A) (hC : Chg S w w') (ha : ¬ S a) (hr : ¬ S r) : RAsgAt w' a r q np A := by
  obtain ⟨H, h1, h2⟩ := h; exact ⟨H, h1.keep hC ha hr, h2⟩
theorem RAsgAt.keepN (h : RAsgAt w a r q np A) (hC : Chg (fun _ => False) w w') : RAsgAt w' a r q np A := h.keep hC id id
theorem RAsgAt.lt (h : RAsgAt w a r q np A) : a < w.heap.size ∧ r < w.heap.size := by
  obtain ⟨H, h1, h2⟩ := h; exact h1.lt
end
theorem Try.infoHd : (Try.prog.info? 188).map (fun i => (i.zero, i.size, i.bytes)) = some (some (.agg #[.int .i64 0, .int .i64 0, .int .i64 0]), 3, 24) := by kernel_rfl
def RAsgNewPost (q np : Int) (L : List Int) (w : World) (e : Ending) (w' : World) : Prop := ∃ a r, e = .returned (.tuple #[.pointer (some ⟨a, 0, none⟩), .int .i64 0]) ∧ RAsgAt w' a r q np (L.map (fun x => (x, 0))) ∧ w.heap.size ≤ a ∧ w.heap.size ≤ r ∧ Chg (fun _ => False) w w'
set_option maxRecDepth 100000 in
set_option maxHeartbeats 4000000 in
theorem rasNew (v : Value) (q np : Int) (L : List Int) (w : World) (h : RdN w v L) (h0 : 1 ≤ q) (h1 : q ≤ 8) (h2 : 1 ≤ np) (h3 : np ≤ 4) (h4 : 1 ≤ L.length) (h5 : L.length ≤ 4) (hL : ∀ x ∈ L, 0 ≤ x ∧ x < np) :
    Calls Try.prog 134 #[.int .i64 q, .int .i64 np, v] w (RAsgNewPost q np L w) := by
  obtain ⟨s0, si, sz0, sz1, sz2⟩ := info_parts Try.infoHd
  have HR : Hid (∀ W, Chg (fun _ => False) w W → RdN W v L) := fun W hW => h.keepN hW
  obtain ⟨_, AA, cc, rfl, _⟩ := h
  have HLx := Lib.hid hL; clear hL
  have hl : (L.length : Int) ≤ 4 := by omega
  have hl1 : (1 : Int) ≤ L.length := by omega
  have g0 : decide (q < 1) = false := decide_eq_false (by omega)
  have g1 : decide (8 < q) = false := decide_eq_false (by omega)
  have g2 : decide (np < 1) = false := decide_eq_false (by omega)
  have g3 : decide (4 < np) = false := decide_eq_false (by omega)
  have g4 : decide (L.length < 1) = false := decide_eq_false (by omega)
  have g5 : decide (4 < (L.length : Int)) = false := decide_eq_false (by omega)
  have g6 : decide ((L.length : Int) < 1) = false := decide_eq_false (by omega)
  have g7 : decide (4 < L.length) = false := decide_eq_false (by omega)
  go_enter Try.func134, Try.ntmps134
  go_upto_region 4 with fail
  refine wp_abs (fun W => W.heap[w.heap.size]? = some (.cells #[.int .i64 q, .int .i64 np, .slice none 0 0] 191 (0, 0)) ∧ Chg (fun _ => False) w W) ⟨blk_new _ _, (Chg.refl _ _).alloc _⟩ ?_
  rintro W0 ⟨hcb, hC⟩
  have HCB := Lib.hid hcb; clear hcb
  have HC := Lib.hid hC; clear hC
  have HO0 := Lib.hid (OwnC.nil (cells := hcell) (C := 3) (e := 188) W0 w.heap.size)
  clear g0 g1 g2 g3 g4 g5 g6 g7
  go_wp2_with fail
  go_loopw [9] (fun s41 wr => ∃ (i : Nat) (vv : Value), i ≤ L.length ∧ s41 = .int .i64 i ∧ wr.heap[w.heap.size]? = some (.cells #[.int .i64 q, .int .i64 np, vv] 191 (0, 0)) ∧ OwnC hcell 3 188 wr w.heap.size vv ((L.take i).map (fun x => (⟨x, 0, 0⟩ : Hd))) ∧ Chg (fun _ => False) w wr) (fun s41 _ => (L.length - intOf s41).toNat)
  case atStart => exact ⟨0, _, by omega, rfl, HCB.out, HO0.out, HC.out⟩
  case round =>
    clear HCB HC HO0
    obtain ⟨i, vv, hi, rfl, hcb, ho, hC⟩ := hrel
    have i0 : (0 : Int) ≤ i := by omega
    have HC := Lib.hid hC; clear hC
    obtain ⟨BB, kk, rfl⟩ := ho.slice
    have hml : ((L.take i).map (fun x => (⟨x, 0, 0⟩ : Hd))).length = i := by simp; omega
    by_cases hlt : i < L.length
    · have i1 : (i : Int) < L.length := by omega
      obtain ⟨_, A', c', hv, hel⟩ := HR.out wr HC.out
      injection hv with e1 e2 e3
      subst e1 e3
      obtain ⟨g, o, rfl, a0⟩ := hel i hlt
      clear hel e2
      obtain ⟨X, hX⟩ : ∃ X, X = L[i] := ⟨_, rfl⟩
      obtain ⟨x0, x1⟩ := HLx.out _ (List.getElem_mem hlt)
      rw [← hX] at a0 x0 x1
      have HTK : Hid ((L.take (i + 1)).map (fun x => (⟨x, 0, 0⟩ : Hd)) = (L.take i).map (fun x => (⟨x, 0, 0⟩ : Hd)) ++ [⟨X, 0, 0⟩]) := by unfold Hid; rw [List.take_succ_eq_append_getElem hlt, List.map_append, ← hX]; rfl
      clear hX
      generalize hLL : (L.take i).map (fun x => (⟨x, 0, 0⟩ : Hd)) = LL at *
      clear hLL
      have d0 : decide (X < 0) = false := decide_eq_false (by omega)
      have d1 : decide (np ≤ X) = false := decide_eq_false (by omega)
      have y0 := blk_cell hcb 0
      have y1 := blk_cell hcb 1
      have y2 := blk_cell hcb 2
      simp only [List.getElem?_toArray, List.getElem?_cons_zero, List.getElem?_cons_succ] at y0 y1 y2
      have yf := blk_free hcb 2
      have yl := lt_of_heap hcb
      have HBK : Hid (∀ W, Chg (fun _ => False) wr W → OwnC hcell 3 188 W w.heap.size (.slice BB LL.length kk) LL) := fun W hW => ho.keep hW (fun _ _ => id)
      have hLT : ∀ k, Value.ownBlock (.slice BB LL.length kk) = some k → w.heap.size ≤ k ∧ k ≠ w.heap.size := fun k hk => ⟨(own_lt ho hk).1, by rintro rfl; exact own_ne ho hcb (by decide) hk⟩
      clear ho
      have HLT := Lib.hid hLT; clear hLT
      have HCB := Lib.hid hcb; clear hcb
      have HWS := Lib.hid HC.out.size
      have HML := Lib.hid hml
      have hll : LL.length ≤ 4 := by omega
      clear hml
      go_upto_region 9 with fail
      go_region_law ((refine step_app _ _ _ (by rfl) rfl 188 Try.infoHd Try.underlying189 rfl (by decide) (by decide) w.heap.size (.slice BB LL.length kk) LL.length (LL.flatMap hcell) (by rfl) (HBK.out _ (by first | exact ((Chg.refl _ _).drew).alloc _ | exact ((Chg.refl _ _).alloc _).drew)) wr.heap.size 1 #[.int .i64 X, .int .i64 0, .int .i64 0] (by rfl) (heap_alloc_new wr _) rfl (by simp [Value.oneCell']) (by omega) (by have := HWS.out; simp; omega) ?_; intro gg cap w5 hown5 hk0 hat hlg; have hk : Chg (fun k => some k = (Value.slice BB LL.length kk).ownBlock) wr w5 := Chg.trans (by first | exact ((Chg.refl _ _).drew).alloc _ | exact ((Chg.refl _ _).alloc _).drew) hk0; have hcb5 := hk.at HCB.out (fun e => (HLT.out _ e.symm).2 rfl); have k1 := blk_cell hcb5 2; have k2 := blk_free hcb5 2; have k3 := lt_of_heap hcb5; simp only [List.getElem?_toArray, List.getElem?_cons_zero, List.getElem?_cons_succ] at k1))
      all_goals
        have hO5 : OwnC hcell 3 188 w5 w.heap.size (.slice (some ⟨gg, 0, none⟩) (LL.length + 1) cap) (LL ++ [⟨X, 0, 0⟩]) := by simpa [OwnC, hcell] using hown5
        have HC5 : Hid (Chg (fun _ => False) w w5) := HC.out.trans' hk (fun k hk e => by have := (HLT.out k e.symm).1; omega)
        have HO5 := Lib.hid hO5
        have HCB5 := Lib.hid hcb5
        have HST : Hid (∀ u, Chg (fun k => k = w.heap.size) w5 (w5.setCell ⟨w.heap.size, 2, none⟩ u)) := fun u => (Chg.refl _ _).set1 _
        clear hO5 hcb5 hk hk0 hown5 hat HBK HLT HCB HC k1 k2 k3 y0 y1 y2 yf yl a0
        go_wp2_with fail
        go_roundw
        case rel => exact ⟨i + 1, _, by omega, by go_num, blk_set HCB5.out 2 _, by rw [HTK.out]; exact HO5.out.far HCB5.out (by decide) (HST.out _), HC5.out.trans' (HST.out _) (fun k hk e => by omega)⟩
        case measure => simp [intOf]; omega
    · obtain rfl : i = L.length := by omega
      rw [List.take_length] at ho hcb hml
      have hpos : 0 < (L.map (fun x => (⟨x, 0, 0⟩ : Hd))).length := by simp; omega
      obtain ⟨g, cap, hv, hg1, hg2, _⟩ := ho.form hpos
      injection hv with e1 e2 e3
      subst e1 e3
      have HF : Hid (RAsgAt wr w.heap.size g q np (L.map (fun x => (x, 0)))) := ⟨_, ⟨_, hcb, by
        obtain ⟨o1, o2⟩ := ho
        refine ⟨o1, ?_⟩
        rcases o2 with ⟨o3, _⟩ | ⟨g', cap', cur, hv, _, r⟩
        · cases o3
        · injection hv with e1 e2 e3; injection e1 with e1; injection e1 with e1
          subst e1 e3
          exact .inr ⟨g, _, cur, rfl, Nat.le_refl _, r⟩⟩, by rw [List.map_map]; rfl, fun h hh => by
        obtain ⟨x, _, rfl⟩ := List.mem_map.1 hh
        exact ⟨Int.le_refl 0, fun h => absurd h (by show ¬ (0 : Int) < 0; omega)⟩⟩
      clear ho hcb hml
      go_wp2_with fail
      go_ret2
      exact ⟨_, g, rfl, HF.out, Nat.le_refl _, hg1, HC.out⟩
set_option maxRecDepth 100000 in
theorem rasThere (a r : Nat) (q np : Int) (H : HL) (d : Int) (w : World) (h : RAsgH w a r q np H) : Calls Try.prog 135 #[.pointer (some ⟨a, 0, none⟩), .int .i64 d] w fun e w' => e = .returned (.bool (decide (ainA (H.map Hd.ab) d))) ∧ w = w' := by
  obtain ⟨cap, c0, c1, c2⟩ := h.open
  clear h
  by_cases h0 : 0 ≤ d
  · by_cases h1 : d < H.length
    · have EN := Lib.hid (decide_eq_true (show ainA (H.map Hd.ab) d from ⟨h0, by simpa using h1⟩))
      have b0 : decide (0 ≤ d) = true := decide_eq_true h0
      have b1 : decide (d < (H.length : Int)) = true := decide_eq_true h1
      go_enter Try.func135, Try.ntmps135
      go_wp2
      go_ret
      exact ⟨retB EN.out.symm, rfl⟩
    · have EN := Lib.hid (decide_eq_false (fun h : ainA (H.map Hd.ab) d => h1 (by simpa using h.2)))
      have b0 : decide (0 ≤ d) = true := decide_eq_true h0
      have b1 : decide (d < (H.length : Int)) = false := decide_eq_false h1
      go_enter Try.func135, Try.ntmps135
      go_wp2
      go_ret
      exact ⟨retB EN.out.symm, rfl⟩
  · have EN := Lib.hid (decide_eq_false (fun h : ainA (H.map Hd.ab) d => h0 h.1))
    have b0 : decide (0 ≤ d) = false := decide_eq_false h0
    go_enter Try.func135, Try.ntmps135
    go_wp2
    go_ret
    exact ⟨retB EN.out.symm, rfl⟩
set_option maxRecDepth 100000 in
set_option maxHeartbeats 1000000 in
theorem rasOwner (a r : Nat) (q np : Int) (A : AL) (d : Int) (w : World) (h : RAsgAt w a r q np A) : Calls Try.prog 80 #[.pointer (some ⟨a, 0, none⟩), .int .i64 d] w fun e w' => e = .returned (.int .i64 (ownA A d)) ∧ w = w' := by
  obtain ⟨H, h, rfl, hok⟩ := h
  have HT := Lib.hid (rasThere a r q np H d w h)
  obtain ⟨cap, c0, c1, c2⟩ := h.open
  by_cases hin : ainA (H.map Hd.ab) d
  · obtain ⟨i, rfl⟩ := Int.eq_ofNat_of_zero_le hin.1
    have hi : i < H.length := by have := hin.2; simp at this; omega
    have i0 : (0 : Int) ≤ i := by omega
    have i1 : (i : Int) < H.length := by omega
    obtain ⟨e0, e1, e2, _, _⟩ := h.elem hi
    rw [decide_eq_true hin] at HT
    have hx := hok _ (List.getElem_mem hi)
    have EN : Hid (ownA (H.map Hd.ab) i = H[i].owner) := by
      unfold Hid ownA
      rw [agetA_at _ i (by simpa using hi), List.getElem_map]
      unfold Hd.ab
      by_cases hl : 0 < H[i].left
      · rw [if_pos hl, if_neg (fun h => h.2 hl), hx.2 hl]
      · rw [if_neg hl, if_pos ⟨hin, hl⟩]
    clear h hin hok hx
    go_enter Try.func80, Try.ntmps80
    go_wp2_with fail
    refine HT.out.mono ?_
    rintro e w1 ⟨rfl, rfl⟩
    go_wp2_with fail
    go_ret
    exact ⟨retN EN.out.symm, rfl⟩
  · rw [decide_eq_false hin] at HT
    have EN : Hid (ownA (H.map Hd.ab) d = -1) := by unfold Hid ownA; rw [if_neg (fun h => hin h.1)]
    clear h hin hok
    go_enter Try.func80, Try.ntmps80
    go_wp2_with fail
    refine HT.out.mono ?_
    rintro e w1 ⟨rfl, rfl⟩
    go_wp2_with fail
    go_ret
    exact ⟨retN EN.out.symm, rfl⟩
def RAsgMovePost (a r : Nat) (q np : Int) (A : AL) (d to_ : Int) (w : World) (e : Ending) (w' : World) : Prop := e = .returned (.int .i64 (mvC np A d to_)) ∧ RAsgAt w' a r q np (mvA q np A d to_) ∧ Chg (fun k => k = r) w w'
set_option maxRecDepth 100000 in
set_option maxHeartbeats 2000000 in
theorem rasMove (a r : Nat) (q np : Int) (A : AL) (d to_ : Int) (w : World) (h : RAsgAt w a r q np A) (hq : 1 ≤ q) : Calls Try.prog 81 #[.pointer (some ⟨a, 0, none⟩), .int .i64 d, .int .i64 to_] w (RAsgMovePost a r q np A d to_ w) := by
  have HA := Lib.hid h
  obtain ⟨H, h, rfl, hok⟩ := h
  have HT := Lib.hid (rasThere a r q np H d w h)
  obtain ⟨cap, c0, c1, c2⟩ := h.open
  have bad : ¬ (ainA (H.map Hd.ab) d ∧ 0 ≤ to_ ∧ to_ < np) → RAsgMovePost a r q np (H.map Hd.ab) d to_ w (.returned (.int .i64 1500)) w := fun hb => by
    have e1 : mvC np (H.map Hd.ab) d to_ = 1500 := by unfold mvC; rw [if_pos hb]
    refine ⟨by rw [e1], ?_, Chg.refl _ _⟩
    unfold mvA; rw [e1, if_neg (by decide)]; exact HA.out
  have BAD := Lib.hid bad; clear bad
  by_cases hin : ainA (H.map Hd.ab) d
  · rw [decide_eq_true hin] at HT
    by_cases t0 : 0 ≤ to_
    · have b0 : decide (to_ < 0) = false := decide_eq_false (by omega)
      by_cases t1 : to_ < np
      · have b1 : decide (np ≤ to_) = false := decide_eq_false (by omega)
        obtain ⟨i, rfl⟩ := Int.eq_ofNat_of_zero_le hin.1
        have hi : i < H.length := by have := hin.2; simp at this; omega
        have i0 : (0 : Int) ≤ i := by omega
        have i1 : (i : Int) < H.length := by omega
        obtain ⟨e0, e1, e2, f0, f1, f2⟩ := h.elem hi
        have hag : agetA (H.map Hd.ab) i = H[i].ab := by rw [agetA_at _ i (by simpa using hi), List.getElem_map]
        by_cases hl : 0 < H[i].left
        · have hc : mvC np (H.map Hd.ab) i to_ = 1501 := by unfold mvC; rw [if_neg (fun hn => hn ⟨hin, t0, t1⟩), hag]; unfold Hd.ab; rw [if_pos hl, if_pos hl]
          have HF : Hid (RAsgMovePost a r q np (H.map Hd.ab) i to_ w (.returned (.int .i64 1501)) w) := ⟨by rw [hc], by unfold mvA; rw [hc, if_neg (by decide)]; exact HA.out, Chg.refl _ _⟩
          have b2 : decide (0 < H[i].left) = true := decide_eq_true hl
          clear h hin hc hag hok
          go_enter Try.func81, Try.ntmps81
          go_wp2_with fail
          refine HT.out.mono ?_
          rintro e w1 ⟨rfl, rfl⟩
          go_wp2_with fail
          go_ret
          exact HF.out
        · have hc : mvC np (H.map Hd.ab) i to_ = 0 := by unfold mvC; rw [if_neg (fun hn => hn ⟨hin, t0, t1⟩), hag]; unfold Hd.ab; rw [if_neg hl, if_neg hl]
          have hset := (h.keepN (w' := w.drew) (Chg.refl _ _).drew).set hi ⟨-1, to_, q⟩
          have HF : Hid (RAsgMovePost a r q np (H.map Hd.ab) i to_ w (.returned (.int .i64 0)) ((((w.drew).setCell ⟨r, i * 3, none⟩ (.int .i64 (-1))).setCell ⟨r, i * 3 + 1, none⟩ (.int .i64 to_)).setCell ⟨r, i * 3 + 2, none⟩ (.int .i64 q))) := ⟨by rw [hc], by
            unfold mvA; rw [hc, if_pos rfl]
            refine ⟨_, hset, ?_, fun x hx => ?_⟩
            · rw [List.map_set]; congr 1; unfold Hd.ab; rw [if_pos (show (0 : Int) < q by omega)]
            · rcases List.mem_or_eq_of_mem_set hx with hx | rfl
              · exact hok x hx
              · exact ⟨by show (0 : Int) ≤ q; omega, fun _ => rfl⟩, ((((Chg.refl (fun k => k = r) w).drew).set1 _).set1 _).set1 _⟩
          have b2 : decide (0 < H[i].left) = false := decide_eq_false hl
          have hlr := h.lt.2
          clear h hin hc hset hag hok
          go_enter Try.func81, Try.ntmps81
          go_wp2_with fail
          refine HT.out.mono ?_
          rintro e w1 ⟨rfl, rfl⟩
          go_wp2_with fail
          go_still_tail 12, (by kernel_rfl)
          change wpList _ _ _ _ _ w.drew
          go_wp2_with fail
          go_ret
          exact HF.out
      · have b1 : decide (np ≤ to_) = true := decide_eq_true (by omega)
        have HF := Lib.hid (BAD.out (fun h => t1 h.2.2))
        clear h hin hok
        go_enter Try.func81, Try.ntmps81
        go_wp2_with fail
        refine HT.out.mono ?_
        rintro e w1 ⟨rfl, rfl⟩
        go_wp2_with fail
        go_ret
        exact HF.out
    · have b0 : decide (to_ < 0) = true := decide_eq_true (by omega)
      have HF := Lib.hid (BAD.out (fun h => t0 h.2.1))
      clear h hin hok
      go_enter Try.func81, Try.ntmps81
      go_wp2_with fail
      refine HT.out.mono ?_
      rintro e w1 ⟨rfl, rfl⟩
      go_wp2_with fail
      go_ret
      exact HF.out
  · rw [decide_eq_false hin] at HT
    have HF := Lib.hid (BAD.out (fun h => hin h.1))
    clear h hin hok
    go_enter Try.func81, Try.ntmps81
    go_wp2_with fail
    refine HT.out.mono ?_
    rintro e w1 ⟨rfl, rfl⟩
    go_wp2_with fail
    go_ret
    exact HF.out
def habT (h : Hd) : Hd := if h.left = 0 then h else if h.left = 1 then ⟨h.to_, h.to_, 0⟩ else ⟨h.owner, h.to_, h.left - 1⟩
theorem habT_ab (h : Hd) (hok : h.Ok) : (habT h).ab = tickS h.ab := by
  obtain ⟨h0, h1⟩ := hok
  unfold habT Hd.ab tickS
  by_cases e0 : h.left = 0
  · simp [e0]
  · by_cases e1 : h.left = 1
    · simp [e1]
    · have a1 : 0 < h.left := by omega
      have a2 : 0 < h.left - 1 := by omega
      rw [if_neg e0, if_neg e1, if_pos a1]
      dsimp only
      rw [if_pos a2, if_neg e0]
theorem habT_ok (h : Hd) (hok : h.Ok) : (habT h).Ok := by
  obtain ⟨h0, h1⟩ := hok
  unfold habT
  split
  · exact ⟨h0, h1⟩
  · split
    · exact ⟨Int.le_refl 0, fun h => absurd h (by show ¬ (0 : Int) < 0; omega)⟩
    · exact ⟨by show 0 ≤ h.left - 1; omega, fun _ => h1 (by omega)⟩
theorem ab_one (h : Hd) : h.ab.2 = h.left := by unfold Hd.ab; split <;> rfl
def tickHB (H : HL) (i : Nat) : HL := (H.take i).map habT ++ H.drop i
theorem tickHB_len (H : HL) (i : Nat) (hi : i ≤ H.length) : (tickHB H i).length = H.length := by unfold tickHB; simp; omega
theorem tickHB_get (H : HL) (i : Nat) (hi : i < H.length) : (tickHB H i)[i]'(by rw [tickHB_len H i (by omega)]; exact hi) = H[i] := by
  unfold tickHB
  rw [List.getElem_append_right (by simp; omega)]
  simp
  congr 1
  omega
theorem tickHB_succ (H : HL) (i : Nat) (hi : i < H.length) : tickHB H (i + 1) = (tickHB H i).set i (habT H[i]) := by
  unfold tickHB
  rw [List.take_succ_eq_append_getElem hi, List.map_append, List.set_append_right _ _ (by simp; omega)]
  have h1 : i - ((H.take i).map habT).length = 0 := by simp; omega
  rw [h1, show H.drop i = H[i] :: H.drop (i + 1) from List.drop_eq_getElem_cons hi, List.set_cons_zero]
  simp
theorem tickHB_all (H : HL) : tickHB H H.length = H.map habT := by unfold tickHB; simp
def RAsgTickPost (a r : Nat) (q np : Int) (A : AL) (w : World) (e : Ending) (w' : World) : Prop := ∃ v, e = .returned v ∧ OwnC icell 1 3 w' w.heap.size v (tickL A) ∧ RAsgAt w' a r q np (tickA A) ∧ Chg (fun k => k = r) w w'
set_option maxRecDepth 100000 in
set_option maxHeartbeats 4000000 in
theorem rasTick (a r : Nat) (q np : Int) (A : AL) (w : World) (h : RAsgAt w a r q np A) (hok4 : AOk A) : Calls Try.prog 82 #[.pointer (some ⟨a, 0, none⟩)] w (RAsgTickPost a r q np A w) := by
  obtain ⟨i0', ii, iz0, iz1, iz2⟩ := info_parts Try.infoInt
  obtain ⟨H, h, rfl, hok⟩ := h
  have hl4 : (H.length : Int) ≤ 4 := by have := hok4.1; simp at this; omega
  have HL8 : Hid (∀ x ∈ H, x.left ≤ 8) := fun x hx => by have := (hok4.2 _ (List.mem_map_of_mem (f := Hd.ab) hx)).2; rwa [ab_one] at this
  have HOK := Lib.hid hok; clear hok hok4
  have HH := Lib.hid h
  have HLT := Lib.hid h.lt
  clear h
  have HO0 := Lib.hid (OwnC.nil (cells := icell) (C := 1) (e := 3) w w.heap.size)
  go_enter Try.func82, Try.ntmps82
  go_wp2_with fail
  go_loopw [3, 4] (fun s3 s12 wr => ∃ i : Nat, i ≤ H.length ∧ s12 = .int .i64 i ∧ OwnC icell 1 3 wr w.heap.size s3 (tickL ((H.map Hd.ab).take i)) ∧ RAsgH wr a r q np (tickHB H i) ∧ Chg (fun k => k = r) w wr) (fun s3 s12 _ => (H.length - intOf s12).toNat)
  case atStart => exact ⟨0, by omega, rfl, HO0.out, by simpa [tickHB] using HH.out, Chg.refl _ _⟩
  case round =>
    clear HO0 HH
    obtain ⟨i, hi, rfl, ho, hA, hC⟩ := hrel
    have i0 : (0 : Int) ≤ i := by omega
    obtain ⟨BB, kk, rfl⟩ := ho.slice
    have HC := Lib.hid hC; clear hC
    have hBl := tickHB_len H i hi
    obtain ⟨cap2, c0, c1, c2⟩ := hA.open
    rw [hBl] at c2
    by_cases hlt : i < H.length
    · have i1 : (i : Int) < H.length := by omega
      have hBi := tickHB_get H i hlt
      obtain ⟨e0, e1, e2, f0, f1, f2⟩ := hA.elem (i := i) (by omega)
      rw [hBi] at e0 e1 e2
      have HTL := tickL_succ (H.map Hd.ab) i (by simpa using hlt)
      rw [List.getElem_map, ab_one] at HTL
      have HTL := Lib.hid HTL
      have HTB := Lib.hid (tickHB_succ H i hlt)
      obtain ⟨l0, _⟩ := HOK.out _ (List.getElem_mem hlt)
      have l1 := HL8.out _ (List.getElem_mem hlt)
      have hset : ∀ y, RAsgH (wr.setCell ⟨r, i * 3 + 2, none⟩ (.int .i64 y)) a r q np ((tickHB H i).set i ⟨H[i].owner, H[i].to_, y⟩) := fun y => by
        have := hA.setL (i := i) (by omega) y
        rw [hBi] at this; exact this
      have hself : (tickHB H i).set i H[i] = tickHB H i := by
        have h1 := @List.set_getElem_self _ (tickHB H i) i (by omega)
        rw [hBi] at h1; exact h1
      have HSELF := Lib.hid hself
      have HSET := Lib.hid hset
      obtain ⟨X, hX⟩ : ∃ X, X = H[i] := ⟨_, rfl⟩
      rw [← hX] at HTL HTB e0 e1 e2 l0 l1 HSELF HSET
      clear hBi hX hset hself
      obtain ⟨xo, xt, xl⟩ := X
      dsimp only at HTL HTB e0 e1 e2 l0 l1 HSELF HSET
      have hlr := hA.lt.2
      by_cases hz : xl = 0
      · have b0 : (xl == 0) = true := by simpa using hz
        have HN : Hid (tickL ((H.map Hd.ab).take (i + 1)) = tickL ((H.map Hd.ab).take i) ∧ tickHB H (i + 1) = tickHB H i) := by
          refine ⟨by rw [HTL.out, if_neg (by omega)]; simp, ?_⟩
          rw [HTB.out]; unfold habT; rw [if_pos hz]; exact HSELF.out
        have HO := Lib.hid ho; clear ho
        have HAA := Lib.hid hA; clear hA hz
        go_wp2_with fail
        go_roundw
        case rel => exact ⟨i + 1, by omega, by go_num, by rw [HN.out.1]; exact HO.out, by rw [HN.out.2]; exact HAA.out, HC.out⟩
        case measure => simp [intOf]; omega
      · have b0 : (xl == 0) = false := by simpa using hz
        have HA2 := Lib.hid (HSET.out (xl - 1))
        have hrn := fun k (hk : Value.ownBlock (.slice BB (tickL ((H.map Hd.ab).take i)).length kk) = some k) => (own_lt ho hk).1
        have HO2 : Hid (OwnC icell 1 3 (wr.setCell ⟨r, i * 3 + 2, none⟩ (.int .i64 (xl - 1))) w.heap.size (.slice BB (tickL ((H.map Hd.ab).take i)).length kk) (tickL ((H.map Hd.ab).take i))) := ho.keep ((Chg.refl (fun k => k = r) wr).set1 _) (fun k hk e => by have := hrn k hk; have := HLT.out.2; omega)
        have HC2 : Hid (Chg (fun k => k = r) w (wr.setCell ⟨r, i * 3 + 2, none⟩ (.int .i64 (xl - 1)))) := HC.out.set1 _
        clear ho hA hrn HSET HSELF HC
        go_upto_region 7 with fail
        obtain ⟨W8, hW8⟩ : ∃ W, W = wr.setCell ⟨r, i * 3 + 2, none⟩ (.int .i64 (xl - 1)) := ⟨_, rfl⟩
        rw [← hW8] at HA2 HO2 HC2
        rw [← hW8]
        clear c0 c1 c2 e0 e1 e2 f0 f1 f2 hlr hW8
        have hlen2 : ((tickHB H i).set i ⟨xo, xt, xl - 1⟩).length = H.length := by rw [List.length_set]; exact hBl
        obtain ⟨cap3, c0, c1, c2⟩ := HA2.out.open
        rw [hlen2] at c2
        obtain ⟨e0, e1, e2, f0, f1, f2⟩ := HA2.out.elem (i := i) (by omega)
        simp only [List.getElem_set_self] at e0 e1 e2
        by_cases hone : xl = 1
        · have b1 : (xl - 1 == 0) = true := by simp; omega
          have HN : Hid (tickL ((H.map Hd.ab).take (i + 1)) = tickL ((H.map Hd.ab).take i) ++ [(i : Int)]) := by unfold Hid; rw [HTL.out, if_pos hone]
          have HNB : Hid (tickHB H (i + 1) = ((tickHB H i).set i ⟨xo, xt, xl - 1⟩).set i ⟨xt, xt, xl - 1⟩) := by
            unfold Hid; rw [HTB.out, List.set_set]; unfold habT; rw [if_neg hz, if_pos hone]; congr 2; omega
          have hO' := HA2.out.setO (i := i) (by omega) xt
          simp only [List.getElem_set_self] at hO'
          have hA3 : RAsgH ((W8.setCell ⟨r, i * 3, none⟩ (.int .i64 xt)).drew) a r q np (((tickHB H i).set i ⟨xo, xt, xl - 1⟩).set i ⟨xt, xt, xl - 1⟩) := by
            have := (HA2.out.keepN (w' := W8.drew) (Chg.refl _ _).drew).setO (i := i) (by omega) xt
            simp only [List.getElem_set_self] at this; exact this
          have HA3 := Lib.hid hA3; clear hA3 hO'
          generalize hLL : tickL ((H.map Hd.ab).take i) = LL at *
          have hll : LL.length ≤ 4 := by rw [← hLL]; have h1 := tickL_len ((H.map Hd.ab).take i) 0; unfold tickL; simp at h1; omega
          clear hLL
          have hlr := HA2.out.lt.2
          have HLT2 : Hid (∀ k, Value.ownBlock (.slice BB LL.length kk) = some k → w.heap.size ≤ k) := fun k hk => (own_lt HO2.out hk).1
          have HO3 : Hid (OwnC icell 1 3 ((W8.setCell ⟨r, i * 3, none⟩ (.int .i64 xt)).drew) w.heap.size (.slice BB LL.length kk) LL) := HO2.out.keep ((Chg.refl (fun k => k = r) W8).drew.set1 _) (fun k hk e => by have := HLT2.out k hk; have := HLT.out.2; omega)
          have HC3 : Hid (Chg (fun k => k = r) w ((W8.setCell ⟨r, i * 3, none⟩ (.int .i64 xt)).drew)) := HC2.out.drew.set1 _
          go_upto_region 8 with fail
          go_still_tail 13, (by kernel_rfl)
          change wpList _ _ _ _ _ W8.drew
          go_upto_region 9 with fail
          obtain ⟨W9, hW9⟩ : ∃ W, W = (W8.setCell ⟨r, i * 3, none⟩ (.int .i64 xt)).drew := ⟨_, rfl⟩
          rw [← hW9] at HA3 HO3 HC3
          rw [← hW9]
          clear hW9 c0 c1 c2 e0 e1 e2 f0 f1 f2 hlr
          have HBK : Hid (∀ o, OwnC icell 1 3 (W9.alloc o) w.heap.size (.slice BB LL.length kk) LL) := fun o => HO3.out.keep ((Chg.refl (fun _ => False) _).alloc o) (fun _ _ => id)
          have HNW := Lib.hid (rowc_blk (blk_new W9 (.cells #[.int .i64 i] 3)))
          have HM := Lib.hid (show LL.length + 1 ≤ maxLen by unfold maxLen; omega)
          have HY := Lib.hid (show (LL.length + 1) * 8 ≤ 140737488355328 by omega)
          have HBS : Hid (∀ o, w.heap.size ≤ (W9.alloc o).heap.size) := fun o => by have := HC3.out.size; simp; omega
          clear hll
          go_wp2_with (at_builtin; refine wpList_append_row _ rfl _ _ 38 rfl w.heap.size 3 i0' (.int .i64 0) 1 8 Try.underlying38 ii iz0 iz1 iz2 rfl (by decide) (.slice BB LL.length kk) LL.length (LL.flatMap icell) rfl (HBK.out _) (some ⟨W9.heap.size, 0, none⟩) 1 1 [.int .i64 i] rfl rfl HNW.out (by intro u hu; simp at hu; subst hu; rfl) HM.out HY.out (HBS.out _) ?_)
          intro v5 w5 hown5 hgr hat5
          have hO5 : OwnC icell 1 3 w5 w.heap.size v5 (LL ++ [(i : Int)]) := by simpa [OwnC, icell] using hown5
          have hC5 : Chg (fun k => some k = Value.ownBlock (.slice BB LL.length kk)) W9 w5 := Chg.grown ((Chg.refl _ _).alloc _) hgr (fun k hk _ => hk.symm)
          have HF : Hid (RAsgH w5 a r q np (tickHB H (i + 1)) ∧ Chg (fun k => k = r) w w5) := ⟨by rw [HNB.out]; exact HA3.out.keep hC5 (fun e => by have := HLT2.out _ e.symm; have := HLT.out.1; omega) (fun e => by have := HLT2.out _ e.symm; have := HLT.out.2; omega), HC3.out.trans' hC5 (fun k hk e => by have := HLT2.out _ e.symm; omega)⟩
          have HO5 := Lib.hid hO5; clear hO5 hC5 hown5 hgr hat5 HBK HLT2 HNW HM HY HBS
          go_wp2_with fail
          go_roundw
          case rel => exact ⟨i + 1, by omega, by go_num, by rw [HN.out]; exact HO5.out, HF.out.1, HF.out.2⟩
          case measure => simp [intOf]; omega
        · have b1 : (xl - 1 == 0) = false := by simp; omega
          have HN : Hid (tickL ((H.map Hd.ab).take (i + 1)) = tickL ((H.map Hd.ab).take i)) := by unfold Hid; rw [HTL.out, if_neg hone]; simp
          have HNB : Hid (tickHB H (i + 1) = (tickHB H i).set i ⟨xo, xt, xl - 1⟩) := by
            unfold Hid; rw [HTB.out]; unfold habT; rw [if_neg hz, if_neg hone]
          go_wp2_with fail
          go_roundw
          case rel => exact ⟨i + 1, by omega, by go_num, by rw [HN.out]; exact HO2.out, by rw [HNB.out]; exact HA2.out, HC2.out⟩
          case measure => simp [intOf]; omega
    · obtain rfl : i = H.length := by omega
      rw [tickHB_all] at hA
      have HO : Hid (OwnC icell 1 3 wr w.heap.size (.slice BB (tickL ((H.map Hd.ab).take H.length)).length kk) (tickL (H.map Hd.ab))) := by
        have e : tickL (H.map Hd.ab) = tickL ((H.map Hd.ab).take H.length) := by rw [List.take_of_length_le (by simp)]
        unfold Hid; rw [e]; exact ho
      have HAA : Hid (RAsgAt wr a r q np (tickA (H.map Hd.ab))) := ⟨_, hA, by
        unfold tickA; rw [List.map_map, List.map_map]
        exact (List.map_congr_left (fun x hx => habT_ab x (HOK.out x hx))).symm, fun h hh => by
        obtain ⟨x, hx, rfl⟩ := List.mem_map.1 hh
        exact habT_ok x (HOK.out x hx)⟩
      clear hA ho
      go_wp2_with fail
      go_ret
      exact ⟨_, rfl, HO.out, HAA.out, HC.out⟩
end Go.Proofs.Ytncbcjjdnlmjbaa
