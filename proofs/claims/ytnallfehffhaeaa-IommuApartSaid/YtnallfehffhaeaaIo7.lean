/- Chapter 7: an Iommu with its memory, as the laws have it; the calls; rows of pieces. -/
import Derived.Test.YtnallfehffhaeaaIomN
import Derived.Test.YtnallfehffhaeaaIomI
import Derived.Test.YtnallfehffhaeaaDt
set_option linter.unusedSimpArgs false
set_option linter.unusedVariables false
namespace Go.Proofs.Ytnallfehffhaeaa
open Go.RowKit

/-- Block x is an Iommu over the memory p with the bytes bs; F: all their blocks. -/
def IoM (w : World) (x p : Nat) (L : Pls) (bs : List UInt8) (F : Nat → Prop) : Prop := ∃ r tb v P T, IomV w x p tb L ((bs.length : Int) / 64) v P T ∧ MemAt w 93 p r bs ∧ bs.length ≤ 4096 ∧ ∀ k, F k ↔ k = x ∨ k = p ∨ k = r ∨ P k ∨ T k
def IoPost (x p : Nat) (L : Pls) (F : Nat → Prop) (w : World) (u : Value) (bs' : List UInt8) (e : Ending) (w' : World) : Prop := e = .returned u ∧ ∃ F', IoM w' x p L bs' F' ∧ (∀ k, F' k → F k ∨ w.heap.size ≤ k) ∧ Chg F w w'
section
variable {w w' : World} {x p : Nat} {L : Pls} {bs : List UInt8} {F : Nat → Prop}
theorem IoM.lt (h : IoM w x p L bs F) : ∀ k, F k → k < w.heap.size := by
  obtain ⟨r, tb, v, P, T, hI, hM, _, hF⟩ := h
  intro k hk
  rcases (hF k).1 hk with rfl | rfl | rfl | h | h
  · exact lt_of_heap hI.blk
  · exact hM.lt.1
  · exact hM.lt.2
  · exact hI.pools.lt k h
  · exact hI.tlb.lt k h
theorem IoM.keep {X : Nat → Prop} (h : IoM w x p L bs F) (hC : Chg X w w') (hX : ∀ k, F k → ¬ X k) : IoM w' x p L bs F := by
  obtain ⟨r, tb, v, P, T, hI, hM, hl, hF⟩ := h
  exact ⟨r, tb, v, P, T, hI.keep hC (hX x ((hF x).2 (.inl rfl))) (fun k hk => hX k ((hF k).2 (.inr (.inr (.inr (.inl hk)))))) (fun k hk => hX k ((hF k).2 (.inr (.inr (.inr (.inr hk)))))),
    hM.keep hC (hX p ((hF p).2 (.inr (.inl rfl)))) (hX r ((hF r).2 (.inr (.inr (.inl rfl))))), hl, hF⟩
theorem IoM.keepN (h : IoM w x p L bs F) (hC : Chg (fun _ => False) w w') : IoM w' x p L bs F := h.keep hC (fun _ _ => id)
theorem IoM.mem (h : IoM w x p L bs F) : ∃ r, MemAt w 93 p r bs ∧ bs.length ≤ 4096 := by
  obtain ⟨r, _, _, _, _, _, hM, hl, _⟩ := h; exact ⟨r, hM, hl⟩
theorem mapM_len (bs : List UInt8) (pool : List Int) (page f q : Int) : (mapM bs pool page f q).2.length = bs.length := by
  unfold mapM
  split
  · exact leafM_len _ _ _
  · rw [putB_len]; exact leafM_len _ _ _
theorem unmapM_len (bs : List UInt8) (rt page : Int) : (unmapM bs rt page).2.length = bs.length := by
  unfold unmapM
  split
  · rfl
  · exact putB_len _ _ _
theorem io_post {r tb : Nat} {v : Value} {P T : Nat → Prop} {c : Int} {bs' : List UInt8} (hl : bs.length ≤ 4096) (hF : ∀ k, F k ↔ k = x ∨ k = p ∨ k = r ∨ P k ∨ T k) (hb : bs'.length = bs.length) {e : Ending}
    (h : ClearPost x p tb r L ((bs.length : Int) / 64) v P T c bs' w e w') : IoPost x p L F w (.int .i64 c) bs' e w' := by
  obtain ⟨h1, h2, h3, h4⟩ := h
  exact ⟨h1, F, ⟨r, tb, v, P, T, by rw [hb]; exact h2, h3, by rw [hb]; exact hl, hF⟩, fun k hk => .inl hk, h4.mono (fun k _ hk => (hF k).2 (by rcases hk with h | h; exact .inr (.inr (.inl h)); exact .inr (.inr (.inr (.inr h)))))⟩
theorem ioMap (h : IoM w x p L bs F) (d page f q : Int) :
    Calls Try.prog 13 #[.pointer (some ⟨x, 0, none⟩), .int .i64 d, .int .i64 page, .agg #[.int .i64 f, .int .i64 q]] w (IoPost x p L F w (.int .i64 (if MapP L bs d page f q then (mapM bs (poolOf L d) page f q).1 else 700)) (if MapP L bs d page f q then (mapM bs (poolOf L d) page f q).2 else bs)) := by
  obtain ⟨r, tb, v, P, T, hI, hM, hl, hF⟩ := h
  exact (iMap x p tb r L _ v P T bs d page f q w hI hM hl rfl).mono fun e w' k => io_post hl hF (by split; exact mapM_len _ _ _ _ _; rfl) k
theorem ioUnmap (h : IoM w x p L bs F) (d page : Int) :
    Calls Try.prog 11 #[.pointer (some ⟨x, 0, none⟩), .int .i64 d, .int .i64 page] w (IoPost x p L F w (.int .i64 (if devIn L d ∧ pageP page then (unmapM bs (rootOf L d) page).1 else 700)) (if devIn L d ∧ pageP page then (unmapM bs (rootOf L d) page).2 else bs)) := by
  obtain ⟨r, tb, v, P, T, hI, hM, hl, hF⟩ := h
  by_cases hd : devIn L d ∧ pageP page
  · rw [if_pos hd, if_pos hd]
    exact (iUnmap_yes x p tb r L _ v P T bs d page w hI hM hl rfl hd.1 hd.2).mono fun e w' k => io_post hl hF (unmapM_len _ _ _) k
  · rw [if_neg hd, if_neg hd]
    exact (iUnmap_no x p tb r L _ v P T bs d page w hI hM hd).mono fun e w' k => io_post hl hF rfl k
theorem ioClear (h : IoM w x p L bs F) (d : Int) :
    Calls Try.prog 17 #[.pointer (some ⟨x, 0, none⟩), .int .i64 d] w (IoPost x p L F w (.int .i64 (if devIn L d then 0 else 700)) (if devIn L d then clearB bs (poolOf L d) else bs)) := by
  obtain ⟨r, tb, v, P, T, hI, hM, hl, hF⟩ := h
  by_cases hd : devIn L d
  · rw [if_pos hd, if_pos hd]
    exact (iClear_yes x p tb r L _ v P T bs d w hI hM hl hd).mono fun e w' k => io_post hl hF (clearB_len _ _) k
  · rw [if_neg hd, if_neg hd]
    exact (iClear_no x p tb r L _ v P T bs d w hI hM hd).mono fun e w' k => io_post hl hF rfl k
def IoTrans (x p : Nat) (L : Pls) (bs : List UInt8) (F : Nat → Prop) (w : World) (q : List (Int × Int × Int) × Int) (e : Ending) (w' : World) : Prop :=
  ∃ o, e = .returned (.tuple #[o, .int .i64 q.2]) ∧ OwnC pcI 3 41 w' w.heap.size o q.1 ∧ ∃ F', IoM w' x p L bs F' ∧ (∀ k, F' k → F k ∨ w.heap.size ≤ k) ∧ (∀ k, o.ownBlock = some k → ¬ F' k) ∧ Chg F w w'
def transQ (bs : List UInt8) (L : Pls) (d iova n : Int) (wri : Bool) : List (Int × Int × Int) × Int := if TransP L d iova n then transM bs (rootOf L d) (if wri then 2 else 1) 256 iova n [] else ([], 700)
theorem ioTrans (h : IoM w x p L bs F) (d iova n : Int) (wri : Bool) :
    Calls Try.prog 14 #[.pointer (some ⟨x, 0, none⟩), .int .i64 d, .int .i64 iova, .int .i64 n, .bool wri] w (IoTrans x p L bs F w (transQ bs L d iova n wri)) := by
  obtain ⟨r, tb, v, P, T, hI, hM, hl, hF⟩ := h
  unfold transQ
  by_cases hd : TransP L d iova n
  · rw [if_pos hd]
    refine (iTrans_yes x p tb r L _ v P T bs d iova n wri w hI hM hl rfl hd.1 hd.2.1 hd.2.2.1 hd.2.2.2.1 hd.2.2.2.2).mono ?_
    rintro e w' ⟨o, h1, h2, T', h3, h4, h5, h6, h7⟩
    refine ⟨o, h1, h2, fun k => k = x ∨ k = p ∨ k = r ∨ P k ∨ T' k, ⟨r, tb, v, P, T', h3, h6, hl, fun k => Iff.rfl⟩, fun k hk => ?_, fun k hk hf => ?_, h7.mono (fun k _ hk => (hF k).2 (.inr (.inr (.inr (.inr hk)))))⟩
    · rcases hk with hk | hk | hk | hk | hk
      · exact .inl ((hF k).2 (.inl hk))
      · exact .inl ((hF k).2 (.inr (.inl hk)))
      · exact .inl ((hF k).2 (.inr (.inr (.inl hk))))
      · exact .inl ((hF k).2 (.inr (.inr (.inr (.inl hk)))))
      · exact (h4 k hk).imp (fun h => (hF k).2 (.inr (.inr (.inr (.inr h))))) id
    · have hb := (own_lt h2 hk).1
      rcases hf with rfl | rfl | rfl | hf | hf
      · exact absurd (lt_of_heap hI.blk) (by omega)
      · exact absurd hM.lt.1 (by omega)
      · exact absurd hM.lt.2 (by omega)
      · exact absurd (hI.pools.lt k hf) (by omega)
      · exact h5 k hk hf
  · rw [if_neg hd]
    refine (iTrans_no x p tb L _ v P T d iova n wri w hI hd).mono ?_
    rintro e w' ⟨h1, rfl⟩
    exact ⟨_, h1, OwnC.nil _ _, F, ⟨r, tb, v, P, T, hI, hM, hl, hF⟩, fun k hk => .inl hk, (fun k hk => by cases hk), Chg.refl _ _⟩
theorem ioNew {r : Nat} {v : Value} (hM : MemAt w 93 p r bs) (hl : bs.length ≤ 4096) (h : RdLL w v L) (hn : PoolsP bs L) :
    Calls Try.prog 16 #[.pointer (some ⟨p, 0, none⟩), v] w fun e w' => ∃ x F', e = .returned (.tuple #[.pointer (some ⟨x, 0, none⟩), .int .i64 0]) ∧ IoM w' x p L (clearB bs L.flatten) F' ∧ (∀ k, F' k → k = p ∨ k = r ∨ w.heap.size ≤ k) ∧ Chg (fun k => k = r) w w' := by
  refine (iNew_yes p r bs v L _ w hM hl rfl h hn).mono ?_
  rintro e w' ⟨x, F, h1, ⟨tb, v', P, T, h2, h3⟩, h4, h5, h6⟩
  refine ⟨x, fun k => k = x ∨ k = p ∨ k = r ∨ P k ∨ T k, h1, ⟨r, tb, v', P, T, by rw [clearB_len]; exact h2, h5, by rw [clearB_len]; exact hl, fun k => Iff.rfl⟩, fun k hk => ?_, h6⟩
  rcases hk with hk | hk | hk | hk | hk
  · exact .inr (.inr (h4 k ((h3 k).2 (.inl hk))))
  · exact .inl hk
  · exact .inr (.inl hk)
  · exact .inr (.inr (h4 k ((h3 k).2 (.inr (.inl hk)))))
  · exact .inr (.inr (h4 k ((h3 k).2 (.inr (.inr hk)))))
end
/-! ### Literal pools -/
theorem RdN.blk {w : World} {b n : Nat} {P : List Int} (h : w.heap[b]? = some (.cells (P.map (fun x => Value.int .i64 x)).toArray 3 (0, 0))) (hn : n = P.length) (hm : n ≤ maxLen) (c : Nat) : RdN w (.slice (some ⟨b, 0, none⟩) n c) P := by
  subst hn
  refine ⟨hm, _, c, rfl, fun j hj => ⟨b, 0, rfl, ?_⟩⟩
  rw [blk_cell h]
  simp [hj]
theorem RdLL.mk2 {w : World} {b : Nat} {v1 v2 : Value} {P1 P2 : List Int} {t : TypeId} (h : w.heap[b]? = some (.cells #[v1, v2] t (0, 0))) (h1 : RdN w v1 P1) (h2 : RdN w v2 P2) (c : Nat) : RdLL w (.slice (some ⟨b, 0, none⟩) 2 c) [P1, P2] := by
  refine ⟨(show 2 ≤ maxLen by decide), _, c, rfl, fun j hj => ?_⟩
  match j, hj with
  | 0, _ => exact ⟨b, 0, v1, rfl, by rw [blk_cell h]; rfl, h1⟩
  | 1, _ => exact ⟨b, 0, v2, rfl, by rw [blk_cell h]; rfl, h2⟩
/-! ### Rows of pieces -/
def RdC {α : Type} (cells : α → List Value) (w : World) (v : Value) (L : List α) : Prop := ∃ A c, v = .slice A L.length c ∧ RowC w A (L.flatMap cells)
theorem RdC.own {α : Type} {cells : α → List Value} {C e : Nat} {w : World} {b : Nat} {v : Value} {L : List α} (h : OwnC cells C e w b v L) (hc : ∀ x, (cells x).length = C) : RdC cells w v L := by
  obtain ⟨A, c, rfl⟩ := h.slice
  refine ⟨A, c, rfl, fun j u hu => ?_⟩
  have hj : j < L.length * C := by
    have := (List.getElem?_eq_some_iff.1 hu).1
    rwa [flat_len cells C hc] at this
  have hL : 0 < L.length := Nat.pos_of_ne_zero (fun h0 => by rw [h0] at hj; simp at hj)
  obtain ⟨g, cap, hv, _⟩ := h.form hL
  injection hv with e1 e2 e3
  subst e1 e3
  refine ⟨g, 0, rfl, ?_⟩
  rw [Nat.zero_add, World.ownsRow.cellAt h _ hj]
  exact hu
theorem RdC.keep {α : Type} {cells : α → List Value} {X : Nat → Prop} {w w' : World} {v : Value} {L : List α} (h : RdC cells w v L) (hC : Chg X w w') (hn : ∀ k, v.ownBlock = some k → ¬ X k) : RdC cells w' v L := by
  obtain ⟨A, c, rfl, h⟩ := h
  refine ⟨A, c, rfl, fun j u hu => ?_⟩
  obtain ⟨b, o, rfl, hb⟩ := h j u hu
  exact ⟨b, o, rfl, hC.cell hb (hn b rfl)⟩
theorem RdC.cell {α : Type} {cells : α → List Value} {C : Nat} {w : World} {A : Option Addr} {n c : Nat} {L : List α} (h : RdC cells w (.slice A n c) L) (hc : ∀ x, (cells x).length = C) {i : Nat} (hi : i < L.length) (hC : 0 < C) : ∃ g o, A = some ⟨g, o, none⟩ ∧ ∀ j, j < C → w.cell? ⟨g, o + (i * C + j), none⟩ = (cells L[i])[j]? := by
  obtain ⟨A', c', hv, h⟩ := h
  injection hv with e1 e2 e3
  subst e1 e3
  have hg : ∀ j, j < C → (L.flatMap cells)[i * C + j]? = (cells L[i])[j]? := fun j hj => by rw [flat_get cells C hc j hj L i, List.getElem?_eq_getElem hi]; rfl
  obtain ⟨u0, hu0⟩ : ∃ u, (cells L[i])[0]? = some u := ⟨(cells L[i])[0]'(by rw [hc]; exact hC), List.getElem?_eq_getElem _⟩
  obtain ⟨g, o, rfl, _⟩ := h _ _ ((hg 0 hC).trans hu0)
  refine ⟨g, o, rfl, fun j hj => ?_⟩
  obtain ⟨u, hu⟩ : ∃ u, (cells L[i])[j]? = some u := ⟨(cells L[i])[j]'(by rw [hc]; exact hj), List.getElem?_eq_getElem _⟩
  obtain ⟨g', o', he, hcell⟩ := h _ _ ((hg j hj).trans hu)
  injection he with he; injection he with e1 e2
  subst e1 e2
  rw [hcell, hu]
theorem pcI_len (x : Int × Int × Int) : (pcI x).length = 3 := rfl
set_option maxRecDepth 100000 in
set_option maxHeartbeats 1000000 in
theorem samePc (v1 v2 : Value) (L : List (Int × Int × Int)) (w : World) (h1 : RdC pcI w v1 L) (h2 : RdC pcI w v2 L) (hn : L.length ≤ 9223372036854775807) :
    Calls Try.prog 15 #[v1, v2] w fun e w' => e = .returned (.bool true) ∧ Chg (fun _ => False) w w' := by
  obtain ⟨A, c, rfl, _⟩ := id h1
  obtain ⟨B, d, rfl, _⟩ := id h2
  have H1 := Lib.hid h1; clear h1
  have H2 := Lib.hid h2; clear h2
  go_enter Try.func15, Try.ntmps15
  go_wp2_with fail
  go_loopw [5] (fun s wr => ∃ j : Nat, j ≤ L.length ∧ s = .int .i64 j ∧ Chg (fun _ => False) w wr) (fun s _ => L.length - (intOf s).toNat)
  case atStart => exact ⟨0, by omega, rfl, Chg.refl _ _⟩
  case round =>
    obtain ⟨j, hj, rfl, hC⟩ := hrel
    have j0 : (0 : Int) ≤ j := by omega
    by_cases hlt : j < L.length
    · have j1 : (j : Int) < L.length := by omega
      obtain ⟨g, o, rfl, ha⟩ := H1.out.cell pcI_len hlt (by decide)
      obtain ⟨g', o', rfl, hb⟩ := H2.out.cell pcI_len hlt (by decide)
      have A0 := hC.cell (ha 0 (by decide)) id
      have A1 := hC.cell (ha 1 (by decide)) id
      have A2 := hC.cell (ha 2 (by decide)) id
      have B0 := hC.cell (hb 0 (by decide)) id
      have B1 := hC.cell (hb 1 (by decide)) id
      have B2 := hC.cell (hb 2 (by decide)) id
      have HC := Lib.hid hC; clear hC
      clear ha hb
      unfold pcI at A0 A1 A2 B0 B1 B2
      simp only [Nat.add_zero, List.getElem?_cons_zero, List.getElem?_cons_succ, ← Nat.add_assoc] at A0 A1 A2 B0 B1 B2
      generalize L[j].1 = xt at *
      generalize L[j].2.1 = xd at *
      generalize L[j].2.2 = xv at *
      go_wp2_with fail
      go_quiet (fail)
      rename_i nq
      go_wp2_with fail
      go_roundw
      case rel => exact ⟨j + 1, by omega, by go_num, HC.out.drewN nq⟩
      case measure => simp [intOf]; omega
    · obtain rfl : j = L.length := by omega
      go_wp2_with fail
      go_ret
      exact ⟨rfl, hC⟩
end Go.Proofs.Ytnallfehffhaeaa
