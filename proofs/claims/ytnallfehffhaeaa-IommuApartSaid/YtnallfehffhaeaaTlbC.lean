/- Found entries: Put. Printed by mktlbc.py. -/
import Derived.Test.YtnallfehffhaeaaTk
import Derived.Test.YtnallfehffhaeaaTlbB
import Derived.Test.YtnallfehffhaeaaWalkW
import Derived.ArgAppend
set_option linter.unusedSimpArgs false
set_option linter.unusedVariables false
namespace Go.Proofs.Ytnallfehffhaeaa
open Go.RowKit

theorem wp_append_ex {P : Program} {w : World} {o : Oper} {a : Act} {K : Act → World → Prop} {Q : Exit → Act → World → Prop} (s x : Operand) (t : TypeId)
    (ho : o.op = .call { callee := .builtin .append, args := #[s, x], argTypes := #[t, t] }) (v u : Value) (hs : a.eval s = v) (hx : a.eval x = u) {R : Value → World → Prop}
    (hex : ∃ v' w', (∀ ty, (Builtin.append_ #[t, t] ty #[v, u]).run P w = .ok v' w') ∧ R v' w') (h : ∀ v' w', R v' w' → K (a.put o.dst v') w') : o.wp P a w K Q := by
  obtain ⟨v', w', hrun, hR⟩ := hex
  unfold Oper.wp
  simp [execOp, ho, resolve, invoke, builtin, hs, hx, hrun, Result.andThen]
  exact h v' w' hR
/-- What an append of a line gives. -/
def AppR (v : Value) (nf : Int) (n : Nat) (w : World) (v' : Value) (w' : World) : Prop := ∃ A' c', v' = .slice A' (n + 1) c' ∧ LinesAt w' (.slice A' (n + 1) c') nf (n + 1) ∧ (∀ k, Value.ownBlock (.slice A' (n + 1) c') = some k → v.ownBlock = some k ∨ w.heap.size ≤ k) ∧ Chg (fun k => some k = v.ownBlock) w w'
theorem lines_of_own {w : World} {base m : Nat} {v : Value} {xs : List Value} {nf : Int} (h : w.ownsRow base 106 4 v m xs) (hm : 0 < m) (hl : ∀ i, i < m → LnC xs.toArray i nf) : ∃ g c, v = .slice (some ⟨g, 0, none⟩) m c ∧ base ≤ g ∧ LinesAt w v nf m := by
  rcases h.2 with ⟨hv, h0⟩ | ⟨g, cap, cur, rfl, hb, hg, h1, h2, h3, h4⟩
  · omega
  · refine ⟨g, cap, rfl, hb, .inr ⟨g, 0, cap, cur, rfl, hg, by rw [h3, Nat.zero_add], h1, h2, fun i hi => ?_⟩⟩
    have e : ∀ j, j < 4 → cur[(0 + i) * 4 + j]? = xs.toArray[i * 4 + j]? := fun j hj => by
      rw [Nat.zero_add, ← Array.getElem?_toList, List.getElem?_toArray, ← h4, List.getElem?_take, if_pos (by omega)]
    obtain ⟨d, p, f, q, e0, e1, e2, e3, hgd⟩ := hl i hi
    exact ⟨d, p, f, q, (e 0 (by omega)).trans e0, (e 1 (by omega)).trans e1, (e 2 (by omega)).trans e2, (e 3 (by omega)).trans e3, hgd⟩
theorem lines_append {v : Value} {nf : Int} {n : Nat} {w : World} (h : LinesAt w v nf n) (hn : n ≤ 16) {B : Nat} {d p f q : Int} (hB : w.heap[B]? = some (.cells #[.int .i64 d, .int .i64 p, .int .i64 f, .int .i64 q] 106 (0, 0))) (hg : goodE nf f q) :
    ∃ v' w', (∀ ty, (Builtin.append_ #[113, 113] ty #[v, .slice (some ⟨B, 0, none⟩) 1 1]).run Try.prog w = .ok v' w') ∧ AppR v nf n w v' w' := by
  obtain ⟨i0, ii, iz0, iz1, iz2⟩ := info_parts Try.infoLine
  have hnews : ∀ j u, [Value.int .i64 d, .int .i64 p, .int .i64 f, .int .i64 q][j]? = some u → w.cell? ((⟨B, 0, none⟩ : Addr).add j) = some u := fun j u hj => by
    rw [Addr.add_lit, Nat.zero_add, blk_cell hB]; simpa using hj
  have hone : ∀ u ∈ [Value.int .i64 d, .int .i64 p, .int .i64 f, .int .i64 q], u.oneCell' = true := by simp [Value.oneCell']
  have hlast : ∀ (pre : List Value), pre.length = n * 4 → LnC (pre ++ [Value.int .i64 d, .int .i64 p, .int .i64 f, .int .i64 q]).toArray n nf := fun pre hp =>
    ⟨d, p, f, q, by simp [← hp], by simp [List.getElem?_append_right, hp], by simp [List.getElem?_append_right, hp], by simp [List.getElem?_append_right, hp], hg⟩
  rcases h with ⟨rfl, rfl⟩ | ⟨g, o, c, cs, rfl, hb, hs, hnc, hcm, hl⟩
  · have hx := fun ty => run_append_own (P := Try.prog) w w.heap.size 113 ty 106 i0 (.agg #[.int .i64 0, .int .i64 0, .int .i64 0, .int .i64 0]) 4 32 Try.underlying113 ii iz0 iz1 iz2 rfl (by decide) (.slice none 0 0) 0 [] (World.ownsRow_nil w _ _ 4) ⟨B, 0, none⟩ 1 1 [.int .i64 d, .int .i64 p, .int .i64 f, .int .i64 q] rfl hnews hone (by unfold maxLen; omega) (by omega) (Nat.le_refl _)
    obtain ⟨v', w', hrun, hown, hgr, _⟩ := hx 0
    obtain ⟨g, c, rfl, hbg, hli⟩ := lines_of_own (nf := nf) hown (by omega) (fun i hi => by obtain rfl : i = 0 := (by omega); exact hlast [] rfl)
    refine ⟨_, w', fun ty => ?_, _, c, rfl, hli, fun k hk => .inr (by simp only [Value.ownBlock, Option.some.injEq] at hk; omega), Chg.grown (Chg.refl _ _) hgr (fun k hk _ => by cases hk)⟩
    obtain ⟨v2, w2, hrun2, _⟩ := hx ty
    have e : (Builtin.append_ #[113, 113] ty #[.slice none 0 0, .slice (some ⟨B, 0, none⟩) 1 1]) = (Builtin.append_ #[113, 113] 0 #[.slice none 0 0, .slice (some ⟨B, 0, none⟩) 1 1]) := rfl
    rw [e]; exact hrun
  · by_cases hr : n + 1 ≤ c
    · have hx := fun ty => run_append_room_cells (P := Try.prog) w 113 ty 106 i0 Try.underlying113 ii g (o * 4) n c ⟨B, 0, none⟩ 1 1 [.int .i64 d, .int .i64 p, .int .i64 f, .int .i64 q] (by rw [iz1]; rfl) hnews hone hr (fun j hj => by rw [iz1, blk_cell hb, Array.getElem?_eq_getElem (by simp at hj; omega)]; rfl) (fun j _ => blk_free hb _)
      rw [iz1] at hx
      refine ⟨_, _, hx, _, c, rfl, .inr ⟨g, o, c, _, rfl, blk_setCells _ hb _, by rw [wl_size, hs], hr, hcm, fun i hi => ?_⟩, fun k hk => .inl hk, (Chg.setCells (b := g) _ (Chg.refl _ _) _).mono (fun k _ e => by rw [e]; rfl)⟩
      by_cases e : i = n
      · subst e
        have hin : ∀ j, j < 4 → (wl cs (o * 4 + i * 4) [Value.int .i64 d, .int .i64 p, .int .i64 f, .int .i64 q])[(o + i) * 4 + j]? = [Value.int .i64 d, .int .i64 p, .int .i64 f, .int .i64 q][j]? := fun j hj => by
          rw [show (o + i) * 4 + j = (o * 4 + i * 4) + j from by rw [Nat.add_mul], wl_in _ _ _ j (by simpa using hj) (by simp; omega)]
        exact ⟨d, p, f, q, hin 0 (by omega), hin 1 (by omega), hin 2 (by omega), hin 3 (by omega), hg⟩
      · obtain ⟨d', p', f', q', e0, e1, e2, e3, hgd⟩ := hl i (by omega)
        exact ⟨d', p', f', q', by rw [wl_out _ _ _ _ (.inl (by omega))]; exact e0, by rw [wl_out _ _ _ _ (.inl (by omega))]; exact e1, by rw [wl_out _ _ _ _ (.inl (by omega))]; exact e2, by rw [wl_out _ _ _ _ (.inl (by omega))]; exact e3, hgd⟩
    · have hol : ((cs.toList.drop (o * 4)).take (n * 4)).length = n * 4 := by simp [hs]; omega
      have hx := fun ty => run_append_arg_grows (P := Try.prog) w 113 ty 106 i0 (.agg #[.int .i64 0, .int .i64 0, .int .i64 0, .int .i64 0]) 4 32 Try.underlying113 ii iz0 iz1 iz2 rfl (by decide) ⟨g, o * 4, none⟩ n c ((cs.toList.drop (o * 4)).take (n * 4)) hol (fun j u hj => by
        rw [Addr.add_lit, blk_cell hb]
        rw [List.getElem?_take] at hj
        split at hj
        · rw [List.getElem?_drop, Array.getElem?_toList] at hj; exact hj
        · cases hj) ⟨B, 0, none⟩ 1 1 [.int .i64 d, .int .i64 p, .int .i64 f, .int .i64 q] rfl hnews (by omega) (by unfold maxLen; omega) (by omega)
      obtain ⟨v', w', hrun, hown, hgr⟩ := hx 0
      obtain ⟨g', c', rfl, hbg, hli⟩ := lines_of_own (nf := nf) hown (by omega) (fun i hi => by
        by_cases e : i = n
        · subst e; exact hlast _ hol
        · obtain ⟨d', p', f', q', e0, e1, e2, e3, hgd⟩ := hl i (by omega)
          have hp : ∀ j, j < 4 → ((cs.toList.drop (o * 4)).take (n * 4) ++ [Value.int .i64 d, .int .i64 p, .int .i64 f, .int .i64 q]).toArray[i * 4 + j]? = cs[(o + i) * 4 + j]? := fun j hj => by
            rw [List.getElem?_toArray, List.getElem?_append_left (by rw [hol]; omega), List.getElem?_take, if_pos (by omega), List.getElem?_drop, Array.getElem?_toList, show o * 4 + (i * 4 + j) = (o + i) * 4 + j from by rw [Nat.add_mul]; omega]
          exact ⟨d', p', f', q', (hp 0 (by omega)).trans e0, (hp 1 (by omega)).trans e1, (hp 2 (by omega)).trans e2, (hp 3 (by omega)).trans e3, hgd⟩)
      refine ⟨_, w', fun ty => ?_, _, c', rfl, hli, fun k hk => .inr (by simp only [Value.ownBlock, Option.some.injEq] at hk; omega), Chg.grown (Chg.refl _ _) hgr (fun k hk _ => by cases hk)⟩
      have e : (Builtin.append_ #[113, 113] ty #[.slice (some ⟨g, o * 4, none⟩) n c, .slice (some ⟨B, 0, none⟩) 1 1]) = (Builtin.append_ #[113, 113] 0 #[.slice (some ⟨g, o * 4, none⟩) n c, .slice (some ⟨B, 0, none⟩) 1 1]) := rfl
      rw [e]; exact hrun
/-- An entry of a line is laid anew. -/
theorem lines_ent {nf : Int} {n g o c : Nat} {cs : Array Value} (hs : cs.size = (o + c) * 4) (hnc : n ≤ c) (h : ∀ i, i < n → LnC cs (o + i) nf) {i : Nat} (hi : i < n) {f q : Int} (hg : goodE nf f q) :
    ∀ j, j < n → LnC ((cs.setIfInBounds (o * 4 + i * 4 + 2) (.int .i64 f)).setIfInBounds (o * 4 + i * 4 + 3) (.int .i64 q)) (o + j) nf := by
  intro j hj
  obtain ⟨d', p', f', q', h0, h1, h2, h3, h4⟩ := h j hj
  by_cases e : j = i
  · subst e
    refine ⟨d', p', f, q, ?_, ?_, ?_, ?_, hg⟩
    · rw [Array.getElem?_setIfInBounds_ne (by omega), Array.getElem?_setIfInBounds_ne (by omega)]; exact h0
    · rw [Array.getElem?_setIfInBounds_ne (by omega), Array.getElem?_setIfInBounds_ne (by omega)]; exact h1
    · rw [Array.getElem?_setIfInBounds_ne (by omega), show (o + j) * 4 + 2 = o * 4 + j * 4 + 2 from by rw [Nat.add_mul], Array.getElem?_setIfInBounds_self_of_lt (by omega)]
    · rw [show (o + j) * 4 + 3 = o * 4 + j * 4 + 3 from by rw [Nat.add_mul], Array.getElem?_setIfInBounds_self_of_lt (by simp; omega)]
  · refine ⟨d', p', f', q', ?_, ?_, ?_, ?_, h4⟩ <;> (repeat rw [Array.getElem?_setIfInBounds_ne (by omega)]) <;> assumption
/-- A row of lines without the first k. -/
theorem LinesAt.tail {w : World} {g o c n : Nat} {nf : Int} (h : LinesAt w (.slice (some ⟨g, o * 4, none⟩) n c) nf n) (k : Nat) (hk : k ≤ n) (hc : k < c) : LinesAt w (.slice (some ⟨g, o * 4 + k * 4, none⟩) (n - k) (c - k)) nf (n - k) := by
  rcases h with ⟨h, _⟩ | ⟨g', o', c', cs, hv, hb, hs, hnc, hcm, hl⟩
  · cases h
  · injection hv with e1 e2 e3
    injection e1 with e1; injection e1 with e1 e4
    subst e1 e3
    obtain rfl : o = o' := by omega
    refine .inr ⟨g, o + k, c - k, cs, by rw [Nat.add_mul], hb, by rw [hs]; congr 1; omega, by omega, by omega, fun i hi => ?_⟩
    have := hl (k + i) (by omega)
    rwa [← Nat.add_assoc] at this
def TPutPost (t : Nat) (nf : Int) (F : Nat → Prop) (w : World) (e : Ending) (w' : World) : Prop := ∃ F', (∃ x, e = .returned x) ∧ TlbAt w' t nf F' ∧ (∀ k, F' k → F k ∨ w.heap.size ≤ k) ∧ Chg F w w'
set_option maxRecDepth 100000 in
set_option maxHeartbeats 8000000 in
theorem tPut (t : Nat) (d p f q : Int) (nf : Int) (F : Nat → Prop) (w : World) (h : TlbAt w t nf F) (d0 : 0 ≤ d) (d1 : d < 4) (hp : pageP p) (hg : goodE nf f q) : Calls Try.prog 65 #[.pointer (some ⟨t, 0, none⟩), .int .i64 d, .int .i64 p, .agg #[.int .i64 f, .int .i64 q]] w (TPutPost t nf F w) := by
  obtain ⟨v, n, h, hF⟩ := h
  obtain ⟨W0, hW0⟩ : ∃ W, W = w.alloc (.cells #[.int .i64 f, .int .i64 q] 29) := ⟨_, rfl⟩
  obtain ⟨eb, heb⟩ : ∃ b, b = w.heap.size := ⟨_, rfl⟩
  have hA : Chg (fun _ => False) w W0 := by rw [hW0]; exact (Chg.refl _ _).alloc _
  have hB : W0.heap[eb]? = some (.cells #[.int .i64 f, .int .i64 q] 29 (0, 0)) := by rw [hW0, heb]; exact blk_new w _
  have hm : mayE f q := .inr ⟨hg.1, hg.2.1, hg.2.2.1, by have := hg.2.2.2.1; have := hg.2.2.2.2; omega⟩
  have hmd : decide (mayE f q) = true := decide_eq_true hm
  have hq0 : (q == 0) = false := by have := hg.1; simp; omega
  have HMD := Lib.hid hmd
  have HPG := Lib.hid hp
  have HG := Lib.hid hg
  have HFF := Lib.hid hF
  have hlt := h.lt
  have HEB : Hid (eb = w.heap.size) := heb
  have HV : Hid (∀ W, Chg (fun _ => False) W0 W → TlbV W t v nf n) := fun W hW => h.keepN (hA.trans hW)
  have HB : Hid (∀ W, Chg (fun _ => False) W0 W → W.heap[eb]? = some (.cells #[.int .i64 f, .int .i64 q] 29 (0, 0))) := fun W hW => hW.at hB id
  have HA := Lib.hid hA
  have HLT := Lib.hid hlt
  have e1 : decide (d < 0) = false := decide_eq_false (by omega)
  have e2 : decide (4 ≤ d) = false := decide_eq_false (by omega)
  clear h hA hm hmd hp hg hF hlt
  go_enter Try.func65, Try.ntmps65
  go_upto_region 1 with fail
  rw [← hW0]
  try rw [← heb]
  clear hW0 heb
  have z0 := blk_cell hB 0
  have z1 := blk_cell hB 1
  simp only [List.getElem?_toArray, List.getElem?_cons_zero, List.getElem?_cons_succ] at z0 z1
  clear hB
  go_wp2_with fail
  refine (wPage_yes p _ HPG.out).mono ?_
  rintro e w1 ⟨rfl, rfl⟩
  go_wp2_with fail
  refine (pteMay f q _).mono ?_
  rintro e w1 ⟨rfl, k1⟩
  rw [HMD.out]
  clear z0 z1
  have hb1 := HB.out _ k1
  have z0 := blk_cell hb1 0
  have z1 := blk_cell hb1 1
  simp only [List.getElem?_toArray, List.getElem?_cons_zero, List.getElem?_cons_succ] at z0 z1
  have HK1 := Lib.hid k1
  clear k1 hb1
  go_wp2_with fail
  refine (tFind t d p v nf n _ (HV.out _ HK1.out)).mono ?_
  rintro e w2 ⟨hcase, hC⟩
  clear z0 z1
  have HK2 := Lib.hid (HK1.out.trans hC)
  clear hC HK1
  have hv2 := HV.out _ HK2.out
  have hb2 := HB.out _ HK2.out
  rcases hcase with rfl | ⟨i, hi, rfl⟩
  · have HTB : Hid (∀ W, Chg (fun k => some k = v.ownBlock) w2 W → W.heap[t]? = some (.cells #[.int .i64 16, v] 115 (0, 0))) := fun W hW => hW.at hv2.1 (fun e => hv2.ne e.symm)
    have HT : Hid (∀ W, Chg (fun k => some k = v.ownBlock) w2 W → W.cell? ⟨t, 1, none⟩ = some v) := fun W hW => blk_cell (HTB.out W hW) 1
    have HE : Hid (∀ W, Chg (fun k => some k = v.ownBlock) w2 W → W.cell? ⟨eb, 0, none⟩ = some (.int .i64 f) ∧ W.cell? ⟨eb, 1, none⟩ = some (.int .i64 q)) := fun W hW => by
      have hb := hW.at hb2 (fun e => by have := HLT.out.2 _ e.symm; have := HEB.out; omega)
      exact ⟨blk_cell hb 0, blk_cell hb 1⟩
    have HAPP : Hid (∀ W, Chg (fun _ => False) w2 W → W.heap[w2.heap.size]? = some (.cells #[.int .i64 d, .int .i64 p, .int .i64 f, .int .i64 q] 106 (0, 0)) → ∃ v' w', (∀ ty, (Builtin.append_ #[113, 113] ty #[v, .slice (some ⟨w2.heap.size, 0, none⟩) 1 1]).run Try.prog W = .ok v' w') ∧ AppR v nf n W v' w') := fun W hW hb => lines_append (hv2.2.1.keep hW (fun _ _ => id)) hv2.2.2 hb HG.out
    have HSZ2 : Hid (w.heap.size ≤ w2.heap.size) := (HA.out.trans HK2.out).size
    have n16 : n ≤ 16 := hv2.2.2
    clear hv2 hb2
    go_upto_region 9 with fail
    refine wp_region_E (S := fun W => Chg (fun k => some k = v.ownBlock) w2 W) 13 (by kernel_rfl) ((Chg.refl _ _).drew) (fun hHeld => ?_)
    refine tkE 0 (y := by intro w hSw; go_simp; try with_reducible rfl) (h := ?_)
    refine tkE 1 (y := by intro w hSw; go_simp; try with_reducible rfl) (h := ?_)
    refine tkE 2 (y := by intro w hSw; go_simp; try with_reducible rfl) (h := ?_)
    refine tkE 3 (y := by intro w hSw; go_simp; try with_reducible rfl) (h := ?_)
    refine tkE 4 (y := by intro w hSw; have y := HT.out _ hSw; go_simp; try with_reducible rfl) (h := ?_)
    refine tkE 5 (y := by intro w hSw; go_simp; try with_reducible rfl) (h := ?_)
    refine tkE 6 (y := by intro w hSw; go_simp; try with_reducible rfl) (h := ?_)
    refine tkE 7 (y := by intro w hSw; obtain ⟨y, y'⟩ := HE.out _ hSw; go_simp; try with_reducible rfl) (h := ?_)
    refine tkE 8 (y := by intro w hSw; go_simp; try with_reducible rfl) (h := ?_)
    refine cE 9 (y := fun K hK => ?_)
    go_simp
    skip
    refine hK.out _ _ (fun _ => (hHeld.alloc _)) (fun hHeld => ?_)
    clear hK K
    try simp only [Act.put, List.setIfInBounds_toArray, List.set_cons_zero, List.set_cons_succ]
    replace hHeld := hHeld (by decide)
    refine cE 10 (y := fun K hK => ?_)
    skip
    (refine wp_append_ex _ _ _ rfl _ _ rfl rfl (HAPP.out _ (by first | exact ((Chg.refl _ _).drew).alloc _ | exact ((Chg.refl _ _).alloc _).drew) (heap_alloc_new _ _)) (fun v5 w5 hR => ?_); obtain ⟨A5, c5, hv5, hl5, hob5, hC5⟩ := hR; subst hv5)
    refine hK.out _ _ (fun _ => (hHeld.trans hC5)) (fun hHeld => ?_)
    clear hK K
    try simp only [Act.put, List.setIfInBounds_toArray, List.set_cons_zero, List.set_cons_succ]
    replace hHeld := hHeld (by decide)
    refine cE 11 (y := fun K hK => ?_)
    go_simp
    skip
    refine hK.out _ _ (fun _ => hHeld) (fun hHeld => ?_)
    clear hK K
    try simp only [Act.put, List.setIfInBounds_toArray, List.set_cons_zero, List.set_cons_succ]
    replace hHeld := hHeld (by decide)
    refine cE 12 (y := fun K hK => ?_)
    go_simp
    skip
    refine hK.out _ _ (fun _ => hHeld) (fun hHeld => ?_)
    clear hK K
    try simp only [Act.put, List.setIfInBounds_toArray, List.set_cons_zero, List.set_cons_succ]
    replace hHeld := hHeld (by decide)
    have hcb5 := HTB.out w5 hHeld; have y := blk_cell hcb5 1; have yf := blk_free hcb5 1; have yl := lt_of_heap hcb5; simp only [List.getElem?_toArray, List.getElem?_cons_zero, List.getElem?_cons_succ] at y
    refine cE 13 (y := fun K hK => ?_)
    go_simp
    skip
    refine hK.out _ _ (fun hne => absurd rfl hne) (fun _ => ?_)
    clear hK K
    try simp only [Act.put, List.setIfInBounds_toArray, List.set_cons_zero, List.set_cons_succ]
    refine dnE ?_
    have hK5 : Chg (fun k => some k = v.ownBlock) w2 w5 := by assumption
    obtain ⟨g5, o5, c6, cs5, hv6, hb6, hs6, hnc6, hcm6, hl6⟩ := hl5.some_ (by omega)
    injection hv6 with e3 e4 e5
    subst e3 e5
    have hne5 : g5 ≠ t := fun e => by
      rw [← e, hb6] at hcb5
      injection hcb5 with hcb5; injection hcb5 with _ h4; exact absurd h4 (by decide)
    have hS : Chg (fun k => k = t) w5 (w5.setCell ⟨t, 1, none⟩ (.slice (some ⟨g5, o5 * 4, none⟩) (n + 1) c5)) := (Chg.refl _ _).set1 _
    have hb7 := blk_set hcb5 1 (.slice (some ⟨g5, o5 * 4, none⟩) (n + 1) c5)
    have hl7 := hl5.keep hS (fun k hk e => by simp only [Value.ownBlock, Option.some.injEq] at hk; omega)
    have hK7 := (hK5.mono (T := fun k => k = t ∨ some k = v.ownBlock) (fun _ _ e => .inr e)).trans (hS.mono (fun _ _ e => .inl e))
    have HOB : Hid (∀ k, some g5 = some k → v.ownBlock = some k ∨ w.heap.size ≤ k) := fun k hk => by
      rcases hob5 k hk with h | h
      · exact .inl h
      · right; have := HSZ2.out; simp at h; omega
    go_upto_region 10 with fail
    generalize w5.setCell ⟨t, 1, none⟩ (.slice (some ⟨g5, o5 * 4, none⟩) (n + 1) c5) = W7 at *
    clear hcb5 y yf yl hK5 hl5 hb6 hs6 hl6 hS hob5
    have y0 := blk_cell hb7 0
    have y1 := blk_cell hb7 1
    have yf := blk_free hb7 1
    have yl := lt_of_heap hb7
    simp [Array.setIfInBounds] at y0 y1
    obtain ⟨i0, ii, iz0, iz1, iz2⟩ := info_parts Try.infoLine
    unfold maxLen at hcm6
    have n1 : (n : Int) + 1 ≤ c5 := by omega
    by_cases h16 : n = 16
    · subst h16
      have hcut : ∀ W, (Instr.slice 113 (.slice (some ⟨g5, o5 * 4, none⟩) 17 c5) (some (.int .i64 1)) none none).run Try.prog W = .ok (.slice (some ⟨g5, o5 * 4 + 4, none⟩) 16 (c5 - 1)) W := fun W => by
        have := run_tail_at (P := Try.prog) 113 106 Try.underlying113 i0 ii iz1 g5 (o5 * 4) 17 c5 1 (by omega) (by omega) W
        simpa using this
      have HOUT : Hid (∀ W, Chg (fun k => k = t) W7 W → W.heap[t]? = some (.cells #[.int .i64 16, .slice (some ⟨g5, o5 * 4 + 4, none⟩) 16 (c5 - 1)] 115 (0, 0)) → TPutPost t nf F w (.returned (.int .i64 0)) W) := fun W hW hbW =>
        ⟨fun k => k = t ∨ some g5 = some k, ⟨_, rfl⟩, ⟨_, 16, ⟨hbW, by have := (hl7.tail 1 (by omega) (by omega)).keep hW (fun k hk e => by simp only [Value.ownBlock, Option.some.injEq] at hk; omega); simpa using this, by omega⟩, fun k => Iff.rfl⟩, fun k hk => by
          rcases hk with rfl | hk
          · exact .inl ((HFF.out _).2 (.inl rfl))
          · rcases HOB.out k hk with e | e
            · exact .inl ((HFF.out k).2 (.inr e))
            · exact .inr e, (((HA.out.trans HK2.out).toF F).trans (hK7.mono (fun k _ e => (HFF.out k).2 (by rcases e with e | e; exact .inl e; exact .inr e.symm)))).trans (hW.mono (fun k _ e => (HFF.out k).2 (.inl e)))⟩
      have HW8 : Hid (Chg (fun k => k = t) W7 ((W7.setCell ⟨t, 1, none⟩ (.slice (some ⟨g5, o5 * 4 + 4, none⟩) 16 (c5 - 1))).drew)) := ((Chg.refl (fun k => k = t) W7).set1 _).drew
      have HB8 := Lib.hid (blk_set hb7 1 (.slice (some ⟨g5, o5 * 4 + 4, none⟩) 16 (c5 - 1)))
      clear hb7 hl7 hK7
      go_region
      go_wp2_with fail
      go_ret
      exact HOUT.out _ HW8.out HB8.out
    · have hmx : max (0 : Int) ((n : Int) + 1 - 16) = 0 := by omega
      have hcut : ∀ W, (Instr.slice 113 (.slice (some ⟨g5, o5 * 4, none⟩) (n + 1) c5) (some (.int .i64 0)) none none).run Try.prog W = .ok (.slice (some ⟨g5, o5 * 4, none⟩) (n + 1) c5) W := fun W => by
        have := run_tail_at (P := Try.prog) 113 106 Try.underlying113 i0 ii iz1 g5 (o5 * 4) (n + 1) c5 0 (by omega) (by omega) W
        simpa using this
      have HOUT : Hid (∀ W, Chg (fun k => k = t) W7 W → W.heap[t]? = some (.cells #[.int .i64 16, .slice (some ⟨g5, o5 * 4, none⟩) (n + 1) c5] 115 (0, 0)) → TPutPost t nf F w (.returned (.int .i64 0)) W) := fun W hW hbW =>
        ⟨fun k => k = t ∨ some g5 = some k, ⟨_, rfl⟩, ⟨_, n + 1, ⟨hbW, hl7.keep hW (fun k hk e => by simp only [Value.ownBlock, Option.some.injEq] at hk; omega), by omega⟩, fun k => Iff.rfl⟩, fun k hk => by
          rcases hk with rfl | hk
          · exact .inl ((HFF.out _).2 (.inl rfl))
          · rcases HOB.out k hk with e | e
            · exact .inl ((HFF.out k).2 (.inr e))
            · exact .inr e, (((HA.out.trans HK2.out).toF F).trans (hK7.mono (fun k _ e => (HFF.out k).2 (by rcases e with e | e; exact .inl e; exact .inr e.symm)))).trans (hW.mono (fun k _ e => (HFF.out k).2 (.inl e)))⟩
      have HW8 : Hid (Chg (fun k => k = t) W7 ((W7.setCell ⟨t, 1, none⟩ (.slice (some ⟨g5, o5 * 4, none⟩) (n + 1) c5)).drew)) := ((Chg.refl (fun k => k = t) W7).set1 _).drew
      have HB8 := Lib.hid (blk_set hb7 1 (.slice (some ⟨g5, o5 * 4, none⟩) (n + 1) c5))
      clear hb7 hl7 hK7
      go_region
      go_wp2_with fail
      go_ret
      exact HOUT.out _ HW8.out HB8.out
  · obtain ⟨A, c, rfl⟩ := hv2.2.1.form
    obtain ⟨g, o, c', cs, hv, hb, hs, hnc, hcm, hl⟩ := hv2.2.1.some_ (by omega)
    injection hv with e3 e4 e5
    subst e3 e5
    obtain ⟨d', p', f', q', a0, a1, a2, a3, hgd⟩ := lnC_cells hb (hl i hi)
    have c1 := blk_cell hv2.1 1
    have z0 := blk_cell hb2 0
    have z1 := blk_cell hb2 1
    have g2 := blk_free hb (o * 4 + i * 4 + 2)
    have g3 := blk_free hb (o * 4 + i * 4 + 3)
    have gl := lt_of_heap hb
    have i0 : (0 : Int) ≤ i := by omega
    have i1 : (i : Int) < n := by omega
    have n16 : (n : Int) ≤ 16 := by have := hv2.2.2; omega
    simp only [List.getElem?_toArray, List.getElem?_cons_zero, List.getElem?_cons_succ] at c1 z0 z1
    have hgt : g ≠ t := fun e => hv2.ne (by rw [← e]; rfl)
    have hset := blk_set (blk_set hb (o * 4 + i * 4 + 2) (.int .i64 f)) (o * 4 + i * 4 + 3) (.int .i64 q)
    have hKS : Chg (fun k => k = g) w2 ((w2.setCell ⟨g, o * 4 + i * 4 + 2, none⟩ (.int .i64 f)).setCell ⟨g, o * 4 + i * 4 + 3, none⟩ (.int .i64 q)) := ((Chg.refl _ _).set1 _).set1 _
    have HOUT : Hid (TPutPost t nf F w (.returned (.int .i64 0)) (((w2.setCell ⟨g, o * 4 + i * 4 + 2, none⟩ (.int .i64 f)).setCell ⟨g, o * 4 + i * 4 + 3, none⟩ (.int .i64 q)).drew)) :=
      ⟨F, ⟨_, rfl⟩, ⟨_, n, ⟨hKS.drew.at hv2.1 (fun e => hgt e.symm), .inr ⟨g, o, c, _, rfl, hset, by simp; exact hs, hnc, hcm, lines_ent (g := g) hs hnc hl hi HG.out⟩, hv2.2.2⟩, HFF.out⟩, fun k hk => .inl hk, ((HA.out.trans HK2.out).toF F).trans (hKS.drew.mono (fun k _ e => (HFF.out k).2 (.inr (by rw [e]; rfl))))⟩
    clear hset hKS hv2 hb2 hb hs hl hcm hgd a0 a1
    go_upto_region 7 with fail
    go_region
    go_wp2_with fail
    go_ret
    exact HOUT.out
end Go.Proofs.Ytnallfehffhaeaa
