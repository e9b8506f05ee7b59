/- Rows that a call owns: append of a row from anywhere; one cell is turned. -/
import Derived.Test.YtnallfehffhaeaaOwn
import Derived.Maps.AppendAt
set_option linter.unusedSimpArgs false
set_option linter.unusedVariables false
namespace Go.Proofs.Ytnallfehffhaeaa
open Go.RowKit

section
variable {P : Program} (w : World)
theorem run_append_row (base : Nat) (t ty e : TypeId) (i : TypeInfo) (z : Value) (size bytes : Nat) (ht : P.underlying t = some (.slice e)) (hi : P.info? e = some i) (hz : i.zero = some z)
    (hsize : i.size = size) (hby : i.bytes = bytes) (hzs : z.cells.size = size) (hsz : 0 < size) (v : Value) (n : Nat) (xs : List Value) (hown : w.ownsRow base e size v n xs)
    (A : Option Addr) (m c : Nat) (news : List Value) (hl : news.length = m * size) (hr : RowC w A news) (h1 : ∀ u ∈ news, u.oneCell' = true)
    (h63 : n + m ≤ maxLen) (hbytes : (n + m) * bytes ≤ 140737488355328) (hbase : base ≤ w.heap.size) :
    ∃ v' w', (Builtin.append_ #[t, t] ty #[v, .slice A m c]).run P w = .ok v' w' ∧ w'.ownsRow base e size v' (n + m) (xs ++ news) ∧ w.grownBy w' v.ownBlock ∧ (v'.ownBlock = v.ownBlock ∨ v'.ownBlock = some w.heap.size) := by
  cases A with
  | none =>
    have hn : news = [] := by
      cases news with
      | nil => rfl
      | cons x l => obtain ⟨b, o, h, _⟩ := hr 0 x rfl; cases h
    subst hn
    have hm : m = 0 := by
      rcases Nat.eq_zero_or_pos m with h | h
      · exact h
      · have := Nat.mul_pos h hsz; simp at hl; omega
    subst hm
    refine ⟨v, w, ?_, by simpa using hown, World.grownBy.refl w _, .inl rfl⟩
    rcases hown.2 with ⟨rfl, rfl⟩ | ⟨g, cap, cur, rfl, _, _, hnc, _⟩
    · simp [Builtin.append_, run_underlying ht, sizeOf, typeInfo, hi, Builtin.lenOf, Builtin.firstCells]
    · simp [Builtin.append_, run_underlying ht, sizeOf, typeInfo, hi, Builtin.lenOf, Builtin.firstCells, hnc, storeCells]
  | some ad =>
    have hc : ∀ j u, news[j]? = some u → w.cell? (ad.add j) = some u := fun j u hu => by
      obtain ⟨b, o, h, hcell⟩ := hr j u hu
      injection h with h; subst h
      unfold Addr.add
      split
      · rename_i h0; subst h0; exact hcell
      · exact hcell
    obtain ⟨v', w', hrun, h2, h3, _, h5⟩ := run_append_own_at (P := P) w base t ty e i z size bytes ht hi hz hsize hby hzs hsz v n xs hown ad m c news hl hc h1 h63 hbytes hbase
    exact ⟨v', w', hrun, h2, h3, h5⟩
theorem wp_append_row {o : Oper} {a : Act} {K : Act → World → Prop} {Q : Exit → Act → World → Prop} (s x : Operand) (t : TypeId)
    (ho : o.op = .call { callee := .builtin .append, args := #[s, x], argTypes := #[t, t] })
    (base : Nat) (e : TypeId) (i : TypeInfo) (z : Value) (size bytes : Nat) (ht : P.underlying t = some (.slice e)) (hi : P.info? e = some i) (hz : i.zero = some z)
    (hsize : i.size = size) (hby : i.bytes = bytes) (hzs : z.cells.size = size) (hsz : 0 < size) (v : Value) (n : Nat) (xs : List Value) (hs : a.eval s = v) (hown : w.ownsRow base e size v n xs)
    (A : Option Addr) (m c : Nat) (news : List Value) (hx : a.eval x = .slice A m c) (hl : news.length = m * size) (hr : RowC w A news) (h1 : ∀ u ∈ news, u.oneCell' = true)
    (h63 : n + m ≤ maxLen) (hbytes : (n + m) * bytes ≤ 140737488355328) (hbase : base ≤ w.heap.size)
    (h : ∀ v' w', w'.ownsRow base e size v' (n + m) (xs ++ news) → w.grownBy w' v.ownBlock → (v'.ownBlock = v.ownBlock ∨ v'.ownBlock = some w.heap.size) → K (a.put o.dst v') w') : o.wp P a w K Q := by
  obtain ⟨v', w', hrun, h2, h3, h4⟩ := run_append_row (P := P) w base t o.type e i z size bytes ht hi hz hsize hby hzs hsz v n xs hown A m c news hl hr h1 h63 hbytes hbase
  unfold Oper.wp execOp
  simp only [ho, resolve, invoke, builtin, Sem.run_bind, Sem.run_pure, Result.andThen_ok, List.map_toArray, List.map_cons, List.map_nil, hs, hx, hrun]
  exact h v' w' h2 h3 h4
theorem wpList_append_row {ops : Array Oper} {rest : List Oper} {o : Oper} {a : Act} {Q : Exit → Act → World → Prop} (hgd : o.guard = none) (s x : Operand) (t : TypeId)
    (ho : o.op = .call { callee := .builtin .append, args := #[s, x], argTypes := #[t, t] })
    (base : Nat) (e : TypeId) (i : TypeInfo) (z : Value) (size bytes : Nat) (ht : P.underlying t = some (.slice e)) (hi : P.info? e = some i) (hz : i.zero = some z)
    (hsize : i.size = size) (hby : i.bytes = bytes) (hzs : z.cells.size = size) (hsz : 0 < size) (v : Value) (n : Nat) (xs : List Value) (hs : a.eval s = v) (hown : w.ownsRow base e size v n xs)
    (A : Option Addr) (m c : Nat) (news : List Value) (hx : a.eval x = .slice A m c) (hl : news.length = m * size) (hr : RowC w A news) (h1 : ∀ u ∈ news, u.oneCell' = true)
    (h63 : n + m ≤ maxLen) (hbytes : (n + m) * bytes ≤ 140737488355328) (hbase : base ≤ w.heap.size)
    (h : ∀ v' w', w'.ownsRow base e size v' (n + m) (xs ++ news) → w.grownBy w' v.ownBlock → (v'.ownBlock = v.ownBlock ∨ v'.ownBlock = some w.heap.size) → wpList P ops Q rest (a.put o.dst v') w') : wpList P ops Q (o :: rest) a w :=
  wpList_plain hgd fun _ hK => wp_append_row w s x t ho base e i z size bytes ht hi hz hsize hby hzs hsz v n xs hs hown A m c news hx hl hr h1 h63 hbytes hbase fun v' w' h2 h3 h4 => hK _ _ (h v' w' h2 h3 h4)
end
/-- xs[:n] of a row at its block's head. -/
theorem run_cut_to {P : Program} (W : World) (t e : TypeId) (ht : P.underlying t = some (.slice e)) (i : TypeInfo) (hi : P.info? e = some i) (g len cap n : Nat) (hn : n ≤ cap) :
    (Instr.slice t (.slice (some ⟨g, 0, none⟩) len cap) none (some (.int .i64 n)) none).run P W = .ok (.slice (some ⟨g, 0, none⟩) n cap) W := by
  have ht' : P.underlying t = some (.slice (P.elem t)) := by simp [Program.elem, ht]
  have he : P.elem t = e := by simp [Program.elem, ht]
  rw [run_slice_h W t _ _ _ ht' .i64 _ (by omega) (by omega), he]
  have hz : (sizeOf e).run P W = .ok i.size W := by simp [sizeOf, typeInfo, hi]
  rw [hz]
  simp only [Result.andThen, sliced, Nat.zero_mul, Option.map_some, Int.toNat_natCast, Nat.sub_zero]
  congr 2
  split <;> simp [Addr.add]
/-- One cell of one element is turned. -/
theorem OwnC.set1 {α : Type} {cells : α → List Value} {C e : Nat} {w : World} {base g n cap : Nat} {L : List α} (h : OwnC cells C e w base (.slice (some ⟨g, 0, none⟩) n cap) L) (hc : ∀ x, (cells x).length = C) {i : Nat} (hi : i < L.length) {j : Nat} (hj : j < C) {u : Value} {x : α} (hx : cells x = (cells L[i]).set j u) :
    OwnC cells C e (w.setCell ⟨g, i * C + j, none⟩ u) base (.slice (some ⟨g, 0, none⟩) n cap) (L.set i x) := by
  have hn := h.len
  have hle : i * C + C ≤ L.length * C := by
    have := Nat.mul_le_mul_right C (show i + 1 ≤ L.length from hi)
    rw [Nat.add_mul, Nat.one_mul] at this; exact this
  rcases h.2 with ⟨hv, _⟩ | ⟨g', cap', cur, hv, hb, hg, h1, h2, h3, h4⟩
  · cases hv
  · injection hv with e1 _ e3; injection e1 with e1; injection e1 with e1
    subst e1 e3
    refine ⟨by rw [flat_len cells C hc], .inr ⟨g, cap, _, by rw [List.length_set, hn], hb, blk_set hg _ _, by rw [List.length_set]; exact h1, h2, by simpa using h3, ?_⟩⟩
    rw [List.length_set, Array.toList_setIfInBounds]
    have hset : (L.set i x).flatMap cells = (L.flatMap cells).set (i * C + j) u := by
      rw [← flat_set hc L i hi x]
      apply List.ext_getElem?
      intro k
      have hfl : (L.flatMap cells).length = L.length * C := flat_len cells C hc L
      rw [splice_get _ _ _ (by rw [hc, hfl]; exact hle), List.getElem?_set, hc, hx]
      by_cases hk : i * C ≤ k ∧ k < i * C + C
      · rw [if_pos hk, List.getElem?_set, hc]
        by_cases hkj : i * C + j = k
        · have e1 : j = k - i * C := by omega
          rw [if_pos e1, if_pos hkj, if_pos hj, if_pos (by omega)]
        · rw [if_neg (show ¬ j = k - i * C by omega), if_neg hkj]
          obtain ⟨r, hr⟩ : ∃ r, k = i * C + r := ⟨k - i * C, by omega⟩
          subst hr
          rw [flat_get cells C hc r (by omega) L i, List.getElem?_eq_getElem hi]
          simp
      · rw [if_neg hk, if_neg (by omega)]
    rw [hset, ← h4]
    apply List.ext_getElem?
    intro k
    rw [List.getElem?_take, List.getElem?_set, List.getElem?_set, List.getElem?_take]
    have hcl : cur.toList.length = cap * C := by rw [Array.length_toList]; exact h3
    have hcap : L.length * C ≤ cap * C := Nat.mul_le_mul_right C h1
    rw [List.length_take]
    by_cases hk : k < L.length * C
    · rw [if_pos hk, if_pos hk]
      by_cases hkj : i * C + j = k
      · rw [if_pos hkj, if_pos hkj, if_pos (by omega), if_pos (by omega)]
      · rw [if_neg hkj, if_neg hkj]
    · rw [if_neg hk, if_neg (by omega), if_neg hk]
end Go.Proofs.Ytnallfehffhaeaa
