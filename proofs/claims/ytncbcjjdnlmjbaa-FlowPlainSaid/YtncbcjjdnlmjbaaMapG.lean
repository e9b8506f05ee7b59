/- A map of grants to bools that a call makes and fills with true. -/
import Derived.Test.YtncbcjjdnlmjbaaCfgF
import Derived.MapKept
import Derived.Laws.StructEq
set_option linter.unusedSimpArgs false
set_option linter.unusedVariables false
namespace Go.Proofs.Ytncbcjjdnlmjbaa
open Go.RowKit

def gKey (p : Int × Int) : Value := .agg #[.int .i64 p.1, .int .i64 p.2, .bool false]
theorem gKeyOne (b : Bool) (x y : Int) (W : World) : (Instr.checkKey b 10000 44 (.agg #[.int .i64 x, .int .i64 y, .bool false])).run Try.prog W = .ok () W := by kernel_rfl
theorem gEq (p q : Int × Int) (W : World) : (Op.equal 44 (gKey p) (gKey q)).run Try.prog W = .ok (decide (p = q)) W := by
  obtain ⟨x, y⟩ := p
  obtain ⟨x', y'⟩ := q
  unfold Op.equal Op.maxDepth gKey
  go_simp
  by_cases h1 : x = x' <;> by_cases h2 : y = y' <;> simp [h1, h2]
def GEnts (es : List MapEntry) (M : List (Int × Int)) : Prop := es.map (fun e => (e.key, e.val)) = M.map (fun p => (gKey p, Value.bool true))
/-- Block b is a map whose keys are M, each with true. -/
def GMapAt (w : World) (b : Nat) (M : List (Int × Int)) : Prop := ∃ es clock, w.heap[b]? = some (.map es clock) ∧ GEnts es.toList M
theorem GMapAt.keep {S : Nat → Prop} {w w' : World} {b : Nat} {M : List (Int × Int)} (h : GMapAt w b M) (hC : Chg S w w') (hn : ¬ S b) : GMapAt w' b M := by
  obtain ⟨es, c, h1, h2⟩ := h; exact ⟨es, c, hC.at h1 hn, h2⟩
theorem GMapAt.lt {w : World} {b : Nat} {M : List (Int × Int)} (h : GMapAt w b M) : b < w.heap.size := by obtain ⟨es, c, h1, _⟩ := h; exact lt_of_heap h1
theorem gfind_ask (p : Int × Int) (W : World) : ∀ (es : List MapEntry) (M : List (Int × Int)) (i : Nat), GEnts es M → ∃ r, (Instr.findAsking 44 (gKey p) es i).run Try.prog W = .ok r W ∧
    ((p ∈ M ∧ ∃ j, i ≤ j ∧ r = some (j, .bool true) ∧ (es[j - i]?).map (·.key) = some (gKey p)) ∨ (p ∉ M ∧ r = none))
  | [], [], i, _ => ⟨none, by simp [Instr.findAsking], .inr ⟨by simp, rfl⟩⟩
  | [], _ :: _, i, h => by simp [GEnts] at h
  | _ :: _, [], i, h => by simp [GEnts] at h
  | e :: es, q :: M, i, h => by
    simp only [GEnts, List.map_cons, List.cons.injEq, Prod.mk.injEq] at h
    obtain ⟨⟨hk, hv⟩, ht⟩ := h
    unfold Instr.findAsking
    rw [Sem.run_bind, hk, gEq p q W]
    by_cases hpq : p = q
    · subst hpq
      refine ⟨some (i, .bool true), by simp [Result.andThen, hv], .inl ⟨by simp, i, Nat.le_refl _, rfl, by simp [hk]⟩⟩
    · obtain ⟨r, h1, h2⟩ := gfind_ask p W es M (i + 1) ht
      refine ⟨r, by simp [Result.andThen, hpq, h1], ?_⟩
      rcases h2 with ⟨hm, j, hj, hr, hg⟩ | ⟨hm, hr⟩
      · refine .inl ⟨by simp [hm], j, by omega, hr, ?_⟩
        rw [show j - i = (j - (i + 1)) + 1 from by omega]
        simpa using hg
      · exact .inr ⟨by simp [hpq, hm], hr⟩
theorem gfind_key (p : Int × Int) (W : World) (es : List MapEntry) (M : List (Int × Int)) (h : GEnts es M) : ∃ r, (Instr.findKey 44 (gKey p) es).run Try.prog W = .ok r W ∧
    ((p ∈ M ∧ ∃ j, r = some (j, .bool true) ∧ (es[j]?).map (·.key) = some (gKey p)) ∨ (p ∉ M ∧ r = none)) := by
  obtain ⟨r, h1, h2⟩ := gfind_ask p W es M 0 h
  refine ⟨r, ?_, ?_⟩
  · unfold Instr.findKey
    rw [Sem.run_bind, run_underlying Try.underlying44]
    cases es with
    | nil =>
      cases M with
      | nil => simp [Instr.findNow, Result.andThen]; simp [Instr.findAsking] at h1; exact h1
      | cons _ _ => simp [GEnts] at h
    | cons e es => simp [Instr.findNow, Instr.sameNow, Result.andThen, h1]
  · rcases h2 with ⟨hm, j, _, hr, hg⟩ | h2
    · exact .inl ⟨hm, j, hr, by simpa using hg⟩
    · exact .inr h2
theorem gzeroBool (W : World) : (zeroValue 4).run Try.prog W = .ok (.bool false) W := by kernel_rfl
theorem gLook {W : World} {b : Nat} {M : List (Int × Int)} (h : GMapAt W b M) (p : Int × Int) : (Instr.lookup 214 (.map (some b)) (gKey p) false).run Try.prog W = .ok (.bool (decide (p ∈ M))) W := by
  obtain ⟨es, c, hb, he⟩ := h
  obtain ⟨r, h1, h2⟩ := gfind_key p W es.toList M he
  unfold Instr.lookup
  rw [Sem.run_bind, run_underlying Try.underlying214]
  have hk : ∀ e, (Instr.checkKey e 10000 44 (gKey p)).run Try.prog W = .ok () W := fun e => gKeyOne e p.1 p.2 W
  have hgo : (getObj b).run Try.prog W = .ok (.map es c) W := by simp [getObj, Sem.run, hb]
  simp [Result.andThen, hgo, hk, h1]
  rcases h2 with ⟨hm, j, hr, _⟩ | ⟨hm, hr⟩
  · simp [hr, hm]
  · simp [hr, hm, gzeroBool, Result.andThen]
theorem gchg_setBlk (W : World) (b : Nat) (o : Obj) : Chg (fun k => k = b) W { W with heap := W.heap.setIfInBounds b o } :=
  ⟨rfl, rfl, rfl, by simp, fun k hk hn => by simp only; rw [Array.getElem?_setIfInBounds_ne (fun h => hn h.symm)]⟩
theorem gPut {W : World} {b : Nat} {M : List (Int × Int)} (h : GMapAt W b M) (p : Int × Int) : ∃ W' M', (Instr.mapUpdate 214 (.map (some b)) (gKey p) (.bool true)).run Try.prog W = .ok () W' ∧ GMapAt W' b M' ∧ (∀ q, q ∈ M' ↔ q = p ∨ q ∈ M) ∧ Chg (fun k => k = b) W W' := by
  obtain ⟨es, c, hb, he⟩ := h
  obtain ⟨r, h1, h2⟩ := gfind_key p W es.toList M he
  have hbl := lt_of_heap hb
  have hk : ∀ e, (Instr.checkKey e 10000 44 (gKey p)).run Try.prog W = .ok () W := fun e => gKeyOne e p.1 p.2 W
  have hgo : (getObj b).run Try.prog W = .ok (.map es c) W := by simp [getObj, Sem.run, hb]
  have hso : ∀ o, (setObj b o).run Try.prog W = .ok () { W with heap := W.heap.setIfInBounds b o } := fun o => by simp [setObj, Sem.run, hb]
  rcases h2 with ⟨hm, j, hr, hkey⟩ | ⟨hm, hr⟩
  · have hjj : (es[j]?).map (·.key) = some (gKey p) := by rw [← hkey, Array.getElem?_toList]
    refine ⟨_, M, ?_, ?_, fun q => ⟨fun h => .inr h, fun h => by rcases h with rfl | h; exact hm; exact h⟩, gchg_setBlk W b (.map (es.modify j fun e => { e with key := gKey p, val := .bool true }) c)⟩
    · unfold Instr.mapUpdate
      rw [Sem.run_bind, run_underlying Try.underlying214]
      have hst : (Instr.keyThatStays (((es[j]?).map (·.key)).getD (gKey p)) (gKey p)).run Try.prog W = .ok (gKey p) W := by
        rw [hjj]
        have hsb : ∀ n, Instr.sameBits (n + 2) (gKey p) (gKey p) = true := fun n => by simp [Instr.sameBits, gKey]
        have hsb2 : Instr.sameBits 10000 (gKey p) (gKey p) = true := hsb 9998
        simp only [Option.getD_some]
        unfold Instr.keyThatStays
        rw [hsb2]; rfl
      simp [Result.andThen, hgo, hk, h1, hr]
      simp [Result.andThen, hst, hso]
    · refine ⟨_, c, by simp [hbl]; rfl, ?_⟩
      unfold GEnts at he ⊢
      rw [← he]
      apply List.ext_getElem?
      intro i
      rw [List.getElem?_map, List.getElem?_map, Array.getElem?_toList, Array.getElem?_toList, Array.getElem?_modify]
      by_cases e : j = i
      · subst e
        rw [if_pos rfl]
        have hv : ∀ x, es[j]? = some x → x.val = .bool true := fun x hx => by
          have h3 := congrArg (fun l => l[j]?) he
          simp only [List.getElem?_map, Array.getElem?_toList, hx, Option.map_some] at h3
          cases hM : M[j]? with
          | none => rw [hM] at h3; cases h3
          | some q => rw [hM] at h3; simp only [Option.map_some, Option.some.injEq, Prod.mk.injEq] at h3; exact h3.2
        cases hx : es[j]? with
        | none => rfl
        | some x =>
          rw [hx] at hjj
          simp only [Option.map_some, Option.some.injEq] at hjj
          simp [hjj, hv x hx]
      · rw [if_neg e]
  · refine ⟨_, M ++ [p], ?_, ?_, fun q => by simp [or_comm], gchg_setBlk W b (.map (es.push { key := gKey p, val := .bool true, born := c }) (c + 1))⟩
    · unfold Instr.mapUpdate
      rw [Sem.run_bind, run_underlying Try.underlying214]
      simp [Result.andThen, hgo, hk, h1, hr, hso]
    · refine ⟨_, c + 1, by simp [hbl]; rfl, ?_⟩
      unfold GEnts at he ⊢
      rw [Array.toList_push, List.map_append, List.map_append, he]; rfl
end Go.Proofs.Ytncbcjjdnlmjbaa
