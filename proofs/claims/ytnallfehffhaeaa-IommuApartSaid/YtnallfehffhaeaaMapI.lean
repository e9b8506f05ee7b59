/- A map of ints to bools that a call makes and fills with true: MapB, turned. -/
import Derived.Test.YtnallfehffhaeaaIomI
import Derived.MapKept
import Derived.Laws.StructEq
set_option linter.unusedSimpArgs false
set_option linter.unusedVariables false
namespace Go.Proofs.Ytnallfehffhaeaa
open Go.RowKit

namespace IM
def mKey (p : Int) : Value := .int .i64 p
theorem keyOne (b : Bool) (x : Int) (W : World) : (Instr.checkKey b 10000 3 (.int .i64 x)).run Try.prog W = .ok () W := by kernel_rfl
theorem eqOne (p q : Int) (W : World) : (Op.equal 3 (mKey p) (mKey q)).run Try.prog W = .ok (decide (p = q)) W := by
  unfold Op.equal Op.maxDepth mKey
  go_simp
  by_cases h1 : p = q <;> simp [h1]
def Ents (es : List MapEntry) (M : List Int) : Prop := es.map (fun e => (e.key, e.val)) = M.map (fun p => (mKey p, Value.bool true))
/-- Block b is a map whose keys are M, each with true. -/
def MapAt (w : World) (b : Nat) (M : List Int) : Prop := ∃ es clock, w.heap[b]? = some (.map es clock) ∧ Ents es.toList M
theorem MapAt.keep {S : Nat → Prop} {w w' : World} {b : Nat} {M : List Int} (h : MapAt w b M) (hC : Chg S w w') (hn : ¬ S b) : MapAt w' b M := by
  obtain ⟨es, c, h1, h2⟩ := h; exact ⟨es, c, hC.at h1 hn, h2⟩
theorem MapAt.lt {w : World} {b : Nat} {M : List Int} (h : MapAt w b M) : b < w.heap.size := by obtain ⟨es, c, h1, _⟩ := h; exact lt_of_heap h1
theorem find_now (p : Int) : ∀ (es : List MapEntry) (M : List Int) (i : Nat), Ents es M → ∃ r, Instr.findNow (.int .i64) (mKey p) es i = some r ∧
    ((p ∈ M ∧ ∃ j, i ≤ j ∧ r = some (j, .bool true) ∧ (es[j - i]?).map (·.key) = some (mKey p)) ∨ (p ∉ M ∧ r = none))
  | [], [], i, _ => ⟨none, by simp [Instr.findNow], .inr ⟨by simp, rfl⟩⟩
  | [], _ :: _, i, h => by simp [Ents] at h
  | _ :: _, [], i, h => by simp [Ents] at h
  | e :: es, q :: M, i, h => by
    simp only [Ents, List.map_cons, List.cons.injEq, Prod.mk.injEq] at h
    obtain ⟨⟨hk, hv⟩, ht⟩ := h
    unfold Instr.findNow
    rw [hk]
    by_cases hpq : p = q
    · subst hpq
      refine ⟨some (i, .bool true), by simp [Instr.sameNow, mKey, hv], .inl ⟨by simp, i, Nat.le_refl _, rfl, by simp [hk]⟩⟩
    · obtain ⟨r, h1, h2⟩ := find_now p es M (i + 1) ht
      have hb : (p == q) = false := by simpa using hpq
      refine ⟨r, by simp only [Instr.sameNow, mKey, hb, if_true]; exact h1, ?_⟩
      rcases h2 with ⟨hm, j, hj, hr, hg⟩ | ⟨hm, hr⟩
      · refine .inl ⟨by simp [hm], j, by omega, hr, ?_⟩
        rw [show j - i = (j - (i + 1)) + 1 from by omega]
        simpa using hg
      · exact .inr ⟨by simp [hpq, hm], hr⟩
theorem find_key (p : Int) (W : World) (es : List MapEntry) (M : List Int) (h : Ents es M) : ∃ r, (Instr.findKey 3 (mKey p) es).run Try.prog W = .ok r W ∧
    ((p ∈ M ∧ ∃ j, r = some (j, .bool true) ∧ (es[j]?).map (·.key) = some (mKey p)) ∨ (p ∉ M ∧ r = none)) := by
  obtain ⟨r, h1, h2⟩ := find_now p es M 0 h
  refine ⟨r, ?_, ?_⟩
  · unfold Instr.findKey
    rw [Sem.run_bind, run_underlying Try.underlying3]
    simp [Result.andThen, h1]
  · rcases h2 with ⟨hm, j, _, hr, hg⟩ | h2
    · exact .inl ⟨hm, j, hr, by simpa using hg⟩
    · exact .inr h2
theorem zeroBool (W : World) : (zeroValue 4).run Try.prog W = .ok (.bool false) W := by kernel_rfl
theorem mapLook {W : World} {b : Nat} {M : List Int} (h : MapAt W b M) (p : Int) : (Instr.lookup 111 (.map (some b)) (mKey p) false).run Try.prog W = .ok (.bool (decide (p ∈ M))) W := by
  obtain ⟨es, c, hb, he⟩ := h
  obtain ⟨r, h1, h2⟩ := find_key p W es.toList M he
  unfold Instr.lookup
  rw [Sem.run_bind, run_underlying Try.underlying111]
  have hk : ∀ e, (Instr.checkKey e 10000 3 (mKey p)).run Try.prog W = .ok () W := fun e => keyOne e p W
  have hgo : (getObj b).run Try.prog W = .ok (.map es c) W := by simp [getObj, Sem.run, hb]
  simp [Result.andThen, hgo, hk, h1]
  rcases h2 with ⟨hm, j, hr, _⟩ | ⟨hm, hr⟩
  · simp [hr, hm]
  · simp [hr, hm, zeroBool, Result.andThen]
theorem chg_setBlk (W : World) (b : Nat) (o : Obj) : Chg (fun k => k = b) W { W with heap := W.heap.setIfInBounds b o } :=
  ⟨rfl, rfl, rfl, by simp, fun k hk hn => by simp only; rw [Array.getElem?_setIfInBounds_ne (fun h => hn h.symm)]⟩
theorem mapPut {W : World} {b : Nat} {M : List Int} (h : MapAt W b M) (p : Int) : ∃ W' M', (Instr.mapUpdate 111 (.map (some b)) (mKey p) (.bool true)).run Try.prog W = .ok () W' ∧ MapAt W' b M' ∧ (∀ q, q ∈ M' ↔ q = p ∨ q ∈ M) ∧ Chg (fun k => k = b) W W' := by
  obtain ⟨es, c, hb, he⟩ := h
  obtain ⟨r, h1, h2⟩ := find_key p W es.toList M he
  have hbl := lt_of_heap hb
  have hk : ∀ e, (Instr.checkKey e 10000 3 (mKey p)).run Try.prog W = .ok () W := fun e => keyOne e p W
  have hgo : (getObj b).run Try.prog W = .ok (.map es c) W := by simp [getObj, Sem.run, hb]
  have hso : ∀ o, (setObj b o).run Try.prog W = .ok () { W with heap := W.heap.setIfInBounds b o } := fun o => by simp [setObj, Sem.run, hb]
  rcases h2 with ⟨hm, j, hr, hkey⟩ | ⟨hm, hr⟩
  · have hjj : (es[j]?).map (·.key) = some (mKey p) := by rw [← hkey, Array.getElem?_toList]
    refine ⟨_, M, ?_, ?_, fun q => ⟨fun h => .inr h, fun h => by rcases h with rfl | h; exact hm; exact h⟩, chg_setBlk W b (.map (es.modify j fun e => { e with key := mKey p, val := .bool true }) c)⟩
    · unfold Instr.mapUpdate
      rw [Sem.run_bind, run_underlying Try.underlying111]
      have hst : (Instr.keyThatStays (((es[j]?).map (·.key)).getD (mKey p)) (mKey p)).run Try.prog W = .ok (mKey p) W := by
        rw [hjj]
        have hsb : ∀ n, Instr.sameBits (n + 2) (mKey p) (mKey p) = true := fun n => by simp [Instr.sameBits, mKey]
        have hsb2 : Instr.sameBits 10000 (mKey p) (mKey p) = true := hsb 9998
        simp only [Option.getD_some]
        unfold Instr.keyThatStays
        rw [hsb2]; rfl
      simp [Result.andThen, hgo, hk, h1, hr]
      simp [Result.andThen, hst, hso]
    · refine ⟨_, c, by simp [hbl]; rfl, ?_⟩
      unfold Ents at he ⊢
      rw [← he]
      apply List.ext_getElem?
      intro i
      rw [List.getElem?_map, List.getElem?_map, Array.getElem?_toList, Array.getElem?_toList, Array.getElem?_modify]
      by_cases e : j = i
      · subst e
        rw [if_pos rfl]
        have hv : ∀ x, es[j]? = some x → x.val = .bool true := fun x hx => by
          have h3 := congrArg (fun l => l[j]?) he
          simp only [List.getElem?_map, Array.getElem?_toList, hx, Option.map_some] at h3
          cases hM : M[j]? with
          | none => rw [hM] at h3; cases h3
          | some q => rw [hM] at h3; simp only [Option.map_some, Option.some.injEq, Prod.mk.injEq] at h3; exact h3.2
        cases hx : es[j]? with
        | none => rfl
        | some x =>
          rw [hx] at hjj
          simp only [Option.map_some, Option.some.injEq] at hjj
          simp [hjj, hv x hx]
      · rw [if_neg e]
  · refine ⟨_, M ++ [p], ?_, ?_, fun q => by simp [or_comm], chg_setBlk W b (.map (es.push { key := mKey p, val := .bool true, born := c }) (c + 1))⟩
    · unfold Instr.mapUpdate
      rw [Sem.run_bind, run_underlying Try.underlying111]
      simp [Result.andThen, hgo, hk, h1, hr, hso]
    · refine ⟨_, c + 1, by simp [hbl]; rfl, ?_⟩
      unfold Ents at he ⊢
      rw [Array.toList_push, List.map_append, List.map_append, he]; rfl
end IM
end Go.Proofs.Ytnallfehffhaeaa
