/- A purge: the walk. Printed by mkpurg3.py. -/
import Derived.Test.YtncbcjjdnlmjbaaPurg2
import Derived.Test.YtncbcjjdnlmjbaaAnyE
set_option linter.unusedSimpArgs false
set_option linter.unusedVariables false
namespace Go.Proofs.Ytncbcjjdnlmjbaa
open Go.RowKit

/-! ### Plain -/
def runA (q np : Int) : AL × Int → List St → AL × Int
  | z, [] => z
  | z, x :: L => runA q np (stepA q np z.1 z.2 x, stepT z.2 x) L
def purgeL (fl : Int → Bool) (q np : Int) : AL × Int → List St → List St
  | _, [] => []
  | z, x :: L => (if keepP fl z.1 x then x else St.zero) :: purgeL fl q np (stepA q np z.1 z.2 x, stepT z.2 x) L
theorem runA_append (q np : Int) (L M : List St) : ∀ z, runA q np z (L ++ M) = runA q np (runA q np z L) M := by
  induction L with
  | nil => intro z; rfl
  | cons x L ih => intro z; exact ih _
theorem purgeL_append (fl : Int → Bool) (q np : Int) (L M : List St) : ∀ z, purgeL fl q np z (L ++ M) = purgeL fl q np z L ++ purgeL fl q np (runA q np z L) M := by
  induction L with
  | nil => intro z; rfl
  | cons x L ih => intro z; simp only [List.cons_append, purgeL, runA, ih]
theorem purgeL_length (fl : Int → Bool) (q np : Int) (L : List St) : ∀ z, (purgeL fl q np z L).length = L.length := by
  induction L with
  | nil => intro z; rfl
  | cons x L ih => intro z; simp [purgeL, ih]
def asgOf (C : Cf) : AL := (ownersL C).map (fun x => (x, 0))
noncomputable def toL (C : Cf) (p : Nat) : List Bool := (List.range C.parts.length).map (fun q => pathB C q p)
/-- What a purge gives. -/
noncomputable def purgeC (C : Cf) (p : Nat) (L : List St) : List St := purgeL (pfl (toL C p)) C.quiet C.parts.length (asgOf C, 0) L
/-- A slice of steps reads as a list. -/
def RdS (w : World) (v : Value) (L : List St) : Prop := L.length ≤ maxLen ∧ ∃ A c, v = .slice A L.length c ∧ ∀ (j : Nat) (h : j < L.length), ∃ g o, A = some ⟨g, o, none⟩ ∧ ∀ i, i < 7 → w.cell? ⟨g, o + j * 7 + i, none⟩ = (stcell L[j])[i]?
theorem RdS.keepN {w w' : World} {v : Value} {L : List St} (h : RdS w v L) (hC : Chg (fun _ => False) w w') : RdS w' v L := by
  obtain ⟨hm, A, c, rfl, h⟩ := h
  refine ⟨hm, A, c, rfl, fun j hj => ?_⟩
  obtain ⟨g, o, rfl, h0⟩ := h j hj
  refine ⟨g, o, rfl, fun i hi => ?_⟩
  have hs : i < (stcell L[j]).length := hi
  rw [List.getElem?_eq_getElem hs]
  exact hC.cell (by rw [h0 i hi, List.getElem?_eq_getElem hs]) id
def PurgePost (C : Cf) (p : Int) (L : List St) (w : World) (e : Ending) (w' : World) : Prop :=
  if MayP C ∧ C.there p then ∃ v, e = .returned (.tuple #[v, .int .i64 0]) ∧ OwnC stcell 7 59 w' w.heap.size v (purgeC C p.toNat L) ∧ Chg (fun _ => False) w w'
  else e = .returned (.tuple #[.slice none 0 0, .int .i64 2300]) ∧ Chg (fun _ => False) w w'
end Go.Proofs.Ytncbcjjdnlmjbaa
