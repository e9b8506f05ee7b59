/- Slices of numbers as arguments. -/
import Derived.Test.YtnallfehffhaeaaOpen
set_option linter.unusedSimpArgs false
set_option linter.unusedVariables false
namespace Go.Proofs.Ytnallfehffhaeaa
open Go.RowKit Go.ChangeShapes Go.WideShapes Go.Deep
def icell (n : Int) : List Value := [.int .i64 n]
theorem icells (xs : List Int) (k : Nat) (hk : k < xs.length) : (xs.flatMap icell)[k]? = some (.int .i64 xs[k]) := by
  have := flat_get icell 1 (fun _ => rfl) 0 (by omega) xs k
  rw [Nat.mul_one, Nat.add_zero, List.getElem?_eq_getElem hk] at this
  exact this
theorem intAt {w : World} {A : Option Addr} {xs : List Int} (h : RowC w A (xs.flatMap icell)) (k : Nat) (hk : k < xs.length) : ∃ b o, A = some ⟨b, o, none⟩ ∧ w.cell? ⟨b, o + k, none⟩ = some (.int .i64 xs[k]) := h k _ (icells xs k hk)
theorem RowC.keep {S : Nat → Prop} {a b : World} {A : Option Addr} {cs : List Value} (h : RowC a A cs) (hC : Chg S a b) (hn : ∀ k, k < a.heap.size → ¬ S k) : RowC b A cs := fun j u hu => by
  obtain ⟨bb, o, e, hc⟩ := h j u hu
  exact ⟨bb, o, e, hC.cell hc (hn _ (World.block_lt_of_cell? a _ hc))⟩
theorem RowC.keepF {a b : World} {A : Option Addr} {cs : List Value} (h : RowC a A cs) (hC : Chg (fun _ => False) a b) : RowC b A cs := h.keep hC (fun _ _ => id)
/-- A block of numbers read as a row. -/
theorem rowc_blk {w : World} {b : Nat} {cs : Array Value} {t : TypeId} {fr : Nat × Nat} (h : w.heap[b]? = some (.cells cs t fr)) : RowC w (some ⟨b, 0, none⟩) cs.toList := fun j u hu => by
  refine ⟨b, 0, rfl, ?_⟩
  rw [blk_cell h, Nat.zero_add, ← hu]; simp
theorem blk_new2 (w : World) (o o2 : Obj) : ((w.alloc o).alloc o2).heap[w.heap.size + 1]? = some o2 := by have := blk_new (w.alloc o) o2; simpa using this
theorem blk_new3 (w : World) (o o2 o3 : Obj) : (((w.alloc o).alloc o2).alloc o3).heap[w.heap.size + 2]? = some o3 := by have := blk_new ((w.alloc o).alloc o2) o3; simpa using this
set_option maxRecDepth 100000 in
theorem trod_icell {H : Type} {enc : TypeId × Value → H} {w : World} {base : Nat} {spare : Nat → Bool} {held : Bool} {m : Nat} {cs : List Value} {y : DataW H × List MemPlace} (h : DataW.trod enc Try.prog w base spare held m 3 cs = some y) : ∃ x : Int, cs = icell x ∧ True := by
  obtain ⟨n, e, _⟩ := DataW.trod_int Try.underlying3 h
  exact ⟨n, e, trivial⟩
end Go.Proofs.Ytnallfehffhaeaa
