/- Bytes in memory: words for the two memories. -/
import Derived.Test.YtnallfehffhaeaaBase
import Derived.Laws.BytesArg
import Derived.Laws.IdiomCopy
import Derived.Lib.SliceRun
set_option linter.unusedSimpArgs false
set_option linter.unusedVariables false
namespace Go.Proofs.Ytnallfehffhaeaa
open Go.RowKit

def bv (b : UInt8) : Value := .int .u8 b.toNat
/-- Elements from o on are laid over. -/
def splice {α : Type} (l : List α) (o : Nat) (vs : List α) : List α := l.take o ++ vs ++ l.drop (o + vs.length)
theorem splice_len {α : Type} (l : List α) (o : Nat) (vs : List α) (h : o + vs.length ≤ l.length) : (splice l o vs).length = l.length := by
  simp [splice]; omega
theorem splice_map {α β : Type} (f : α → β) (l : List α) (o : Nat) (vs : List α) : (splice l o vs).map f = splice (l.map f) o (vs.map f) := by
  simp [splice, List.map_take, List.map_drop]
theorem splice_nil {α : Type} (l : List α) (o : Nat) : splice l o [] = l := by simp [splice]
theorem splice_get {α : Type} (l : List α) (o : Nat) (vs : List α) (h : o + vs.length ≤ l.length) (i : Nat) :
    (splice l o vs)[i]? = if o ≤ i ∧ i < o + vs.length then vs[i - o]? else l[i]? := by
  unfold splice
  have hl : (l.take o).length = o := by simp; omega
  rcases Nat.lt_or_ge i o with h1 | h1
  · rw [List.append_assoc, List.getElem?_append_left (by omega), List.getElem?_take, if_pos h1, if_neg (by omega)]
  · rw [List.append_assoc, List.getElem?_append_right (by omega), hl]
    rcases Nat.lt_or_ge i (o + vs.length) with h2 | h2
    · rw [List.getElem?_append_left (by omega), if_pos ⟨h1, h2⟩]
    · rw [List.getElem?_append_right (by omega), List.getElem?_drop, if_neg (by omega)]
      congr 1; omega
theorem splice_step {α : Type} (l : List α) (o : Nat) (vs : List α) (h : o + vs.length ≤ l.length) (j : Nat) (hj : j < vs.length) :
    (splice l o (vs.take j)).set (o + j) vs[j] = splice l o (vs.take (j + 1)) := by
  apply List.ext_getElem?
  intro i
  have hj1 : (vs.take j).length = j := by simp; omega
  have hj2 : (vs.take (j + 1)).length = j + 1 := by simp; omega
  rw [List.getElem?_set, splice_get _ _ _ (by rw [hj1]; omega), splice_get _ _ _ (by rw [hj2]; omega), splice_len _ _ _ (by rw [hj1]; omega), hj1, hj2]
  by_cases h1 : o + j = i
  · subst h1
    rw [if_pos rfl, if_pos (by omega), if_pos (by omega), List.getElem?_take, if_pos (by omega)]
    rw [show o + j - o = j from by omega, List.getElem?_eq_getElem hj]
  · rw [if_neg h1]
    by_cases h2 : o ≤ i ∧ i < o + j
    · rw [if_pos h2, if_pos (by omega), List.getElem?_take, List.getElem?_take, if_pos (by omega), if_pos (by omega)]
    · rw [if_neg h2, if_neg (by omega)]
theorem wl_list {vs : List Value} : ∀ {cs : List Value} {o : Nat}, o + vs.length ≤ cs.length → wl cs.toArray o vs = (splice cs o vs).toArray := by
  intro cs o h
  apply Array.ext'
  apply List.ext_getElem?
  intro i
  rw [Array.getElem?_toList, List.toList_toArray, splice_get _ _ _ h]
  by_cases h1 : o ≤ i ∧ i < o + vs.length
  · rw [if_pos h1]
    obtain ⟨j, rfl⟩ : ∃ j, i = o + j := ⟨i - o, by omega⟩
    rw [wl_in vs _ o j (by omega) (by simpa using h), show o + j - o = j from by omega]
  · rw [if_neg h1, wl_out vs _ o i (by omega)]
    simp

/-- A memory at block p, its bytes at block r. -/
def MemAt (w : World) (T p r : Nat) (bs : List UInt8) : Prop :=
  w.heap[p]? = some (.cells #[.slice (some ⟨r, 0, none⟩) bs.length bs.length] T (0, 0)) ∧ w.heap[r]? = some (.cells (bs.map bv).toArray 5 (0, 0))
theorem MemAt.keep {S : Nat → Prop} {w w' : World} {T p r : Nat} {bs : List UInt8} (h : MemAt w T p r bs) (hC : Chg S w w') (hp : ¬ S p) (hr : ¬ S r) : MemAt w' T p r bs :=
  ⟨hC.at h.1 hp, hC.at h.2 hr⟩
theorem MemAt.lt {w : World} {T p r : Nat} {bs : List UInt8} (h : MemAt w T p r bs) : p < w.heap.size ∧ r < w.heap.size := ⟨lt_of_heap h.1, lt_of_heap h.2⟩
theorem MemAt.ne {w : World} {T p r : Nat} {bs : List UInt8} (h : MemAt w T p r bs) (hT : T ≠ 5) : p ≠ r := by
  rintro rfl
  have := h.1
  rw [h.2] at this
  injection this with this; injection this with _ this
  exact hT this.symm
theorem MemAt.hdr {w : World} {T p r : Nat} {bs : List UInt8} (h : MemAt w T p r bs) : w.cell? ⟨p, 0, none⟩ = some (.slice (some ⟨r, 0, none⟩) bs.length bs.length) := blk_cell h.1 0
theorem MemAt.byte {w : World} {T p r : Nat} {bs : List UInt8} (h : MemAt w T p r bs) (i : Nat) (hi : i < bs.length) : w.cell? ⟨r, i, none⟩ = some (.int .u8 bs[i].toNat) := by
  rw [blk_cell h.2]; simp [bv, hi]
theorem MemAt.free {w : World} {T p r : Nat} {bs : List UInt8} (h : MemAt w T p r bs) (i : Nat) : w.frozen? ⟨r, i, none⟩ = false := blk_free h.2 i
theorem MemAt.splice {w : World} {T p r : Nat} {bs : List UInt8} (h : MemAt w T p r bs) (hT : T ≠ 5) (o : Nat) (vs : List UInt8) (hv : o + vs.length ≤ bs.length) :
    MemAt (w.setCells r o (vs.map bv)) T p r (splice bs o vs) ∧ Chg (fun k => k = r) w (w.setCells r o (vs.map bv)) := by
  refine ⟨⟨?_, ?_⟩, Chg.setCells _ (Chg.refl _ _) _⟩
  · rw [splice_len _ _ _ hv]; exact blk_setCells_far (h.ne hT) _ h.1 _
  · rw [blk_setCells _ h.2, wl_list (by simpa using hv), ← splice_map]
theorem MemAt.set {w : World} {T p r : Nat} {bs : List UInt8} (h : MemAt w T p r bs) (hT : T ≠ 5) (i : Nat) (b : UInt8) :
    MemAt (w.setCell ⟨r, i, none⟩ (.int .u8 b.toNat)) T p r (bs.set i b) ∧ Chg (fun k => k = r) w (w.setCell ⟨r, i, none⟩ (.int .u8 b.toNat)) := by
  refine ⟨⟨?_, ?_⟩, Chg.set1 (Chg.refl _ _) _⟩
  · rw [List.length_set]; exact blk_far h.1 (h.ne hT) _
  · rw [blk_set h.2]; simp [List.map_set, bv]
theorem MemAt.isCell {w : World} {T p r : Nat} {bs : List UInt8} (h : MemAt w T p r bs) (o n : Nat) (hn : o + n ≤ bs.length) : ∀ j, j < n → (w.cell? ⟨r, o + j, none⟩).isSome = true := fun j hj => by
  rw [h.byte _ (by omega)]; rfl

/-- The string of some bytes. -/
def str (l : List UInt8) : ByteArray := ⟨l.toArray⟩
theorem str_size (l : List UInt8) : (str l).size = l.length := by simp [str, ByteArray.size]
theorem str_data (l : List UInt8) : (str l).data.toList = l := by simp [str]
theorem strOf_bytes (l : List UInt8) : strOfNums (l.map fun b => (b.toNat : Int)) = str l := by
  simp [strOfNums, str, Function.comp_def]
theorem str_of_data (s : ByteArray) : str s.data.toList = s := by simp [str]

/-- A piece of memory turned into a string. -/
theorem mem_string {w : World} {T p r : Nat} {bs : List UInt8} (h : MemAt w T p r bs) (o n c : Nat) (hn : o + n ≤ bs.length) :
    (convert 52 9 (.slice (some ⟨r, o, none⟩) n c)).run Try.prog w = .ok (.string (str ((bs.drop o).take n))) w := by
  have := run_convert_bytes_arg (P := Try.prog) (w := w) 52 5 Try.underlying52 Try.underlying5 r o n c (((bs.drop o).take n).map fun b => (b.toNat : Int)) (by simp; omega) (fun i hi => by
    rw [h.byte _ (by omega)]
    congr 2
    rw [List.getD_eq_getElem?_getD, List.getElem?_map, List.getElem?_take, if_pos hi, List.getElem?_drop, List.getElem?_eq_getElem (by omega)]
    rfl) 9 Try.underlying9
  rw [strOf_bytes] at this
  exact this
theorem one_bv (l : List UInt8) : ∀ v ∈ l.map bv, v.oneCell' = true := by
  intro v hv
  obtain ⟨b, _, rfl⟩ := List.mem_map.1 hv
  rfl
theorem Try.size5 : (Try.prog.info? 5).map (·.size) = some 1 := by kernel_rfl
/-- A string copied over bytes. -/
theorem mem_copy {w : World} {T p r : Nat} {bs : List UInt8} (h : MemAt w T p r bs) (ty : TypeId) (o n c : Nat) (s : ByteArray) (hn : o + n ≤ bs.length) (hs : s.size ≤ n) :
    (Builtin.copy_ #[52, 9] ty #[.slice (some ⟨r, o, none⟩) n c, .string s]).run Try.prog w = .ok (.int .i64 s.size) (w.setCells r o (s.data.toList.map bv)) := by
  obtain ⟨i0, hi, hz1⟩ : ∃ i, Try.prog.info? 5 = some i ∧ i.size = 1 := by
    exact Option.map_eq_some_iff.1 Try.size5
  have hm : Nat.min s.size n = s.size := Nat.min_eq_left hs
  have hl : s.data.toList.length = s.size := by simp
  have hst := run_storeCells_cells (P := Try.prog) r o (s.data.toList.map bv) 0 w (fun j hj => by
      rw [List.length_map, hl] at hj
      have := h.isCell o n hn j (by omega)
      rw [Nat.add_zero]; exact this) (fun j _ => by rw [Nat.add_zero]; exact h.free (o + j)) (one_bv _)
  simp only [Nat.add_zero] at hst
  simp [Builtin.copy_, run_underlying Try.underlying52, Builtin.lenOf, Builtin.firstCells, sizeOf, typeInfo, hi, hz1, hm, goInt]
  rw [List.take_of_length_le (by simp)]
  rw [show List.map (fun b : UInt8 => Value.int IntKind.u8 (b.toNat : Int)) s.data.toList = s.data.toList.map bv from rfl]
  rw [hst]
  rfl

end Go.Proofs.Ytnallfehffhaeaa
