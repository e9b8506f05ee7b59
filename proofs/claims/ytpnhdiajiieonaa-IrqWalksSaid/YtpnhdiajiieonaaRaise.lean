/- Sets of vectors that wait: New, there, Raise. -/
import Derived.Test.YtpnhdiajiieonaaSets
set_option linter.unusedSimpArgs false
set_option linter.unusedVariables false
namespace Go.Proofs.Ytpnhdiajiieonaa
open Go.RowKit

/-- What waits: S part key. F: the blocks that a call may turn. -/
def SetsAt (w : World) (p n : Nat) (S : Nat → Nat → Bool) (F : Nat → Prop) : Prop :=
  ∃ R vs f, SetsV w p R n vs f ∧ (∀ i k, i < n → k < 32 → (k ∈ f i ↔ S i k = true)) ∧ (∀ k, F k ↔ SetsF R vs k)
theorem SetsAt.keep {S : Nat → Prop} {w w' : World} {p n : Nat} {s : Nat → Nat → Bool} {F : Nat → Prop} (h : SetsAt w p n s F) (hC : Chg S w w') (hp : ¬ S p) (hF : ∀ k, F k → ¬ S k) : SetsAt w' p n s F := by
  obtain ⟨R, vs, f, h1, h2, h3⟩ := h
  exact ⟨R, vs, f, h1.keep hC hp (fun k hk => hF k ((h3 k).2 hk)), h2, h3⟩
theorem SetsAt.keepF {w w' : World} {p n : Nat} {s : Nat → Nat → Bool} {F : Nat → Prop} (h : SetsAt w p n s F) (hC : Chg (fun _ => False) w w') : SetsAt w' p n s F := h.keep hC id (fun _ _ => id)
theorem SetsAt.lt {w : World} {p n : Nat} {s : Nat → Nat → Bool} {F : Nat → Prop} (h : SetsAt w p n s F) : p < w.heap.size ∧ ∀ k, F k → k < w.heap.size := by
  obtain ⟨R, vs, f, h1, h2, h3⟩ := h
  exact ⟨lt_of_heap h1.hp, fun k hk => h1.lt k ((h3 k).1 hk)⟩
theorem SetsAt.notp {w : World} {p n : Nat} {s : Nat → Nat → Bool} {F : Nat → Prop} (h : SetsAt w p n s F) : ¬ F p := by
  obtain ⟨R, vs, f, h1, h2, h3⟩ := h
  exact fun hk => h1.notp ((h3 p).1 hk)
theorem SetsAt.cong {w : World} {p n : Nat} {s s' : Nat → Nat → Bool} {F : Nat → Prop} (h : SetsAt w p n s F) (e : ∀ i k, i < n → k < 32 → s i k = s' i k) : SetsAt w p n s' F := by
  obtain ⟨R, vs, f, h1, h2, h3⟩ := h
  exact ⟨R, vs, f, h1, fun i k hi hk => by rw [← e i k hi hk]; exact h2 i k hi hk, h3⟩
/-- The footprint behind a call: what it was, or new. -/
def FootOf (w : World) (F F' : Nat → Prop) : Prop := ∀ k, F' k → F k ∨ w.heap.size ≤ k

theorem Try.info157 : (Try.prog.info? 157).map (fun i => (i.zero, i.size, i.bytes)) = some (some (.slice none 0 0), 1, 24) := by kernel_rfl
def NewPost (n : Nat) (w : World) (e : Ending) (w' : World) : Prop := e = .returned (.tuple #[.pointer (some ⟨w.heap.size + 1, 0, none⟩), .int .i64 0]) ∧ w'.heap.size = w.heap.size + 2 ∧ SetsAt w' (w.heap.size + 1) n (fun _ _ => false) (fun k => k = w.heap.size) ∧ Chg (fun _ => False) w w'
set_option maxRecDepth 100000 in
theorem pNew_ok (n : Nat) (w : World) (h1 : 1 ≤ n) (h2 : n ≤ 4) : Calls Try.prog 45 #[.int .i64 n] w (NewPost n w) := by
  obtain ⟨i0, hi, hz0, hz1, hz2⟩ := info_parts Try.info157
  have hmk : ∀ W : World, (Instr.makeSlice 149 (.int .i64 n) (.int .i64 n)).run Try.prog W = .ok (.slice (some ⟨W.heap.size, 0, none⟩) n n) (W.alloc (.cells (Array.replicate n (.slice none 0 0)) 157)) := fun W => by
    have := run_make (P := Try.prog) W 149 157 i0 _ Try.underlying149 hi hz0 .i64 .i64 (n : Int) (n : Int) (by omega) (by omega) (by rw [hz2]; omega) (by omega)
    rw [hz1, show (Value.slice none 0 0).cells = #[Value.slice none 0 0] from rfl, Nat.mul_one] at this
    have hm : madeCells #[Value.slice none 0 0] n = Array.replicate n (.slice none 0 0) := by
      unfold madeCells
      apply Array.ext
      · simp
      · intro i h1 h2; simp [Nat.mod_one]
    rw [Int.toNat_natCast, hm] at this
    exact this
  have hn1 : (1 : Int) ≤ n := by omega
  have hn2 : (n : Int) ≤ 4 := by omega
  have get : ∀ (i : Nat) (v : Value), (Array.replicate n (Value.slice none 0 0))[i]? = some v → v = .slice none 0 0 := fun i v h => by
    rw [Array.getElem?_replicate] at h; split at h
    · injection h with h; exact h.symm
    · cases h
  have fin : ∀ W : World, W = (w.alloc (.cells (Array.replicate n (.slice none 0 0)) 157)).alloc (.cells #[.slice (some ⟨w.heap.size, 0, none⟩) n n] 151) → W.heap.size = w.heap.size + 2 ∧ SetsAt W (w.heap.size + 1) n (fun _ _ => false) (fun k => k = w.heap.size) ∧ Chg (fun _ => False) w W := by
    rintro W rfl
    refine ⟨by simp, ⟨w.heap.size, _, fun _ => [], ⟨by simp, by simpa using blk_new (w.alloc (.cells (Array.replicate n (.slice none 0 0)) 157)) (.cells #[.slice (some ⟨w.heap.size, 0, none⟩) n n] 151), blk_alloc (blk_new _ _) _, fun i hi => ⟨.slice none 0 0, by rw [Array.getElem?_replicate, if_pos hi], OwnC.nil _ _⟩, fun _ _ k k0 k1 k2 => by simp at k1, fun _ _ => List.nodup_nil, fun _ _ k hk => by simp at hk, fun i j v v' g hne h1 h2 h3 => by rw [get i v h1] at h3; cases h3⟩, fun i k _ _ => by simp, fun k => ⟨fun h => .inl h, ?_⟩⟩, ((Chg.refl _ _).alloc _).alloc _⟩
    rintro (h | ⟨i, v, h1, h2⟩)
    · exact h
    · rw [get i v h1] at h2; cases h2
  have FIN := Lib.hid fin; clear fin get
  clear hz1 hz2
  generalize Array.replicate n (Value.slice none 0 0) = vs at *
  go_enter Try.func45, Try.ntmps45
  go_wp2
  go_ret2
  exact ⟨rfl, FIN.out _ rfl⟩
theorem pNew_no (n : Int) (w : World) (h1 : ¬ (1 ≤ n ∧ n ≤ 4)) : Calls Try.prog 45 #[.int .i64 n] w fun e w' => e = .returned (.tuple #[.pointer none, .int .i64 1200]) ∧ w = w' := by
  by_cases h : 1 ≤ n
  · have h2 : ¬ n ≤ 4 := by omega
    have h3 : 4 < n := by omega
    go_enter Try.func45, Try.ntmps45
    go_wp2
    go_ret2
    exact ⟨rfl, rfl⟩
  · have h3 : n < 1 := by omega
    go_enter Try.func45, Try.ntmps45
    go_wp2
    go_ret2
    exact ⟨rfl, rfl⟩
theorem pThere_yes (p n i : Nat) (R : Nat) (w : World) (h : w.heap[p]? = some (.cells #[.slice (some ⟨R, 0, none⟩) n n] 151 (0, 0))) (hi : i < n) (hn : n ≤ 4) :
    Calls Try.prog 91 #[.pointer (some ⟨p, 0, none⟩), .int .i64 i] w fun e w' => e = .returned (.bool true) ∧ w = w' := by
  have c0 := blk_cell h 0
  have i0 : (0 : Int) ≤ i := by omega
  have i1 : (i : Int) < n := by omega
  clear h
  go_enter Try.func91, Try.ntmps91
  go_wp2
  go_ret
  exact ⟨rfl, rfl⟩
theorem pThere_no (p n : Nat) (i : Int) (R : Nat) (w : World) (h : w.heap[p]? = some (.cells #[.slice (some ⟨R, 0, none⟩) n n] 151 (0, 0))) (hi : ¬ (0 ≤ i ∧ i < n)) (hn : n ≤ 4) :
    Calls Try.prog 91 #[.pointer (some ⟨p, 0, none⟩), .int .i64 i] w fun e w' => e = .returned (.bool false) ∧ w = w' := by
  have c0 := blk_cell h 0
  clear h
  by_cases h0 : 0 ≤ i
  · have i1 : decide (i < (n : Int)) = false := by simp; omega
    have i2 : (n : Int) ≤ i := by omega
    clear hi
    go_enter Try.func91, Try.ntmps91
    go_wp2
    go_ret
    exact ⟨rfl, rfl⟩
  · have i1 : decide (0 ≤ i) = false := by simp; omega
    clear hi
    go_enter Try.func91, Try.ntmps91
    go_wp2
    go_ret
    exact ⟨rfl, rfl⟩
theorem vMay_yes (v : Int) (w : World) (h : 0 ≤ v ∧ v < 8) : Calls Try.prog 92 #[.int .i64 v] w fun e w' => e = .returned (.bool true) ∧ w = w' := by
  obtain ⟨h1, h2⟩ := h
  go_enter Try.func92, Try.ntmps92
  go_wp2
  go_ret
  exact ⟨rfl, rfl⟩
theorem vMay_no (v : Int) (w : World) (h : ¬ (0 ≤ v ∧ v < 8)) : Calls Try.prog 92 #[.int .i64 v] w fun e w' => e = .returned (.bool false) ∧ w = w' := by
  by_cases h1 : 0 ≤ v
  · have h2 : decide (v < 8) = false := by simp; omega
    go_enter Try.func92, Try.ntmps92
    go_wp2
    go_ret
    exact ⟨rfl, rfl⟩
  · have h2 : decide (0 ≤ v) = false := by simp; omega
    go_enter Try.func92, Try.ntmps92
    go_wp2
    go_ret
    exact ⟨rfl, rfl⟩
/-- A place that may be raised. -/
def raiseP (n : Nat) (part d v : Int) : Prop := 0 ≤ part ∧ part < n ∧ 0 ≤ d ∧ d < 4 ∧ 0 ≤ v ∧ v < 8
instance (n : Nat) (a b c : Int) : Decidable (raiseP n a b c) := by unfold raiseP; infer_instance
def keyOf (d v : Int) : Nat := (d * 8 + v).toNat
def RaisePost (p n : Nat) (part d v : Int) (S : Nat → Nat → Bool) (F : Nat → Prop) (w : World) (e : Ending) (w' : World) : Prop :=
  e = .returned (.tuple #[.bool (!S part.toNat (keyOf d v)), .int .i64 0]) ∧ ∃ F', SetsAt w' p n (fun i k => S i k || (decide (i = part.toNat) && decide (k = keyOf d v))) F' ∧ FootOf w F F' ∧ Chg F w w'
end Go.Proofs.Ytpnhdiajiieonaa
