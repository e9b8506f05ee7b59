/- Faults side by side. -/
import Derived.Test.YtochadejlglfgaaLog2
namespace Go.Proofs.Ytochadejlglfgaa
open Go.RowKit

/-- The cells from A on are these. -/
def RowC (w : World) (A : Option Addr) (cells : List Value) : Prop := ∀ j u, cells[j]? = some u → ∃ b o, A = some ⟨b, o, none⟩ ∧ w.cell? ⟨b, o + j, none⟩ = some u

theorem flat_len {α β : Type} (c : α → List β) (n : Nat) (hc : ∀ x, (c x).length = n) : ∀ xs : List α, (xs.flatMap c).length = xs.length * n
  | [] => by simp
  | x :: xs => by simp [List.flatMap_cons, hc, flat_len c n hc xs, Nat.add_mul, Nat.add_comm]
theorem flat_get {α β : Type} (c : α → List β) (n : Nat) (hc : ∀ x, (c x).length = n) (j : Nat) (hj : j < n) : ∀ (xs : List α) (i : Nat), (xs.flatMap c)[i * n + j]? = (xs[i]?).bind (fun x => (c x)[j]?)
  | [], i => by simp
  | x :: xs, 0 => by simp [List.flatMap_cons, List.getElem?_append, hc, hj]
  | x :: xs, i + 1 => by
    have h1 : ¬ ((i + 1) * n + j < n) := by rw [Nat.add_mul]; omega
    have h2 : (i + 1) * n + j - n = i * n + j := by rw [Nat.add_mul]; omega
    rw [List.flatMap_cons, List.getElem?_append, hc, if_neg h1, h2, flat_get c n hc j hj xs i]
    simp

theorem fltCell {w : World} {b o : Nat} {xs : List Flt} (h : RowC w (some ⟨b, o, none⟩) (xs.flatMap Flt.cells)) (k : Nat) (hk : k < xs.length) :
    w.cell? ⟨b, o + k * 5, none⟩ = some (.int .i64 xs[k].tick) ∧ w.cell? ⟨b, o + k * 5 + 1, none⟩ = some (.int .i64 xs[k].device) ∧ w.cell? ⟨b, o + k * 5 + 2, none⟩ = some (.int .i64 xs[k].iova) ∧ w.cell? ⟨b, o + k * 5 + 3, none⟩ = some (.bool xs[k].write) ∧ w.cell? ⟨b, o + k * 5 + 4, none⟩ = some (.int .i64 xs[k].code) := by
  have key : ∀ j u, j < 5 → xs[k].cells[j]? = some u → w.cell? ⟨b, o + k * 5 + j, none⟩ = some u := fun j u hj hu => by
    have h0 := flat_get Flt.cells 5 (fun _ => rfl) j hj xs k
    rw [List.getElem?_eq_getElem hk, Option.bind_some, hu] at h0
    obtain ⟨b', o', e, hc⟩ := h _ _ h0
    injection e with e; injection e with e1 e2; subst e1; subst e2
    rw [Nat.add_assoc]; exact hc
  exact ⟨key 0 _ (by omega) rfl, key 1 _ (by omega) rfl, key 2 _ (by omega) rfl, key 3 _ (by omega) rfl, key 4 _ (by omega) rfl⟩

set_option maxHeartbeats 400000 in
theorem same22 (A A' : Option Addr) (c c' : Nat) (xs : List Flt) (w : World) (hn : xs.length ≤ 1000000) (h1 : RowC w A (xs.flatMap Flt.cells)) (h2 : RowC w A' (xs.flatMap Flt.cells)) :
    Calls Try.prog 22 #[.slice A xs.length c, .slice A' xs.length c'] w fun e w' => e = .returned (.bool true) ∧ ∃ n, w' = w.drewN n := by
  have hz : xs.length = 0 ∨ ∃ b o b' o', A = some ⟨b, o, none⟩ ∧ A' = some ⟨b', o', none⟩ := by
    cases xs with
    | nil => exact .inl rfl
    | cons x xs =>
      obtain ⟨b, o, e, _⟩ := h1 0 (.int .i64 x.tick) rfl
      obtain ⟨b', o', e', _⟩ := h2 0 (.int .i64 x.tick) rfl
      exact .inr ⟨b, o, b', o', e, e'⟩
  rcases hz with hz | ⟨b, o, b', o', rfl, rfl⟩
  · rw [hz]
    go_enter Try.func22, Try.ntmps22
    go_wp2
    refine wp_loop_rounds 1 ?_
    rw [rounds_succ]
    go_wp2
    go_ret
    exact ⟨rfl, 0, rfl⟩
  · have hc : ∀ k (h : k < xs.length), w.cell? ⟨b, o + k * 5, none⟩ = some (.int .i64 xs[k].tick) ∧ w.cell? ⟨b, o + k * 5 + 1, none⟩ = some (.int .i64 xs[k].device) ∧ w.cell? ⟨b, o + k * 5 + 2, none⟩ = some (.int .i64 xs[k].iova) ∧ w.cell? ⟨b, o + k * 5 + 3, none⟩ = some (.bool xs[k].write) ∧ w.cell? ⟨b, o + k * 5 + 4, none⟩ = some (.int .i64 xs[k].code) := fun k h => fltCell h1 k h
    have hc' : ∀ k (h : k < xs.length), w.cell? ⟨b', o' + k * 5, none⟩ = some (.int .i64 xs[k].tick) ∧ w.cell? ⟨b', o' + k * 5 + 1, none⟩ = some (.int .i64 xs[k].device) ∧ w.cell? ⟨b', o' + k * 5 + 2, none⟩ = some (.int .i64 xs[k].iova) ∧ w.cell? ⟨b', o' + k * 5 + 3, none⟩ = some (.bool xs[k].write) ∧ w.cell? ⟨b', o' + k * 5 + 4, none⟩ = some (.int .i64 xs[k].code) := fun k h => fltCell h2 k h
    have Hc := Lib.hid hc; clear hc
    have Hc' := Lib.hid hc'; clear hc'
    go_enter Try.func22, Try.ntmps22
    go_wp2
    go_loopw [5] (fun i wr => ∃ k m : Nat, k ≤ xs.length ∧ i = .int .i64 k ∧ wr = w.drewN m) (fun i _ => xs.length - (intOf i).toNat)
    case atStart => exact ⟨0, 0, Nat.zero_le _, rfl, rfl⟩
    case round =>
      obtain ⟨k, m, hk, rfl, rfl⟩ := hrel
      by_cases hlt : k < xs.length
      · obtain ⟨c0, c1, c2, c3, c4⟩ := Hc.out k hlt
        obtain ⟨d0, d1, d2, d3, d4⟩ := Hc'.out k hlt
        generalize xs[k] = f at *
        go_wp2
        go_quiet (fail)
        rename_i nq
        go_wp2
        go_roundw
        case rel => exact ⟨k + 1, m + nq, by omega, by go_num, rfl⟩
        case measure => simp [intOf]; omega
      · go_wp2
        go_ret
        exact ⟨rfl, m, rfl⟩


end Go.Proofs.Ytochadejlglfgaa
