/- The walks of the two tables of vectors: made, cleared. -/
import Derived.Test.YtpnhdiajiieonaaRemap3
set_option linter.unusedSimpArgs false
set_option linter.unusedVariables false
namespace Go.Proofs.Ytpnhdiajiieonaa
open Go.RowKit

def zero24 : Array Value := #[.bool false, .int .i64 0, .bool false, .bool false, .int .i64 0, .bool false, .bool false, .int .i64 0, .bool false, .bool false, .int .i64 0, .bool false, .bool false, .int .i64 0, .bool false, .bool false, .int .i64 0, .bool false, .bool false, .int .i64 0, .bool false, .bool false, .int .i64 0, .bool false]
theorem zero24_get (v : Nat) (hv : v < 8) : zero24[v * 3]? = some (.bool false) ∧ zero24[v * 3 + 1]? = some (.int .i64 0) ∧ zero24[v * 3 + 2]? = some (.bool false) := by
  match v, hv with
  | 0, _ => exact ⟨rfl, rfl, rfl⟩
  | 1, _ => exact ⟨rfl, rfl, rfl⟩
  | 2, _ => exact ⟨rfl, rfl, rfl⟩
  | 3, _ => exact ⟨rfl, rfl, rfl⟩
  | 4, _ => exact ⟨rfl, rfl, rfl⟩
  | 5, _ => exact ⟨rfl, rfl, rfl⟩
  | 6, _ => exact ⟨rfl, rfl, rfl⟩
  | 7, _ => exact ⟨rfl, rfl, rfl⟩
theorem Try.info229 : (Try.prog.info? 229).map (fun i => (i.zero, i.size, i.bytes)) = some (some (.agg zero24), 24, 192) := by kernel_rfl
theorem Try.info227 : (Try.prog.info? 227).map (fun i => (i.zero, i.size, i.bytes)) = some (some (.agg zero24), 24, 192) := by kernel_rfl
theorem Try.size229 : (Try.prog.info? 229).map (·.size) = some zero24.size := by kernel_rfl
theorem Try.size227 : (Try.prog.info? 227).map (·.size) = some zero24.size := by kernel_rfl
theorem zero24_one : zero24.all (·.oneCell') = true := by simp [zero24, Value.oneCell']

theorem entC_made (n : Nat) : EntC (madeCells zero24 (n * 24)) n (fun _ => Ent.none) := by
  intro k hk
  have h8 : k % 8 < 8 := Nat.mod_lt _ (by omega)
  obtain ⟨z0, z1, z2⟩ := zero24_get (k % 8) h8
  have hs : zero24.size = 24 := rfl
  have e0 : k * 3 % 24 = k % 8 * 3 := by omega
  have e1 : (k * 3 + 1) % 24 = k % 8 * 3 + 1 := by omega
  have e2 : (k * 3 + 2) % 24 = k % 8 * 3 + 2 := by omega
  refine ⟨?_, ?_, ?_⟩
  · rw [madeCells_get _ _ _ (by omega) (by decide), hs, e0]; exact z0
  · rw [madeCells_get _ _ _ (by omega) (by decide), hs, e1]; exact z1
  · rw [madeCells_get _ _ _ (by omega) (by decide), hs, e2]; exact z2
theorem entC_clear {cs : Array Value} {n : Nat} {f : Nat → Ent} (he : EntC cs n f) {d : Int} (hd : 0 ≤ d ∧ d < n) : EntC (wl cs (d.toNat * 24) zero24.toList) n (clearF n d f) := by
  have hcs : 8 * n * 3 ≤ cs.size := by
    rcases Nat.eq_zero_or_pos n with h | h
    · omega
    · have := entC_lt he (k := 8 * n - 1) (by omega); omega
  have hl : zero24.toList.length = 24 := rfl
  intro k hk
  unfold clearF
  rw [if_pos hd]
  by_cases hkd : k / 8 = d.toNat
  · rw [if_pos hkd]
    obtain ⟨z0, z1, z2⟩ := zero24_get (k % 8) (by omega)
    have e : k * 3 = d.toNat * 24 + k % 8 * 3 := by omega
    rw [e]
    refine ⟨?_, ?_, ?_⟩
    · rw [wl_in _ _ _ _ (by omega) (by omega)]; simpa [Ent.none] using z0
    · rw [Nat.add_assoc, wl_in _ _ _ _ (by omega) (by omega)]; simpa [Ent.none] using z1
    · rw [Nat.add_assoc, wl_in _ _ _ _ (by omega) (by omega)]; simpa [Ent.none] using z2
  · rw [if_neg hkd]
    obtain ⟨h1, h2, h3⟩ := he k hk
    refine ⟨?_, ?_, ?_⟩ <;> (rw [wl_out _ _ _ _ (by omega)]; assumption)
theorem tab_clear {w : World} {T E p r n : Nat} {f : Nat → Ent} {d : Int} (h : TabAt w T E p r n f) (hT : T ≠ E) (hd : 0 ≤ d ∧ d < n) :
    TabAt (w.setCells r (d.toNat * 24) zero24.toList) T E p r n (clearF n d f) ∧ Chg (fun k => k = r) w (w.setCells r (d.toNat * 24) zero24.toList) := by
  have hne := h.ne hT
  obtain ⟨h1, cs, h2, h3⟩ := h
  exact ⟨⟨blk_setCells_far hne _ h1 _, _, blk_setCells _ h2 _, entC_clear h3 hd⟩, Chg.setCells _ (Chg.refl _ _) _⟩
theorem tab_there {w : World} {T E p r n : Nat} {f : Nat → Ent} {d : Int} (h : TabAt w T E p r n f) (hd : 0 ≤ d ∧ d < n) : w.there r (d.toNat * 24) zero24.size := by
  obtain ⟨h1, cs, h2, he⟩ := h
  refine blk_there h2 ?_
  have := entC_lt he (k := 8 * n - 1) (by omega)
  have hs : zero24.size = 24 := rfl
  omega

theorem new24_ok (n : Nat) (w : World) (h1 : 1 ≤ n) (h2 : n ≤ 4) :
    Calls Try.prog 102 #[.int .i64 n] w fun e w' => e = .returned (.tuple #[.pointer (some ⟨w.heap.size + 1, 0, none⟩), .int .i64 0]) ∧ TabAt w' 214 229 (w.heap.size + 1) w.heap.size n (fun _ => Ent.none) ∧ w'.heap.size = w.heap.size + 2 ∧ Chg (fun _ => False) w w' := by
  obtain ⟨i0, hi, hz0, hz1, hz2⟩ := info_parts Try.info229
  have hmk : ∀ W : World, (Instr.makeSlice 212 (.int .i64 n) (.int .i64 n)).run Try.prog W = .ok (.slice (some ⟨W.heap.size, 0, none⟩) n n) (W.alloc (.cells (madeCells zero24 (n * 24)) 229)) := fun W => by
    have := run_make (P := Try.prog) W 212 229 i0 _ Try.underlying212 hi hz0 .i64 .i64 n n (by omega) (by omega) (by rw [hz2]; omega) (by omega)
    rw [hz1] at this
    rw [show (Value.agg zero24).cells = zero24 from rfl] at this
    simpa using this
  clear hi hz0 hz1 hz2
  go_enter Try.func102, Try.ntmps102
  go_wp2
  all_goals go_ret2
  refine ⟨rfl, ⟨by simpa using blk_new (w.alloc _) _, _, blk_alloc (blk_new _ _) _, entC_made n⟩, by simp, ((Chg.refl _ _).alloc _).alloc _⟩
theorem new24_no (n : Int) (w : World) (h1 : ¬ (1 ≤ n ∧ n ≤ 4)) :
    Calls Try.prog 102 #[.int .i64 n] w fun e w' => e = .returned (.tuple #[.pointer none, .int .i64 1100]) ∧ w = w' := by
  by_cases h : 1 ≤ n
  · have h2 : ¬ n ≤ 4 := by omega
    go_enter Try.func102, Try.ntmps102
    go_wp2
    all_goals go_ret2
    all_goals exact ⟨rfl, rfl⟩
  · go_enter Try.func102, Try.ntmps102
    go_wp2
    all_goals go_ret2
    all_goals exact ⟨rfl, rfl⟩

theorem new25_ok (n : Nat) (w : World) (h1 : 1 ≤ n) (h2 : n ≤ 4) :
    Calls Try.prog 103 #[.int .i64 n] w fun e w' => e = .returned (.tuple #[.pointer (some ⟨w.heap.size + 1, 0, none⟩), .int .i64 0]) ∧ TabAt w' 217 227 (w.heap.size + 1) w.heap.size n (fun _ => Ent.none) ∧ w'.heap.size = w.heap.size + 2 ∧ Chg (fun _ => False) w w' := by
  obtain ⟨i0, hi, hz0, hz1, hz2⟩ := info_parts Try.info227
  have hmk : ∀ W : World, (Instr.makeSlice 215 (.int .i64 n) (.int .i64 n)).run Try.prog W = .ok (.slice (some ⟨W.heap.size, 0, none⟩) n n) (W.alloc (.cells (madeCells zero24 (n * 24)) 227)) := fun W => by
    have := run_make (P := Try.prog) W 215 227 i0 _ Try.underlying215 hi hz0 .i64 .i64 n n (by omega) (by omega) (by rw [hz2]; omega) (by omega)
    rw [hz1] at this
    rw [show (Value.agg zero24).cells = zero24 from rfl] at this
    simpa using this
  clear hi hz0 hz1 hz2
  go_enter Try.func103, Try.ntmps103
  go_wp2
  all_goals go_ret2
  refine ⟨rfl, ⟨by simpa using blk_new (w.alloc _) _, _, blk_alloc (blk_new _ _) _, entC_made n⟩, by simp, ((Chg.refl _ _).alloc _).alloc _⟩
theorem new25_no (n : Int) (w : World) (h1 : ¬ (1 ≤ n ∧ n ≤ 4)) :
    Calls Try.prog 103 #[.int .i64 n] w fun e w' => e = .returned (.tuple #[.pointer none, .int .i64 1100]) ∧ w = w' := by
  by_cases h : 1 ≤ n
  · have h2 : ¬ n ≤ 4 := by omega
    go_enter Try.func103, Try.ntmps103
    go_wp2
    all_goals go_ret2
    all_goals exact ⟨rfl, rfl⟩
  · go_enter Try.func103, Try.ntmps103
    go_wp2
    all_goals go_ret2
    all_goals exact ⟨rfl, rfl⟩

set_option maxHeartbeats 400000 in
theorem clear33 (p r n : Nat) (f : Nat → Ent) (d : Int) (w : World) (h : TabAt w 214 229 p r n f) :
    Calls Try.prog 118 #[.pointer (some ⟨p, 0, none⟩), .int .i64 d] w fun e w' => e = .returned (.int .i64 (clearC n d)) ∧ TabAt w' 214 229 p r n (clearF n d f) ∧ Chg (fun k => k = r) w w' := by
  by_cases hd : 0 ≤ d ∧ d < n
  · have hin : inR n d 0 := ⟨hd, by omega, by omega⟩
    have hp := tab_clear h (by decide) hd
    have ht := tab_there h hd
    have c0 : w.cell? ⟨p, 0, none⟩ = some (.slice (some ⟨r, 0, none⟩) n n) := blk_cell h.1 0
    have e0 : clearC n d = 0 := if_pos hd
    rw [e0]
    clear e0
    have HP := Lib.hid hp; clear hp
    have HT := Lib.hid ht; clear ht
    go_enter Try.func118, Try.ntmps118
    go_wp2_with fail
    refine (at51_in p r n f d 0 w h hin).mono ?_
    rintro e w' ⟨rfl, rfl⟩
    clear h hin
    obtain ⟨hd0, hd1⟩ := hd
    go_wp2_with ((with_reducible refine wpList_store_mid rfl 229 _ _ rfl r (d.toNat * 24) zero24 rfl rfl HT.out Try.size229 zero24_one ?_))
    go_ret
    exact ⟨rfl, HP.out⟩
  · have hin : ¬ inR n d 0 := fun h => hd h.1
    have e0 : clearC n d = 1100 := if_neg hd
    have e1 : clearF n d f = f := if_neg hd
    rw [e0, e1]
    clear e0 e1
    go_enter Try.func118, Try.ntmps118
    go_wp2_with fail
    refine (at51_out p r n f d 0 w h hin).mono ?_
    rintro e w' ⟨rfl, rfl⟩
    have H := Lib.hid h; clear h hin hd
    go_wp2
    go_ret
    exact ⟨rfl, H.out, Chg.refl _ _⟩

end Go.Proofs.Ytpnhdiajiieonaa
