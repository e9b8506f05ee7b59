/- slices.Clone of ints. -/
import Derived.Test.YtnallfehffhaeaaIomK
import Derived.Test.YtnallfehffhaeaaAppRow0
set_option linter.unusedSimpArgs false
set_option linter.unusedVariables false
namespace Go.Proofs.Ytnallfehffhaeaa
open Go.RowKit

theorem Try.infoInt7 : (Try.prog.info? 3).map (fun i => (i.zero, i.size, i.bytes)) = some (some (.int .i64 0), 1, 8) := by kernel_rfl
theorem icell_map (P : List Int) : P.flatMap icell = P.map (fun x => Value.int .i64 x) := by
  induction P with
  | nil => rfl
  | cons x xs ih => simp only [List.flatMap_cons, List.map_cons, ih]; rfl
theorem RdN.row {w : World} {A : Option Addr} {c : Nat} {P : List Int} (h : RdN w (.slice A P.length c) P) : RowC w A (P.flatMap icell) := by
  obtain ⟨_, A', c', hv, h⟩ := h
  injection hv with e1 e2 e3
  subst e1 e3
  have hf := icell_map P
  intro j v hj
  rw [hf, List.getElem?_map] at hj
  cases hx : P[j]? with
  | none => rw [hx] at hj; cases hj
  | some x =>
    rw [hx] at hj
    obtain ⟨hl, hx2⟩ := List.getElem?_eq_some_iff.1 hx
    obtain ⟨g, o, rfl, a⟩ := h j hl
    rw [hx2] at a
    simp only [Option.map_some, Option.some.injEq] at hj
    subst hj
    exact ⟨g, o, rfl, a⟩
set_option maxRecDepth 100000 in
theorem sliceNil (A : Option Addr) (n c : Nat) (W : World) : (binOp BinOp.eql 22 (.slice A n c) (.slice none 0 0)).run Try.prog W = .ok (.bool A.isNone) W := by
  cases A <;> first | kernel_rfl | (unfold binOp Op.equal Op.maxDepth; go_simp)
set_option maxRecDepth 100000 in
set_option maxHeartbeats 1000000 in
theorem nClone (F : Value) (P : List Int) (w : World) (h : RdN w F P) (hl : P.length ≤ 4096) : Calls Try.prog 43 #[F] w fun e w' => ∃ v, e = .returned v ∧ OwnC icell 1 3 w' w.heap.size v P ∧ Chg (fun _ => False) w w' := by
  obtain ⟨A, c, rfl⟩ : ∃ A c, F = .slice A P.length c := by obtain ⟨_, A, c, h, _⟩ := h; exact ⟨A, c, h⟩
  cases A with
  | none =>
    have hP : P = [] := by
      obtain ⟨_, A', c', hv, hel⟩ := h
      injection hv with e1 e2 e3
      subst e1 e3
      cases P with
      | nil => rfl
      | cons x xs => obtain ⟨g, o, h, _⟩ := hel 0 (by simp); cases h
    subst hP
    clear h hl
    have hs := sliceNil none 0 c w
    simp only [Option.isNone_none] at hs
    simp only [List.length_nil]
    go_enter Try.func43, Try.ntmps43
    go_wp2
    go_ret
    exact ⟨_, rfl, OwnC.nil _ _, Chg.refl _ _⟩
  | some a =>
    obtain ⟨q0, hi0, hz0, hz1, hz2⟩ := info_parts Try.infoInt7
    have hr := h.row
    have hs := sliceNil (some a) P.length c w
    simp only [Option.isNone_some] at hs
    have HR := Lib.hid hr; have HP := Lib.hid hl; have H := Lib.hid h
    clear hr hl h
    have hown : (w.alloc (.cells #[] 3)).ownsRow w.heap.size 3 1 (.slice (some ⟨w.heap.size, 0, none⟩) 0 0) 0 [] := by
      refine ⟨rfl, .inr ⟨w.heap.size, 0, #[], rfl, Nat.le_refl _, blk_new _ _, Nat.le_refl _, by unfold maxLen; omega, ?_, ?_⟩⟩ <;> simp
    have HOWN := Lib.hid hown; clear hown
    have hr2 : RowC (w.alloc (.cells #[] 3)) (some a) (P.flatMap icell) := (H.out.keepN ((Chg.refl _ _).alloc _)).row
    have HR2 := Lib.hid hr2; clear hr2
    have hlen : (P.flatMap icell).length = P.length * 1 := by rw [icell_map]; simp
    have HLEN := Lib.hid hlen; clear hlen
    have hone : ∀ u ∈ P.flatMap icell, u.oneCell' = true := by
      intro u hu; rw [icell_map] at hu
      obtain ⟨x, _, rfl⟩ := List.mem_map.1 hu
      rfl
    have HONE := Lib.hid hone; clear hone
    have HM := Lib.hid (show 0 + P.length ≤ maxLen by have := HP.out; unfold maxLen; omega)
    have HBY := Lib.hid (show (0 + P.length) * 8 ≤ 140737488355328 by have := HP.out; omega)
    have HBS : Hid (w.heap.size ≤ (w.alloc (.cells #[] 3)).heap.size) := Nat.le_trans (Nat.le_succ _) (by simp)
    go_enter Try.func43, Try.ntmps43
    go_wp2_with (at_builtin; refine wpList_append_row _ rfl _ _ 22 rfl w.heap.size 3 q0 (.int .i64 0) 1 8 Try.underlying22 hi0 hz0 hz1 hz2 rfl (by decide) (.slice (some ⟨w.heap.size, 0, none⟩) 0 0) 0 [] rfl HOWN.out (some a) P.length c (P.flatMap icell) rfl HLEN.out HR2.out HONE.out HM.out HBY.out HBS.out ?_)
    intro v5 w5 hown5 hgr5 hat5
    have hC5 : Chg (fun _ => False) w w5 := ((Chg.refl (fun _ => False) w).alloc _).trans' (Chg.grown (S := fun k => k = w.heap.size) (Chg.refl _ _) hgr5 (fun k hk _ => by simp [Value.ownBlock] at hk; exact hk.symm)) (fun k hk e => by omega)
    have hO5 : OwnC icell 1 3 w5 w.heap.size v5 P := by simpa [OwnC] using hown5
    have HC5 := Lib.hid hC5; have HO5 := Lib.hid hO5
    clear hown5 hgr5 hat5 hC5 hO5
    go_wp2_with fail
    go_ret
    exact ⟨_, rfl, HO5.out, HC5.out⟩
end Go.Proofs.Ytnallfehffhaeaa
