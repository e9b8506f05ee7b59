/- Rows of steps: the law's SameSteps, CopySteps, LendSteps, KeptSteps, SpoilSteps. Printed by mklends.py. -/
import Derived.Test.YtncbcjjdnlmjbaaPurg3
import Derived.Test.YtncbcjjdnlmjbaaAppRow0
set_option linter.unusedSimpArgs false
set_option linter.unusedVariables false
namespace Go.Proofs.Ytncbcjjdnlmjbaa
open Go.RowKit

theorem Try.infoStep : (Try.prog.info? 59).map (fun i => (i.zero, i.size, i.bytes)) = some (some (.agg #[.int .i64 0, .int .i64 0, .int .i64 0, .int .i64 0, .int .i64 0, .int .i64 0, .string ByteArray.empty]), 7, 64) := by kernel_rfl
theorem stcell_len (x : St) : (stcell x).length = 7 := rfl
theorem RdS.ofRow {w : World} {A : Option Addr} {c : Nat} {L : List St} (h : RowC w A (L.flatMap stcell)) (hm : L.length ≤ maxLen) : RdS w (.slice A L.length c) L := by
  refine ⟨hm, A, c, rfl, fun j hj => ?_⟩
  have g : ∀ i (hi : i < 7), (L.flatMap stcell)[j * 7 + i]? = (stcell L[j])[i]? := fun i hi => by rw [flat_get stcell 7 stcell_len i hi L j, List.getElem?_eq_getElem hj]; rfl
  have s0 : ∀ i (hi : i < 7), ∃ u, (stcell L[j])[i]? = some u := fun i hi => ⟨(stcell L[j])[i]'hi, List.getElem?_eq_getElem hi⟩
  obtain ⟨u0, hu0⟩ := s0 0 (by omega)
  obtain ⟨b, o, rfl, h0⟩ := h _ _ ((g 0 (by omega)).trans hu0)
  refine ⟨b, o, rfl, fun i hi => ?_⟩
  obtain ⟨u, hu⟩ := s0 i hi
  obtain ⟨b1, o1, e1, h1⟩ := h _ _ ((g i hi).trans hu)
  injection e1 with e1; injection e1 with e1 e1'; subst e1 e1'
  rw [hu, ← h1, Nat.add_assoc]
theorem rdStepsOf {w : World} {base : Nat} {v : Value} {L : List St} (h : OwnC stcell 7 59 w base v L) (hm : L.length ≤ maxLen) : RdS w v L := by
  obtain ⟨A, c, rfl⟩ := h.slice
  refine ⟨hm, A, c, rfl, fun j hj => ?_⟩
  obtain ⟨g, cap, hv, _⟩ := h.form (by omega)
  injection hv with e1 e2 e3
  subst e1 e3
  exact ⟨g, 0, rfl, fun i hi => by rw [Nat.zero_add]; exact h.cell stcell_len hj hi⟩
theorem RdS.at7 {w : World} {A : Option Addr} {n c : Nat} {L : List St} (h : RdS w (.slice A n c) L) {j : Nat} (hj : j < L.length) : ∃ g o, A = some ⟨g, o, none⟩ ∧ w.cell? ⟨g, o + j * 7, none⟩ = some (.int .i64 L[j].kind) ∧ w.cell? ⟨g, o + j * 7 + 1, none⟩ = some (.int .i64 L[j].part) ∧ w.cell? ⟨g, o + j * 7 + 2, none⟩ = some (.int .i64 L[j].dev) ∧ w.cell? ⟨g, o + j * 7 + 3, none⟩ = some (.int .i64 L[j].a) ∧ w.cell? ⟨g, o + j * 7 + 4, none⟩ = some (.int .i64 L[j].b) ∧ w.cell? ⟨g, o + j * 7 + 5, none⟩ = some (.int .i64 L[j].c) ∧ w.cell? ⟨g, o + j * 7 + 6, none⟩ = some (.string L[j].data) := by
  obtain ⟨_, A', c', e, h⟩ := h
  injection e with e1 e2 e3
  subst e1 e3
  obtain ⟨g, o, rfl, h0⟩ := h j hj
  exact ⟨g, o, rfl, h0 0 (by omega), h0 1 (by omega), h0 2 (by omega), h0 3 (by omega), h0 4 (by omega), h0 5 (by omega), h0 6 (by omega)⟩
theorem RdS.len {w : World} {v : Value} {L : List St} (h : RdS w v L) : L.length ≤ maxLen ∧ ∃ A c, v = .slice A L.length c := by
  obtain ⟨hm, A, c, rfl, _⟩ := h; exact ⟨hm, A, c, rfl⟩
set_option maxRecDepth 100000 in
set_option maxHeartbeats 2000000 in
theorem sameSteps (v1 v2 : Value) (L : List St) (w : World) (h1 : RdS w v1 L) (h2 : RdS w v2 L) :
    Calls Try.prog 36 #[v1, v2] w fun e w' => e = .returned (.bool true) ∧ Chg (fun _ => False) w w' := by
  obtain ⟨hm, A, c, rfl⟩ := h1.len
  obtain ⟨_, B, d, rfl⟩ := h2.len
  unfold maxLen at hm
  have H1 : Hid (∀ W, Chg (fun _ => False) w W → RdS W (.slice A L.length c) L) := fun W hW => h1.keepN hW
  have H2 : Hid (∀ W, Chg (fun _ => False) w W → RdS W (.slice B L.length d) L) := fun W hW => h2.keepN hW
  clear h1 h2
  go_enter Try.func36, Try.ntmps36
  go_wp2_with fail
  go_loopw [5] (fun s wr => ∃ j : Nat, j ≤ L.length ∧ s = .int .i64 j ∧ Chg (fun _ => False) w wr) (fun s _ => L.length - (intOf s).toNat)
  case atStart => exact ⟨0, by omega, rfl, Chg.refl _ _⟩
  case round =>
    obtain ⟨j, hj, rfl, hC⟩ := hrel
    have j0 : (0 : Int) ≤ j := by omega
    by_cases hlt : j < L.length
    · have j1 : (j : Int) < L.length := by omega
      obtain ⟨g, o, rfl, a0, a1, a2, a3, a4, a5, a6⟩ := (H1.out _ hC).at7 hlt
      obtain ⟨g', o', rfl, b0, b1, b2, b3, b4, b5, b6⟩ := (H2.out _ hC).at7 hlt
      have HC := Lib.hid hC; clear hC
      generalize L[j].kind = x0 at *
      generalize L[j].part = x1 at *
      generalize L[j].dev = x2 at *
      generalize L[j].a = x3 at *
      generalize L[j].b = x4 at *
      generalize L[j].c = x5 at *
      generalize L[j].data = x6 at *
      go_wp2_with fail
      go_quiet (fail)
      rename_i nq
      go_wp2_with fail
      go_roundw
      case rel => exact ⟨j + 1, by omega, by go_num, HC.out.drewN _⟩
      case measure => simp [intOf]; omega
    · obtain rfl : j = L.length := by omega
      have HC := Lib.hid hC; clear hC
      clear hlt hj
      go_wp2_with fail
      go_ret
      exact ⟨rfl, HC.out⟩
theorem sameStepsRow (v : Value) (A : Option Addr) (c : Nat) (L : List St) (w : World) (h1 : RdS w v L) (h2 : RowC w A (L.flatMap stcell)) (hn : L.length ≤ 9223372036854775807) :
    Calls Try.prog 36 #[v, .slice A L.length c] w fun e w' => e = .returned (.bool true) ∧ Chg (fun _ => False) w w' :=
  sameSteps v _ L w h1 (RdS.ofRow h2 h1.1)

def mkSteps : St := ⟨77777, 0, 0, 0, 0, 0, ByteArray.empty⟩
theorem oneSteps (L : List St) : ∀ u ∈ L.flatMap stcell, u.oneCell' = true := by
  intro u hu
  obtain ⟨x, _, hx⟩ := List.mem_flatMap.1 hu
  unfold stcell at hx
  simp only [List.mem_cons, List.not_mem_nil, or_false] at hx
  rcases hx with rfl | rfl | rfl | rfl | rfl | rfl | rfl <;> rfl
def CopyStepsPost (L : List St) (w : World) (e : Ending) (w' : World) : Prop := ∃ v, e = .returned v ∧ OwnC stcell 7 59 w' w.heap.size v L ∧ Chg (fun _ => False) w w'
set_option maxRecDepth 100000 in
theorem copySteps (A : Option Addr) (c : Nat) (L : List St) (w : World) (hr : RowC w A (L.flatMap stcell)) (hm : L.length * 64 ≤ 140737488355328) :
    Calls Try.prog 72 #[.slice A L.length c] w (CopyStepsPost L w) := by
  obtain ⟨q0, hi0, hz0, hz1, hz2⟩ := info_parts Try.infoStep
  have hl : (L.flatMap stcell).length = L.length * 7 := flat_len stcell 7 stcell_len L
  have hR := Lib.hid (hr.keepF ((Chg.refl _ _).alloc (.cells #[] 59))); clear hr
  have ho : (w.alloc (.cells #[] 59)).ownsRow w.heap.size 59 7 (.slice (some ⟨w.heap.size, 0, none⟩) 0 0) 0 [] := ⟨by simp, .inr ⟨w.heap.size, 0, #[], rfl, Nat.le_refl _, blk_new _ _, Nat.le_refl _, by unfold maxLen; omega, rfl, rfl⟩⟩
  have HO := Lib.hid ho; clear ho
  have h63 : 0 + L.length ≤ maxLen := by unfold maxLen; omega
  have hb : w.heap.size ≤ (w.alloc (.cells #[] 59)).heap.size := by simp
  have HL := Lib.hid hl; clear hl
  go_enter Try.func72, Try.ntmps72
  go_wp2_with (at_builtin; refine wpList_append_row _ rfl _ _ 49 rfl w.heap.size 59 q0 (.agg #[.int .i64 0, .int .i64 0, .int .i64 0, .int .i64 0, .int .i64 0, .int .i64 0, .string ByteArray.empty]) 7 64 Try.underlying49 hi0 hz0 hz1 hz2 rfl (by decide) (.slice (some ⟨w.heap.size, 0, none⟩) 0 0) 0 [] rfl HO.out A L.length c (L.flatMap stcell) rfl HL.out hR.out (oneSteps L) h63 (by omega) hb ?_; intro v5 w5 hown5 hgr hat5)
  have hf : OwnC stcell 7 59 w5 w.heap.size v5 L ∧ Chg (fun _ => False) w w5 := by
    refine ⟨by simpa [OwnC] using hown5, Chg.trans' ((Chg.refl (fun _ => False) _).alloc (.cells #[] 59)) (Chg.grown (S := fun k => k = w.heap.size) (Chg.refl _ _) hgr (fun k hk _ => by injection hk with hk; exact hk.symm)) (fun k hk e => by omega)⟩
  have HF := Lib.hid hf; clear hf hown5 hgr hat5
  go_wp2_with fail
  go_ret
  exact ⟨_, rfl, HF.out⟩
/-- A row in a place with two marks behind it. -/
def LendStepsPost (L : List St) (w : World) (e : Ending) (w' : World) : Prop := ∃ g cap, e = .returned (.slice (some ⟨g, 0, none⟩) L.length cap) ∧ OwnC stcell 7 59 w' w.heap.size (.slice (some ⟨g, 0, none⟩) (L.length + 2) cap) (L ++ [mkSteps, mkSteps]) ∧ Chg (fun _ => False) w w'
set_option maxRecDepth 100000 in
theorem lendSteps (A : Option Addr) (c : Nat) (L : List St) (w : World) (hr : RowC w A (L.flatMap stcell)) (hm : L.length * 64 ≤ 140737488351232) :
    Calls Try.prog 33 #[.slice A L.length c] w (LendStepsPost L w) := by
  obtain ⟨q0, hi0, hz0, hz1, hz2⟩ := info_parts Try.infoStep
  have hcp := copySteps A c L w hr (by omega)
  have HC := Lib.hid hcp; clear hcp hr
  have h63 : L.length + 2 ≤ maxLen := by unfold maxLen; omega
  go_enter Try.func33, Try.ntmps33
  go_wp2_with fail
  refine HC.out.mono ?_
  rintro e w1 ⟨v, rfl, ho, hC⟩
  have hs := hC.size
  have hblk : (w1.alloc (.cells #[.int .i64 77777, .int .i64 0, .int .i64 0, .int .i64 0, .int .i64 0, .int .i64 0, .string ByteArray.empty, .int .i64 77777, .int .i64 0, .int .i64 0, .int .i64 0, .int .i64 0, .int .i64 0, .string ByteArray.empty] 59)).heap[w1.heap.size]? = some (.cells #[.int .i64 77777, .int .i64 0, .int .i64 0, .int .i64 0, .int .i64 0, .int .i64 0, .string ByteArray.empty, .int .i64 77777, .int .i64 0, .int .i64 0, .int .i64 0, .int .i64 0, .int .i64 0, .string ByteArray.empty] 59 (0, 0)) := blk_new _ _
  have hnews := rowc_blk hblk
  have hown : ∀ o, OwnC stcell 7 59 (w1.alloc o) w.heap.size v L := fun o => ho.keep ((Chg.refl (fun _ => False) _).alloc o) (fun _ _ => id)
  have hb : ∀ o, w.heap.size ≤ (w1.alloc o).heap.size := fun o => by simp; omega
  have HOW := Lib.hid hown; clear hown
  have HB := Lib.hid hb; clear hb
  have HN := Lib.hid hnews; clear hnews hblk
  go_wp2_with
    (at_builtin
     refine wpList_append_row _ rfl _ _ 49 rfl w.heap.size 59 q0 (.agg #[.int .i64 0, .int .i64 0, .int .i64 0, .int .i64 0, .int .i64 0, .int .i64 0, .string ByteArray.empty]) 7 64 Try.underlying49 hi0 hz0 hz1 hz2 rfl (by decide) v L.length (L.flatMap stcell) rfl (HOW.out _) (some ⟨w1.heap.size, 0, none⟩) 2 2 [.int .i64 77777, .int .i64 0, .int .i64 0, .int .i64 0, .int .i64 0, .int .i64 0, .string ByteArray.empty, .int .i64 77777, .int .i64 0, .int .i64 0, .int .i64 0, .int .i64 0, .int .i64 0, .string ByteArray.empty] rfl rfl HN.out (by simp [Value.oneCell']) h63 (by omega) (HB.out _) ?_
     intro v5 w5 hown5 hgr hat5
     have hf : OwnC stcell 7 59 w5 w.heap.size v5 (L ++ [mkSteps, mkSteps]) ∧ Chg (fun _ => False) w w5 := by
       refine ⟨?_, (hC.alloc _).trans' (Chg.grown (S := fun k => some k = v.ownBlock) (Chg.refl _ _) hgr (fun k hk _ => hk.symm)) (fun k hk e => by have := (own_lt ho e.symm).1; omega)⟩
       unfold OwnC
       rw [List.length_append, List.flatMap_append]
       simpa [stcell, mkSteps] using hown5
     obtain ⟨g, cap, hv, _, _, hcap, hcm⟩ := hf.1.form (by simp)
     have hlen : (L ++ [mkSteps, mkSteps]).length = L.length + 2 := by simp
     rw [hlen] at hv hcap
     subst hv
     have HF := Lib.hid hf; clear hf hown5 hgr hat5 ho hC
     unfold maxLen at hcm h63
     have k1 : (0 : Int) ≤ L.length := by omega
     have k2 : (L.length : Int) ≤ cap := by omega
     have k3 : L.length ≤ cap := by omega
     have hcut := run_cut_to (P := Try.prog) w5 49 59 Try.underlying49 q0 hi0 g (L.length + 2) cap L.length k3)
  go_ret
  exact ⟨g, cap, rfl, HF.out⟩
def KeptStepsPost (w : World) (e : Ending) (w' : World) : Prop := e = .returned (.bool true) ∧ Chg (fun _ => False) w w'
set_option maxRecDepth 100000 in
set_option maxHeartbeats 1000000 in
theorem keptSteps (A : Option Addr) (c base g cap : Nat) (L : List St) (w : World) (hr : RowC w A (L.flatMap stcell)) (ho : OwnC stcell 7 59 w base (.slice (some ⟨g, 0, none⟩) (L.length + 2) cap) (L ++ [mkSteps, mkSteps])) (hm : L.length * 64 ≤ 140737488351232) :
    Calls Try.prog 40 #[.slice (some ⟨g, 0, none⟩) L.length cap, .slice A L.length c] w (KeptStepsPost w) := by
  obtain ⟨g', cap', hv, _, _, hcap, hcm⟩ := ho.form (by simp)
  injection hv with h1 h2 h3
  subst h3
  rw [List.length_append] at hcap
  unfold maxLen at hcm
  have hot : OwnC stcell 7 59 w base (.slice (some ⟨g, 0, none⟩) L.length cap) L := by have := ho.take stcell_len (k := L.length) (by simp); simpa using this
  have hsame := sameStepsRow (.slice (some ⟨g, 0, none⟩) L.length cap) A c L w (rdStepsOf hot (by unfold maxLen; omega)) hr (by omega)
  have hlen : (L ++ [mkSteps, mkSteps]).length = L.length + 2 := by simp
  have hcell : ∀ w', Chg (fun _ => False) w w' → w'.cell? ⟨g, L.length * 7, none⟩ = some (.int .i64 77777) ∧ w'.cell? ⟨g, L.length * 7 + 1, none⟩ = some (.int .i64 0) ∧ w'.cell? ⟨g, L.length * 7 + 2, none⟩ = some (.int .i64 0) ∧ w'.cell? ⟨g, L.length * 7 + 3, none⟩ = some (.int .i64 0) ∧ w'.cell? ⟨g, L.length * 7 + 4, none⟩ = some (.int .i64 0) ∧ w'.cell? ⟨g, L.length * 7 + 5, none⟩ = some (.int .i64 0) ∧ w'.cell? ⟨g, L.length * 7 + 6, none⟩ = some (.string ByteArray.empty) ∧ w'.cell? ⟨g, (L.length + 1) * 7, none⟩ = some (.int .i64 77777) ∧ w'.cell? ⟨g, (L.length + 1) * 7 + 1, none⟩ = some (.int .i64 0) ∧ w'.cell? ⟨g, (L.length + 1) * 7 + 2, none⟩ = some (.int .i64 0) ∧ w'.cell? ⟨g, (L.length + 1) * 7 + 3, none⟩ = some (.int .i64 0) ∧ w'.cell? ⟨g, (L.length + 1) * 7 + 4, none⟩ = some (.int .i64 0) ∧ w'.cell? ⟨g, (L.length + 1) * 7 + 5, none⟩ = some (.int .i64 0) ∧ w'.cell? ⟨g, (L.length + 1) * 7 + 6, none⟩ = some (.string ByteArray.empty) := by
    intro w' hC
    have hO := ho.keep hC (fun _ _ => id)
    have e1 : (L ++ [mkSteps, mkSteps])[L.length]'(by simp) = mkSteps := by simp
    have e2 : (L ++ [mkSteps, mkSteps])[L.length + 1]'(by simp) = mkSteps := by simp
    refine ⟨?_, ?_, ?_, ?_, ?_, ?_, ?_, ?_, ?_, ?_, ?_, ?_, ?_, ?_⟩
    · have := hO.cell stcell_len (i := L.length) (by simp) (show 0 < 7 by omega); rw [e1] at this; exact this
    · have := hO.cell stcell_len (i := L.length) (by simp) (show 1 < 7 by omega); rw [e1] at this; exact this
    · have := hO.cell stcell_len (i := L.length) (by simp) (show 2 < 7 by omega); rw [e1] at this; exact this
    · have := hO.cell stcell_len (i := L.length) (by simp) (show 3 < 7 by omega); rw [e1] at this; exact this
    · have := hO.cell stcell_len (i := L.length) (by simp) (show 4 < 7 by omega); rw [e1] at this; exact this
    · have := hO.cell stcell_len (i := L.length) (by simp) (show 5 < 7 by omega); rw [e1] at this; exact this
    · have := hO.cell stcell_len (i := L.length) (by simp) (show 6 < 7 by omega); rw [e1] at this; exact this
    · have := hO.cell stcell_len (i := L.length + 1) (by simp) (show 0 < 7 by omega); rw [e2] at this; exact this
    · have := hO.cell stcell_len (i := L.length + 1) (by simp) (show 1 < 7 by omega); rw [e2] at this; exact this
    · have := hO.cell stcell_len (i := L.length + 1) (by simp) (show 2 < 7 by omega); rw [e2] at this; exact this
    · have := hO.cell stcell_len (i := L.length + 1) (by simp) (show 3 < 7 by omega); rw [e2] at this; exact this
    · have := hO.cell stcell_len (i := L.length + 1) (by simp) (show 4 < 7 by omega); rw [e2] at this; exact this
    · have := hO.cell stcell_len (i := L.length + 1) (by simp) (show 5 < 7 by omega); rw [e2] at this; exact this
    · have := hO.cell stcell_len (i := L.length + 1) (by simp) (show 6 < 7 by omega); rw [e2] at this; exact this
  have HC := Lib.hid hcell; clear hcell
  have HS := Lib.hid hsame; clear hsame hot ho hr hlen h1 h2
  have k1 : (0 : Int) ≤ L.length := by omega
  have k2 : (L.length : Int) + 2 ≤ cap := by simp at hcap; omega
  have k3 : (L.length : Int) + 2 ≤ 140737488351234 := by omega
  obtain ⟨q0, hi0, hz0, hz1, hz2⟩ := info_parts Try.infoStep
  have hcut := run_cut_to (P := Try.prog) w 49 59 Try.underlying49 q0 hi0 g L.length cap (L.length + 2) (by simp at hcap; omega)
  clear hcap hcm hi0 hz0 hz1 hz2
  go_enter Try.func40, Try.ntmps40
  go_wp2_with fail
  refine HS.out.mono ?_
  rintro e w1 ⟨rfl, hC⟩
  obtain ⟨x0, x1, x2, x3, x4, x5, x6, x7, x8, x9, x10, x11, x12, x13⟩ := HC.out w1 hC
  have HCH := Lib.hid hC; clear hC
  go_wp2_with fail
  go_ret
  exact ⟨rfl, HCH.out⟩
def SpoilStepsPost (v : Value) (w : World) (e : Ending) (w' : World) : Prop := e = .returned (.tuple #[]) ∧ Chg (fun k => some k = v.ownBlock) w w'
set_option maxRecDepth 100000 in
theorem spoilSteps (base : Nat) (v : Value) (L : List St) (w : World) (ho : OwnC stcell 7 59 w base v L) (hm : L.length ≤ 9223372036854775807) :
    Calls Try.prog 39 #[v] w (SpoilStepsPost v w) := by
  obtain ⟨A, c, rfl⟩ := ho.slice
  have HO := Lib.hid ho; clear ho
  go_enter Try.func39, Try.ntmps39
  go_wp2_with fail
  go_loopw [2] (fun s wr => ∃ (j : Nat) (L' : List St), j ≤ L.length ∧ s = .int .i64 j ∧ L'.length = L.length ∧ OwnC stcell 7 59 wr base (.slice A L.length c) L' ∧ Chg (fun k => some k = (Value.slice A L.length c).ownBlock) w wr) (fun s _ => L.length - (intOf s).toNat)
  case atStart => exact ⟨0, L, by omega, rfl, rfl, HO.out, Chg.refl _ _⟩
  case round =>
    clear HO
    obtain ⟨j, L', hj, rfl, hl, ho, hC⟩ := hrel
    have j0 : (0 : Int) ≤ j := by omega
    by_cases hlt : j < L.length
    · have j1 : (j : Int) < L.length := by omega
      obtain ⟨g, cap, hv, _⟩ := ho.form (by omega)
      injection hv with h1 h2 h3
      subst h1 h3
      have c0 : wr.cell? ⟨g, j * 7, none⟩ = some (.int .i64 L'[j].kind) := ho.cell stcell_len (by omega) (show 0 < 7 by omega)
      have f0 := ho.free (j * 7)
      have hset := fun y : Int => ho.set1 stcell_len (i := j) (by omega) (j := 0) (by omega) (u := .int .i64 y) (x := { L'[j] with kind := y }) (by rfl)
      have hcs : ∀ y : Value, Chg (fun k => some k = (Value.slice (some ⟨g, 0, none⟩) L.length c).ownBlock) w (wr.setCell ⟨g, j * 7, none⟩ y) := fun y => hC.setCell (p := ⟨g, j * 7, none⟩) (fun _ => rfl) y
      have HSET := Lib.hid hset; clear hset
      have HCS := Lib.hid hcs; clear hcs hC ho h2
      have HL := Lib.hid hl
      generalize L'[j].kind = x at *
      go_wp2_with fail
      go_roundw
      case rel => exact ⟨j + 1, _, by omega, by go_num, by rw [List.length_set]; exact HL.out, HSET.out _, HCS.out _⟩
      case measure => simp [intOf]; omega
    · obtain rfl : j = L.length := by omega
      have HC := Lib.hid hC; clear hC ho hl hlt hj
      go_wp2_with fail
      go_end0
      exact ⟨rfl, HC.out⟩
end Go.Proofs.Ytncbcjjdnlmjbaa
