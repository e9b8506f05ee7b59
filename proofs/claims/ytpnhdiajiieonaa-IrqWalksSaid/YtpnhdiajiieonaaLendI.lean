/- Rows of interrupts: the law's CopyIrqs, LendIrqs, KeptIrqs, SpoilIrqs. -/
import Derived.Test.YtpnhdiajiieonaaAppRow
set_option linter.unusedSimpArgs false
set_option linter.unusedVariables false
namespace Go.Proofs.Ytpnhdiajiieonaa
open Go.RowKit

def mkIrqs : Iq := ⟨77777, 0, 0⟩
theorem oneIrqs (L : List Iq) : ∀ u ∈ L.flatMap iqc, u.oneCell' = true := by
  intro u hu
  obtain ⟨x, _, hx⟩ := List.mem_flatMap.1 hu
  unfold iqc at hx
  simp only [List.mem_cons, List.not_mem_nil, or_false] at hx
  rcases hx with rfl | rfl | rfl <;> rfl
def CopyIrqsPost (L : List Iq) (w : World) (e : Ending) (w' : World) : Prop := ∃ v, e = .returned v ∧ OwnC iqc 3 92 w' w.heap.size v L ∧ Chg (fun _ => False) w w'
set_option maxRecDepth 100000 in
theorem copyIrqs (A : Option Addr) (c : Nat) (L : List Iq) (w : World) (hr : RowC w A (L.flatMap iqc)) (hm : L.length * 24 ≤ 140737488355328) :
    Calls Try.prog 95 #[.slice A L.length c] w (CopyIrqsPost L w) := by
  obtain ⟨q0, hi0, hz0, hz1, hz2⟩ := info_parts Try.info92
  have hl : (L.flatMap iqc).length = L.length * 3 := flat_len iqc 3 iqc_len L
  have hR := Lib.hid (hr.keepF ((Chg.refl _ _).alloc (.cells #[] 92))); clear hr
  have ho : (w.alloc (.cells #[] 92)).ownsRow w.heap.size 92 3 (.slice (some ⟨w.heap.size, 0, none⟩) 0 0) 0 [] := ⟨by simp, .inr ⟨w.heap.size, 0, #[], rfl, Nat.le_refl _, blk_new _ _, Nat.le_refl _, by unfold maxLen; omega, rfl, rfl⟩⟩
  have HO := Lib.hid ho; clear ho
  have h63 : 0 + L.length ≤ maxLen := by unfold maxLen; omega
  have hb : w.heap.size ≤ (w.alloc (.cells #[] 92)).heap.size := by simp
  have HL := Lib.hid hl; clear hl
  go_enter Try.func95, Try.ntmps95
  go_wp2_with (at_builtin; refine wpList_append_row _ rfl _ _ 77 rfl w.heap.size 92 q0 (.agg #[.int .i64 0, .int .i64 0, .int .i64 0]) 3 24 Try.underlying77 hi0 hz0 hz1 hz2 rfl (by decide) (.slice (some ⟨w.heap.size, 0, none⟩) 0 0) 0 [] rfl HO.out A L.length c (L.flatMap iqc) rfl HL.out hR.out (oneIrqs L) h63 (by omega) hb ?_; intro v5 w5 hown5 hgr hat5)
  have hf : OwnC iqc 3 92 w5 w.heap.size v5 L ∧ Chg (fun _ => False) w w5 := by
    refine ⟨by simpa [OwnC] using hown5, Chg.trans' ((Chg.refl (fun _ => False) _).alloc (.cells #[] 92)) (Chg.grown (S := fun k => k = w.heap.size) (Chg.refl _ _) hgr (fun k hk _ => by injection hk with hk; exact hk.symm)) (fun k hk e => by omega)⟩
  have HF := Lib.hid hf; clear hf hown5 hgr hat5
  go_wp2_with fail
  go_ret
  exact ⟨_, rfl, HF.out⟩
/-- A row in a place with two marks behind it. -/
def LendIrqsPost (L : List Iq) (w : World) (e : Ending) (w' : World) : Prop := ∃ g cap, e = .returned (.slice (some ⟨g, 0, none⟩) L.length cap) ∧ OwnC iqc 3 92 w' w.heap.size (.slice (some ⟨g, 0, none⟩) (L.length + 2) cap) (L ++ [mkIrqs, mkIrqs]) ∧ Chg (fun _ => False) w w'
set_option maxRecDepth 100000 in
theorem lendIrqs (A : Option Addr) (c : Nat) (L : List Iq) (w : World) (hr : RowC w A (L.flatMap iqc)) (hm : L.length * 24 ≤ 140737488351232) :
    Calls Try.prog 50 #[.slice A L.length c] w (LendIrqsPost L w) := by
  obtain ⟨q0, hi0, hz0, hz1, hz2⟩ := info_parts Try.info92
  have hcp := copyIrqs A c L w hr (by omega)
  have HC := Lib.hid hcp; clear hcp hr
  have h63 : L.length + 2 ≤ maxLen := by unfold maxLen; omega
  go_enter Try.func50, Try.ntmps50
  go_wp2_with fail
  refine HC.out.mono ?_
  rintro e w1 ⟨v, rfl, ho, hC⟩
  have hs := hC.size
  have hblk : (w1.alloc (.cells #[.int .i64 77777, .int .i64 0, .int .i64 0, .int .i64 77777, .int .i64 0, .int .i64 0] 92)).heap[w1.heap.size]? = some (.cells #[.int .i64 77777, .int .i64 0, .int .i64 0, .int .i64 77777, .int .i64 0, .int .i64 0] 92 (0, 0)) := blk_new _ _
  have hnews := rowc_blk hblk
  have hown : ∀ o, OwnC iqc 3 92 (w1.alloc o) w.heap.size v L := fun o => ho.keep ((Chg.refl (fun _ => False) _).alloc o) (fun _ _ => id)
  have hb : ∀ o, w.heap.size ≤ (w1.alloc o).heap.size := fun o => by simp; omega
  have HOW := Lib.hid hown; clear hown
  have HB := Lib.hid hb; clear hb
  have HN := Lib.hid hnews; clear hnews hblk
  go_wp2_with
    (at_builtin
     refine wpList_append_row _ rfl _ _ 77 rfl w.heap.size 92 q0 (.agg #[.int .i64 0, .int .i64 0, .int .i64 0]) 3 24 Try.underlying77 hi0 hz0 hz1 hz2 rfl (by decide) v L.length (L.flatMap iqc) rfl (HOW.out _) (some ⟨w1.heap.size, 0, none⟩) 2 2 [.int .i64 77777, .int .i64 0, .int .i64 0, .int .i64 77777, .int .i64 0, .int .i64 0] rfl rfl HN.out (by simp [Value.oneCell']) h63 (by omega) (HB.out _) ?_
     intro v5 w5 hown5 hgr hat5
     have hf : OwnC iqc 3 92 w5 w.heap.size v5 (L ++ [mkIrqs, mkIrqs]) ∧ Chg (fun _ => False) w w5 := by
       refine ⟨?_, (hC.alloc _).trans' (Chg.grown (S := fun k => some k = v.ownBlock) (Chg.refl _ _) hgr (fun k hk _ => hk.symm)) (fun k hk e => by have := (own_lt ho e.symm).1; omega)⟩
       unfold OwnC
       rw [List.length_append, List.flatMap_append]
       simpa [iqc, mkIrqs] using hown5
     obtain ⟨g, cap, hv, _, _, hcap, hcm⟩ := hf.1.form (by simp)
     have hlen : (L ++ [mkIrqs, mkIrqs]).length = L.length + 2 := by simp
     rw [hlen] at hv hcap
     subst hv
     have HF := Lib.hid hf; clear hf hown5 hgr hat5 ho hC
     unfold maxLen at hcm h63
     have k1 : (0 : Int) ≤ L.length := by omega
     have k2 : (L.length : Int) ≤ cap := by omega
     have k3 : L.length ≤ cap := by omega
     have hcut := run_cut_to (P := Try.prog) w5 77 92 Try.underlying77 q0 hi0 g (L.length + 2) cap L.length k3)
  go_ret
  exact ⟨g, cap, rfl, HF.out⟩
def KeptIrqsPost (w : World) (e : Ending) (w' : World) : Prop := e = .returned (.bool true) ∧ Chg (fun _ => False) w w'
set_option maxRecDepth 100000 in
set_option maxHeartbeats 1000000 in
theorem keptIrqs (A : Option Addr) (c base g cap : Nat) (L : List Iq) (w : World) (hr : RowC w A (L.flatMap iqc)) (ho : OwnC iqc 3 92 w base (.slice (some ⟨g, 0, none⟩) (L.length + 2) cap) (L ++ [mkIrqs, mkIrqs])) (hm : L.length * 24 ≤ 140737488351232) :
    Calls Try.prog 54 #[.slice (some ⟨g, 0, none⟩) L.length cap, .slice A L.length c] w (KeptIrqsPost w) := by
  obtain ⟨g', cap', hv, _, _, hcap, hcm⟩ := ho.form (by simp)
  injection hv with h1 h2 h3
  subst h3
  rw [List.length_append] at hcap
  unfold maxLen at hcm
  have hot : OwnC iqc 3 92 w base (.slice (some ⟨g, 0, none⟩) L.length cap) L := by have := ho.take iqc_len (k := L.length) (by simp); simpa using this
  have hsame := sameIrqsRow (.slice (some ⟨g, 0, none⟩) L.length cap) A c L w (rdIrqsOf hot) hr (by omega)
  have hlen : (L ++ [mkIrqs, mkIrqs]).length = L.length + 2 := by simp
  have hcell : ∀ w', Chg (fun _ => False) w w' → w'.cell? ⟨g, L.length * 3, none⟩ = some (.int .i64 77777) ∧ w'.cell? ⟨g, L.length * 3 + 1, none⟩ = some (.int .i64 0) ∧ w'.cell? ⟨g, L.length * 3 + 2, none⟩ = some (.int .i64 0) ∧ w'.cell? ⟨g, (L.length + 1) * 3, none⟩ = some (.int .i64 77777) ∧ w'.cell? ⟨g, (L.length + 1) * 3 + 1, none⟩ = some (.int .i64 0) ∧ w'.cell? ⟨g, (L.length + 1) * 3 + 2, none⟩ = some (.int .i64 0) := by
    intro w' hC
    have hO := ho.keep hC (fun _ _ => id)
    have e1 : (L ++ [mkIrqs, mkIrqs])[L.length]'(by simp) = mkIrqs := by simp
    have e2 : (L ++ [mkIrqs, mkIrqs])[L.length + 1]'(by simp) = mkIrqs := by simp
    refine ⟨?_, ?_, ?_, ?_, ?_, ?_⟩
    · have := hO.cell iqc_len (i := L.length) (by simp) (show 0 < 3 by omega); rw [e1] at this; exact this
    · have := hO.cell iqc_len (i := L.length) (by simp) (show 1 < 3 by omega); rw [e1] at this; exact this
    · have := hO.cell iqc_len (i := L.length) (by simp) (show 2 < 3 by omega); rw [e1] at this; exact this
    · have := hO.cell iqc_len (i := L.length + 1) (by simp) (show 0 < 3 by omega); rw [e2] at this; exact this
    · have := hO.cell iqc_len (i := L.length + 1) (by simp) (show 1 < 3 by omega); rw [e2] at this; exact this
    · have := hO.cell iqc_len (i := L.length + 1) (by simp) (show 2 < 3 by omega); rw [e2] at this; exact this
  have HC := Lib.hid hcell; clear hcell
  have HS := Lib.hid hsame; clear hsame hot ho hr hlen h1 h2
  have k1 : (0 : Int) ≤ L.length := by omega
  have k2 : (L.length : Int) + 2 ≤ cap := by simp at hcap; omega
  have k3 : (L.length : Int) + 2 ≤ 140737488351234 := by omega
  obtain ⟨q0, hi0, hz0, hz1, hz2⟩ := info_parts Try.info92
  have hcut := run_cut_to (P := Try.prog) w 77 92 Try.underlying77 q0 hi0 g L.length cap (L.length + 2) (by simp at hcap; omega)
  clear hcap hcm hi0 hz0 hz1 hz2
  go_enter Try.func54, Try.ntmps54
  go_wp2_with fail
  refine HS.out.mono ?_
  rintro e w1 ⟨rfl, hC⟩
  obtain ⟨x0, x1, x2, x3, x4, x5⟩ := HC.out w1 hC
  have HCH := Lib.hid hC; clear hC
  go_wp2_with fail
  go_ret
  exact ⟨rfl, HCH.out⟩
def SpoilIrqsPost (v : Value) (w : World) (e : Ending) (w' : World) : Prop := e = .returned (.tuple #[]) ∧ Chg (fun k => some k = v.ownBlock) w w'
set_option maxRecDepth 100000 in
theorem spoilIrqs (base : Nat) (v : Value) (L : List Iq) (w : World) (ho : OwnC iqc 3 92 w base v L) (hm : L.length ≤ 9223372036854775807) :
    Calls Try.prog 55 #[v] w (SpoilIrqsPost v w) := by
  obtain ⟨A, c, rfl⟩ := ho.slice
  have HO := Lib.hid ho; clear ho
  go_enter Try.func55, Try.ntmps55
  go_wp2_with fail
  go_loopw [2] (fun s wr => ∃ (j : Nat) (L' : List Iq), j ≤ L.length ∧ s = .int .i64 j ∧ L'.length = L.length ∧ OwnC iqc 3 92 wr base (.slice A L.length c) L' ∧ Chg (fun k => some k = (Value.slice A L.length c).ownBlock) w wr) (fun s _ => L.length - (intOf s).toNat)
  case atStart => exact ⟨0, L, by omega, rfl, rfl, HO.out, Chg.refl _ _⟩
  case round =>
    clear HO
    obtain ⟨j, L', hj, rfl, hl, ho, hC⟩ := hrel
    have j0 : (0 : Int) ≤ j := by omega
    by_cases hlt : j < L.length
    · have j1 : (j : Int) < L.length := by omega
      obtain ⟨g, cap, hv, _⟩ := ho.form (by omega)
      injection hv with h1 h2 h3
      subst h1 h3
      have c0 : wr.cell? ⟨g, j * 3, none⟩ = some (.int .i64 L'[j].t) := ho.cell iqc_len (by omega) (show 0 < 3 by omega)
      have f0 := ho.free (j * 3)
      have hset := fun y : Int => ho.set1 iqc_len (i := j) (by omega) (j := 0) (by omega) (u := .int .i64 y) (x := { L'[j] with t := y }) (by rfl)
      have hcs : ∀ y : Value, Chg (fun k => some k = (Value.slice (some ⟨g, 0, none⟩) L.length c).ownBlock) w (wr.setCell ⟨g, j * 3, none⟩ y) := fun y => hC.setCell (p := ⟨g, j * 3, none⟩) (fun _ => rfl) y
      have HSET := Lib.hid hset; clear hset
      have HCS := Lib.hid hcs; clear hcs hC ho h2
      have HL := Lib.hid hl
      generalize L'[j].t = x at *
      go_wp2_with fail
      go_roundw
      case rel => exact ⟨j + 1, _, by omega, by go_num, by rw [List.length_set]; exact HL.out, HSET.out _, HCS.out _⟩
      case measure => simp [intOf]; omega
    · obtain rfl : j = L.length := by omega
      have HC := Lib.hid hC; clear hC ho hl hlt hj
      go_wp2_with fail
      go_end0
      exact ⟨rfl, HC.out⟩
end Go.Proofs.Ytpnhdiajiieonaa
