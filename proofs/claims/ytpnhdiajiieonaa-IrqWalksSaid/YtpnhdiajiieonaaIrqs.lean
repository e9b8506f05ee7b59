/- Rows of interrupts: the law's SameIrqs. -/
import Derived.Test.YtpnhdiajiieonaaTake2
set_option linter.unusedSimpArgs false
set_option linter.unusedVariables false
namespace Go.Proofs.Ytpnhdiajiieonaa
open Go.RowKit

/-- The slice value v reads as L. -/
def RdI (w : World) (v : Value) (L : List Iq) : Prop := ∃ A c, v = .slice A L.length c ∧ ∀ (j : Nat) (h : j < L.length), ∃ g o, A = some ⟨g, o, none⟩ ∧ w.cell? ⟨g, o + j * 3, none⟩ = some (.int .i64 L[j].t) ∧ w.cell? ⟨g, o + j * 3 + 1, none⟩ = some (.int .i64 L[j].d) ∧ w.cell? ⟨g, o + j * 3 + 2, none⟩ = some (.int .i64 L[j].v)
theorem RdI.of {w : World} {base : Nat} {v : Value} {L : List Iq} (h : OwnC iqc 3 92 w base v L) : RdI w v L := by
  obtain ⟨A, c, rfl⟩ := h.slice
  refine ⟨A, c, rfl, fun j hj => ?_⟩
  obtain ⟨g, cap, hv, _⟩ := h.form (by omega)
  injection hv with h1 h2 h3
  subst h1 h3
  refine ⟨g, 0, rfl, ?_, ?_, ?_⟩
  · have := h.cell iqc_len hj (show 0 < 3 by omega); simpa [iqc] using this
  · have := h.cell iqc_len hj (show 1 < 3 by omega); simpa [iqc] using this
  · have := h.cell iqc_len hj (show 2 < 3 by omega); simpa [iqc] using this
theorem RdI.keep {S : Nat → Prop} {w w' : World} {v : Value} {L : List Iq} (h : RdI w v L) (hC : Chg S w w') (hn : ∀ k, v.ownBlock = some k → ¬ S k) : RdI w' v L := by
  obtain ⟨A, c, rfl, h⟩ := h
  refine ⟨A, c, rfl, fun j hj => ?_⟩
  obtain ⟨g, o, rfl, h0, h1, h2⟩ := h j hj
  exact ⟨g, o, rfl, hC.cell h0 (hn g rfl), hC.cell h1 (hn g rfl), hC.cell h2 (hn g rfl)⟩
theorem RdI.keepN {w w' : World} {v : Value} {L : List Iq} (h : RdI w v L) (hC : Chg (fun _ => False) w w') : RdI w' v L := h.keep hC (fun _ _ => id)
set_option maxRecDepth 100000 in
set_option maxHeartbeats 1000000 in
theorem sameYes (v1 v2 : Value) (L : List Iq) (w : World) (h1 : RdI w v1 L) (h2 : RdI w v2 L) (hn : L.length ≤ 9223372036854775807) :
    Calls Try.prog 52 #[v1, v2] w fun e w' => e = .returned (.bool true) ∧ Chg (fun _ => False) w w' := by
  obtain ⟨A, c, rfl, h1⟩ := h1
  obtain ⟨B, d, rfl, h2⟩ := h2
  have H1 := Lib.hid h1; clear h1
  have H2 := Lib.hid h2; clear h2
  go_enter Try.func52, Try.ntmps52
  go_wp2_with fail
  go_loopw [5] (fun s wr => ∃ j : Nat, j ≤ L.length ∧ s = .int .i64 j ∧ Chg (fun _ => False) w wr) (fun s _ => L.length - (intOf s).toNat)
  case atStart => exact ⟨0, by omega, rfl, Chg.refl _ _⟩
  case round =>
    obtain ⟨j, hj, rfl, hC⟩ := hrel
    have j0 : (0 : Int) ≤ j := by omega
    by_cases hlt : j < L.length
    · have j1 : (j : Int) < L.length := by omega
      obtain ⟨g, o, rfl, a0, a1, a2⟩ := H1.out j hlt
      obtain ⟨g', o', rfl, b0, b1, b2⟩ := H2.out j hlt
      have A0 := hC.cell a0 id
      have A1 := hC.cell a1 id
      have A2 := hC.cell a2 id
      have B0 := hC.cell b0 id
      have B1 := hC.cell b1 id
      have B2 := hC.cell b2 id
      have HC := Lib.hid hC; clear hC
      clear a0 a1 a2 b0 b1 b2
      generalize L[j].t = xt at *
      generalize L[j].d = xd at *
      generalize L[j].v = xv at *
      go_wp2_with fail
      go_quiet (fail)
      rename_i nq
      go_wp2_with fail
      go_roundw
      case rel => exact ⟨j + 1, by omega, by go_num, HC.out.drewN _⟩
      case measure => simp [intOf]; omega
    · obtain rfl : j = L.length := by omega
      have HC := Lib.hid hC; clear hC
      clear hlt hj
      go_wp2_with fail
      go_ret
      exact ⟨rfl, HC.out⟩
end Go.Proofs.Ytpnhdiajiieonaa
