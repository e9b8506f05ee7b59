/- Chapter 13: a unit: Deliver. -/
import Derived.Test.YtpnhdiajiieonaaUnit2
set_option linter.unusedSimpArgs false
set_option linter.unusedVariables false
namespace Go.Proofs.Ytpnhdiajiieonaa
open Go.RowKit

def UDeliverPost (u nd np : Nat) (q tick : Int) (f : Nat → Ent) (S : Nat → Nat → Bool) (F : Nat → Prop) (w : World) (e : Ending) (w' : World) : Prop :=
  ∃ v, e = .returned v ∧ OwnC iqc 3 92 w' w.heap.size v (tkL np q tick (maskedL nd f 32) S) ∧ ∃ F', UAt w' u nd np f (tkS np q (maskedL nd f 32) S) F' ∧ FootOf w F F' ∧ (∀ g, v.ownBlock = some g → ¬ F' g) ∧ Chg F w w'
set_option maxRecDepth 100000 in
set_option maxHeartbeats 2000000 in
theorem uDeliver (u nd np : Nat) (q tick : Int) (f : Nat → Ent) (S : Nat → Nat → Bool) (F : Nat → Prop) (w : World) (h : UAt w u nd np f S F) (hn : np ≤ 4) (hM : MInv f) :
    Calls Try.prog 62 #[.pointer (some ⟨u, 0, none⟩), .int .i64 q, .int .i64 tick] w (UDeliverPost u nd np q tick f S F w) := by
  obtain ⟨tp, r, p, Fs, h1, h2, h3, h4, h5, h6, h7⟩ := id h
  have c1 : w.drew.cell? ⟨u, 1, none⟩ = some (.pointer (some ⟨tp, 0, none⟩)) := blk_cell h1 1
  have c2 : w.drew.cell? ⟨u, 2, none⟩ = some (.pointer (some ⟨p, 0, none⟩)) := blk_cell h1 2
  have hmk := uMasked tp r nd f w.drew (h2.keep ((Chg.refl (fun _ => False) _).drew) id id) hM
  have hfin : ∀ w1 w2 v v2 Fs', Chg (fun _ => False) w.drew w1 → OwnC iqc 3 92 w2 w1.heap.size v (tkL np q tick (maskedL nd f 32) S) → SetsAt w2 p np (tkS np q (maskedL nd f 32) S) Fs' → FootOf w1 Fs Fs' → (∀ g, v.ownBlock = some g → ¬ Fs' g) → Chg Fs w1 w2 → v2 = v →
      OwnC iqc 3 92 w2 w.heap.size v2 (tkL np q tick (maskedL nd f 32) S) ∧ ∃ F', UAt w2 u nd np f (tkS np q (maskedL nd f 32) S) F' ∧ FootOf w F F' ∧ (∀ g, v2.ownBlock = some g → ¬ F' g) ∧ Chg F w w2 := by
    rintro w1 w2 v _ Fs' hC1 ho hs hf hn hC2 rfl
    have hC1' : Chg (fun _ => False) w w1 := ((Chg.refl _ _).drew).trans hC1
    have hU1 := h.keepN hC1'
    have h21 := h2.keep hC1' id id
    have h11 := hC1'.at h1 id
    obtain ⟨F', m1, m2, m3, m4⟩ := hU1.sets h11 h21 h4 h5 h6 h7 hs hf hC2
    refine ⟨ho.baseLe hC1'.size, F', m1, footSize m2 hC1'.size, fun g hg hin => ?_, (hC1'.toF F).trans m4⟩
    have hge := (own_lt ho hg).1
    rcases m3 g hin with e | e | e | e | e
    · have := lt_of_heap h11; omega
    · have := h21.lt.1; omega
    · have := h21.lt.2; omega
    · have := (h3.keepF hC1').lt.1; omega
    · exact hn g hg e
  have hset : ∀ w1, Chg (fun _ => False) w.drew w1 → SetsAt w1 p np S Fs := fun w1 hC => h3.keepF (((Chg.refl _ _).drew).trans hC)
  have hcl : ∀ w1 w2, Chg (fun _ => False) w.drew w1 → Chg Fs w1 w2 → w2.cell? ⟨u, 1, none⟩ = some (.pointer (some ⟨tp, 0, none⟩)) ∧ w2.cell? ⟨u, 2, none⟩ = some (.pointer (some ⟨p, 0, none⟩)) := fun w1 w2 k1 k2 =>
    ⟨k2.cell (p := ⟨u, 1, none⟩) (k1.cell (p := ⟨u, 1, none⟩) c1 id) h4, k2.cell (p := ⟨u, 2, none⟩) (k1.cell (p := ⟨u, 2, none⟩) c2 id) h4⟩
  have HCL := Lib.hid hcl; clear hcl
  have HMK := Lib.hid hmk; clear hmk
  have HF := Lib.hid hfin; clear hfin
  have HS := Lib.hid hset; clear hset h1 h2 h3 h4 h5 h6 h7 h hM
  have C1 := Lib.hid c1; clear c1
  have C2 := Lib.hid c2; clear c2
  have hml := maskedL_len nd f 32
  go_enter Try.func62, Try.ntmps62
  go_wp2_with fail
  have c1 := C1.out
  have c2 := C2.out
  go_region_held3 (fun W => W.cell? ⟨u, 1, none⟩ = some (.pointer (some ⟨tp, 0, none⟩)) ∧ W.cell? ⟨u, 2, none⟩ = some (.pointer (some ⟨p, 0, none⟩))) (first | exact ⟨by assumption, by assumption⟩ | exact ⟨d1, d2⟩ | exact ⟨d3, d4⟩) (first
    | (go_at_call 109; (with_reducible refine HMK.out.mono ?_); rintro e w1 ⟨vm, rfl, hom, hCm⟩; have d1 := hCm.cell c1 id; have d2 := hCm.cell c2 id; have HOM := Lib.hid hom; clear hom; have HCM := Lib.hid hCm; clear hCm)
    | (go_at_call 51; (with_reducible refine (pTakeAny p np _ q tick _ (maskedL nd f 32) S Fs _ (HS.out _ HCM.out) hn HOM.out (Nat.le_trans hml (by decide))).mono ?_); rintro e w2 ⟨vt, rfl, hot, Fs', hst, hft, hnt, hCt⟩; obtain ⟨d3, d4⟩ := HCL.out _ w2 HCM.out hCt; have hR := HF.out _ w2 vt vt Fs' HCM.out hot hst hft hnt hCt rfl; have HR := Lib.hid hR; clear hR hot hst hft hnt hCt))
  all_goals
    go_wp2_with fail
    go_ret
    exact ⟨_, rfl, HR.out⟩
end Go.Proofs.Ytpnhdiajiieonaa
