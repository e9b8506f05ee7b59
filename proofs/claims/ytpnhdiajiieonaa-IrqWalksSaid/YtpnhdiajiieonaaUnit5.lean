/- Chapter 13: the document's unit: what is masked, Deliver. -/
import Derived.Test.YtpnhdiajiieonaaUnit4
set_option linter.unusedSimpArgs false
set_option linter.unusedVariables false
namespace Go.Proofs.Ytpnhdiajiieonaa
open Go.RowKit

theorem OwnC.ge {α : Type} {cells : α → List Value} {C e : Nat} {w : World} {base : Nat} {v : Value} {L : List α} (h : OwnC cells C e w base v L) {g : Nat} (hg : v.ownBlock = some g) : base ≤ g := (own_lt h hg).1
theorem maskedL_full (nd : Nat) (f : Nat → Ent) : ∀ m, maskedL nd f (nd * 8 + m) = maskedL nd f (nd * 8)
  | 0 => rfl
  | m + 1 => by
    rw [← Nat.add_assoc, maskedL_succ, maskedL_full nd f m]
    have : maskB nd f (nd * 8 + m) = false := by unfold maskB; rw [decide_eq_false (by omega)]; rfl
    rw [this]; simp
set_option maxRecDepth 100000 in
set_option maxHeartbeats 2000000 in
theorem ruMasked (u tp r np nd : Nat) (pv : Value) (f : Nat → Ent) (w : World) (h1 : w.heap[u]? = some (.cells #[.pointer (some ⟨tp, 0, none⟩), pv, .int .i64 np] 177 (0, 0))) (h : TabAt w 217 227 tp r nd f) (hn : nd ≤ 4) :
    Calls Try.prog 111 #[.pointer (some ⟨u, 0, none⟩)] w (UMaskedPost nd f w) := by
  have H := Lib.hid (And.intro h1 h); clear h1 h
  have hn0 : (0 : Int) ≤ nd := by omega
  have hn4 : (nd : Int) ≤ 4 := by omega
  go_enter Try.func111, Try.ntmps111
  go_wp2_with fail
  go_loopw [4, 3] (fun s so wr => ∃ d : Nat, d ≤ nd ∧ s = .int .i64 d ∧ OwnC iqc 3 92 wr w.heap.size so (maskedL nd f (d * 8)) ∧ Chg (fun _ => False) w wr) (fun s _ _ => nd - (intOf s).toNat)
  case atStart => exact ⟨0, by omega, rfl, OwnC.nil _ _, Chg.refl _ _⟩
  case round =>
    obtain ⟨d, hd, rfl, ho, hC⟩ := hrel
    have d0 : (0 : Int) ≤ d := by omega
    have c0 := blk_cell (hC.at H.out.1 id) 0
    have c1 := blk_cell (hC.at H.out.2.1 id) 0
    by_cases hlt : d < nd
    · have d1 : (d : Int) < nd := by omega
      have HO := Lib.hid (And.intro ho hC); clear ho hC
      go_wp2_with fail
      clear c0 c1
      go_loopw [5, 3] (fun s so wr => ∃ v : Nat, v ≤ 8 ∧ s = .int .i64 v ∧ OwnC iqc 3 92 wr w.heap.size so (maskedL nd f (d * 8 + v)) ∧ Chg (fun _ => False) w wr) (fun s _ _ => 8 - (intOf s).toNat)
      case atStart => exact ⟨0, by omega, rfl, HO.out⟩
      case round =>
        clear HO
        obtain ⟨v, hv, rfl, ho, hC⟩ := hrel
        have v0 : (0 : Int) ≤ v := by omega
        by_cases hlt8 : v < 8
        · have v1 : (v : Int) < 8 := by omega
          obtain ⟨w2, hw2⟩ : ∃ x, x = wr := ⟨_, rfl⟩
          subst wr
          have c0 := blk_cell (hC.at H.out.1 id) 0
          obtain ⟨t1, cs, t2, t3⟩ := H.out.2.keep hC id id
          have c1 := blk_cell t1 0
          have hk8 : d * 8 + v < 8 * nd := by omega
          have c2 := (blk_cell t2 ((d * 8 + v) * 3 + 2)).trans (t3 _ hk8).2.2
          rw [show (d * 8 + v) * 3 + 2 = d * 24 + v * 3 + 2 from by omega] at c2
          have hs := maskedL_succ nd f (d * 8 + v)
          have hmk : maskB nd f (d * 8 + v) = (f (d * 8 + v)).masked := by unfold maskB; rw [decide_eq_true hk8]; rfl
          have hlen := maskedL_len nd f (d * 8 + v)
          rw [← hmk] at c2
          have HO := Lib.hid ho; clear ho
          have HC := Lib.hid hC; clear hC
          clear t1 t2 t3 hmk
          cases hm : maskB nd f (d * 8 + v) with
          | false =>
            rw [hm] at hs c2
            have hs2 : maskedL nd f (d * 8 + v + 1) = maskedL nd f (d * 8 + v) := by rw [hs]; simp
            have HS := Lib.hid hs2; clear hs2 hs hm
            go_wp2_with fail
            go_roundw
            case rel => exact ⟨v + 1, by omega, by go_num, by rw [← Nat.add_assoc, HS.out]; exact HO.out, HC.out⟩
            case measure => simp [intOf]; omega
          | true =>
            rw [hm] at hs c2
            have hs2 : maskedL nd f (d * 8 + v + 1) = maskedL nd f (d * 8 + v) ++ [toIq 0 (d * 8 + v)] := by rw [hs]; simp
            have HS := Lib.hid hs2; clear hs2 hs hm
            obtain ⟨q0, hi0, hz0, hz1, hz2⟩ := info_parts Try.info92
            have hown : ∀ o, (w2.alloc o).ownsRow w.heap.size 92 3 u3 (maskedL nd f (d * 8 + v)).length ((maskedL nd f (d * 8 + v)).flatMap iqc) := fun o => (HO.out.keep ((Chg.refl (fun _ => False) _).alloc o) (fun _ _ => id))
            have hnews : RowC (w2.alloc (.cells #[.int .i64 0, .int .i64 d, .int .i64 v] 92)) (some ⟨w2.heap.size, 0, none⟩) [.int .i64 0, .int .i64 d, .int .i64 v] := rowc_blk (blk_new w2 (.cells #[.int .i64 0, .int .i64 d, .int .i64 v] 92))
            have hb2 : ∀ o, w.heap.size ≤ (w2.alloc o).heap.size := fun o => by have := HC.out.size; simp; omega
            have hx1 : ((d * 8 + v : Nat) : Int) / 8 = d := by omega
            have hx2 : ((d * 8 + v : Nat) : Int) % 8 = v := by omega
            have hiq : iqc (toIq 0 (d * 8 + v)) = [.int .i64 0, .int .i64 d, .int .i64 v] := by unfold iqc toIq; rw [hx1, hx2]
            have HOW := Lib.hid hown; clear hown
            have HN := Lib.hid hnews; clear hnews
            have HB := Lib.hid hb2; clear hb2
            have HIQ := Lib.hid hiq; clear hiq hx1 hx2
            go_wp2_with (at_builtin; refine wpList_append_row _ rfl _ _ 77 rfl w.heap.size 92 q0 (.agg #[.int .i64 0, .int .i64 0, .int .i64 0]) 3 24 Try.underlying77 hi0 hz0 hz1 hz2 rfl (by decide) u3 (maskedL nd f (d * 8 + v)).length ((maskedL nd f (d * 8 + v)).flatMap iqc) rfl (HOW.out _) (some ⟨w2.heap.size, 0, none⟩) 1 1 [.int .i64 0, .int .i64 d, .int .i64 v] rfl rfl HN.out (by simp [Value.oneCell']) (by unfold maxLen; omega) (by omega) (HB.out _) ?_; intro v5 w5 hown5 hgr hat5)
            have hfin : OwnC iqc 3 92 w5 w.heap.size v5 (maskedL nd f (d * 8 + v + 1)) ∧ Chg (fun _ => False) w w5 := by
              refine ⟨?_, (HC.out.alloc _).trans' (Chg.grown (S := fun j => some j = u3.ownBlock) (Chg.refl _ _) hgr (fun j hj _ => hj.symm)) (fun j hj e => by have := (own_lt HO.out e.symm).1; omega)⟩
              rw [HS.out]
              unfold OwnC
              rw [List.length_append, List.flatMap_append, List.flatMap_cons, HIQ.out]
              simpa using hown5
            have HF := Lib.hid hfin; clear hfin hown5 hgr hat5
            go_roundw
            case rel => exact ⟨v + 1, by omega, by go_num, by rw [← Nat.add_assoc]; exact HF.out.1, HF.out.2⟩
            case measure => simp [intOf]; omega
        · obtain rfl : v = 8 := by omega
          have hnx : OwnC iqc 3 92 wr w.heap.size u3 (maskedL nd f ((d + 1) * 8)) ∧ Chg (fun _ => False) w wr := by rw [Nat.add_mul]; exact ⟨ho, hC⟩
          have HNX := Lib.hid hnx; clear hnx ho hC hlt8 hv
          go_wp2_with fail
          go_roundw
          case rel => exact ⟨d + 1, by omega, by go_num, HNX.out⟩
          case measure => simp [intOf]; omega
    · obtain rfl : d = nd := by omega
      have hfin : OwnC iqc 3 92 wr w.heap.size u3 (maskedL d f 32) ∧ Chg (fun _ => False) w wr := by
        have := maskedL_full d f (32 - d * 8)
        rw [show d * 8 + (32 - d * 8) = 32 from by omega] at this
        rw [this]; exact ⟨ho, hC⟩
      have HF := Lib.hid hfin; clear hfin ho hC hlt hd
      go_wp2_with fail
      go_ret
      exact ⟨_, rfl, HF.out⟩
def RUDeliverPost (u nd np : Nat) (q tick : Int) (f : Nat → Ent) (S : Nat → Nat → Bool) (F : Nat → Prop) (w : World) (e : Ending) (w' : World) : Prop :=
  ∃ v, e = .returned v ∧ OwnC iqc 3 92 w' w.heap.size v (tkL np q tick (maskedL nd f 32) S) ∧ RUAt w' u nd np f (tkS np q (maskedL nd f 32) S) F ∧ Chg F w w'
set_option maxRecDepth 100000 in
set_option maxHeartbeats 2000000 in
theorem ruDeliver (u nd np : Nat) (q tick : Int) (f : Nat → Ent) (S : Nat → Nat → Bool) (F : Nat → Prop) (w : World) (h : RUAt w u nd np f S F) (hd4 : nd ≤ 4) (hn : np ≤ 4) :
    Calls Try.prog 63 #[.pointer (some ⟨u, 0, none⟩), .int .i64 q, .int .i64 tick] w (RUDeliverPost u nd np q tick f S F w) := by
  obtain ⟨tp, r, p, R, h1, h2, h3, h7⟩ := id h
  have c1 : w.drew.cell? ⟨u, 1, none⟩ = some (.pointer (some ⟨p, 0, none⟩)) := blk_cell h1 1
  have hmk := ruMasked u tp r np nd _ f w.drew h1 (h2.keep ((Chg.refl (fun _ => False) _).drew) id id) hd4
  have hRw := h3.up.lt
  have hfin : ∀ w1 w2 v, Chg (fun _ => False) w.drew w1 → OwnC iqc 3 92 w2 w1.heap.size v (tkL np q tick (maskedL nd f 32) S) → RefAt w2 p R np (tkS np q (maskedL nd f 32) S) → Chg (fun k => k = R) w1 w2 →
      w2.cell? ⟨u, 1, none⟩ = some (.pointer (some ⟨p, 0, none⟩)) ∧ OwnC iqc 3 92 w2 w.heap.size v (tkL np q tick (maskedL nd f 32) S) ∧ RUAt w2 u nd np f (tkS np q (maskedL nd f 32) S) F ∧ Chg F w w2 := by
    intro w1 w2 v hC1 ho hr hC2
    have hC1' : Chg (fun _ => False) w w1 := ((Chg.refl _ _).drew).trans hC1
    have h11 := hC1'.at h1 id
    obtain ⟨m1, m4⟩ := RUAt.sets h11 (h2.keep hC1' id id) (h3.keepN hC1') h7 hr hC2
    obtain ⟨cR, hRb, _⟩ := id (h3.keepN hC1').up
    exact ⟨blk_cell (hC2.at h11 (blk_ne h11 hRb (by decide))) 1, ho.baseLe hC1'.size, m1, (hC1'.toF F).trans m4⟩
  have hset : ∀ w1, Chg (fun _ => False) w.drew w1 → RefAt w1 p R np S := fun w1 hC => h3.keepN (((Chg.refl _ _).drew).trans hC)
  have HMK := Lib.hid hmk; clear hmk
  have HF := Lib.hid hfin; clear hfin
  have HS := Lib.hid hset; clear hset h1 h2 h3 h7 h
  have C1 := Lib.hid c1; clear c1
  have hml := maskedL_len nd f 32
  go_enter Try.func63, Try.ntmps63
  go_wp2_with fail
  have c1 := C1.out
  go_region_held3 (fun W => W.cell? ⟨u, 1, none⟩ = some (.pointer (some ⟨p, 0, none⟩))) (first | assumption | exact d1 | exact d3) (first
    | (go_at_call 111; (with_reducible refine HMK.out.mono ?_); rintro e w1 ⟨vm, rfl, hom, hCm⟩; have d1 := hCm.cell c1 id; have HOM := Lib.hid hom; clear hom; have HCM := Lib.hid hCm; clear hCm)
    | (go_at_call 53; (with_reducible refine (rTakeAny p R np q tick _ (maskedL nd f 32) S _ (HS.out _ HCM.out) hn (fun W hW => RdI.of (HOM.out.keep hW (fun k hk e => by have := HOM.out.ge hk; simp at this; omega))) (Nat.le_trans hml (by decide))).mono ?_); rintro e w2 ⟨vt, rfl, hot, hrt, hCt⟩; have hR := HF.out _ w2 vt HCM.out hot hrt hCt; have d3 := hR.1; have HR := Lib.hid hR.2; clear hR hot hrt hCt))
  all_goals
    go_wp2_with fail
    go_ret
    exact ⟨_, rfl, HR.out⟩
end Go.Proofs.Ytpnhdiajiieonaa
