/- Chapter 12: the document's sets: Take, drop, Clear. -/
import Derived.Test.YtpnhdiajiieonaaRefP
set_option linter.unusedSimpArgs false
set_option linter.unusedVariables false
namespace Go.Proofs.Ytpnhdiajiieonaa
open Go.RowKit

/-- What is left when Take has gone through all keys below c. -/
def takeT (S : Nat → Nat → Bool) (ms : List Iq) (i c : Nat) : Nat → Nat → Bool := fun a k => S a k && (!decide (a = i) || msk ms k || decide (c ≤ k))
theorem takeT_zero (S : Nat → Nat → Bool) (ms : List Iq) (i : Nat) : takeT S ms i 0 = S := by
  funext a k; unfold takeT; simp
theorem takeT_end (S : Nat → Nat → Bool) (ms : List Iq) (i a k : Nat) (hk : k < 32) : takeT S ms i 32 a k = takeS S ms i a k := by
  unfold takeT takeS
  have : decide (32 ≤ k) = false := decide_eq_false (by omega)
  rw [this, Bool.or_false]
theorem takeT_keep (S : Nat → Nat → Bool) (ms : List Iq) (i c a k : Nat) (h : (S i c && !msk ms c) = false) : takeT S ms i c a k = takeT S ms i (c + 1) a k := by
  unfold takeT
  by_cases e : k = c
  · subst e
    by_cases e2 : a = i
    · subst e2
      cases h1 : S a k <;> cases h2 : msk ms k <;> simp_all
    · simp [e2]
  · have : decide (c ≤ k) = decide (c + 1 ≤ k) := decide_eq_decide.2 (by omega)
    rw [this]
theorem takeT_drop (S : Nat → Nat → Bool) (ms : List Iq) (i c a k : Nat) (h : (S i c && !msk ms c) = true) : (if a = i ∧ k = c then false else takeT S ms i c a k) = takeT S ms i (c + 1) a k := by
  unfold takeT
  by_cases e : a = i ∧ k = c
  · rw [if_pos e]
    obtain ⟨rfl, rfl⟩ := e
    cases h1 : S a k <;> cases h2 : msk ms k <;> simp_all
  · rw [if_neg e]
    by_cases e2 : a = i
    · have : decide (c ≤ k) = decide (c + 1 ≤ k) := decide_eq_decide.2 (by omega)
      rw [this]
    · simp [e2]
def RTakePost (p R n i : Nat) (tick : Int) (ms : List Iq) (S : Nat → Nat → Bool) (w : World) (e : Ending) (w' : World) : Prop :=
  ∃ v, e = .returned v ∧ OwnC iqc 3 92 w' w.heap.size v (takeL S ms i tick) ∧ RefAt w' p R n (takeS S ms i) ∧ Chg (fun k => k = R) w w'
/-- The state of Take's loops. -/
structure RT (w : World) (p R n i : Nat) (tick : Int) (ms : List Iq) (S : Nat → Nat → Bool) (c : Nat) (so : Value) (w2 : World) : Prop where
  own : OwnC iqc 3 92 w2 w.heap.size so ((takeK S ms i c).map (toIq tick))
  ref : RefAt w2 p R n (takeT S ms i c)
  chg : Chg (fun k => k = R) w w2
theorem RT.skip {w : World} {p R n i : Nat} {tick : Int} {ms : List Iq} {S : Nat → Nat → Bool} {c : Nat} {so : Value} {w2 : World} (h : RT w p R n i tick ms S c so w2) (hk : (S i c && !msk ms c) = false) : RT w p R n i tick ms S (c + 1) so w2 :=
  ⟨by rw [takeK_succ, hk]; simpa using h.own, h.ref.cong (fun a k _ _ => takeT_keep S ms i c a k hk), h.chg⟩
theorem RT.next {w : World} {p R n i : Nat} {tick : Int} {ms : List Iq} {S : Nat → Nat → Bool} {c : Nat} {so v : Value} {w2 w3 : World} (h : RT w p R n i tick ms S c so w2) (hk : (S i c && !msk ms c) = true) (hi : i < n) (hc : c < 32)
    (ho : w3.ownsRow w.heap.size 92 3 v ((takeK S ms i c).length + 1) (((takeK S ms i c).map (toIq tick)).flatMap iqc ++ iqc (toIq tick c))) (hC : Chg (fun j => some j = so.ownBlock) w2 w3) (hRw : R < w.heap.size) (hpw : p < w.heap.size) :
    RT w p R n i tick ms S (c + 1) v (w3.setCell ⟨R, i * 32 + c, none⟩ (.bool false)) := by
  have hge : ∀ j, some j = so.ownBlock → w.heap.size ≤ j := fun j hj => (own_lt h.own hj.symm).1
  have hr : RefAt w3 p R n (takeT S ms i c) := h.ref.keep hC (fun e => by have := hge _ e; omega) (fun e => by have := hge _ e; omega)
  have hv : OwnC iqc 3 92 w3 w.heap.size v ((takeK S ms i (c + 1)).map (toIq tick)) := by
    unfold OwnC
    rw [takeK_succ, hk]
    simp only [if_true, List.map_append, List.length_append, List.flatMap_append, List.length_map]
    simpa using ho
  refine ⟨hv.keep (hr.chg _ _) (fun k hk e => by have := (own_lt hv hk).1; omega), (hr.put hi hc false).cong (fun a k _ _ => takeT_drop S ms i c a k hk), (h.chg.trans' hC (fun k hk e => by have := hge _ e; omega)).trans (hr.chg _ _)⟩
set_option maxRecDepth 100000 in
set_option maxHeartbeats 2000000 in
theorem rTake_in (p R n i : Nat) (tick : Int) (mv : Value) (ms : List Iq) (S : Nat → Nat → Bool) (w : World) (h : RefAt w p R n S) (hn : n ≤ 4) (hi : i < n) (hm : ∀ W, Chg (fun k => k = R) w W → RdI W mv ms) (hml : ms.length ≤ 9223372036854775807) :
    Calls Try.prog 53 #[.pointer (some ⟨p, 0, none⟩), .int .i64 i, .int .i64 tick, mv] w (RTakePost p R n i tick ms S w) := by
  have c0 := blk_cell h.hp 0
  have i0 : (0 : Int) ≤ i := by omega
  have i1 : (i : Int) < n := by omega
  have hn1 : (n : Int) ≤ 4 := by omega
  have hRw := h.up.lt
  have hpw := lt_of_heap h.hp
  have hst : RT w p R n i tick ms S 0 (.slice none 0 0) w := ⟨OwnC.nil _ _, by rw [takeT_zero]; exact h, Chg.refl _ _⟩
  have HST := Lib.hid hst; clear hst h
  have HM := Lib.hid hm; clear hm
  have hb1 : decide ((i : Int) < 0) = false := decide_eq_false (by omega)
  have hb2 : decide (n ≤ i) = false := decide_eq_false (by omega)
  go_enter Try.func53, Try.ntmps53
  go_wp2_with fail
  clear hb1 hb2
  go_loopw [10, 9] (fun s10 so w2 => ∃ d : Nat, d ≤ 4 ∧ s10 = .int .i64 d ∧ RT w p R n i tick ms S (d * 8) so w2) (fun s _ _ => 4 - (intOf s).toNat)
  case atStart => exact ⟨0, by omega, rfl, HST.out⟩
  case round =>
    clear HST c0
    obtain ⟨d, hd, rfl, hrt⟩ := hrel
    have d0 : (0 : Int) ≤ d := by omega
    by_cases hlt : d < 4
    · have d1 : (d : Int) < 4 := by omega
      have HRT := Lib.hid hrt; clear hrt
      go_wp2_with fail
      go_loopw [11, 9] (fun s11 so w2 => ∃ v : Nat, v ≤ 8 ∧ s11 = .int .i64 v ∧ RT w p R n i tick ms S (d * 8 + v) so w2) (fun s _ _ => 8 - (intOf s).toNat)
      case atStart => exact ⟨0, by omega, rfl, HRT.out⟩
      case round =>
        clear HRT
        obtain ⟨v, hv, rfl, hrt⟩ := hrel
        obtain ⟨so, hso⟩ : ∃ x, x = u9 := ⟨_, rfl⟩
        have v0 : (0 : Int) ≤ v := by omega
        by_cases hlt8 : v < 8
        · have v1 : (v : Int) < 8 := by omega
          have hk32 : d * 8 + v < 32 := by omega
          obtain ⟨w2, hw2⟩ : ∃ x, x = wr := ⟨_, rfl⟩
          subst wr
          have c0 := blk_cell hrt.ref.hp 0
          have c1 := hrt.ref.up.cell hi hk32
          have ht : takeT S ms i (d * 8 + v) i (d * 8 + v) = S i (d * 8 + v) := by unfold takeT; simp
          rw [ht, ← Nat.add_assoc] at c1
          have ham := rAmong mv ms d v w2 (HM.out _ hrt.chg) hml
          have hmk : decide (((d : Int), (v : Int)) ∈ ms.map dv) = msk ms (d * 8 + v) := by
            unfold msk
            rw [show ((d * 8 + v : Nat) : Int) / 8 = d from by omega, show ((d * 8 + v : Nat) : Int) % 8 = v from by omega]
          unfold AmPost at ham
          rw [hmk] at ham
          have HAM := Lib.hid ham; clear ham hmk ht
          cases hS : S i (d * 8 + v) with
          | false =>
            rw [hS] at c1
            have hnx := hrt.skip (by rw [hS]; rfl)
            have HNX := Lib.hid hnx; clear hnx hrt hS
            go_wp2_with fail
            go_roundw
            case rel => exact ⟨v + 1, by omega, by go_num, HNX.out⟩
            case measure => simp [intOf]; omega
          | true =>
            rw [hS] at c1
            cases hMk : msk ms (d * 8 + v) with
            | true =>
              rw [hMk] at HAM
              have hnx := hrt.skip (by rw [hS, hMk]; rfl)
              have HNX := Lib.hid hnx; clear hnx hrt hS hMk
              go_wp2_with fail
              refine HAM.out.mono ?_
              rintro e w3 ⟨rfl, rfl⟩
              go_wp2_with fail
              go_roundw
              case rel => exact ⟨v + 1, by omega, by go_num, HNX.out⟩
              case measure => simp [intOf]; omega
            | false =>
              rw [hMk] at HAM
              have hnx := fun v' w3 => hrt.next (v := v') (w3 := w3) (by rw [hS, hMk]; rfl) hi hk32
              have hlen : (takeK S ms i (d * 8 + v)).length ≤ 32 := Nat.le_trans (takeK_le _ _ _ _) (by omega)
              have hbase := hrt.chg.size
              obtain ⟨q0, hi0, hz0, hz1, hz2⟩ := info_parts Try.info92
              have hown : ∀ o, (w2.alloc o).ownsRow w.heap.size 92 3 u9 (takeK S ms i (d * 8 + v)).length (((takeK S ms i (d * 8 + v)).map (toIq tick)).flatMap iqc) := fun o => by
                have := Chg.own ((Chg.refl (fun _ => False) _).alloc o) hrt.own (fun _ _ => id)
                rwa [List.length_map] at this
              have hblk : (w2.alloc (.cells #[.int .i64 tick, .int .i64 d, .int .i64 v] 92)).heap[w2.heap.size]? = some (.cells #[.int .i64 tick, .int .i64 d, .int .i64 v] 92 (0, 0)) := blk_new _ _
              have hnews := World.news_of_block hblk
              have hb2 : w.heap.size ≤ (w2.alloc (.cells #[.int .i64 tick, .int .i64 d, .int .i64 v] 92)).heap.size := by simp; omega
              have hx1 : ((d * 8 + v : Nat) : Int) / 8 = d := by omega
              have hx2 : ((d * 8 + v : Nat) : Int) % 8 = v := by omega
              have hiq : iqc (toIq tick (d * 8 + v)) = [.int .i64 tick, .int .i64 d, .int .i64 v] := by unfold iqc toIq; rw [hx1, hx2]
              have hrefk := fun (w5 : World) (hC : Chg (fun j => some j = u9.ownBlock) w2 w5) => hrt.ref.keep hC (fun e => by have := (own_lt hrt.own e.symm).1; omega) (fun e => by have := (own_lt hrt.own e.symm).1; omega)
              have HRK := Lib.hid hrefk; clear hrefk
              have HNX := Lib.hid hnx; clear hnx hrt
              have HOW := Lib.hid hown; clear hown
              have HIQ := Lib.hid hiq; clear hiq hx1 hx2 hblk hS hMk
              clear hbase
              go_wp2_with fail
              refine HAM.out.mono ?_
              rintro e w3 ⟨rfl, rfl⟩
              go_wp2_with (at_builtin; refine wpList_append_own _ rfl _ _ 77 rfl w.heap.size 92 q0 (.agg #[.int .i64 0, .int .i64 0, .int .i64 0]) 3 24 Try.underlying77 hi0 hz0 hz1 hz2 rfl (by decide) u9 (takeK S ms i (d * 8 + v)).length (((takeK S ms i (d * 8 + v)).map (toIq tick)).flatMap iqc) rfl (HOW.out _) ⟨w2.heap.size, 0, none⟩ 1 1 [.int .i64 tick, .int .i64 d, .int .i64 v] (by rfl) rfl hnews (by simp [Value.oneCell']) (by unfold maxLen; omega) (by omega) hb2 ?_; intro v5 w5 hown5 hgr hn5; have hCg : Chg (fun j => some j = u9.ownBlock) w2 w5 := Chg.grown ((Chg.refl _ _).alloc _) hgr (fun k hk _ => hk.symm); have hr5 := HRK.out w5 hCg; have k0 := blk_cell hr5.hp 0; have k1 := hr5.up.cell hi hk32; have k2 := hr5.up.free (i * 32 + (d * 8 + v)); rw [← Nat.add_assoc] at k1 k2; have HG := Lib.hid hCg; clear hCg; have HR5 := Lib.hid hr5; clear hr5; rw [← HIQ.out] at hown5; have HO5 := Lib.hid hown5; clear hown5 hgr hn5)
              have hfin := HNX.out v5 w5 HO5.out HG.out hRw hpw
              rw [← Nat.add_assoc] at hfin
              have HF := Lib.hid hfin; clear hfin
              go_roundw
              case rel => exact ⟨v + 1, by omega, by go_num, HF.out⟩
              case measure => simp [intOf]; omega
        · obtain rfl : v = 8 := by omega
          have hnx : RT w p R n i tick ms S ((d + 1) * 8) u9 wr := by rw [Nat.add_mul]; exact hrt
          have HNX := Lib.hid hnx; clear hnx hrt hlt8 hv
          go_wp2_with fail
          go_roundw
          case rel => exact ⟨d + 1, by omega, by go_num, HNX.out⟩
          case measure => simp [intOf]; omega
    · obtain rfl : d = 4 := by omega
      have hfin : OwnC iqc 3 92 wr w.heap.size u9 (takeL S ms i tick) ∧ RefAt wr p R n (takeS S ms i) ∧ Chg (fun k => k = R) w wr := ⟨hrt.own, hrt.ref.cong (fun a k _ hk => takeT_end S ms i a k hk), hrt.chg⟩
      have HF := Lib.hid hfin; clear hfin hrt hlt hd
      go_wp2_with fail
      go_ret
      exact ⟨_, rfl, HF.out⟩
theorem rTake_out (p R n : Nat) (part tick : Int) (mv : Value) (S : Nat → Nat → Bool) (w : World) (h : RefAt w p R n S) (hn : n ≤ 4) (hi : ¬ (0 ≤ part ∧ part < n)) :
    Calls Try.prog 53 #[.pointer (some ⟨p, 0, none⟩), .int .i64 part, .int .i64 tick, mv] w fun e w' => e = .returned (.slice none 0 0) ∧ w = w' := by
  have c0 := blk_cell h.hp 0
  clear h
  have hn0 : (0 : Int) ≤ n := by omega
  have hn4 : (n : Int) ≤ 4 := by omega
  by_cases h1 : 0 ≤ part
  · have h2 : (n : Int) ≤ part := by omega
    clear hi
    go_enter Try.func53, Try.ntmps53
    go_wp2
    go_ret
    exact ⟨rfl, rfl⟩
  · have h2 : part < 0 := by omega
    clear hi h1
    go_enter Try.func53, Try.ntmps53
    go_wp2
    go_ret
    exact ⟨rfl, rfl⟩
end Go.Proofs.Ytpnhdiajiieonaa
