/- Sets of vectors that wait: Raise. -/
import Derived.Test.YtpnhdiajiieonaaRaise
set_option linter.unusedSimpArgs false
set_option linter.unusedVariables false
namespace Go.Proofs.Ytpnhdiajiieonaa
open Go.RowKit

set_option maxRecDepth 100000 in
set_option maxHeartbeats 2000000 in
theorem pRaise_in (p n i k : Nat) (S : Nat → Nat → Bool) (F : Nat → Prop) (w : World) (h : SetsAt w p n S F) (hn : n ≤ 4) (hi : i < n) (hk : k < 32) :
    Calls Try.prog 48 #[.pointer (some ⟨p, 0, none⟩), .int .i64 i, .int .i64 ((k : Int) / 8), .int .i64 ((k : Int) % 8)] w fun e w' =>
      e = .returned (.tuple #[.bool (!S i k), .int .i64 0]) ∧ ∃ F', SetsAt w' p n (fun a b => S a b || (decide (a = i) && decide (b = k))) F' ∧ FootOf w F F' ∧ Chg F w w' := by
  obtain ⟨R, vs, f, hV, hS, hF⟩ := h
  obtain ⟨v, hrow⟩ := hV.row hi
  have hat := hrow.at_
  have c0 := blk_cell hV.hp 0
  have c1 : w.cell? ⟨R, i, none⟩ = some v := (blk_cell hV.hR i).trans hrow.at_
  have hth := pThere_yes p n i R w hV.hp hi hn
  have hvm := vMay_yes ((k : Int) % 8) w (by omega)
  have hct := kContains 0 k v (f i) w hrow.own hrow.len
  have hl32 := hV.len hi
  have i0 : (0 : Int) ≤ i := by omega
  have i1 : (i : Int) < n := by omega
  have d0 : (0 : Int) ≤ (k : Int) / 8 := by omega
  have d1 : (k : Int) / 8 < 4 := by omega
  have iff := hS i k hi hk
  have HTH := Lib.hid hth; clear hth
  have HVM := Lib.hid hvm; clear hvm
  by_cases hm : k ∈ f i
  · have hs : S i k = true := iff.1 hm
    rw [show decide (k ∈ f i) = true from decide_eq_true hm] at hct
    have HCT := Lib.hid hct; clear hct
    have hsame : ∀ a b, a < n → b < 32 → S a b = (S a b || (decide (a = i) && decide (b = k))) := fun a b _ _ => by
      by_cases e : a = i ∧ b = k
      · obtain ⟨rfl, rfl⟩ := e; simp [hs]
      · have : (decide (a = i) && decide (b = k)) = false := by
          rw [Bool.eq_false_iff]; intro h; simp at h; exact e h
        rw [this, Bool.or_false]
    have hfin : SetsAt w p n (fun a b => S a b || (decide (a = i) && decide (b = k))) F := SetsAt.cong ⟨R, vs, f, hV, hS, hF⟩ hsame
    have HF := Lib.hid hfin; clear hfin hsame
    rw [hs]
    clear hs iff hm hV hS hF hrow hat
    go_enter Try.func48, Try.ntmps48
    go_wp2_with fail
    refine HTH.out.mono ?_
    rintro e w1 ⟨rfl, rfl⟩
    go_wp2_with fail
    refine HVM.out.mono ?_
    rintro e w1 ⟨rfl, rfl⟩
    go_wp2_with fail
    refine HCT.out.mono ?_
    rintro e w1 ⟨rfl, hC⟩
    go_wp2_with fail
    go_ret2
    exact ⟨rfl, F, HF.out.keepF hC, fun _ h => .inl h, hC.toF F⟩
  · have hs : S i k = false := by
      cases hh : S i k with
      | false => rfl
      | true => exact absurd (iff.2 hh) hm
    rw [show decide (k ∈ f i) = false from decide_eq_false hm] at hct
    have HCT := Lib.hid hct; clear hct
    have HM := Lib.hid hm; clear hm
    have HV := Lib.hid hV; clear hV
    have HS := Lib.hid hS; clear hS
    have HFF := Lib.hid hF; clear hF
    have HR := Lib.hid hrow; clear hrow
    have HAT := Lib.hid hat; clear hat
    rw [hs]
    have HSF := Lib.hid hs; clear hs iff
    go_enter Try.func48, Try.ntmps48
    go_wp2_with fail
    refine HTH.out.mono ?_
    rintro e w1 ⟨rfl, rfl⟩
    go_wp2_with fail
    refine HVM.out.mono ?_
    rintro e w1 ⟨rfl, rfl⟩
    go_wp2_with fail
    refine HCT.out.mono ?_
    rintro e w1 ⟨rfl, hC⟩
    have hV1 := HV.out.keep hC id (fun _ _ => id)
    have hr1 := HR.out.keep hC id (fun _ _ => id)
    have c0 := blk_cell hV1.hp 0
    have hpu := hPush 0 R i k v vs (f i) w1 hr1 (HV.out.heap i hi) (Nat.zero_le _) (by omega) hk
    have HPU := Lib.hid hpu; clear hpu hr1
    have HV1 := Lib.hid hV1; clear hV1
    have HC := Lib.hid hC; clear hC
    go_wp2_with fail
    refine HPU.out.mono ?_
    rintro e w2 ⟨rfl, v', L', hp, hh, hR', hfr, hC2⟩
    have hnd : L'.Nodup := hp.nodup_iff.2 (List.nodup_append.2 ⟨HV.out.nodup i hi, by simp, fun a ha b hb => by simp at hb; subst hb; exact fun e => HM.out (by rw [← e]; exact ha)⟩)
    obtain ⟨hV2, hft, hC3⟩ := HV1.out.put hi HAT.out hR'.blk hR'.own hh hnd hR'.key hfr hC2
    have hiff : ∀ a b, a < n → b < 32 → (b ∈ upd f i L' a ↔ (S a b || (decide (a = i) && decide (b = k))) = true) := fun a b ha hb => by
      by_cases e : a = i
      · subst e
        rw [upd_same, hp.mem_iff, List.mem_append, HS.out a b ha hb]
        simp
      · rw [upd_other _ _ e, HS.out a b ha hb]
        simp [e]
    have hfoot : FootOf w F (SetsF R (vs.setIfInBounds i v')) := fun q hq => by
      rcases hft q hq with h | h
      · exact .inl ((HFF.out q).2 h)
      · exact .inr (by have := HC.out.size; omega)
    have hall : SetsAt w2 p n (fun a b => S a b || (decide (a = i) && decide (b = k))) (SetsF R (vs.setIfInBounds i v')) := ⟨R, _, _, hV2, hiff, fun _ => Iff.rfl⟩
    have hCC : Chg F w w2 := (HC.out.toF F).trans' hC3 (fun q _ hq => (HFF.out q).2 hq)
    have H1 := Lib.hid hall; clear hall hV2 hiff
    have H2 := Lib.hid hfoot; clear hfoot hft
    have H3 := Lib.hid hCC; clear hCC hC3 hC2 hp hh hR' hfr hnd
    go_wp2_with fail
    go_ret2
    exact ⟨rfl, _, H1.out, H2.out, H3.out⟩
theorem pRaise_out (p n : Nat) (part d v : Int) (S : Nat → Nat → Bool) (F : Nat → Prop) (w : World) (h : SetsAt w p n S F) (hn : n ≤ 4) (hb : ¬ raiseP n part d v) :
    Calls Try.prog 48 #[.pointer (some ⟨p, 0, none⟩), .int .i64 part, .int .i64 d, .int .i64 v] w fun e w' => e = .returned (.tuple #[.bool false, .int .i64 1200]) ∧ w = w' := by
  obtain ⟨R, vs, f, hV, _, _⟩ := h
  have hp := hV.hp
  clear hV
  unfold raiseP at hb
  by_cases h1 : 0 ≤ part ∧ part < n
  · obtain ⟨i, rfl⟩ := Int.eq_ofNat_of_zero_le h1.1
    have HTH := Lib.hid (pThere_yes p n i R w hp (by omega) hn)
    by_cases h2 : 0 ≤ d
    · by_cases h3 : d < 4
      · have HVM := Lib.hid (vMay_no v w (by omega))
        clear hb hp
        go_enter Try.func48, Try.ntmps48
        go_wp2_with fail
        refine HTH.out.mono ?_
        rintro e w1 ⟨rfl, rfl⟩
        go_wp2_with fail
        refine HVM.out.mono ?_
        rintro e w1 ⟨rfl, rfl⟩
        go_wp2_with fail
        go_ret2
        exact ⟨rfl, rfl⟩
      · have h4 : 4 ≤ d := by omega
        clear hb hp
        go_enter Try.func48, Try.ntmps48
        go_wp2_with fail
        refine HTH.out.mono ?_
        rintro e w1 ⟨rfl, rfl⟩
        go_wp2_with fail
        go_ret2
        exact ⟨rfl, rfl⟩
    · have h4 : d < 0 := by omega
      clear hb hp
      go_enter Try.func48, Try.ntmps48
      go_wp2_with fail
      refine HTH.out.mono ?_
      rintro e w1 ⟨rfl, rfl⟩
      go_wp2_with fail
      go_ret2
      exact ⟨rfl, rfl⟩
  · have HTH := Lib.hid (pThere_no p n part R w hp h1 hn)
    clear hb hp
    go_enter Try.func48, Try.ntmps48
    go_wp2_with fail
    refine HTH.out.mono ?_
    rintro e w1 ⟨rfl, rfl⟩
    go_wp2_with fail
    go_ret2
    exact ⟨rfl, rfl⟩
def raiseS (n : Nat) (part d v : Int) (S : Nat → Nat → Bool) : Nat → Nat → Bool := if raiseP n part d v then fun a b => S a b || (decide (a = part.toNat) && decide (b = keyOf d v)) else S
def raiseB (n : Nat) (part d v : Int) (S : Nat → Nat → Bool) : Bool := if raiseP n part d v then !S part.toNat (keyOf d v) else false
def raiseC (n : Nat) (part d v : Int) : Int := if raiseP n part d v then 0 else 1200
theorem pRaise (p n : Nat) (part d v : Int) (S : Nat → Nat → Bool) (F : Nat → Prop) (w : World) (h : SetsAt w p n S F) (hn : n ≤ 4) :
    Calls Try.prog 48 #[.pointer (some ⟨p, 0, none⟩), .int .i64 part, .int .i64 d, .int .i64 v] w fun e w' =>
      e = .returned (.tuple #[.bool (raiseB n part d v S), .int .i64 (raiseC n part d v)]) ∧ ∃ F', SetsAt w' p n (raiseS n part d v S) F' ∧ FootOf w F F' ∧ Chg F w w' := by
  by_cases hr : raiseP n part d v
  · unfold raiseS raiseB raiseC
    rw [if_pos hr, if_pos hr, if_pos hr]
    unfold raiseP at hr
    obtain ⟨i, rfl⟩ := Int.eq_ofNat_of_zero_le hr.1
    obtain ⟨k, hk, h32, rfl, rfl⟩ : ∃ k : Nat, keyOf d v = k ∧ k < 32 ∧ d = (k : Int) / 8 ∧ v = (k : Int) % 8 := ⟨keyOf d v, rfl, by unfold keyOf; omega, by unfold keyOf; omega, by unfold keyOf; omega⟩
    rw [hk, Int.toNat_natCast]
    exact pRaise_in p n i k S F w h hn (by omega) h32
  · unfold raiseS raiseB raiseC
    rw [if_neg hr, if_neg hr, if_neg hr]
    refine (pRaise_out p n part d v S F w h hn hr).mono ?_
    rintro e w' ⟨rfl, rfl⟩
    exact ⟨rfl, F, h, fun _ h => .inl h, Chg.refl _ _⟩
end Go.Proofs.Ytpnhdiajiieonaa
