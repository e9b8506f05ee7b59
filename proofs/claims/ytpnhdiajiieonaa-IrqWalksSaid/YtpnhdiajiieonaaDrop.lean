/- Elements that go: drop, by each closure. -/
import Derived.Test.YtpnhdiajiieonaaDel
import Derived.Deep.RegionLaw
set_option linter.unusedSimpArgs false
set_option linter.unusedVariables false
namespace Go.Proofs.Ytpnhdiajiieonaa
open Go.RowKit

/-- How many of a partition's wait of which P is so. -/
def cntRow (S : Nat → Nat → Bool) (P : Nat → Bool) (a : Nat) : Nat := ((List.range 32).filter fun k => S a k && P k).length
def cntTo (S : Nat → Nat → Bool) (P : Nat → Bool) : Nat → Nat
  | 0 => 0
  | a + 1 => cntTo S P a + cntRow S P a
theorem cntRow_le (S : Nat → Nat → Bool) (P : Nat → Bool) (a : Nat) : cntRow S P a ≤ 32 := by
  have := List.length_filter_le (fun k => S a k && P k) (List.range 32)
  rw [List.length_range] at this; exact this
theorem cntTo_le (S : Nat → Nat → Bool) (P : Nat → Bool) : ∀ a, cntTo S P a ≤ a * 32
  | 0 => by simp [cntTo]
  | a + 1 => by have := cntTo_le S P a; have := cntRow_le S P a; simp only [cntTo]; omega
theorem cnt_row {L : List Nat} {S : Nat → Nat → Bool} {P : Nat → Bool} {i : Nat} (hn : L.Nodup) (hk : ∀ k ∈ L, k < 32) (hS : ∀ k, k < 32 → (k ∈ L ↔ (S i k && !(decide (i < i) && P k)) = true)) :
    (L.length : Int) - ((L.filter fun k => !P k).length : Int) = cntRow S P i := by
  have h1 : (L.filter P).Perm ((List.range 32).filter fun k => S i k && P k) := by
    refine (List.perm_ext_iff_of_nodup (List.filter_sublist.nodup hn) (List.filter_sublist.nodup List.nodup_range)).2 (fun k => ?_)
    rw [List.mem_filter, List.mem_filter, List.mem_range, Bool.and_eq_true]
    constructor
    · rintro ⟨a, b⟩
      have h32 := hk k a
      have := (hS k h32).1 a
      exact ⟨h32, by simpa using this, b⟩
    · rintro ⟨a, b, c⟩
      exact ⟨(hS k a).2 (by simp [b]), c⟩
  have h2 := h1.length_eq
  have h3 : (L.filter P).length + (L.filter fun k => !P k).length = L.length := by
    clear h1 h2 hS hk hn
    induction L with
    | nil => rfl
    | cons x xs ih => cases hp : P x <;> simp [List.filter_cons, hp] <;> omega
  unfold cntRow
  omega

def clrDropPost (p n : Nat) (b : Nat) (d : Int) (S : Nat → Nat → Bool) (F : Nat → Prop) (w : World) (e : Ending) (w' : World) : Prop :=
  e = .returned (.int .i64 (cntTo S (clrP b d) n)) ∧ ∃ F', SetsAt w' p n (fun a k => S a k && !clrP b d k) F' ∧ FootOf w F F' ∧ Chg F w w'
set_option maxRecDepth 100000 in
set_option maxHeartbeats 4000000 in
theorem clrDrop (p n : Nat) (b : Nat) (d : Int) (S : Nat → Nat → Bool) (F : Nat → Prop) (w : World) (h : SetsAt w p n S F) (hn : n ≤ 4) (hcb : w.cell? ⟨b, 0, none⟩ = some (.int .i64 d)) (nfhcb : ¬ F b) :
    Calls Try.prog 99 #[.pointer (some ⟨p, 0, none⟩), .func (.func 100) #[] #[.pointer (some ⟨b, 0, none⟩)]] w (clrDropPost p n b d S F w) := by
  obtain ⟨R, vs, f, hV, hS, hF⟩ := h
  have hpR : ¬ SetsF R vs p := hV.notp
  have c0 := blk_cell hV.hp 0
  have n0 : (0 : Int) ≤ n := by omega
  have n4 : (n : Int) ≤ 4 := by omega
  have HV0 := Lib.hid hV; clear hV
  have HS0 := Lib.hid hS; clear hS
  go_enter Try.func99, Try.ntmps99
  go_wp2_with fail
  go_loopw [13, 5] (fun s13 s5 wr => ∃ (i : Nat) (vs' : Array Value) (f' : Nat → List Nat), i ≤ n ∧ s13 = .int .i64 i ∧ s5 = .int .i64 (cntTo S (clrP b d) i) ∧ SetsV wr p R n vs' f' ∧
      (∀ a k, a < n → k < 32 → (k ∈ f' a ↔ (S a k && !(decide (a < i) && clrP b d k)) = true)) ∧ (∀ k, SetsF R vs' k → SetsF R vs k) ∧ Chg (SetsF R vs) w wr) (fun s13 _ _ => n - (intOf s13).toNat)
  case atStart => exact ⟨0, vs, f, by omega, rfl, rfl, HV0.out, fun a k ha hk => by rw [HS0.out a k ha hk]; simp, fun _ h => h, Chg.refl _ _⟩
  case round =>
    clear HV0 HS0 c0
    obtain ⟨i, vs', f', hi, rfl, rfl, hV, hS, hsub, hC⟩ := hrel
    have i0 : (0 : Int) ≤ i := by omega
    by_cases hlt : i < n
    · have i1 : (i : Int) < n := by omega
      obtain ⟨v, hrow⟩ := hV.row hlt
      have hv := hrow.at_
      have hl32 := hV.len hlt
      have hcbr : wr.cell? ⟨b, 0, none⟩ = some (.int .i64 d) := hC.cell hcb (fun h => nfhcb ((hF _).2 h))
      have hdel := clrDel 0 b d v (f' i) wr hrow.own (by omega) hcbr (fun h => nfhcb ((hF _).2 (hsub _ (.inr ⟨i, v, hv, h⟩))))
      have hdel2 := clrDel 0 b d v (f' i) wr.drew (hrow.own.keep (S := fun _ => False) (Chg.refl _ _).drew (fun _ _ => id)) (by omega) hcbr (fun h => nfhcb ((hF _).2 (hsub _ (.inr ⟨i, v, hv, h⟩))))
      obtain ⟨A, c, rfl⟩ := hrow.own.slice
      have hcp := blk_cell hV.hp 0
      have hcR : wr.cell? ⟨R, i, none⟩ = some (.slice A (f' i).length c) := (blk_cell hV.hR i).trans hv
      have hfR : wr.frozen? ⟨R, i, none⟩ = false := blk_free hV.hR i
      have lR := lt_of_heap hV.hR
      have lp := lt_of_heap hV.hp
      have hneR : ¬ some R = (Value.slice A (f' i).length c).ownBlock := fun h => own_type hrow.own hV.hR h.symm
      have hnep : ¬ some p = (Value.slice A (f' i).length c).ownBlock := fun h => own_ne hrow.own hV.hp (by decide) h.symm
      have hcnt := cnt_row (hV.nodup i hlt) (hV.key i hlt) (fun k hk => hS i k hlt hk) (P := clrP b d)
      have hisz : i < vs'.size := by rw [hV.size]; exact hlt
      have m0 : (((f' i).length : Nat) : Int) ≤ 32 := by omega
      have cb := cntTo_le S (clrP b d) i
      have cb1 : (0 : Int) ≤ (cntTo S (clrP b d) i : Int) := by omega
      have cb2 : (cntTo S (clrP b d) i : Int) ≤ 128 := by omega
      have HD1 := Lib.hid hdel; clear hdel
      have HD2 := Lib.hid hdel2; clear hdel2
      have HV := Lib.hid hV; clear hV
      have HS := Lib.hid hS; clear hS
      have HSUB := Lib.hid hsub; clear hsub
      have HC := Lib.hid hC; clear hC
      have HCNT := Lib.hid hcnt; clear hcnt
      have HROW := Lib.hid hrow; clear hrow
      have HVV := Lib.hid hv; clear hv
      clear hcbr cb
      go_wp2_with fail
      go_region_law ((go_simp; go_at_call 142; (first | refine HD1.out.mono ?_ | refine HD2.out.mono ?_); rintro e w1 ⟨v', rfl, hown, hob, hD0⟩; have hD : Chg (fun j => some j = (Value.slice A (f' i).length c).ownBlock) wr w1 := Chg.trans (by first | exact Chg.refl _ _ | exact (Chg.refl _ _).drew) hD0; obtain ⟨A', c', rfl⟩ := hown.slice; have k1 := hD.cell hcp hnep; have k2 := hD.cell hcR hneR; have k3 := (hD.frz (p := ⟨R, i, none⟩) lR hneR).trans hfR))
      all_goals
        generalize hLf : List.filter (fun k => !clrP b d k) (f' i) = Lf at *
        have hb2 := blk_set (hD.at HV.out.hR hneR) i (Value.slice A' Lf.length c')
        have hvR : (Value.slice A' Lf.length c').ownBlock ≠ some R := fun h => hneR (by rw [← hob, h])
        have ho2 : KRow (w1.setCell ⟨R, i, none⟩ (Value.slice A' Lf.length c')) 0 (Value.slice A' Lf.length c') Lf := own_setCell_far hown hvR
        have hC2 : Chg (fun j => j = R ∨ some j = (Value.slice A (f' i).length c).ownBlock) wr (w1.setCell ⟨R, i, none⟩ (Value.slice A' Lf.length c')) := (hD.mono (fun _ _ h => .inr h)).setCell (p := ⟨R, i, none⟩) (fun _ => .inl rfl) _
        have hle : Lf.length ≤ (f' i).length := by rw [← hLf]; exact List.length_filter_le _ _
        have hrow2 : RowV (w1.setCell ⟨R, i, none⟩ (Value.slice A' Lf.length c')) 0 R i (Value.slice A' Lf.length c') (vs'.setIfInBounds i (Value.slice A' Lf.length c')) Lf := ⟨hb2, Array.getElem?_setIfInBounds_self_of_lt hisz, ho2, by omega, fun k hk => HROW.out.key k (by rw [← hLf] at hk; exact (List.mem_filter.1 hk).1)⟩
        have hpp := hC2.at HV.out.hp (fun h => by rcases h with h | h; exact hpR (.inl h); exact hnep h)
        have hini := hInit 0 R i _ _ Lf _ hrow2
        have HI := Lib.hid hini; clear hini hrow2 ho2 hown hb2 hD hD0 k1 k2 k3
        have HC2 := Lib.hid hC2; clear hC2
        have HLF := Lib.hid hLf; clear hLf
        have HOB := Lib.hid hob; clear hob
        have l0 : (0 : Int) ≤ Lf.length := by omega
        have l1 : ((Lf.length : Nat) : Int) ≤ 32 := by omega
        have c0 := blk_cell hpp 0
        clear hcp hcR hfR
        have HPP := Lib.hid hpp; clear hpp
        clear HD1 HD2
        generalize w1.setCell ⟨R, i, none⟩ (Value.slice A' Lf.length c') = W at *
        go_wp2_with fail
        refine HI.out.mono ?_
        rintro e w3 ⟨rfl, L2, hp2, hh2, hr3, hC3⟩
        have hnd : L2.Nodup := hp2.nodup_iff.2 (by rw [← HLF.out]; exact List.filter_sublist.nodup (HV.out.nodup i hlt))
        obtain ⟨hV3, hft, hC4⟩ := HV.out.put hlt HVV.out hr3.blk hr3.own hh2 hnd hr3.key (.inl HOB.out) (HC2.out.trans' hC3 (fun j _ h => .inr (by rw [h, HOB.out])))
        have c3 := blk_cell hV3.hp 0
        have r3 : w3.cell? ⟨R, i, none⟩ = some (Value.slice A' Lf.length c') := (blk_cell hr3.blk i).trans hr3.at_
        have hsub3 : ∀ k, SetsF R (vs'.setIfInBounds i (Value.slice A' Lf.length c')) k → SetsF R vs k := by
          rintro k (h | ⟨a, u, h1, h2⟩)
          · exact .inl h
          · by_cases e : i = a
            · subst e
              rw [Array.getElem?_setIfInBounds_self_of_lt hisz] at h1
              injection h1 with h1; subst h1
              exact HSUB.out k (.inr ⟨i, _, HVV.out, by rw [← HOB.out]; exact h2⟩)
            · rw [Array.getElem?_setIfInBounds_ne e] at h1
              exact HSUB.out k (.inr ⟨a, u, h1, h2⟩)
        have hS3 : ∀ a k, a < n → k < 32 → (k ∈ upd f' i L2 a ↔ (S a k && !(decide (a < i + 1) && clrP b d k)) = true) := fun a k ha hk => by
          by_cases e : a = i
          · subst e
            rw [upd_same, hp2.mem_iff, ← HLF.out, List.mem_filter, HS.out a k ha hk]
            have h1 : decide (a < a) = false := by simp
            have h2 : decide (a < a + 1) = true := by simp
            rw [h1, h2]; simp
          · rw [upd_other _ _ e, HS.out a k ha hk]
            have h1 : decide (a < i) = decide (a < i + 1) := by rw [Bool.eq_iff_iff]; simp; omega
            rw [h1]
        have hC5 : Chg (SetsF R vs) w w3 := HC.out.trans' hC4 (fun k _ h => HSUB.out k h)
        have H1 := Lib.hid hV3; clear hV3 hft
        have H2 := Lib.hid hsub3; clear hsub3
        have H3 := Lib.hid hS3; clear hS3
        have H4 := Lib.hid hC5; clear hC5 hC4 hC3 hr3 hh2 hp2 hnd
        clear c0
        go_wp2_with fail
        go_roundw
        case rel => exact ⟨i + 1, _, _, by omega, by go_num, by rw [HCNT.out]; simp only [cntTo]; go_num, H1.out, H3.out, H2.out, H4.out⟩
        case measure => simp [intOf]; omega
    · obtain rfl : i = n := by omega
      have hni : decide ((i : Int) < i) = false := by simp
      have hcong : ∀ a k, a < i → k < 32 → (k ∈ f' a ↔ (S a k && !clrP b d k) = true) := fun a k ha hk => by
        rw [hS a k ha hk, decide_eq_true ha]; simp
      have hfin : SetsAt wr p i (fun a k => S a k && !clrP b d k) (SetsF R vs') := ⟨R, vs', f', hV, hcong, fun _ => Iff.rfl⟩
      have H1 := Lib.hid hfin; clear hfin hcong hV hS
      have H2 := Lib.hid hsub; clear hsub
      have H3 := Lib.hid hC; clear hC
      go_wp2_with fail
      go_ret
      exact ⟨rfl, _, H1.out, fun k hk => .inl ((hF k).2 (H2.out k hk)), H3.out.mono (fun k _ h => (hF k).2 h)⟩

def drpDropPost (p n : Nat) (b b2 : Nat) (d u : Int) (S : Nat → Nat → Bool) (F : Nat → Prop) (w : World) (e : Ending) (w' : World) : Prop :=
  e = .returned (.int .i64 (cntTo S (drpP b b2 d u) n)) ∧ ∃ F', SetsAt w' p n (fun a k => S a k && !drpP b b2 d u k) F' ∧ FootOf w F F' ∧ Chg F w w'
set_option maxRecDepth 100000 in
set_option maxHeartbeats 4000000 in
theorem drpDrop (p n : Nat) (b b2 : Nat) (d u : Int) (S : Nat → Nat → Bool) (F : Nat → Prop) (w : World) (h : SetsAt w p n S F) (hn : n ≤ 4) (hcb : w.cell? ⟨b, 0, none⟩ = some (.int .i64 d)) (nfhcb : ¬ F b) (hcb2 : w.cell? ⟨b2, 0, none⟩ = some (.int .i64 u)) (nfhcb2 : ¬ F b2) :
    Calls Try.prog 99 #[.pointer (some ⟨p, 0, none⟩), .func (.func 153) #[] #[.pointer (some ⟨b, 0, none⟩), .pointer (some ⟨b2, 0, none⟩)]] w (drpDropPost p n b b2 d u S F w) := by
  obtain ⟨R, vs, f, hV, hS, hF⟩ := h
  have hpR : ¬ SetsF R vs p := hV.notp
  have c0 := blk_cell hV.hp 0
  have n0 : (0 : Int) ≤ n := by omega
  have n4 : (n : Int) ≤ 4 := by omega
  have HV0 := Lib.hid hV; clear hV
  have HS0 := Lib.hid hS; clear hS
  go_enter Try.func99, Try.ntmps99
  go_wp2_with fail
  go_loopw [13, 5] (fun s13 s5 wr => ∃ (i : Nat) (vs' : Array Value) (f' : Nat → List Nat), i ≤ n ∧ s13 = .int .i64 i ∧ s5 = .int .i64 (cntTo S (drpP b b2 d u) i) ∧ SetsV wr p R n vs' f' ∧
      (∀ a k, a < n → k < 32 → (k ∈ f' a ↔ (S a k && !(decide (a < i) && drpP b b2 d u k)) = true)) ∧ (∀ k, SetsF R vs' k → SetsF R vs k) ∧ Chg (SetsF R vs) w wr) (fun s13 _ _ => n - (intOf s13).toNat)
  case atStart => exact ⟨0, vs, f, by omega, rfl, rfl, HV0.out, fun a k ha hk => by rw [HS0.out a k ha hk]; simp, fun _ h => h, Chg.refl _ _⟩
  case round =>
    clear HV0 HS0 c0
    obtain ⟨i, vs', f', hi, rfl, rfl, hV, hS, hsub, hC⟩ := hrel
    have i0 : (0 : Int) ≤ i := by omega
    by_cases hlt : i < n
    · have i1 : (i : Int) < n := by omega
      obtain ⟨v, hrow⟩ := hV.row hlt
      have hv := hrow.at_
      have hl32 := hV.len hlt
      have hcbr : wr.cell? ⟨b, 0, none⟩ = some (.int .i64 d) := hC.cell hcb (fun h => nfhcb ((hF _).2 h))
      have hcb2r : wr.cell? ⟨b2, 0, none⟩ = some (.int .i64 u) := hC.cell hcb2 (fun h => nfhcb2 ((hF _).2 h))
      have hdel := drpDel 0 b b2 d u v (f' i) wr hrow.own (by omega) hcbr hcb2r (fun h => nfhcb ((hF _).2 (hsub _ (.inr ⟨i, v, hv, h⟩)))) (fun h => nfhcb2 ((hF _).2 (hsub _ (.inr ⟨i, v, hv, h⟩))))
      have hdel2 := drpDel 0 b b2 d u v (f' i) wr.drew (hrow.own.keep (S := fun _ => False) (Chg.refl _ _).drew (fun _ _ => id)) (by omega) hcbr hcb2r (fun h => nfhcb ((hF _).2 (hsub _ (.inr ⟨i, v, hv, h⟩)))) (fun h => nfhcb2 ((hF _).2 (hsub _ (.inr ⟨i, v, hv, h⟩))))
      obtain ⟨A, c, rfl⟩ := hrow.own.slice
      have hcp := blk_cell hV.hp 0
      have hcR : wr.cell? ⟨R, i, none⟩ = some (.slice A (f' i).length c) := (blk_cell hV.hR i).trans hv
      have hfR : wr.frozen? ⟨R, i, none⟩ = false := blk_free hV.hR i
      have lR := lt_of_heap hV.hR
      have lp := lt_of_heap hV.hp
      have hneR : ¬ some R = (Value.slice A (f' i).length c).ownBlock := fun h => own_type hrow.own hV.hR h.symm
      have hnep : ¬ some p = (Value.slice A (f' i).length c).ownBlock := fun h => own_ne hrow.own hV.hp (by decide) h.symm
      have hcnt := cnt_row (hV.nodup i hlt) (hV.key i hlt) (fun k hk => hS i k hlt hk) (P := drpP b b2 d u)
      have hisz : i < vs'.size := by rw [hV.size]; exact hlt
      have m0 : (((f' i).length : Nat) : Int) ≤ 32 := by omega
      have cb := cntTo_le S (drpP b b2 d u) i
      have cb1 : (0 : Int) ≤ (cntTo S (drpP b b2 d u) i : Int) := by omega
      have cb2 : (cntTo S (drpP b b2 d u) i : Int) ≤ 128 := by omega
      have HD1 := Lib.hid hdel; clear hdel
      have HD2 := Lib.hid hdel2; clear hdel2
      have HV := Lib.hid hV; clear hV
      have HS := Lib.hid hS; clear hS
      have HSUB := Lib.hid hsub; clear hsub
      have HC := Lib.hid hC; clear hC
      have HCNT := Lib.hid hcnt; clear hcnt
      have HROW := Lib.hid hrow; clear hrow
      have HVV := Lib.hid hv; clear hv
      clear hcbr hcb2r cb
      go_wp2_with fail
      go_region_law ((go_simp; go_at_call 142; (first | refine HD1.out.mono ?_ | refine HD2.out.mono ?_); rintro e w1 ⟨v', rfl, hown, hob, hD0⟩; have hD : Chg (fun j => some j = (Value.slice A (f' i).length c).ownBlock) wr w1 := Chg.trans (by first | exact Chg.refl _ _ | exact (Chg.refl _ _).drew) hD0; obtain ⟨A', c', rfl⟩ := hown.slice; have k1 := hD.cell hcp hnep; have k2 := hD.cell hcR hneR; have k3 := (hD.frz (p := ⟨R, i, none⟩) lR hneR).trans hfR))
      all_goals
        generalize hLf : List.filter (fun k => !drpP b b2 d u k) (f' i) = Lf at *
        have hb2 := blk_set (hD.at HV.out.hR hneR) i (Value.slice A' Lf.length c')
        have hvR : (Value.slice A' Lf.length c').ownBlock ≠ some R := fun h => hneR (by rw [← hob, h])
        have ho2 : KRow (w1.setCell ⟨R, i, none⟩ (Value.slice A' Lf.length c')) 0 (Value.slice A' Lf.length c') Lf := own_setCell_far hown hvR
        have hC2 : Chg (fun j => j = R ∨ some j = (Value.slice A (f' i).length c).ownBlock) wr (w1.setCell ⟨R, i, none⟩ (Value.slice A' Lf.length c')) := (hD.mono (fun _ _ h => .inr h)).setCell (p := ⟨R, i, none⟩) (fun _ => .inl rfl) _
        have hle : Lf.length ≤ (f' i).length := by rw [← hLf]; exact List.length_filter_le _ _
        have hrow2 : RowV (w1.setCell ⟨R, i, none⟩ (Value.slice A' Lf.length c')) 0 R i (Value.slice A' Lf.length c') (vs'.setIfInBounds i (Value.slice A' Lf.length c')) Lf := ⟨hb2, Array.getElem?_setIfInBounds_self_of_lt hisz, ho2, by omega, fun k hk => HROW.out.key k (by rw [← hLf] at hk; exact (List.mem_filter.1 hk).1)⟩
        have hpp := hC2.at HV.out.hp (fun h => by rcases h with h | h; exact hpR (.inl h); exact hnep h)
        have hini := hInit 0 R i _ _ Lf _ hrow2
        have HI := Lib.hid hini; clear hini hrow2 ho2 hown hb2 hD hD0 k1 k2 k3
        have HC2 := Lib.hid hC2; clear hC2
        have HLF := Lib.hid hLf; clear hLf
        have HOB := Lib.hid hob; clear hob
        have l0 : (0 : Int) ≤ Lf.length := by omega
        have l1 : ((Lf.length : Nat) : Int) ≤ 32 := by omega
        have c0 := blk_cell hpp 0
        clear hcp hcR hfR
        have HPP := Lib.hid hpp; clear hpp
        clear HD1 HD2
        generalize w1.setCell ⟨R, i, none⟩ (Value.slice A' Lf.length c') = W at *
        go_wp2_with fail
        refine HI.out.mono ?_
        rintro e w3 ⟨rfl, L2, hp2, hh2, hr3, hC3⟩
        have hnd : L2.Nodup := hp2.nodup_iff.2 (by rw [← HLF.out]; exact List.filter_sublist.nodup (HV.out.nodup i hlt))
        obtain ⟨hV3, hft, hC4⟩ := HV.out.put hlt HVV.out hr3.blk hr3.own hh2 hnd hr3.key (.inl HOB.out) (HC2.out.trans' hC3 (fun j _ h => .inr (by rw [h, HOB.out])))
        have c3 := blk_cell hV3.hp 0
        have r3 : w3.cell? ⟨R, i, none⟩ = some (Value.slice A' Lf.length c') := (blk_cell hr3.blk i).trans hr3.at_
        have hsub3 : ∀ k, SetsF R (vs'.setIfInBounds i (Value.slice A' Lf.length c')) k → SetsF R vs k := by
          rintro k (h | ⟨a, u, h1, h2⟩)
          · exact .inl h
          · by_cases e : i = a
            · subst e
              rw [Array.getElem?_setIfInBounds_self_of_lt hisz] at h1
              injection h1 with h1; subst h1
              exact HSUB.out k (.inr ⟨i, _, HVV.out, by rw [← HOB.out]; exact h2⟩)
            · rw [Array.getElem?_setIfInBounds_ne e] at h1
              exact HSUB.out k (.inr ⟨a, u, h1, h2⟩)
        have hS3 : ∀ a k, a < n → k < 32 → (k ∈ upd f' i L2 a ↔ (S a k && !(decide (a < i + 1) && drpP b b2 d u k)) = true) := fun a k ha hk => by
          by_cases e : a = i
          · subst e
            rw [upd_same, hp2.mem_iff, ← HLF.out, List.mem_filter, HS.out a k ha hk]
            have h1 : decide (a < a) = false := by simp
            have h2 : decide (a < a + 1) = true := by simp
            rw [h1, h2]; simp
          · rw [upd_other _ _ e, HS.out a k ha hk]
            have h1 : decide (a < i) = decide (a < i + 1) := by rw [Bool.eq_iff_iff]; simp; omega
            rw [h1]
        have hC5 : Chg (SetsF R vs) w w3 := HC.out.trans' hC4 (fun k _ h => HSUB.out k h)
        have H1 := Lib.hid hV3; clear hV3 hft
        have H2 := Lib.hid hsub3; clear hsub3
        have H3 := Lib.hid hS3; clear hS3
        have H4 := Lib.hid hC5; clear hC5 hC4 hC3 hr3 hh2 hp2 hnd
        clear c0
        go_wp2_with fail
        go_roundw
        case rel => exact ⟨i + 1, _, _, by omega, by go_num, by rw [HCNT.out]; simp only [cntTo]; go_num, H1.out, H3.out, H2.out, H4.out⟩
        case measure => simp [intOf]; omega
    · obtain rfl : i = n := by omega
      have hni : decide ((i : Int) < i) = false := by simp
      have hcong : ∀ a k, a < i → k < 32 → (k ∈ f' a ↔ (S a k && !drpP b b2 d u k) = true) := fun a k ha hk => by
        rw [hS a k ha hk, decide_eq_true ha]; simp
      have hfin : SetsAt wr p i (fun a k => S a k && !drpP b b2 d u k) (SetsF R vs') := ⟨R, vs', f', hV, hcong, fun _ => Iff.rfl⟩
      have H1 := Lib.hid hfin; clear hfin hcong hV hS
      have H2 := Lib.hid hsub; clear hsub
      have H3 := Lib.hid hC; clear hC
      go_wp2_with fail
      go_ret
      exact ⟨rfl, _, H1.out, fun k hk => .inl ((hF k).2 (H2.out k hk)), H3.out.mono (fun k _ h => (hF k).2 h)⟩
end Go.Proofs.Ytpnhdiajiieonaa
