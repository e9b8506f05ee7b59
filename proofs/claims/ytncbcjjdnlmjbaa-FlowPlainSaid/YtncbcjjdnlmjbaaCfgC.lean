/- Configs: may partitions be, devices, windows? Printed by mkcfgc.py. -/
import Derived.Test.YtncbcjjdnlmjbaaCfgB
import Derived.StillTailTactics
set_option linter.unusedSimpArgs false
set_option linter.unusedVariables false
namespace Go.Proofs.Ytncbcjjdnlmjbaa
open Go.RowKit

theorem RdN.form {w : World} {v : Value} {L : List Int} (h : RdN w v L) : L.length ≤ maxLen ∧ ∃ A c, v = .slice A L.length c := ⟨h.1, by obtain ⟨A, c, e, _⟩ := h.2; exact ⟨A, c, e⟩⟩
theorem CfP.open {w : World} {b : Nat} {C : Cf} {s : Vs} (h : CfP w b C s) : ∃ A1 k1 A2 k2 A3 k3 A4 k4, s = ⟨.slice A1 C.parts.length k1, .slice A2 C.devs.length k2, .slice A3 C.wins.length k3, .slice A4 C.grants.length k4⟩ ∧ (C.parts.length : Int) ≤ 9223372036854775807 ∧ (C.devs.length : Int) ≤ 9223372036854775807 ∧ (C.wins.length : Int) ≤ 9223372036854775807 ∧ (C.grants.length : Int) ≤ 9223372036854775807 := by
  obtain ⟨ps, ds, ws, gs⟩ := s
  obtain ⟨_, ⟨m1, A1, k1, e1, _⟩, ⟨m2, A2, k2, e2, _⟩, ⟨⟨m3, _⟩, A3, k3, e3, _⟩, ⟨m4, A4, k4, e4, _⟩⟩ := h
  simp only at e1 e2 e3 e4
  subst e1 e2 e3 e4
  unfold maxLen at m1 m2 m3 m4
  exact ⟨_, _, _, _, _, _, _, _, rfl, by omega, by omega, by omega, by omega⟩
set_option maxRecDepth 100000 in
theorem cThere (b : Nat) (p : Int) (C : Cf) (s : Vs) (w : World) (h : CfP w b C s) :
    Calls Try.prog 120 #[.pointer (some ⟨b, 0, none⟩), .int .i64 p] w fun e w' => e = .returned (.bool (decide (C.there p))) ∧ w = w' := by
  obtain ⟨A1, k1, A2, k2, A3, k3, A4, k4, rfl, m1, m2, m3, m4⟩ := h.open
  have c1 : w.cell? ⟨b, 1, none⟩ = some (.slice A1 C.parts.length k1) := h.cell 1
  clear h
  by_cases h0 : 0 ≤ p
  · by_cases h1 : p < C.parts.length
    · rw [decide_eq_true (show C.there p from ⟨h0, h1⟩)]
      go_enter Try.func120, Try.ntmps120
      go_wp2
      go_ret
      exact ⟨rfl, rfl⟩
    · rw [decide_eq_false (show ¬ C.there p from fun h => h1 h.2)]
      have h2 : decide (p < (C.parts.length : Int)) = false := decide_eq_false h1
      go_enter Try.func120, Try.ntmps120
      go_wp2
      go_ret
      exact ⟨rfl, rfl⟩
  · rw [decide_eq_false (show ¬ C.there p from fun h => h0 h.1)]
    go_enter Try.func120, Try.ntmps120
    go_wp2
    go_ret
    exact ⟨rfl, rfl⟩
theorem partClo (i : Int) (b : Nat) (pa st le de : Int) (w : World) (hc : w.cell? ⟨b, 0, none⟩ = some (.int .i64 i)) :
    Calls Try.prog 156 (#[.agg #[.int .i64 pa, .int .i64 st, .int .i64 le, .int .i64 de]] ++ #[.pointer (some ⟨b, 0, none⟩)]) w fun e w' => e = .returned (.bool (decide (pa = i))) ∧ Chg (fun _ => False) w w' := by
  have hb := World.block_lt_of_cell? w _ hc
  simp only at hb
  by_cases e1 : pa = i
  · go_enter Try.func156, Try.ntmps156
    go_wp2
    go_ret
    exact ⟨retB (by simp [e1]), (Chg.refl _ _).alloc _⟩
  · go_enter Try.func156, Try.ntmps156
    go_wp2
    go_ret
    exact ⟨retB (by simp [e1]), (Chg.refl _ _).alloc _⟩

set_option maxRecDepth 100000 in
set_option maxHeartbeats 1000000 in
theorem partIdx (i : Int) (b : Nat) (v : Value) (L : List Wn) (w : World) (h : RdW w v L)
    (hclo : ∀ (j : Nat) (h : j < L.length) (W : World), Chg (fun _ => False) w W → Calls Try.prog 156 (#[.agg #[.int .i64 L[j].part, .int .i64 L[j].start, .int .i64 L[j].len, .int .i64 L[j].deliver]] ++ #[.pointer (some ⟨b, 0, none⟩)]) W fun e w' => e = .returned (.bool (decide ((fun x : Wn => x.part = i) L[j]))) ∧ Chg (fun _ => False) W w') :
    Calls Try.prog 175 #[v, .func (.func 156) #[] #[.pointer (some ⟨b, 0, none⟩)]] w (IxPost (fun x : Wn => x.part = i) L w) := by
  obtain ⟨hm, A, c, rfl, h⟩ := h
  have hm' : (L.length : Int) ≤ 9223372036854775807 := by unfold maxLen at hm; first | omega | (have := hm.1; omega)
  have HO := Lib.hid h; clear h hm
  have HCLO := Lib.hid hclo; clear hclo
  go_enter Try.func175, Try.ntmps175
  go_wp2_with fail
  go_loopw [8] (fun s wr => ∃ j : Nat, j ≤ L.length ∧ s = .int .i64 j ∧ (∀ k (hk : k < L.length), k < j → ¬ (fun x : Wn => x.part = i) L[k]) ∧ Chg (fun _ => False) w wr) (fun s _ => L.length - (intOf s).toNat)
  case atStart => exact ⟨0, by omega, rfl, by intro k hk h; omega, Chg.refl _ _⟩
  case round =>
    obtain ⟨j, hj, rfl, hne, hC⟩ := hrel
    have j0 : (0 : Int) ≤ j := by omega
    by_cases hlt : j < L.length
    · have j1 : (j : Int) < L.length := by omega
      obtain ⟨g, o, rfl, a0, a1, a2, a3⟩ := HO.out j hlt
      have A0 := hC.cell a0 id
      have A1 := hC.cell a1 id
      have A2 := hC.cell a2 id
      have A3 := hC.cell a3 id
      have hcl := HCLO.out j hlt wr hC
      have HCL := Lib.hid hcl; clear hcl
      have HC := Lib.hid hC; clear hC
      have HN := Lib.hid hne; clear hne
      clear a0 a1 a2 a3
      go_wp2_with fail
      refine HCL.out.mono ?_
      rintro e w1 ⟨rfl, hD⟩
      have hC1 := HC.out.trans hD
      have H1 := Lib.hid hC1; clear hC1 hD
      clear HCL A0 A1 A2 A3
      by_cases hp : (fun x : Wn => x.part = i) L[j]
      · rw [decide_eq_true hp]
        have HP := Lib.hid hp; clear hp
        go_wp2_with fail
        go_ret
        exact ⟨⟨_, rfl, .inr ⟨j, hlt, rfl, HP.out, HN.out⟩⟩, H1.out⟩
      · rw [decide_eq_false hp]
        have HN2 := Lib.hid (show ∀ k (hk : k < L.length), k < j + 1 → ¬ (fun x : Wn => x.part = i) L[k] from fun k hk hkj => by
          by_cases e : k = j
          · subst e; exact hp
          · exact HN.out k hk (by omega)); clear hp HN
        go_wp2_with fail
        go_roundw
        case rel => exact ⟨j + 1, by omega, by go_num, HN2.out, H1.out⟩
        case measure => simp [intOf]; omega
    · obtain rfl : j = L.length := by omega
      have HC := Lib.hid hC; clear hC
      have HN := Lib.hid hne; clear hne hlt hj
      go_wp2_with fail
      go_ret
      exact ⟨⟨_, rfl, .inl ⟨rfl, fun k hk => HN.out k hk hk⟩⟩, HC.out⟩
set_option maxRecDepth 100000 in
theorem partHas (i : Int) (b : Nat) (v : Value) (L : List Wn) (w : World) (h : RdW w v L)
    (hclo : ∀ (j : Nat) (h : j < L.length) (W : World), Chg (fun _ => False) w W → Calls Try.prog 156 (#[.agg #[.int .i64 L[j].part, .int .i64 L[j].start, .int .i64 L[j].len, .int .i64 L[j].deliver]] ++ #[.pointer (some ⟨b, 0, none⟩)]) W fun e w' => e = .returned (.bool (decide ((fun x : Wn => x.part = i) L[j]))) ∧ Chg (fun _ => False) W w') :
    Calls Try.prog 158 #[v, .func (.func 156) #[] #[.pointer (some ⟨b, 0, none⟩)]] w fun e w' => e = .returned (.bool (decide (∃ z0 ∈ L, (fun x : Wn => x.part = i) z0))) ∧ Chg (fun _ => False) w w' := by
  have hix := partIdx i b v L w h hclo
  have HIX := Lib.hid hix; clear hix hclo h
  go_enter Try.func158, Try.ntmps158
  go_wp2_with fail
  refine HIX.out.mono ?_
  rintro e w1 ⟨⟨r, rfl, hr⟩, hC⟩
  have hb := hr.has
  have HB := Lib.hid hb; clear hb hr
  go_wp2_with fail
  go_ret
  exact ⟨by rw [← HB.out]; exact retB (by first | rfl | simp [Bool.eq_iff_iff]), hC⟩

set_option maxRecDepth 100000 in
set_option maxHeartbeats 2000000 in
theorem cParts (b : Nat) (C : Cf) (s : Vs) (w : World) (h : CfP w b C s) :
    Calls Try.prog 113 #[.pointer (some ⟨b, 0, none⟩)] w fun e w' => e = .returned (.bool (decide (PartsOk C))) ∧ Chg (fun _ => False) w w' := by
  have hk : ∀ {wr}, Chg (fun _ => False) w wr → CfP wr b C s := fun hC => h.keepN hC
  obtain ⟨A1, k1, A2, k2, A3, k3, A4, k4, rfl, m1, m2, m3, m4⟩ := h.open
  have cAll : ∀ {wr}, Chg (fun _ => False) w wr → wr.cell? ⟨b, 1, none⟩ = some (.slice A1 C.parts.length k1) ∧ wr.cell? ⟨b, 4, none⟩ = some (.slice A3 C.wins.length k3) := fun hC => ⟨(h.keepN hC).cell 1, (h.keepN hC).cell 4⟩
  obtain ⟨c1, c4⟩ := cAll (Chg.refl _ w)
  have HK : Hid (∀ wr, Chg (fun _ => False) w wr → RdP wr (.slice A1 C.parts.length k1) C.parts ∧ RdW wr (.slice A3 C.wins.length k3) C.wins) := fun wr hC => ⟨(h.keepN hC).2.1, (h.keepN hC).2.2.2.1⟩
  have CA : Hid (∀ wr, Chg (fun _ => False) w wr → wr.cell? ⟨b, 1, none⟩ = some (.slice A1 C.parts.length k1) ∧ wr.cell? ⟨b, 4, none⟩ = some (.slice A3 C.wins.length k3)) := fun wr hC => cAll hC
  clear h hk cAll
  go_enter Try.func113, Try.ntmps113
  go_wp2_with fail
  go_loopw [11] (fun s wr => ∃ j : Nat, j ≤ C.parts.length ∧ s = .int .i64 j ∧ (∀ k (hk : k < C.parts.length), k < j → PartOk C k C.parts[k]) ∧ Chg (fun _ => False) w wr) (fun s _ => C.parts.length - (intOf s).toNat)
  case atStart => exact ⟨0, by omega, rfl, by intro k hk h; omega, Chg.refl _ _⟩
  case round =>
    clear c1 c4
    obtain ⟨j, hj, rfl, hall, hC⟩ := hrel
    have j0 : (0 : Int) ≤ j := by omega
    by_cases hlt : j < C.parts.length
    · have j1 : (j : Int) < C.parts.length := by omega
      obtain ⟨_, A', c', hv, hel⟩ := (HK.out wr hC).1
      injection hv with e1 e2 e3
      subst e1 e3
      obtain ⟨g, o, F, rfl, a0, a1, a2, a3, a4, hF⟩ := hel j hlt
      obtain ⟨hfm, FA, fc, rfl⟩ := hF.form
      have hfm' : (C.parts[j].fr.length : Int) ≤ 9223372036854775807 := by unfold maxLen at hfm; omega
      have hp2 : Hid (PartOk C j C.parts[j] ↔ (LabP C.parts[j].lv C.parts[j].cats ∧ 1 ≤ C.parts[j].fr.length ∧ ∃ x ∈ C.wins, x.part = (j : Int))) := Iff.rfl
      clear hel hF
      have hA : Chg (fun _ => False) wr ((wr.alloc (.cells #[.int .i64 j] 3)).alloc (.cells #[.int .i64 C.parts[j].lv, .int .i64 C.parts[j].cats, .slice FA C.parts[j].fr.length fc, .int .i64 C.parts[j].first, .int .i64 C.parts[j].count] 40)) := ((Chg.refl _ _).alloc _).alloc _
      have hb1 := blk_new2 wr (.cells #[.int .i64 j] 3) (.cells #[.int .i64 C.parts[j].lv, .int .i64 C.parts[j].cats, .slice FA C.parts[j].fr.length fc, .int .i64 C.parts[j].first, .int .i64 C.parts[j].count] 40)
      have hb0 : ((wr.alloc (.cells #[.int .i64 j] 3)).alloc (.cells #[.int .i64 C.parts[j].lv, .int .i64 C.parts[j].cats, .slice FA C.parts[j].fr.length fc, .int .i64 C.parts[j].first, .int .i64 C.parts[j].count] 40)).heap[wr.heap.size]? = some (.cells #[.int .i64 j] 3 (0, 0)) := ((Chg.refl (fun _ => False) _).alloc _).at (blk_new wr (.cells #[.int .i64 j] 3)) id
      have HB0 := Lib.hid hb0; clear hb0
      have HB1 := Lib.hid hb1; clear hb1
      have HA := Lib.hid hA; clear hA
      have HC := Lib.hid hC; clear hC
      have HALL := Lib.hid hall; clear hall hfm
      generalize C.parts[j].lv = lv at *
      generalize C.parts[j].cats = cats at *
      generalize hnf : C.parts[j].fr.length = nf at *
      go_wp2_with fail
      refine (latMay _ _ _).mono ?_
      rintro e w1 ⟨rfl, hC1⟩
      have c1 := blk_cell (hC1.at HB1.out id) 2
      have HC1 := Lib.hid (HA.out.trans hC1)
      have hi1 := blk_cell (hC1.at HB0.out id) 0
      have HI1 := Lib.hid hi1; clear hi1 hC1
      by_cases hL : LabP lv cats
      · rw [decide_eq_true hL]
        by_cases hn1 : 1 ≤ nf
        · have hn2 : decide ((nf : Int) < 1) = false := decide_eq_false (by omega)
          obtain ⟨_, c4⟩ := CA.out w1 (HC.out.trans HC1.out)
          have hws := (HK.out w1 (HC.out.trans HC1.out)).2
          have hh := partHas (j : Int) wr.heap.size _ C.wins w1 hws (fun i hi W hCW => partClo (j : Int) wr.heap.size _ _ _ _ W (hCW.cell HI1.out id))
          have HH := Lib.hid hh; clear hh hws
          go_wp2_with fail
          refine HH.out.mono ?_
          rintro e w2 ⟨rfl, hC2⟩
          have HC2 := Lib.hid (HC.out.trans (HC1.out.trans hC2)); clear hC2
          clear c1 c4 HC HC1 HI1 HH a0 a1 a2 a3 a4 HA HB0 HB1
          by_cases hw : ∃ x ∈ C.wins, x.part = (j : Int)
          · rw [decide_eq_true hw]
            have hok := hp2.out.2 ⟨hL, hn1, hw⟩
            have HN : Hid (∀ k (hk : k < C.parts.length), k < j + 1 → PartOk C k C.parts[k]) := fun k hk hkj => by
              by_cases e : k = j
              · subst e; exact hok
              · exact HALL.out k hk (by omega)
            clear hw hok hL HALL hp2
            go_wp2_with fail
            go_roundw
            case rel => exact ⟨j + 1, by omega, by go_num, HN.out, HC2.out⟩
            case measure => simp [intOf]; omega
          · rw [decide_eq_false hw]
            have hno : ¬ PartsOk C := fun h => hw (hp2.out.1 (h.1 j hlt)).2.2
            have HNO := Lib.hid hno; clear hno hw hL HALL hp2
            go_wp2_with fail
            go_ret
            exact ⟨retB (decide_eq_false HNO.out).symm, HC2.out⟩
        · have hn2 : decide ((nf : Int) < 1) = true := decide_eq_true (by omega)
          have hno : ¬ PartsOk C := fun h => hn1 (hp2.out.1 (h.1 j hlt)).2.1
          have HNO := Lib.hid hno; clear hno hL HALL hp2 hn1
          have HC2 := Lib.hid (HC.out.trans HC1.out); clear HC HC1
          go_wp2_with fail
          go_ret
          exact ⟨retB (decide_eq_false HNO.out).symm, HC2.out⟩
      · rw [decide_eq_false hL]
        have hno : ¬ PartsOk C := fun h => hL (hp2.out.1 (h.1 j hlt)).1
        have HNO := Lib.hid hno; clear hno hL HALL hp2
        have HC2 := Lib.hid (HC.out.trans HC1.out); clear HC HC1
        go_wp2_with fail
        go_ret
        exact ⟨retB (decide_eq_false HNO.out).symm, HC2.out⟩
    · obtain rfl : j = C.parts.length := by omega
      have hf : Hid (PartsOk C ↔ (1 ≤ C.parts.length ∧ C.parts.length ≤ 4)) := ⟨fun h => h.2, fun h => ⟨fun k hk => hall k hk hk, h⟩⟩
      obtain ⟨c1, _⟩ := CA.out wr hC
      have HC := Lib.hid hC; clear hC hall hlt hj
      clear HK CA
      by_cases h1 : 1 ≤ C.parts.length
      · have h1' : (1 : Int) ≤ C.parts.length := by omega
        by_cases h2 : C.parts.length ≤ 4
        · have h2' : (C.parts.length : Int) ≤ 4 := by omega
          go_wp2_with fail
          go_ret
          exact ⟨retB (decide_eq_true (hf.out.2 ⟨h1, h2⟩)).symm, HC.out⟩
        · have h2' : decide ((C.parts.length : Int) ≤ 4) = false := decide_eq_false (by omega)
          go_wp2_with fail
          go_ret
          exact ⟨retB (decide_eq_false (fun h => h2 (hf.out.1 h).2)).symm, HC.out⟩
      · have h1' : decide ((1 : Int) ≤ C.parts.length) = false := decide_eq_false (by omega)
        go_wp2_with fail
        go_ret
        exact ⟨retB (decide_eq_false (fun h => h1 (hf.out.1 h).1)).symm, HC.out⟩
end Go.Proofs.Ytncbcjjdnlmjbaa
