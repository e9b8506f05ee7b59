/- Configs: may shares be? Numbers, windows. Printed by mkcfge.py. -/
import Derived.Test.YtncbcjjdnlmjbaaCfgD
import Derived.StillTailTactics
set_option linter.unusedSimpArgs false
set_option linter.unusedVariables false
namespace Go.Proofs.Ytncbcjjdnlmjbaa
open Go.RowKit

set_option maxRecDepth 100000 in
theorem cWindows (b : Nat) (C : Cf) (s : Vs) (w : World) (h : CfP w b C s) :
    Calls Try.prog 116 #[.pointer (some ⟨b, 0, none⟩)] w fun e w' => e = .returned (.bool (decide (WinsOk C.wins C.major C.parts.length))) ∧ Chg (fun _ => False) w w' := by
  have hM := schMay s.ws C.wins C.major C.parts.length w.drew (h.keepN ((Chg.refl _ _).drew)).2.2.2.1
  obtain ⟨A1, k1, A2, k2, A3, k3, A4, k4, rfl, m1, m2, m3, m4⟩ := h.open
  have c1 : w.cell? ⟨b, 1, none⟩ = some (.slice A1 C.parts.length k1) := h.cell 1
  have c3 : w.cell? ⟨b, 3, none⟩ = some (.int .i64 C.major) := h.cell 3
  have c4 : w.cell? ⟨b, 4, none⟩ = some (.slice A3 C.wins.length k3) := h.cell 4
  have HM := Lib.hid hM; clear hM h
  go_enter Try.func116, Try.ntmps116
  go_wp2_with fail
  go_still_tail 13, (by kernel_rfl)
  change wpList _ _ _ _ _ w.drew
  go_wp2_with fail
  refine HM.out.mono ?_
  rintro e w1 ⟨rfl, hC⟩
  have HC := Lib.hid (((Chg.refl _ w).drew).trans hC); clear hC
  go_wp2_with fail
  go_ret
  exact ⟨rfl, HC.out⟩

set_option maxRecDepth 100000 in
set_option maxHeartbeats 2000000 in
theorem extApart (g oa ob : Nat) (a b : Prt) (w : World) (a0 : w.cell? ⟨g, oa + 3, none⟩ = some (.int .i64 a.first)) (a1 : w.cell? ⟨g, oa + 4, none⟩ = some (.int .i64 a.count)) (b0 : w.cell? ⟨g, ob + 3, none⟩ = some (.int .i64 b.first)) (b1 : w.cell? ⟨g, ob + 4, none⟩ = some (.int .i64 b.count))
    (a2 : 0 ≤ a.first) (a3 : 0 ≤ a.count) (a4 : a.first + a.count ≤ 64) (b2 : 0 ≤ b.first) (b3 : 0 ≤ b.count) (b4 : b.first + b.count ≤ 64) :
    Calls Try.prog 183 #[.pointer (some ⟨g, oa, none⟩), .pointer (some ⟨g, ob, none⟩)] w fun e w' => e = .returned (.bool (decide (ExtApart a b))) ∧ ∃ m, w' = w.drewN m := by
  have HE : Hid (ExtApart a b ↔ (a.count = 0 ∨ b.count = 0 ∨ a.first + a.count ≤ b.first ∨ b.first + b.count ≤ a.first)) := Iff.rfl
  generalize a.first = af at *
  generalize a.count = ac at *
  generalize b.first = bf at *
  generalize b.count = bc at *
  by_cases h0 : ac = 0
  · have HY : Hid (ExtApart a b) := HE.out.2 (.inl h0)
    have q0 : (ac == 0) = true := by simpa using h0
    clear HE h0
    go_enter Try.func183, Try.ntmps183
    go_wp2_with fail
    go_quiet (fail)
    rename_i nq
    go_wp2_with fail
    go_ret
    exact ⟨retB (decide_eq_true HY.out).symm, nq, rfl⟩
  · have q0 : (ac == 0) = false := by simpa using h0
    by_cases h1 : bc = 0
    · have HY : Hid (ExtApart a b) := HE.out.2 (.inr (.inl h1))
      have q1 : (bc == 0) = true := by simpa using h1
      clear HE h1
      go_enter Try.func183, Try.ntmps183
      go_wp2_with fail
      go_quiet (fail)
      rename_i nq
      go_wp2_with fail
      go_ret
      exact ⟨retB (decide_eq_true HY.out).symm, nq, rfl⟩
    · have q1 : (bc == 0) = false := by simpa using h1
      by_cases h2 : af + ac ≤ bf
      · have HY : Hid (ExtApart a b) := HE.out.2 (.inr (.inr (.inl h2)))
        have q2 : decide (af + ac ≤ bf) = true := decide_eq_true h2
        clear HE
        go_enter Try.func183, Try.ntmps183
        go_wp2_with fail
        go_quiet (fail)
        rename_i nq
        go_wp2_with fail
        go_ret
        exact ⟨retB (decide_eq_true HY.out).symm, nq, rfl⟩
      · have q2 : decide (af + ac ≤ bf) = false := decide_eq_false h2
        by_cases h3 : bf + bc ≤ af
        · have HY : Hid (ExtApart a b) := HE.out.2 (.inr (.inr (.inr h3)))
          clear HE
          go_enter Try.func183, Try.ntmps183
          go_wp2_with fail
          go_quiet (fail)
          rename_i nq
          go_wp2_with fail
          go_ret
          exact ⟨retB (decide_eq_true HY.out).symm, nq, rfl⟩
        · have HNO : Hid (¬ ExtApart a b) := fun h => by rcases HE.out.1 h with h | h | h | h <;> contradiction
          have q3 : decide (bf + bc ≤ af) = false := decide_eq_false h3
          clear HE
          go_enter Try.func183, Try.ntmps183
          go_wp2_with fail
          go_quiet (fail)
          rename_i nq
          go_wp2_with fail
          go_ret
          exact ⟨retB (decide_eq_false HNO.out).symm, nq, rfl⟩

set_option maxRecDepth 100000 in
set_option maxHeartbeats 4000000 in
theorem extMay_in (v : Value) (ps : List Prt) (sec : Int) (w : World) (h : RdP w v ps) (h0 : 1 ≤ ps.length) (h1 : ps.length ≤ 4) (h2 : 0 ≤ sec) (h3 : sec ≤ 64) :
    Calls Try.prog 163 #[v, .int .i64 sec] w fun e w' => e = .returned (.bool (decide (ExtOk ps sec))) ∧ Chg (fun _ => False) w w' := by
  have hf : Hid (ExtOk ps sec ↔ ∀ i (h : i < ps.length), ExtAt ps sec i ps[i]) := ⟨fun h => h.2.2.2.2, fun h => ⟨h0, h1, h2, h3, h⟩⟩
  obtain ⟨A, c, rfl⟩ : ∃ A c, v = .slice A ps.length c := by obtain ⟨_, A, c, e, _⟩ := h; exact ⟨A, c, e⟩
  have HR := Lib.hid h; clear h
  have n4 : decide ((ps.length : Int) < 1) = false := decide_eq_false (by omega)
  have n5 : decide ((4 : Int) < ps.length) = false := decide_eq_false (by omega)
  have hm : (ps.length : Int) ≤ 4 := by omega
  go_enter Try.func163, Try.ntmps163
  go_wp2_with fail
  go_loopw [25] (fun s wr => ∃ j : Nat, j ≤ ps.length ∧ s = .int .i64 j ∧ (∀ k (hk : k < ps.length), k < j → ExtAt ps sec k ps[k]) ∧ Chg (fun _ => False) w wr) (fun s _ => ps.length - (intOf s).toNat)
  case atStart => exact ⟨0, by omega, rfl, by intro k hk h; omega, Chg.refl _ _⟩
  case round =>
    obtain ⟨j, hj, rfl, hall, hC⟩ := hrel
    have j0 : (0 : Int) ≤ j := by omega
    by_cases hlt : j < ps.length
    · have j1 : (j : Int) < ps.length := by omega
      obtain ⟨_, A', c', hv, hel⟩ := HR.out.keepN hC
      injection hv with e1 e2 e3
      subst e1 e3
      obtain ⟨g, o, F, rfl, _, _, _, a3, a4, _⟩ := hel j hlt
      have HEL : Hid (∀ k (hk : k < ps.length), wr.cell? ⟨g, o + k * 5 + 3, none⟩ = some (.int .i64 ps[k].first) ∧ wr.cell? ⟨g, o + k * 5 + 4, none⟩ = some (.int .i64 ps[k].count)) := fun k hk => by
        obtain ⟨g', o', F', e, _, _, _, b3, b4, _⟩ := hel k hk
        injection e with e; injection e with e1 e2 e3
        subst e1 e2
        exact ⟨b3, b4⟩
      clear hel
      have HALL := Lib.hid hall; clear hall
      have HC := Lib.hid hC; clear hC
      by_cases hr : RunP ps[j].first ps[j].count sec
      · have hrd := decide_eq_true hr
        go_wp2_with fail
        go_quiet ((go_at_call 96; exact Calls.quiet_of_same (addrMay _ _ _ _ (by omega))))
        rename_i nq
        rw [hrd]
        obtain ⟨wq, hwq⟩ : ∃ wq, wq = wr.drewN nq := ⟨_, rfl⟩
        rw [← hwq]
        have HQ := Lib.hid (HC.out.trans (show Chg (fun _ => False) wr wq from by rw [hwq]; exact (Chg.refl _ _).drewN nq))
        have HEQ : Hid (∀ k (hk : k < ps.length), wq.cell? ⟨g, o + k * 5 + 3, none⟩ = some (.int .i64 ps[k].first) ∧ wq.cell? ⟨g, o + k * 5 + 4, none⟩ = some (.int .i64 ps[k].count)) := fun k hk => by
          rw [hwq]
          exact ⟨((Chg.refl (fun _ => False) _).drewN nq).cell (HEL.out k hk).1 id, ((Chg.refl (fun _ => False) _).drewN nq).cell (HEL.out k hk).2 id⟩
        have HPR := Lib.hid hr
        clear a3 a4 hr hrd hwq HEL HC
        go_wp2_with fail
        go_loopw [42] (fun s w3 => ∃ k : Nat, k ≤ j ∧ s = .int .i64 k ∧ (∀ i (hi : i < ps.length), i < k → ExtApart ps[j] ps[i]) ∧ Chg (fun _ => False) wq w3) (fun s _ => j - (intOf s).toNat)
        case atStart => exact ⟨0, by omega, rfl, by intro k hk h; omega, Chg.refl _ _⟩
        case round =>
          obtain ⟨k, hk, rfl, hap, hD⟩ := hrel
          have k0 : (0 : Int) ≤ k := by omega
          have HAP := Lib.hid hap; clear hap
          by_cases hkl : k < j
          · have k1 : (k : Int) < j := by omega
            have k2 : (k : Int) < ps.length := by omega
            have hka : k < ps.length := by omega
            have HX : Hid (∀ n, Calls Try.prog 183 #[.pointer (some ⟨g, o + j * 5, none⟩), .pointer (some ⟨g, o + k * 5, none⟩)] (wr.drewN n) fun e w' => e = .returned (.bool (decide (ExtApart ps[j] ps[k]))) ∧ ∃ m, w' = (wr.drewN n).drewN m) := fun n => by
              obtain ⟨x1, x2, x3, x4, x5⟩ := HPR.out
              obtain ⟨y1, y2, y3, y4, y5⟩ := (HALL.out k hka hkl).1
              exact extApart g _ _ ps[j] ps[k] (wr.drewN n) ((hD.drewN n).cell (HEQ.out j hlt).1 id) ((hD.drewN n).cell (HEQ.out j hlt).2 id) ((hD.drewN n).cell (HEQ.out k hka).1 id) ((hD.drewN n).cell (HEQ.out k hka).2 id) x1 x2 (by omega) y1 y2 (by omega)
            have HD := Lib.hid hD; clear hD
            by_cases hx : ExtApart ps[j] ps[k]
            · rw [decide_eq_true hx] at HX
              have HN : Hid (∀ i (hi : i < ps.length), i < k + 1 → ExtApart ps[j] ps[i]) := fun i hi hik => by
                by_cases e : i = k
                · subst e; exact hx
                · exact HAP.out i hi (by omega)
              clear hx HAP
              go_wp2_with fail
              go_quiet ((go_at_call 183; exact Calls.quiet_of (HX.out _)))
              rename_i nr
              go_wp2_with fail
              go_roundw
              case rel => exact ⟨k + 1, by omega, by go_num, HN.out, HD.out.drewN _⟩
              case measure => simp [intOf]; omega
            · rw [decide_eq_false hx] at HX
              have HNO : Hid (¬ ExtOk ps sec) := fun h => hx ((hf.out.1 h j hlt).2 k hka hkl)
              clear hx HAP
              go_wp2_with fail
              go_quiet ((go_at_call 183; exact Calls.quiet_of (HX.out _)))
              rename_i nr
              go_wp2_with fail
              go_ret
              exact ⟨retB (decide_eq_false HNO.out).symm, HQ.out.trans (HD.out.drewN _)⟩
          · obtain rfl : k = j := by omega
            have HN : Hid (∀ i (hi : i < ps.length), i < k + 1 → ExtAt ps sec i ps[i]) := fun i hi hik => by
              by_cases e : i = k
              · subst e; exact ⟨HPR.out, fun q hq hqi => HAP.out q hq hqi⟩
              · exact HALL.out i hi (by omega)
            have HD := Lib.hid hD; clear hD HAP hkl
            go_wp2_with fail
            go_roundw
            case rel => exact ⟨k + 1, by omega, by go_num, HN.out, HQ.out.trans HD.out⟩
            case measure => simp [intOf]; omega
      · have hrd := decide_eq_false hr
        have HNO : Hid (¬ ExtOk ps sec) := fun h => hr (hf.out.1 h j hlt).1
        clear hr
        go_wp2_with fail
        go_quiet ((go_at_call 96; exact Calls.quiet_of_same (addrMay _ _ _ _ (by omega))))
        rename_i nq
        rw [hrd]
        go_wp2_with fail
        go_ret
        exact ⟨retB (decide_eq_false HNO.out).symm, HC.out.drewN _⟩
    · obtain rfl : j = ps.length := by omega
      have HOK : Hid (ExtOk ps sec) := hf.out.2 (fun k hk => hall k hk hk)
      have HC := Lib.hid hC; clear hC hall hlt hj
      go_wp2_with fail
      go_ret
      exact ⟨retB (decide_eq_true HOK.out).symm, HC.out⟩
set_option maxRecDepth 100000 in
set_option maxHeartbeats 2000000 in
theorem extMay (v : Value) (ps : List Prt) (sec : Int) (w : World) (h : RdP w v ps) :
    Calls Try.prog 163 #[v, .int .i64 sec] w fun e w' => e = .returned (.bool (decide (ExtOk ps sec))) ∧ Chg (fun _ => False) w w' := by
  by_cases h0 : 1 ≤ ps.length
  · by_cases h1 : ps.length ≤ 4
    · by_cases h2 : 0 ≤ sec
      · by_cases h3 : sec ≤ 64
        · exact extMay_in v ps sec w h h0 h1 h2 h3
        · have HNO : Hid (¬ ExtOk ps sec) := fun h => h3 h.2.2.2.1
          obtain ⟨hm, A, c, rfl, hel⟩ := h
          clear hel
          have n0 : decide ((ps.length : Int) < 1) = false := decide_eq_false (by omega)
          have n1 : decide ((4 : Int) < ps.length) = false := decide_eq_false (by omega)
          go_enter Try.func163, Try.ntmps163
          go_wp2_with fail
          go_ret
          exact ⟨retB (decide_eq_false HNO.out).symm, Chg.refl _ _⟩
      · have HNO : Hid (¬ ExtOk ps sec) := fun h => h2 h.2.2.1
        obtain ⟨hm, A, c, rfl, hel⟩ := h
        clear hel
        have n0 : decide ((ps.length : Int) < 1) = false := decide_eq_false (by omega)
        have n1 : decide ((4 : Int) < ps.length) = false := decide_eq_false (by omega)
        go_enter Try.func163, Try.ntmps163
        go_wp2_with fail
        go_ret
        exact ⟨retB (decide_eq_false HNO.out).symm, Chg.refl _ _⟩
    · have HNO : Hid (¬ ExtOk ps sec) := fun h => h1 h.2.1
      obtain ⟨hm, A, c, rfl, hel⟩ := h
      clear hel
      have n0 : decide ((ps.length : Int) < 1) = false := decide_eq_false (by omega)
      have n1 : decide ((4 : Int) < ps.length) = true := decide_eq_true (by omega)
      go_enter Try.func163, Try.ntmps163
      go_wp2_with fail
      go_ret
      exact ⟨retB (decide_eq_false HNO.out).symm, Chg.refl _ _⟩
  · have HNO : Hid (¬ ExtOk ps sec) := fun h => h0 h.1
    obtain ⟨hm, A, c, rfl, hel⟩ := h
    clear hel
    have n0 : decide ((ps.length : Int) < 1) = true := decide_eq_true (by omega)
    go_enter Try.func163, Try.ntmps163
    go_wp2_with fail
    go_ret
    exact ⟨retB (decide_eq_false HNO.out).symm, Chg.refl _ _⟩
set_option maxRecDepth 100000 in
set_option maxHeartbeats 2000000 in
theorem cNumbers (b : Nat) (C : Cf) (s : Vs) (w : World) (h : CfP w b C s) :
    Calls Try.prog 118 #[.pointer (some ⟨b, 0, none⟩)] w fun e w' => e = .returned (.bool (decide (NumsOk C))) ∧ Chg (fun _ => False) w w' := by
  have HM : Hid (∀ wr, Chg (fun _ => False) w wr → Calls Try.prog 163 #[s.ps, .int .i64 C.sectors] wr fun e w' => e = .returned (.bool (decide (ExtOk C.parts C.sectors))) ∧ Chg (fun _ => False) wr w') := fun wr hC => extMay s.ps C.parts C.sectors wr (h.keepN hC).2.1
  have HP : Hid (∀ wr, Chg (fun _ => False) w wr → CfP wr b C s) := fun wr hC => h.keepN hC
  obtain ⟨A1, k1, A2, k2, A3, k3, A4, k4, rfl, m1, m2, m3, m4⟩ := h.open
  have c1 : w.cell? ⟨b, 1, none⟩ = some (.slice A1 C.parts.length k1) := h.cell 1
  have c6 : w.cell? ⟨b, 6, none⟩ = some (.int .i64 C.sectors) := h.cell 6
  clear h
  go_enter Try.func118, Try.ntmps118
  go_wp2_with fail
  go_still_tail 8, (by kernel_rfl)
  change wpList _ _ _ _ _ w.drew
  go_wp2_with fail
  refine (HM.out _ ((Chg.refl _ _).drew)).mono ?_
  rintro e w1 ⟨rfl, hC⟩
  have HC := Lib.hid (((Chg.refl _ w).drew).trans hC); clear hC
  have c7 : w1.cell? ⟨b, 7, none⟩ = some (.int .i64 C.quota) := (HP.out w1 HC.out).cell 7
  have c8 : w1.cell? ⟨b, 8, none⟩ = some (.int .i64 C.quiet) := (HP.out w1 HC.out).cell 8
  clear c1 c6 HM
  by_cases hE : ExtOk C.parts C.sectors
  · rw [decide_eq_true hE]
    by_cases h0 : 0 ≤ C.quota
    · by_cases h1 : C.quota ≤ 64
      · by_cases h2 : 1 ≤ C.quiet
        · by_cases h3 : C.quiet ≤ 8
          · have HY : Hid (NumsOk C) := ⟨hE, h0, h1, h2, h3⟩
            clear hE
            go_wp2_with fail
            go_ret
            exact ⟨retB (decide_eq_true HY.out).symm, HC.out⟩
          · have HNO : Hid (¬ NumsOk C) := fun h => h3 h.2.2.2.2
            have d3 : decide (C.quiet ≤ 8) = false := decide_eq_false h3
            clear hE
            go_wp2_with fail
            go_ret
            exact ⟨retB (decide_eq_false HNO.out).symm, HC.out⟩
        · have HNO : Hid (¬ NumsOk C) := fun h => h2 h.2.2.2.1
          have d2 : decide (1 ≤ C.quiet) = false := decide_eq_false h2
          clear hE
          go_wp2_with fail
          go_ret
          exact ⟨retB (decide_eq_false HNO.out).symm, HC.out⟩
      · have HNO : Hid (¬ NumsOk C) := fun h => h1 h.2.2.1
        have d1 : decide (C.quota ≤ 64) = false := decide_eq_false h1
        clear hE
        go_wp2_with fail
        go_ret
        exact ⟨retB (decide_eq_false HNO.out).symm, HC.out⟩
    · have HNO : Hid (¬ NumsOk C) := fun h => h0 h.2.1
      have d0 : decide (0 ≤ C.quota) = false := decide_eq_false h0
      clear hE
      go_wp2_with fail
      go_ret
      exact ⟨retB (decide_eq_false HNO.out).symm, HC.out⟩
  · rw [decide_eq_false hE]
    have HNO : Hid (¬ NumsOk C) := fun h => hE h.1
    clear hE
    go_wp2_with fail
    go_ret
    exact ⟨retB (decide_eq_false HNO.out).symm, HC.out⟩
end Go.Proofs.Ytncbcjjdnlmjbaa
