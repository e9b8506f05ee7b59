/- Configs: may devices be, windows? Printed by mkcfgd.py. -/
import Derived.Test.YtncbcjjdnlmjbaaCfgC
set_option linter.unusedSimpArgs false
set_option linter.unusedVariables false
namespace Go.Proofs.Ytncbcjjdnlmjbaa
open Go.RowKit

set_option maxRecDepth 100000 in
set_option maxHeartbeats 2000000 in
theorem cDevices (b : Nat) (C : Cf) (s : Vs) (w : World) (h : CfP w b C s) :
    Calls Try.prog 114 #[.pointer (some ⟨b, 0, none⟩)] w fun e w' => e = .returned (.bool (decide (DevsOk C))) ∧ Chg (fun _ => False) w w' := by
  have HP : Hid (∀ wr, Chg (fun _ => False) w wr → CfP wr b C s) := fun wr hC => h.keepN hC
  obtain ⟨A1, k1, A2, k2, A3, k3, A4, k4, rfl, m1, m2, m3, m4⟩ := h.open
  have CA : Hid (∀ wr, Chg (fun _ => False) w wr → wr.cell? ⟨b, 2, none⟩ = some (.slice A2 C.devs.length k2)) := fun wr hC => (h.keepN hC).cell 2
  have c2 := CA.out w (Chg.refl _ _)
  clear h
  go_enter Try.func114, Try.ntmps114
  go_wp2_with fail
  go_loopw [10] (fun s wr => ∃ j : Nat, j ≤ C.devs.length ∧ s = .int .i64 j ∧ (∀ k (hk : k < C.devs.length), k < j → DevOk C C.devs[k]) ∧ Chg (fun _ => False) w wr) (fun s _ => C.devs.length - (intOf s).toNat)
  case atStart => exact ⟨0, by omega, rfl, by intro k hk h; omega, Chg.refl _ _⟩
  case round =>
    clear c2
    obtain ⟨j, hj, rfl, hall, hC⟩ := hrel
    have j0 : (0 : Int) ≤ j := by omega
    by_cases hlt : j < C.devs.length
    · have j1 : (j : Int) < C.devs.length := by omega
      obtain ⟨_, A', c', hv, hel⟩ := (HP.out wr hC).2.2.1
      injection hv with e1 e2 e3
      subst e1 e3
      obtain ⟨g, o, F, rfl, a0, a1, hF⟩ := hel j hlt
      obtain ⟨hfm, FA, fc, rfl⟩ := hF.form
      have hfm' : (C.devs[j].pool.length : Int) ≤ 9223372036854775807 := by unfold maxLen at hfm; omega
      have hp2 : Hid (DevOk C C.devs[j] ↔ (C.there C.devs[j].part ∧ 2 ≤ C.devs[j].pool.length ∧ C.devs[j].pool.length ≤ 5)) := Iff.rfl
      clear hel hF
      have hA : Chg (fun _ => False) wr (wr.alloc (.cells #[.int .i64 C.devs[j].part, .slice FA C.devs[j].pool.length fc] 42)) := (Chg.refl _ _).alloc _
      have ht := cThere b C.devs[j].part C _ _ (HP.out _ (hC.trans hA))
      have HT := Lib.hid ht; clear ht
      have HA := Lib.hid (hC.trans hA); clear hA hC
      have HALL := Lib.hid hall; clear hall hfm
      generalize C.devs[j].part = pa at *
      generalize hnf : C.devs[j].pool.length = nf at *
      go_wp2_with fail
      refine HT.out.mono ?_
      rintro e w1 ⟨rfl, rfl⟩
      clear HT
      by_cases hL : C.there pa
      · rw [decide_eq_true hL]
        by_cases hn1 : 2 ≤ nf
        · have hn2 : decide ((nf : Int) < 2) = false := decide_eq_false (by omega)
          by_cases hn3 : nf ≤ 5
          · have hn4 : decide ((5 : Int) < nf) = false := decide_eq_false (by omega)
            have HN : Hid (∀ k (hk : k < C.devs.length), k < j + 1 → DevOk C C.devs[k]) := fun k hk hkj => by
              by_cases e : k = j
              · subst e; exact hp2.out.2 ⟨hL, hn1, hn3⟩
              · exact HALL.out k hk (by omega)
            clear hL HALL hp2
            go_wp2_with fail
            go_roundw
            case rel => exact ⟨j + 1, by omega, by go_num, HN.out, HA.out⟩
            case measure => simp [intOf]; omega
          · have hn4 : decide ((5 : Int) < nf) = true := decide_eq_true (by omega)
            have HNO : Hid (¬ DevsOk C) := fun h => hn3 (hp2.out.1 (h.1 j hlt)).2.2
            clear hL HALL hp2
            go_wp2_with fail
            go_ret
            exact ⟨retB (decide_eq_false HNO.out).symm, HA.out⟩
        · have hn2 : decide ((nf : Int) < 2) = true := decide_eq_true (by omega)
          have HNO : Hid (¬ DevsOk C) := fun h => hn1 (hp2.out.1 (h.1 j hlt)).2.1
          clear hL HALL hp2
          go_wp2_with fail
          go_ret
          exact ⟨retB (decide_eq_false HNO.out).symm, HA.out⟩
      · rw [decide_eq_false hL]
        have HNO : Hid (¬ DevsOk C) := fun h => hL (hp2.out.1 (h.1 j hlt)).1
        clear hL HALL hp2
        go_wp2_with fail
        go_ret
        exact ⟨retB (decide_eq_false HNO.out).symm, HA.out⟩
    · obtain rfl : j = C.devs.length := by omega
      have hf : Hid (DevsOk C ↔ (1 ≤ C.devs.length ∧ C.devs.length ≤ 4)) := ⟨fun h => h.2, fun h => ⟨fun k hk => hall k hk hk, h⟩⟩
      have c2 := CA.out wr hC
      have HC := Lib.hid hC; clear hC hall hlt hj
      clear HP CA
      by_cases h1 : 1 ≤ C.devs.length
      · have h1' : (1 : Int) ≤ C.devs.length := by omega
        by_cases h2 : C.devs.length ≤ 4
        · have h2' : (C.devs.length : Int) ≤ 4 := by omega
          go_wp2_with fail
          go_ret
          exact ⟨retB (decide_eq_true (hf.out.2 ⟨h1, h2⟩)).symm, HC.out⟩
        · have h2' : decide ((C.devs.length : Int) ≤ 4) = false := decide_eq_false (by omega)
          go_wp2_with fail
          go_ret
          exact ⟨retB (decide_eq_false (fun h => h2 (hf.out.1 h).2)).symm, HC.out⟩
      · have h1' : decide ((1 : Int) ≤ C.devs.length) = false := decide_eq_false (by omega)
        go_wp2_with fail
        go_ret
        exact ⟨retB (decide_eq_false (fun h => h1 (hf.out.1 h).1)).symm, HC.out⟩
theorem RdW.take {w : World} {A : Option Addr} {n c : Nat} {L : List Wn} (h : RdW w (.slice A n c) L) {k : Nat} (hk : k ≤ L.length) : RdW w (.slice A k c) (L.take k) := by
  obtain ⟨hm, A', c', e, h⟩ := h
  injection e with e1 e2 e3
  subst e1 e3
  have hl : (L.take k).length = k := by simp; omega
  refine ⟨⟨by have := hm.1; omega, fun A' n' c' e => by injection e with e1 e2 e3; have := hm.2 _ _ _ rfl; omega⟩, A, c, by rw [hl], fun j hj => ?_⟩
  have hg : (L.take k)[j] = L[j]'(by omega) := by simp
  rw [hg]
  exact h j (by omega)
theorem schClo (x : Wn) (b : Nat) (v : Wn) (w : World) (c0 : w.cell? ⟨b, 0, none⟩ = some (.int .i64 x.part)) (c1 : w.cell? ⟨b, 1, none⟩ = some (.int .i64 x.start)) (c2 : w.cell? ⟨b, 2, none⟩ = some (.int .i64 x.len)) (c3 : w.cell? ⟨b, 3, none⟩ = some (.int .i64 x.deliver))
    (a0 : 0 ≤ v.start) (a1 : v.start + v.len ≤ 64) (a2 : 1 ≤ v.len) (b0 : 0 ≤ x.start) (b1 : x.start + x.len ≤ 64) (b2 : 1 ≤ x.len) :
    Calls Try.prog 178 (#[.agg #[.int .i64 v.part, .int .i64 v.start, .int .i64 v.len, .int .i64 v.deliver]] ++ #[.pointer (some ⟨b, 0, none⟩)]) w fun e w' => e = .returned (.bool (decide (¬ WinApart v x))) ∧ Chg (fun _ => False) w w' := by
  have hb := World.block_lt_of_cell? w _ c0
  simp only at hb
  have HW : Hid (∀ w, _) := fun w => winApart v x w a0 a1 a2 b0 b1 b2
  clear a0 a1 a2 b0 b1 b2
  go_enter Try.func178, Try.ntmps178
  go_wp2_with fail
  refine (HW.out _).mono ?_
  rintro e w1 ⟨rfl, hC⟩
  go_wp2_with fail
  go_ret
  exact ⟨retB (by simp), ((Chg.refl _ _).alloc _).trans hC⟩

set_option maxRecDepth 100000 in
set_option maxHeartbeats 1000000 in
theorem schIdx (x : Wn) (b : Nat) (v : Value) (L : List Wn) (w : World) (h : RdW w v L)
    (hclo : ∀ (j : Nat) (h : j < L.length) (W : World), Chg (fun _ => False) w W → Calls Try.prog 178 (#[.agg #[.int .i64 L[j].part, .int .i64 L[j].start, .int .i64 L[j].len, .int .i64 L[j].deliver]] ++ #[.pointer (some ⟨b, 0, none⟩)]) W fun e w' => e = .returned (.bool (decide ((fun v : Wn => ¬ WinApart v x) L[j]))) ∧ Chg (fun _ => False) W w') :
    Calls Try.prog 175 #[v, .func (.func 178) #[] #[.pointer (some ⟨b, 0, none⟩)]] w (IxPost (fun v : Wn => ¬ WinApart v x) L w) := by
  obtain ⟨hm, A, c, rfl, h⟩ := h
  have hm' : (L.length : Int) ≤ 9223372036854775807 := by unfold maxLen at hm; first | omega | (have := hm.1; omega)
  have HO := Lib.hid h; clear h hm
  have HCLO := Lib.hid hclo; clear hclo
  go_enter Try.func175, Try.ntmps175
  go_wp2_with fail
  go_loopw [8] (fun s wr => ∃ j : Nat, j ≤ L.length ∧ s = .int .i64 j ∧ (∀ k (hk : k < L.length), k < j → ¬ (fun v : Wn => ¬ WinApart v x) L[k]) ∧ Chg (fun _ => False) w wr) (fun s _ => L.length - (intOf s).toNat)
  case atStart => exact ⟨0, by omega, rfl, by intro k hk h; omega, Chg.refl _ _⟩
  case round =>
    obtain ⟨j, hj, rfl, hne, hC⟩ := hrel
    have j0 : (0 : Int) ≤ j := by omega
    by_cases hlt : j < L.length
    · have j1 : (j : Int) < L.length := by omega
      obtain ⟨g, o, rfl, a0, a1, a2, a3⟩ := HO.out j hlt
      have A0 := hC.cell a0 id
      have A1 := hC.cell a1 id
      have A2 := hC.cell a2 id
      have A3 := hC.cell a3 id
      have hcl := HCLO.out j hlt wr hC
      have HCL := Lib.hid hcl; clear hcl
      have HC := Lib.hid hC; clear hC
      have HN := Lib.hid hne; clear hne
      clear a0 a1 a2 a3
      go_wp2_with fail
      refine HCL.out.mono ?_
      rintro e w1 ⟨rfl, hD⟩
      have hC1 := HC.out.trans hD
      have H1 := Lib.hid hC1; clear hC1 hD
      clear HCL A0 A1 A2 A3
      by_cases hp : (fun v : Wn => ¬ WinApart v x) L[j]
      · rw [decide_eq_true hp]
        have HP := Lib.hid hp; clear hp
        go_wp2_with fail
        go_ret
        exact ⟨⟨_, rfl, .inr ⟨j, hlt, rfl, HP.out, HN.out⟩⟩, H1.out⟩
      · rw [decide_eq_false hp]
        have HN2 := Lib.hid (show ∀ k (hk : k < L.length), k < j + 1 → ¬ (fun v : Wn => ¬ WinApart v x) L[k] from fun k hk hkj => by
          by_cases e : k = j
          · subst e; exact hp
          · exact HN.out k hk (by omega)); clear hp HN
        go_wp2_with fail
        go_roundw
        case rel => exact ⟨j + 1, by omega, by go_num, HN2.out, H1.out⟩
        case measure => simp [intOf]; omega
    · obtain rfl : j = L.length := by omega
      have HC := Lib.hid hC; clear hC
      have HN := Lib.hid hne; clear hne hlt hj
      go_wp2_with fail
      go_ret
      exact ⟨⟨_, rfl, .inl ⟨rfl, fun k hk => HN.out k hk hk⟩⟩, HC.out⟩
set_option maxRecDepth 100000 in
theorem schHas (x : Wn) (b : Nat) (v : Value) (L : List Wn) (w : World) (h : RdW w v L)
    (hclo : ∀ (j : Nat) (h : j < L.length) (W : World), Chg (fun _ => False) w W → Calls Try.prog 178 (#[.agg #[.int .i64 L[j].part, .int .i64 L[j].start, .int .i64 L[j].len, .int .i64 L[j].deliver]] ++ #[.pointer (some ⟨b, 0, none⟩)]) W fun e w' => e = .returned (.bool (decide ((fun v : Wn => ¬ WinApart v x) L[j]))) ∧ Chg (fun _ => False) W w') :
    Calls Try.prog 158 #[v, .func (.func 178) #[] #[.pointer (some ⟨b, 0, none⟩)]] w fun e w' => e = .returned (.bool (decide (∃ z0 ∈ L, (fun v : Wn => ¬ WinApart v x) z0))) ∧ Chg (fun _ => False) w w' := by
  have hix := schIdx x b v L w h hclo
  have HIX := Lib.hid hix; clear hix hclo h
  go_enter Try.func158, Try.ntmps158
  go_wp2_with fail
  refine HIX.out.mono ?_
  rintro e w1 ⟨⟨r, rfl, hr⟩, hC⟩
  have hb := hr.has
  have HB := Lib.hid hb; clear hb hr
  go_wp2_with fail
  go_ret
  exact ⟨by rw [← HB.out]; exact retB (by first | rfl | simp [Bool.eq_iff_iff]), hC⟩

set_option maxRecDepth 100000 in
set_option maxHeartbeats 2000000 in
theorem schMay_in (v : Value) (ws : List Wn) (major parts : Int) (w : World) (h : RdW w v ws) (h0 : 1 ≤ major) (h1 : major ≤ 64) (h2 : 1 ≤ parts) (h3 : parts ≤ 4) (h4 : 1 ≤ ws.length) (h5 : ws.length ≤ 8) :
    Calls Try.prog 161 #[v, .int .i64 major, .int .i64 parts] w fun e w' => e = .returned (.bool (decide (WinsOk ws major parts))) ∧ Chg (fun _ => False) w w' := by
  have hf : Hid (WinsOk ws major parts ↔ ∀ i (h : i < ws.length), WinAt ws major parts i ws[i]) := ⟨fun h => h.2.2.2.2.2.2, fun h => ⟨h0, h1, h2, h3, h4, h5, h⟩⟩
  obtain ⟨A, c, rfl⟩ : ∃ A c, v = .slice A ws.length c := by obtain ⟨_, A, c, e, _⟩ := h; exact ⟨A, c, e⟩
  have HR := Lib.hid h; clear h
  have n4 : decide ((ws.length : Int) < 1) = false := decide_eq_false (by omega)
  have n5 : decide ((8 : Int) < ws.length) = false := decide_eq_false (by omega)
  have hm : (ws.length : Int) ≤ 8 := by omega
  go_enter Try.func161, Try.ntmps161
  go_wp2_with fail
  go_loopw [35] (fun s wr => ∃ j : Nat, j ≤ ws.length ∧ s = .int .i64 j ∧ (∀ k (hk : k < ws.length), k < j → WinAt ws major parts k ws[k]) ∧ Chg (fun _ => False) w wr) (fun s _ => ws.length - (intOf s).toNat)
  case atStart => exact ⟨0, by omega, rfl, by intro k hk h; omega, Chg.refl _ _⟩
  case round =>
    obtain ⟨j, hj, rfl, hall, hC⟩ := hrel
    have j0 : (0 : Int) ≤ j := by omega
    by_cases hlt : j < ws.length
    · have j1 : (j : Int) < ws.length := by omega
      have hr := HR.out.keepN hC
      have htk := hr.take (k := j) (by omega)
      have hr' := hr
      obtain ⟨_, A', c', hv, hel⟩ := hr
      injection hv with e1 e2 e3
      subst e1 e3
      obtain ⟨g, o, rfl, a0, a1, a2, a3⟩ := hel j hlt
      clear hel
      have hA : Chg (fun _ => False) wr (wr.alloc (.cells #[.int .i64 ws[j].part, .int .i64 ws[j].start, .int .i64 ws[j].len, .int .i64 ws[j].deliver] 119)) := (Chg.refl _ _).alloc _
      have hb := blk_new wr (.cells #[.int .i64 ws[j].part, .int .i64 ws[j].start, .int .i64 ws[j].len, .int .i64 ws[j].deliver] 119)
      have hwm := winMay ws[j] major parts (wr.alloc (.cells #[.int .i64 ws[j].part, .int .i64 ws[j].start, .int .i64 ws[j].len, .int .i64 ws[j].deliver] 119)) h0 h1
      have hcap : (ws.length : Int) ≤ c := by have := hr'.1.2 _ _ _ rfl; omega
      clear hr'
      have HWM := Lib.hid hwm; clear hwm
      have HB := Lib.hid hb; clear hb
      have HA := Lib.hid hA; clear hA
      have HC := Lib.hid hC; clear hC
      have HT := Lib.hid htk; clear htk
      have HALL := Lib.hid hall; clear hall
      go_wp2_with fail
      refine HWM.out.mono ?_
      rintro e w1 ⟨rfl, hC1⟩
      have HC1 := Lib.hid (HA.out.trans hC1)
      have hb1 := hC1.at HB.out id
      have HB1 := Lib.hid hb1; clear hb1 hC1 HWM
      by_cases hp : WinP ws[j] major parts
      · rw [decide_eq_true hp]
        have hh := schHas ws[j] wr.heap.size _ (ws.take j) w1 (HT.out.keepN HC1.out) (fun i hi W hCW => by
          have hij : i < j := by simp at hi; omega
          have hg : (ws.take j)[i] = ws[i]'(by omega) := by simp
          have hpi := (HALL.out i (by omega) hij).1
          have hbW := hCW.at HB1.out id
          obtain ⟨_, _, p2, p3, p4, p5, _, _⟩ := hp
          obtain ⟨_, _, q2, q3, q4, q5, _, _⟩ := hpi
          rw [hg]
          exact schClo ws[j] wr.heap.size ws[i] W (blk_cell hbW 0) (blk_cell hbW 1) (blk_cell hbW 2) (blk_cell hbW 3) q3 (by omega) q2 p3 (by omega) p2)
        have HH := Lib.hid hh; clear hh
        have HP := Lib.hid hp; clear hp
        clear a0 a1 a2 a3
        go_wp2_with fail
        refine HH.out.mono ?_
        rintro e w2 ⟨rfl, hC2⟩
        have HC2 := Lib.hid (HC.out.trans (HC1.out.trans hC2)); clear hC2
        clear HC HC1 HH HB HB1 HA HT
        by_cases hw : ∃ x ∈ ws.take j, ¬ WinApart x ws[j]
        · rw [decide_eq_true hw]
          have HNO : Hid (¬ WinsOk ws major parts) := fun h => by
            obtain ⟨x, hx, hn⟩ := hw
            obtain ⟨i, hi, rfl⟩ := List.getElem_of_mem hx
            have hij : i < j := by simp at hi; omega
            refine hn ?_
            have hg : (ws.take j)[i] = ws[i]'(by omega) := by simp
            rw [hg]
            exact (hf.out.1 h j hlt).2 i (by omega) hij
          clear hw HALL HP
          go_wp2_with fail
          go_ret
          exact ⟨retB (decide_eq_false HNO.out).symm, HC2.out⟩
        · rw [decide_eq_false hw]
          have HN : Hid (∀ k (hk : k < ws.length), k < j + 1 → WinAt ws major parts k ws[k]) := fun k hk hkj => by
            by_cases e : k = j
            · subst e
              refine ⟨HP.out, fun i hi hik => ?_⟩
              by_cases ha : WinApart ws[i] ws[k]
              · exact ha
              · refine absurd ⟨ws[i], ?_, ha⟩ hw
                rw [List.mem_take_iff_getElem]
                exact ⟨i, by omega, rfl⟩
            · exact HALL.out k hk (by omega)
          clear hw HALL HP
          go_wp2_with fail
          go_roundw
          case rel => exact ⟨j + 1, by omega, by go_num, HN.out, HC2.out⟩
          case measure => simp [intOf]; omega
      · rw [decide_eq_false hp]
        have HNO : Hid (¬ WinsOk ws major parts) := fun h => hp (hf.out.1 h j hlt).1
        have HC2 := Lib.hid (HC.out.trans HC1.out)
        clear hp HALL HC HC1 HB1 HT HB HA
        go_wp2_with fail
        go_ret
        exact ⟨retB (decide_eq_false HNO.out).symm, HC2.out⟩
    · obtain rfl : j = ws.length := by omega
      have HOK : Hid (WinsOk ws major parts) := hf.out.2 (fun k hk => hall k hk hk)
      have HC := Lib.hid hC; clear hC hall hlt hj
      go_wp2_with fail
      go_ret
      exact ⟨retB (decide_eq_true HOK.out).symm, HC.out⟩
set_option maxRecDepth 100000 in
theorem schMay (v : Value) (ws : List Wn) (major parts : Int) (w : World) (h : RdW w v ws) :
    Calls Try.prog 161 #[v, .int .i64 major, .int .i64 parts] w fun e w' => e = .returned (.bool (decide (WinsOk ws major parts))) ∧ Chg (fun _ => False) w w' := by
  by_cases h0 : 1 ≤ major
  · by_cases h1 : major ≤ 64
    · by_cases h2 : 1 ≤ parts
      · by_cases h3 : parts ≤ 4
        · by_cases h4 : 1 ≤ ws.length
          · by_cases h5 : ws.length ≤ 8
            · exact schMay_in v ws major parts w h h0 h1 h2 h3 h4 h5
            · have HNO : Hid (¬ WinsOk ws major parts) := fun h => h5 h.2.2.2.2.2.1
              obtain ⟨hm, A, c, rfl, hel⟩ := h
              clear hel
              have n4 : decide ((ws.length : Int) < 1) = false := decide_eq_false (by omega)
              have n5 : decide ((8 : Int) < ws.length) = true := decide_eq_true (by omega)
              go_enter Try.func161, Try.ntmps161
              go_wp2_with fail
              go_ret
              exact ⟨retB (decide_eq_false HNO.out).symm, Chg.refl _ _⟩
          · have HNO : Hid (¬ WinsOk ws major parts) := fun h => h4 h.2.2.2.2.1
            obtain ⟨hm, A, c, rfl, hel⟩ := h
            clear hel
            have n4 : decide ((ws.length : Int) < 1) = true := decide_eq_true (by omega)
            go_enter Try.func161, Try.ntmps161
            go_wp2_with fail
            go_ret
            exact ⟨retB (decide_eq_false HNO.out).symm, Chg.refl _ _⟩
        · have HNO : Hid (¬ WinsOk ws major parts) := fun h => h3 h.2.2.2.1
          obtain ⟨hm, A, c, rfl, hel⟩ := h
          clear hel
          go_enter Try.func161, Try.ntmps161
          go_wp2_with fail
          go_ret
          exact ⟨retB (decide_eq_false HNO.out).symm, Chg.refl _ _⟩
      · have HNO : Hid (¬ WinsOk ws major parts) := fun h => h2 h.2.2.1
        obtain ⟨hm, A, c, rfl, hel⟩ := h
        clear hel
        go_enter Try.func161, Try.ntmps161
        go_wp2_with fail
        go_ret
        exact ⟨retB (decide_eq_false HNO.out).symm, Chg.refl _ _⟩
    · have HNO : Hid (¬ WinsOk ws major parts) := fun h => h1 h.2.1
      obtain ⟨hm, A, c, rfl, hel⟩ := h
      clear hel
      go_enter Try.func161, Try.ntmps161
      go_wp2_with fail
      go_ret
      exact ⟨retB (decide_eq_false HNO.out).symm, Chg.refl _ _⟩
  · have HNO : Hid (¬ WinsOk ws major parts) := fun h => h0 h.1
    obtain ⟨hm, A, c, rfl, hel⟩ := h
    clear hel
    go_enter Try.func161, Try.ntmps161
    go_wp2_with fail
    go_ret
    exact ⟨retB (decide_eq_false HNO.out).symm, Chg.refl _ _⟩
end Go.Proofs.Ytncbcjjdnlmjbaa
