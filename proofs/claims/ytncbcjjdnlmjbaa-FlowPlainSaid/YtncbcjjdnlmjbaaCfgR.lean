/- Configs, the document's side: whose a frame is. -/
import Derived.Test.YtncbcjjdnlmjbaaCfgJ
set_option linter.unusedSimpArgs false
set_option linter.unusedVariables false
namespace Go.Proofs.Ytncbcjjdnlmjbaa
open Go.RowKit

/-- A config by value: what its block holds in later worlds. -/
theorem byVal {C : Cf} {s : Vs} {w : World} (h : s.R w C) : ∀ W, Chg (fun _ => False) (w.alloc (.cells (cfc C s) 27)) W → CfP W w.heap.size C s :=
  fun W hC => CfP.keepN ⟨blk_new w _, h.keepN ((Chg.refl _ _).alloc _)⟩ hC
set_option maxRecDepth 100000 in
set_option maxHeartbeats 2000000 in
theorem refOwner (f : Int) (C : Cf) (s : Vs) (w : World) (h : s.R w C) :
    Calls Try.prog 119 #[.agg (cfc C s), .int .i64 f] w fun e w' => e = .returned (.int .i64 (C.own f)) ∧ Chg (fun _ => False) w w' := by
  have hA : Chg (fun _ => False) w (w.alloc (.cells (cfc C s) 27)) := (Chg.refl _ _).alloc _
  have HP : Hid (∀ W, Chg (fun _ => False) (w.alloc (.cells (cfc C s) 27)) W → CfP W w.heap.size C s) := byVal h
  obtain ⟨A1, k1, A2, k2, A3, k3, A4, k4, rfl, m1, m2, m3, m4⟩ := (HP.out _ (Chg.refl _ _)).open
  have C1 : Hid (∀ W, Chg (fun _ => False) (w.alloc (.cells (cfc C ⟨.slice A1 C.parts.length k1, .slice A2 C.devs.length k2, .slice A3 C.wins.length k3, .slice A4 C.grants.length k4⟩) 27)) W → W.cell? ⟨w.heap.size, 1, none⟩ = some (.slice A1 C.parts.length k1)) := fun W hW => (HP.out W hW).cell 1
  have HA := Lib.hid hA; clear hA h
  generalize hcf : cfc C ⟨.slice A1 C.parts.length k1, .slice A2 C.devs.length k2, .slice A3 C.wins.length k3, .slice A4 C.grants.length k4⟩ = cf at *
  clear hcf
  go_enter Try.func119, Try.ntmps119
  go_wp2_with fail
  go_loopw [5] (fun s wr => ∃ j : Nat, j ≤ C.parts.length ∧ s = .int .i64 j ∧ (∀ k (hk : k < C.parts.length), k < j → f ∉ C.parts[k].fr) ∧ Chg (fun _ => False) (w.alloc (.cells cf 27)) wr) (fun s _ => C.parts.length - (intOf s).toNat)
  case atStart => exact ⟨0, by omega, rfl, by intro k hk h; omega, Chg.refl _ _⟩
  case round =>
    obtain ⟨j, hj, rfl, hno, hC⟩ := hrel
    have j0 : (0 : Int) ≤ j := by omega
    have c1 := C1.out wr hC
    by_cases hlt : j < C.parts.length
    · have j1 : (j : Int) < C.parts.length := by omega
      obtain ⟨_, A', c', hv, hel⟩ := (HP.out wr hC).2.1
      injection hv with e1 e2 e3
      subst e1 e3
      obtain ⟨g, o, F, rfl, _, _, a2, _, _, hF⟩ := hel j hlt
      clear hel
      obtain ⟨hfm, FA, fc, rfl⟩ := hF.form
      have hfm' : (C.parts[j].fr.length : Int) ≤ 9223372036854775807 := by unfold maxLen at hfm; omega
      have HF := Lib.hid hF; clear hF hfm
      have HC := Lib.hid hC; clear hC
      have HNO := Lib.hid hno; clear hno
      obtain ⟨w0, hw0⟩ : ∃ x, x = wr := ⟨_, rfl⟩
      rw [← hw0] at HF HC a2
      have A2' := Lib.hid a2; clear a2
      go_wp2_with fail
      go_loopw [6] (fun s w3 => ∃ i : Nat, i ≤ C.parts[j].fr.length ∧ s = .int .i64 i ∧ (∀ q (hq : q < C.parts[j].fr.length), q < i → ¬ C.parts[j].fr[q] = f) ∧ Chg (fun _ => False) w0 w3) (fun s _ => C.parts[j].fr.length - (intOf s).toNat)
      case atStart => exact ⟨0, by omega, rfl, by intro k hk h; omega, by rw [hw0]; exact Chg.refl _ _⟩
      case round =>
        clear hw0 c1
        obtain ⟨i, hi, rfl, hne, hD⟩ := hrel
        have i0 : (0 : Int) ≤ i := by omega
        have c1 := C1.out wr (HC.out.trans hD)
        have a2 := hD.cell A2'.out id
        by_cases hil : i < C.parts[j].fr.length
        · have i1 : (i : Int) < C.parts[j].fr.length := by omega
          obtain ⟨_, A', c', hv, hel⟩ := HF.out
          injection hv with e1 e2 e3
          subst e1 e3
          obtain ⟨g2, o2, rfl, b0⟩ := hel i hil
          replace b0 := hD.cell b0 id
          clear hel
          have HD := Lib.hid (HC.out.trans hD)
          have HD0 := Lib.hid hD; clear hD
          have HNE := Lib.hid hne; clear hne
          by_cases hp : C.parts[j].fr[i] = f
          · have hown : C.own f = j := own_ix f C j (.inr ⟨j, hlt, rfl, by rw [← hp]; exact List.getElem_mem hil, fun q hq hqj => HNO.out q hq hqj⟩)
            have HOW := Lib.hid hown; clear hown
            rw [hp] at b0
            clear hp HNE HNO
            go_wp2_with fail
            go_ret
            exact ⟨congrArg (fun z => Ending.returned (.int .i64 z)) HOW.out.symm, HA.out.trans HD.out⟩
          · have HN2 : Hid (∀ q (hq : q < C.parts[j].fr.length), q < i + 1 → ¬ C.parts[j].fr[q] = f) := fun q hq hqi => by
              by_cases e : q = i
              · subst e; exact hp
              · exact HNE.out q hq (by omega)
            have hb : (C.parts[j].fr[i] == f) = false := by simpa using hp
            clear hp HNE
            go_wp2_with fail
            go_roundw
            case rel => exact ⟨i + 1, by omega, by go_num, HN2.out, HD0.out⟩
            case measure => simp [intOf]; omega
        · obtain rfl : i = C.parts[j].fr.length := by omega
          have HN : Hid (∀ k (hk : k < C.parts.length), k < j + 1 → f ∉ C.parts[k].fr) := fun k hk hkj => by
            by_cases e : k = j
            · subst e
              intro hmem
              obtain ⟨q, hq, e2⟩ := List.getElem_of_mem hmem
              exact hne q hq hq e2
            · exact HNO.out k hk (by omega)
          have HD := Lib.hid (HC.out.trans hD); clear hD hne hil
          go_wp2_with fail
          go_roundw
          case rel => exact ⟨j + 1, by omega, by go_num, HN.out, HD.out⟩
          case measure => simp [intOf]; omega
    · obtain rfl : j = C.parts.length := by omega
      have hown : C.own f = -1 := own_ix f C (-1) (.inl ⟨rfl, fun k hk => hno k hk hk⟩)
      have HOW := Lib.hid hown; clear hown
      have HC := Lib.hid hC; clear hC hno hlt hj
      go_wp2_with fail
      go_ret
      exact ⟨congrArg (fun z => Ending.returned (.int .i64 z)) HOW.out.symm, HA.out.trans HC.out⟩
set_option maxRecDepth 100000 in
set_option maxHeartbeats 4000000 in
theorem refReach (p f : Int) (iw : Bool) (C : Cf) (s : Vs) (w : World) (h : s.R w C) :
    Calls Try.prog 126 #[.agg (cfc C s), .int .i64 p, .int .i64 f, .bool iw] w fun e w' => e = .returned (.bool (decide (ReachP C p f iw))) ∧ Chg (fun _ => False) w w' := by
  have hA : Chg (fun _ => False) w (w.alloc (.cells (cfc C s) 27)) := (Chg.refl _ _).alloc _
  have HO := Lib.hid (refOwner f C s _ (h.keepN hA))
  have HP : Hid (∀ W, Chg (fun _ => False) (w.alloc (.cells (cfc C s) 27)) W → CfP W w.heap.size C s) := byVal h
  obtain ⟨A1, k1, A2, k2, A3, k3, A4, k4, rfl, m1, m2, m3, m4⟩ := (HP.out _ (Chg.refl _ _)).open
  have C5 : Hid (∀ W, Chg (fun _ => False) (w.alloc (.cells (cfc C ⟨.slice A1 C.parts.length k1, .slice A2 C.devs.length k2, .slice A3 C.wins.length k3, .slice A4 C.grants.length k4⟩) 27)) W → W.cell? ⟨w.heap.size, 5, none⟩ = some (.slice A4 C.grants.length k4) ∧ RdG W (.slice A4 C.grants.length k4) C.grants) := fun W hW => ⟨(HP.out W hW).cell 5, (HP.out W hW).2.2.2.2⟩
  have HA := Lib.hid hA; clear hA h HP
  unfold cfc at *
  go_enter Try.func126, Try.ntmps126
  go_wp2_with fail
  refine HO.out.mono ?_
  rintro e w1 ⟨rfl, hC1⟩
  have c5 := (C5.out _ hC1).1
  by_cases he : C.own f = p
  · have HY : Hid (ReachP C p f iw) := .inl he
    have q0 : (C.own f == p) = true := by simpa using he
    have HC := Lib.hid hC1; clear hC1 he
    go_wp2_with fail
    go_ret
    exact ⟨retB (decide_eq_true HY.out).symm, HA.out.trans HC.out⟩
  · have q0 : (C.own f == p) = false := by simpa using he
    have HE := Lib.hid he
    have H1 := Lib.hid hC1; clear hC1 he
    go_wp2_with fail
    go_loopw [9] (fun s wr => ∃ j : Nat, j ≤ C.grants.length ∧ s = .int .i64 j ∧ (∀ k (hk : k < C.grants.length), k < j → ¬ GrantP p f iw C.grants[k]) ∧ Chg (fun _ => False) (w.alloc (.cells #[.int .i64 C.frames, .slice A1 C.parts.length k1, .slice A2 C.devs.length k2, .int .i64 C.major, .slice A3 C.wins.length k3, .slice A4 C.grants.length k4, .int .i64 C.sectors, .int .i64 C.quota, .int .i64 C.quiet] 27)) wr) (fun s _ => C.grants.length - (intOf s).toNat)
    case atStart => exact ⟨0, by omega, rfl, by intro k hk h; omega, H1.out⟩
    case round =>
      clear c5 H1
      obtain ⟨j, hj, rfl, hno, hC⟩ := hrel
      have j0 : (0 : Int) ≤ j := by omega
      obtain ⟨c5, hrd⟩ := C5.out wr hC
      have HC := Lib.hid hC; clear hC
      have HN := Lib.hid hno; clear hno
      by_cases hlt : j < C.grants.length
      · have j1 : (j : Int) < C.grants.length := by omega
        obtain ⟨_, A', c', hv, hel⟩ := hrd
        injection hv with e1 e2 e3
        subst e1 e3
        obtain ⟨g, o, rfl, a0, a1, a2⟩ := hel j hlt
        clear hel
        have hgi : GrantP p f iw C.grants[j] ↔ (C.grants[j].frame = f ∧ C.grants[j].to = p ∧ (C.grants[j].write = true ∨ iw = false)) := Iff.rfl
        by_cases e0 : C.grants[j].frame = f
        · have d0 : (C.grants[j].frame == f) = true := by simpa using e0
          by_cases e1 : C.grants[j].to = p
          · have d1 : (C.grants[j].to == p) = true := by simpa using e1
            by_cases e2 : C.grants[j].write = true
            · have hg := hgi.2 ⟨e0, e1, .inl e2⟩
              rw [e2] at a2
              clear hgi e0 e1 e2
              have HY : Hid (ReachP C p f iw) := .inr ⟨C.grants[j], List.getElem_mem hlt, hg⟩
              clear hg
              go_wp2_with fail
              go_ret
              exact ⟨retB (decide_eq_true HY.out).symm, HA.out.trans HC.out⟩
            · have e2' : C.grants[j].write = false := by simpa using e2
              rw [e2'] at a2
              cases iw with
              | false =>
                have hg := hgi.2 ⟨e0, e1, .inr rfl⟩
                clear hgi e0 e1 e2 e2'
                have HY : Hid (ReachP C p f false) := .inr ⟨C.grants[j], List.getElem_mem hlt, hg⟩
                clear hg
                go_wp2_with fail
                go_ret
                exact ⟨retB (decide_eq_true HY.out).symm, HA.out.trans HC.out⟩
              | true =>
                have hg : ¬ GrantP p f true C.grants[j] := fun h => by rcases (hgi.1 h).2.2 with h | h; exact e2 h; cases h
                clear hgi e0 e1 e2 e2'
                have HN2 : Hid (∀ k (hk : k < C.grants.length), k < j + 1 → ¬ GrantP p f true C.grants[k]) := fun k hk hkj => by
                  by_cases e : k = j
                  · subst e; exact hg
                  · exact HN.out k hk (by omega)
                clear hg HN
                go_wp2_with fail
                go_roundw
                case rel => exact ⟨j + 1, by omega, by go_num, HN2.out, HC.out⟩
                case measure => simp [intOf]; omega
          · have d1 : (C.grants[j].to == p) = false := by simpa using e1
            have hg : ¬ GrantP p f iw C.grants[j] := fun h => e1 (hgi.1 h).2.1
            clear hgi e0 e1
            have HN2 : Hid (∀ k (hk : k < C.grants.length), k < j + 1 → ¬ GrantP p f iw C.grants[k]) := fun k hk hkj => by
              by_cases e : k = j
              · subst e; exact hg
              · exact HN.out k hk (by omega)
            clear hg HN
            go_wp2_with fail
            go_roundw
            case rel => exact ⟨j + 1, by omega, by go_num, HN2.out, HC.out⟩
            case measure => simp [intOf]; omega
        · have d0 : (C.grants[j].frame == f) = false := by simpa using e0
          have hg : ¬ GrantP p f iw C.grants[j] := fun h => e0 (hgi.1 h).1
          clear hgi e0
          have HN2 : Hid (∀ k (hk : k < C.grants.length), k < j + 1 → ¬ GrantP p f iw C.grants[k]) := fun k hk hkj => by
            by_cases e : k = j
            · subst e; exact hg
            · exact HN.out k hk (by omega)
          clear hg HN
          go_wp2_with fail
          go_roundw
          case rel => exact ⟨j + 1, by omega, by go_num, HN2.out, HC.out⟩
          case measure => simp [intOf]; omega
      · obtain rfl : j = C.grants.length := by omega
        have HNO : Hid (¬ ReachP C p f iw) := fun h => by
          rcases h with h | ⟨x, hx, hg⟩
          · exact HE.out h
          · obtain ⟨q, hq, rfl⟩ := List.getElem_of_mem hx
            exact HN.out q hq hq hg
        clear HN hlt hj hrd
        go_wp2_with fail
        go_ret
        exact ⟨retB (decide_eq_false HNO.out).symm, HA.out.trans HC.out⟩
end Go.Proofs.Ytncbcjjdnlmjbaa
