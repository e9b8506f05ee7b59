/- Elements that go: slices.IndexFunc, slices.DeleteFunc, by each closure. -/
import Derived.Test.YtpnhdiajiieonaaDel0
set_option linter.unusedSimpArgs false
set_option linter.unusedVariables false
namespace Go.Proofs.Ytpnhdiajiieonaa
open Go.RowKit

def clrP (b : Nat) (d : Int) (k : Nat) : Bool := decide ((k : Int) / 8 = d)
theorem clrClo (b : Nat) (d : Int) (k : Nat) (w : World) (hcb : w.cell? ⟨b, 0, none⟩ = some (.int .i64 d)) :
    Calls Try.prog 100 (#[.agg #[.int .i64 ((k : Int) / 8), .int .i64 ((k : Int) % 8)]] ++ #[.pointer (some ⟨b, 0, none⟩)]) w fun e w' => e = .returned (.bool (clrP b d k)) ∧ Chg (fun _ => False) w w' := kClear1 k b d w hcb
def clrIdxPost (b : Nat) (d : Int) (L : List Nat) (w : World) (e : Ending) (w' : World) : Prop :=
  (e = .returned (.int .i64 (-1)) ∨ ∃ i : Nat, i < L.length ∧ e = .returned (.int .i64 i) ∧ (∀ k ∈ L.take i, clrP b d k = false) ∧ (∃ k, L[i]? = some k ∧ clrP b d k = true)) ∧ (e = .returned (.int .i64 (-1)) → ∀ k ∈ L, clrP b d k = false) ∧ Chg (fun _ => False) w w'
set_option maxRecDepth 100000 in
set_option maxHeartbeats 1000000 in
theorem clrIndex (base : Nat) (b : Nat) (d : Int) (v : Value) (L : List Nat) (w : World) (h : KRow w base v L) (hn : L.length ≤ 100) (hcb : w.cell? ⟨b, 0, none⟩ = some (.int .i64 d)) :
    Calls Try.prog 167 #[v, .func (.func 100) #[] #[.pointer (some ⟨b, 0, none⟩)]] w (clrIdxPost b d L w) := by
  obtain ⟨A, c, rfl⟩ := h.slice
  have hclo := fun (k : Nat) (W : World) (hC : Chg (fun _ => False) w W) => clrClo b d k W (hC.cell hcb id)
  have HCLO := Lib.hid hclo; clear hclo
  have HO : Hid (KRow w base (.slice A L.length c) L) := h
  clear h hcb
  go_enter Try.func167, Try.ntmps167
  go_wp2_with fail
  go_loopw [8] (fun s wr => ∃ j : Nat, j ≤ L.length ∧ s = .int .i64 j ∧ (∀ k ∈ L.take j, clrP b d k = false) ∧ Chg (fun _ => False) w wr) (fun s _ => L.length - (intOf s).toNat)
  case atStart => exact ⟨0, by omega, rfl, by simp, Chg.refl _ _⟩
  case round =>
    obtain ⟨j, hj, rfl, hne, hC⟩ := hrel
    have j0 : (0 : Int) ≤ j := by omega
    by_cases hlt : j < L.length
    · have j1 : (j : Int) < L.length := by omega
      have hO := HO.out.keep hC (fun _ _ => id)
      obtain ⟨g, cap, hv, hbg⟩ := hO.form (by omega)
      injection hv with h1 h2 h3
      subst h1 h3
      have A0 : wr.cell? ⟨g, j * 2, none⟩ = some (.int .i64 ((L[j] : Int) / 8)) := hO.cell kc_len hlt (show 0 < 2 by omega)
      have A1 : wr.cell? ⟨g, j * 2 + 1, none⟩ = some (.int .i64 ((L[j] : Int) % 8)) := hO.cell kc_len hlt (show 1 < 2 by omega)
      have hcl := HCLO.out L[j] wr hC
      clear hO hbg
      have HCL := Lib.hid hcl; clear hcl
      have HC := Lib.hid hC; clear hC
      have HN := Lib.hid hne; clear hne
      go_wp2_with fail
      refine HCL.out.mono ?_
      rintro e w1 ⟨rfl, hD⟩
      have hC1 := HC.out.trans hD
      have H1 := Lib.hid hC1; clear hC1 hD
      clear HCL A0 A1
      by_cases hp : clrP b d L[j] = true
      · rw [hp]
        have HP := Lib.hid hp; clear hp
        go_wp2_with fail
        go_ret
        refine ⟨.inr ⟨j, hlt, rfl, HN.out, L[j], List.getElem?_eq_getElem hlt, HP.out⟩, fun h => ?_, H1.out⟩
        injection h with h; injection h with _ h; omega
      · have hp' : clrP b d L[j] = false := by simpa using hp
        rw [hp']
        have hne' : ∀ k ∈ L.take (j + 1), clrP b d k = false := fun z hz => by
          rw [List.take_succ_eq_append_getElem hlt] at hz
          rcases List.mem_append.1 hz with h | h
          · exact HN.out z h
          · simp at h; rw [h]; exact hp'
        have HN2 := Lib.hid hne'; clear hne' hp hp'
        go_wp2_with fail
        go_roundw
        case rel => exact ⟨j + 1, by omega, by go_num, HN2.out, H1.out⟩
        case measure => simp [intOf]; omega
    · obtain rfl : j = L.length := by omega
      rw [List.take_of_length_le (Nat.le_refl _)] at hne
      have HC := Lib.hid hC; clear hC
      have HN := Lib.hid hne; clear hne
      clear hlt hj
      go_wp2_with fail
      go_ret
      exact ⟨.inl rfl, fun _ => HN.out, HC.out⟩
def clrDelPost (base : Nat) (b : Nat) (d : Int) (v : Value) (L : List Nat) (w : World) (e : Ending) (w' : World) : Prop :=
  ∃ v', e = .returned v' ∧ KRow w' base v' (L.filter fun k => !clrP b d k) ∧ v'.ownBlock = v.ownBlock ∧ Chg (fun j => some j = v.ownBlock) w w'
set_option maxRecDepth 100000 in
set_option maxHeartbeats 2000000 in
theorem clrDel (base : Nat) (b : Nat) (d : Int) (v : Value) (L : List Nat) (w : World) (h : KRow w base v L) (hn : L.length ≤ 100) (hcb : w.cell? ⟨b, 0, none⟩ = some (.int .i64 d)) (hnhcb : v.ownBlock ≠ some b) :
    Calls Try.prog 142 #[v, .func (.func 100) #[] #[.pointer (some ⟨b, 0, none⟩)]] w (clrDelPost base b d v L w) := by
  have hix := clrIndex base b d v L w h hn hcb
  obtain ⟨A, c, hvv⟩ := h.slice
  have hclo := fun (k : Nat) (W : World) (hC : Chg (fun j => some j = v.ownBlock) w W) => clrClo b d k W (hC.cell hcb (fun h => hnhcb h.symm))
  have HCLO := Lib.hid hclo; clear hclo
  have HIX := Lib.hid hix; clear hix
  have HO : Hid (KRow w base v L) := h
  clear h hcb hnhcb
  subst hvv
  go_enter Try.func142, Try.ntmps142
  go_wp2_with fail
  refine HIX.out.mono ?_
  rintro e w1 ⟨hcase, hall, hC⟩
  rcases hcase with rfl | ⟨i0, hi0, rfl, hpre, k0, hk0, hpk⟩
  · have hfil : (L.filter fun k => !clrP b d k) = L := List.filter_eq_self.2 (fun k hk => by rw [hall rfl k hk]; rfl)
    have HF := Lib.hid hfil; clear hfil hall
    have HC := Lib.hid hC; clear hC
    go_wp2_with fail
    go_ret
    exact ⟨_, rfl, by rw [HF.out]; exact HO.out.keep HC.out (fun _ _ => id), rfl, HC.out.toF _⟩
  · obtain ⟨g, cap, hv, hbg, hgl, hc1, hc2⟩ := HO.out.form (by omega)
    injection hv with h1 h2 h3
    subst h1 h3
    have hm1 : ((i0 : Int) == -1) = false := beq_eq_false_iff_ne.2 (by omega)
    have hi00 : (0 : Int) ≤ i0 := by omega
    have hL0 : (L.length : Int) ≤ 100 := by omega
    have hst : L.take i0 = (L.take (i0 + 1)).filter fun k => !clrP b d k := by
      rw [List.take_succ_eq_append_getElem hi0, List.filter_append]
      have e1 : (L.take i0).filter (fun k => !clrP b d k) = L.take i0 := List.filter_eq_self.2 (fun k hk => by rw [hpre k hk]; rfl)
      have e2 : L[i0] = k0 := by rw [List.getElem?_eq_getElem hi0] at hk0; injection hk0
      rw [e1, e2, List.filter_cons, hpk]; simp
    have hO1 := HO.out.keep hC (fun _ _ => id)
    have HO1 : Hid (KRow w1 base (.slice (some ⟨g, 0, none⟩) L.length c) L) := hO1
    clear hO1
    have HST := Lib.hid hst; clear hst hpre hpk hk0 hall
    have HC := Lib.hid hC; clear hC
    unfold maxLen at hc2
    go_wp2_with fail
    go_loopw [5, 6] (fun si sj wr => ∃ (i j : Nat) (L' : List Nat), si = .int .i64 i ∧ sj = .int .i64 j ∧ i < j ∧ j ≤ L.length ∧ L'.length = L.length ∧ L'.take i = ((L.take j).filter fun k => !clrP b d k) ∧ L'.drop j = L.drop j ∧ KRow wr base (.slice (some ⟨g, 0, none⟩) L.length c) L' ∧ Chg (fun k => k = g) w wr) (fun _ sj _ => L.length - (intOf sj).toNat)
    case atStart => exact ⟨i0, i0 + 1, L, rfl, by go_num, by omega, by omega, rfl, HST.out, rfl, HO1.out, HC.out.toF _⟩
    case round =>
      clear HST
      obtain ⟨i, j, L', rfl, rfl, hij, hj, hl, ht, hd, hO, hCw⟩ := hrel
      have j0 : (0 : Int) ≤ j := by omega
      have i0' : (0 : Int) ≤ i := by omega
      have i1' : (i : Int) < L.length := by omega
      by_cases hlt : j < L.length
      · have j1 : (j : Int) < L.length := by omega
        have hLj : L'[j]'(by omega) = L[j] := by
          have h3 := congrArg (fun l => l[0]?) hd
          simp only [List.getElem?_drop, Nat.add_zero] at h3
          rw [List.getElem?_eq_getElem (by omega), List.getElem?_eq_getElem hlt] at h3
          injection h3
        have A0 : wr.cell? ⟨g, j * 2, none⟩ = some (.int .i64 ((L[j] : Int) / 8)) := by have := hO.cell kc_len (i := j) (by omega) (show 0 < 2 by omega); rw [hLj] at this; exact this
        have A1 : wr.cell? ⟨g, j * 2 + 1, none⟩ = some (.int .i64 ((L[j] : Int) % 8)) := by have := hO.cell kc_len (i := j) (by omega) (show 1 < 2 by omega); rw [hLj] at this; exact this
        have hcl := HCLO.out L[j] (wr.alloc (.cells #[.int .i64 ((L[j] : Int) / 8), .int .i64 ((L[j] : Int) % 8)] 159)) ((hCw.mono (fun k _ h => by rw [h]; rfl)).alloc _)
        have HCL := Lib.hid hcl; clear hcl
        have hstep : L.take (j + 1) = L.take j ++ [L[j]] := List.take_succ_eq_append_getElem hlt
        have hdrop : L'.drop (j + 1) = L.drop (j + 1) := by rw [← List.drop_drop, ← List.drop_drop, hd]
        have hgl2 : g < wr.heap.size := (hO.at).2
        by_cases hp : clrP b d L[j] = true
        · have ht2 : L'.take i = ((L.take (j + 1)).filter fun k => !clrP b d k) := by rw [hstep, List.filter_append, ← ht]; simp [hp]
          rw [hp] at HCL
          have H1 := Lib.hid ht2; clear ht2 ht
          have H2 := Lib.hid hdrop; clear hdrop hd
          have H3 : Hid (KRow wr base (.slice (some ⟨g, 0, none⟩) L.length c) L') := hO
          have H4 := Lib.hid hCw; clear hCw hO
          clear hp hLj hstep
          go_wp2_with fail
          refine HCL.out.mono ?_
          rintro e w2 ⟨rfl, hD⟩
          have hD2 : Chg (fun _ => False) wr w2 := Chg.trans ((Chg.refl _ _).alloc _) hD
          have H5 := Lib.hid hD2; clear hD2 hD
          go_wp2_with fail
          go_roundw
          case rel => exact ⟨i, j + 1, L', rfl, by go_num, by omega, by omega, hl, H1.out, H2.out, H3.out.keep H5.out (fun _ _ => id), H4.out.trans (H5.out.toF _)⟩
          case measure => simp [intOf]; omega
        · have hp' : clrP b d L[j] = false := by simpa using hp
          rw [hp'] at HCL
          have hsl : (L'.set i L[j]).take (i + 1) = L'.take i ++ [L[j]] := by
            rw [List.take_succ_eq_append_getElem (by rw [List.length_set]; omega), List.getElem_set_self, List.take_set_of_le (Nat.le_refl _)]
          have ht2 : (L'.set i L[j]).take (i + 1) = ((L.take (j + 1)).filter fun k => !clrP b d k) := by rw [hsl, hstep, List.filter_append, ← ht]; simp [hp']
          have hd2 : (L'.set i L[j]).drop (j + 1) = L.drop (j + 1) := by rw [List.drop_set_of_lt (by omega), hdrop]
          have hst2 := fun (W : World) (hO' : KRow W base (.slice (some ⟨g, 0, none⟩) L.length c) L') => hO'.set kc_len (i := i) (by omega) L[j]
          have hcI := fun (W : World) (hO' : KRow W base (.slice (some ⟨g, 0, none⟩) L.length c) L') => (show W.cell? ⟨g, i * 2, none⟩ = some (.int .i64 ((L'[i]'(by omega) : Int) / 8)) from hO'.cell kc_len (by omega) (show 0 < 2 by omega))
          have hcI2 := fun (W : World) (hO' : KRow W base (.slice (some ⟨g, 0, none⟩) L.length c) L') => (show W.cell? ⟨g, i * 2 + 1, none⟩ = some (.int .i64 ((L'[i]'(by omega) : Int) % 8)) from hO'.cell kc_len (by omega) (show 1 < 2 by omega))
          have H1 := Lib.hid ht2; clear ht2 ht hsl
          have H2 := Lib.hid hd2; clear hd2 hdrop hd
          have H3 : Hid (KRow wr base (.slice (some ⟨g, 0, none⟩) L.length c) L') := hO
          have H4 := Lib.hid hCw; clear hCw hO
          have H6 := Lib.hid hst2; clear hst2
          have H7 := Lib.hid hcI; clear hcI
          have H8 := Lib.hid hcI2; clear hcI2
          clear hp hp' hLj hstep
          go_wp2_with fail
          refine HCL.out.mono ?_
          rintro e w2 ⟨rfl, hD⟩
          have hb := hD.new id
          have hD2 : Chg (fun _ => False) wr w2 := Chg.trans ((Chg.refl _ _).alloc _) hD
          have hO2 := H3.out.keep hD2 (fun _ _ => id)
          have V0 := blk_cell hb 0
          have V1 := blk_cell hb 1
          have I0 := H7.out w2 hO2
          have I1 := H8.out w2 hO2
          have G0 := hO2.free (i * 2)
          have G1 := hO2.free (i * 2 + 1)
          have hs2 := H6.out w2 hO2
          have H5 := Lib.hid hD2; clear hD2 hD hb hO2
          have H9 := Lib.hid hs2; clear hs2
          have ng : ¬ g = wr.heap.size := by omega
          have ng2 : ¬ wr.heap.size = g := by omega
          go_wp2_with fail
          go_roundw
          case rel => exact ⟨i + 1, j + 1, L'.set i L[j], by go_num, by go_num, by omega, by omega, by rw [List.length_set]; exact hl, H1.out, H2.out, H9.out, (H4.out.trans (H5.out.toF _)).trans (setCells_chg g w2 (kc L[j]) (i * 2))⟩
          case measure => simp [intOf]; omega
      · obtain rfl : j = L.length := by omega
        rw [List.take_of_length_le (Nat.le_refl _)] at ht
        obtain ⟨W', hcl, hown, hCc⟩ := clear_tail hO i (L.length - i) (c - i) (by omega) (by omega) 0
        have hcast : ((L.length : Int) - (i : Int)) = ((L.length - i : Nat) : Int) := by omega
        have i2' : (i : Int) ≤ c := by omega
        have hj1 : decide ((L.length : Int) < L.length) = false := by simp
        rw [ht] at hown
        have H1 := Lib.hid hown; clear hown ht hd
        have H4 := Lib.hid hCw; clear hCw hO
        have H5 := Lib.hid hCc; clear hCc
        go_wp2_with fail
        go_ret
        exact ⟨_, rfl, H1.out, rfl, (H4.out.trans H5.out).mono (fun j _ h => by rw [h]; rfl)⟩

def drpP (b b2 : Nat) (d u : Int) (k : Nat) : Bool := decide ((k : Int) / 8 = d) && decide ((k : Int) % 8 = u)
theorem drpClo (b b2 : Nat) (d u : Int) (k : Nat) (w : World) (hcb : w.cell? ⟨b, 0, none⟩ = some (.int .i64 d)) (hcb2 : w.cell? ⟨b2, 0, none⟩ = some (.int .i64 u)) :
    Calls Try.prog 153 (#[.agg #[.int .i64 ((k : Int) / 8), .int .i64 ((k : Int) % 8)]] ++ #[.pointer (some ⟨b, 0, none⟩), .pointer (some ⟨b2, 0, none⟩)]) w fun e w' => e = .returned (.bool (drpP b b2 d u k)) ∧ Chg (fun _ => False) w w' := kDrop1 k b b2 d u w hcb hcb2
def drpIdxPost (b b2 : Nat) (d u : Int) (L : List Nat) (w : World) (e : Ending) (w' : World) : Prop :=
  (e = .returned (.int .i64 (-1)) ∨ ∃ i : Nat, i < L.length ∧ e = .returned (.int .i64 i) ∧ (∀ k ∈ L.take i, drpP b b2 d u k = false) ∧ (∃ k, L[i]? = some k ∧ drpP b b2 d u k = true)) ∧ (e = .returned (.int .i64 (-1)) → ∀ k ∈ L, drpP b b2 d u k = false) ∧ Chg (fun _ => False) w w'
set_option maxRecDepth 100000 in
set_option maxHeartbeats 1000000 in
theorem drpIndex (base : Nat) (b b2 : Nat) (d u : Int) (v : Value) (L : List Nat) (w : World) (h : KRow w base v L) (hn : L.length ≤ 100) (hcb : w.cell? ⟨b, 0, none⟩ = some (.int .i64 d)) (hcb2 : w.cell? ⟨b2, 0, none⟩ = some (.int .i64 u)) :
    Calls Try.prog 167 #[v, .func (.func 153) #[] #[.pointer (some ⟨b, 0, none⟩), .pointer (some ⟨b2, 0, none⟩)]] w (drpIdxPost b b2 d u L w) := by
  obtain ⟨A, c, rfl⟩ := h.slice
  have hclo := fun (k : Nat) (W : World) (hC : Chg (fun _ => False) w W) => drpClo b b2 d u k W (hC.cell hcb id) (hC.cell hcb2 id)
  have HCLO := Lib.hid hclo; clear hclo
  have HO : Hid (KRow w base (.slice A L.length c) L) := h
  clear h hcb hcb2
  go_enter Try.func167, Try.ntmps167
  go_wp2_with fail
  go_loopw [8] (fun s wr => ∃ j : Nat, j ≤ L.length ∧ s = .int .i64 j ∧ (∀ k ∈ L.take j, drpP b b2 d u k = false) ∧ Chg (fun _ => False) w wr) (fun s _ => L.length - (intOf s).toNat)
  case atStart => exact ⟨0, by omega, rfl, by simp, Chg.refl _ _⟩
  case round =>
    obtain ⟨j, hj, rfl, hne, hC⟩ := hrel
    have j0 : (0 : Int) ≤ j := by omega
    by_cases hlt : j < L.length
    · have j1 : (j : Int) < L.length := by omega
      have hO := HO.out.keep hC (fun _ _ => id)
      obtain ⟨g, cap, hv, hbg⟩ := hO.form (by omega)
      injection hv with h1 h2 h3
      subst h1 h3
      have A0 : wr.cell? ⟨g, j * 2, none⟩ = some (.int .i64 ((L[j] : Int) / 8)) := hO.cell kc_len hlt (show 0 < 2 by omega)
      have A1 : wr.cell? ⟨g, j * 2 + 1, none⟩ = some (.int .i64 ((L[j] : Int) % 8)) := hO.cell kc_len hlt (show 1 < 2 by omega)
      have hcl := HCLO.out L[j] wr hC
      clear hO hbg
      have HCL := Lib.hid hcl; clear hcl
      have HC := Lib.hid hC; clear hC
      have HN := Lib.hid hne; clear hne
      go_wp2_with fail
      refine HCL.out.mono ?_
      rintro e w1 ⟨rfl, hD⟩
      have hC1 := HC.out.trans hD
      have H1 := Lib.hid hC1; clear hC1 hD
      clear HCL A0 A1
      by_cases hp : drpP b b2 d u L[j] = true
      · rw [hp]
        have HP := Lib.hid hp; clear hp
        go_wp2_with fail
        go_ret
        refine ⟨.inr ⟨j, hlt, rfl, HN.out, L[j], List.getElem?_eq_getElem hlt, HP.out⟩, fun h => ?_, H1.out⟩
        injection h with h; injection h with _ h; omega
      · have hp' : drpP b b2 d u L[j] = false := by simpa using hp
        rw [hp']
        have hne' : ∀ k ∈ L.take (j + 1), drpP b b2 d u k = false := fun z hz => by
          rw [List.take_succ_eq_append_getElem hlt] at hz
          rcases List.mem_append.1 hz with h | h
          · exact HN.out z h
          · simp at h; rw [h]; exact hp'
        have HN2 := Lib.hid hne'; clear hne' hp hp'
        go_wp2_with fail
        go_roundw
        case rel => exact ⟨j + 1, by omega, by go_num, HN2.out, H1.out⟩
        case measure => simp [intOf]; omega
    · obtain rfl : j = L.length := by omega
      rw [List.take_of_length_le (Nat.le_refl _)] at hne
      have HC := Lib.hid hC; clear hC
      have HN := Lib.hid hne; clear hne
      clear hlt hj
      go_wp2_with fail
      go_ret
      exact ⟨.inl rfl, fun _ => HN.out, HC.out⟩
def drpDelPost (base : Nat) (b b2 : Nat) (d u : Int) (v : Value) (L : List Nat) (w : World) (e : Ending) (w' : World) : Prop :=
  ∃ v', e = .returned v' ∧ KRow w' base v' (L.filter fun k => !drpP b b2 d u k) ∧ v'.ownBlock = v.ownBlock ∧ Chg (fun j => some j = v.ownBlock) w w'
set_option maxRecDepth 100000 in
set_option maxHeartbeats 2000000 in
theorem drpDel (base : Nat) (b b2 : Nat) (d u : Int) (v : Value) (L : List Nat) (w : World) (h : KRow w base v L) (hn : L.length ≤ 100) (hcb : w.cell? ⟨b, 0, none⟩ = some (.int .i64 d)) (hcb2 : w.cell? ⟨b2, 0, none⟩ = some (.int .i64 u)) (hnhcb : v.ownBlock ≠ some b) (hnhcb2 : v.ownBlock ≠ some b2) :
    Calls Try.prog 142 #[v, .func (.func 153) #[] #[.pointer (some ⟨b, 0, none⟩), .pointer (some ⟨b2, 0, none⟩)]] w (drpDelPost base b b2 d u v L w) := by
  have hix := drpIndex base b b2 d u v L w h hn hcb hcb2
  obtain ⟨A, c, hvv⟩ := h.slice
  have hclo := fun (k : Nat) (W : World) (hC : Chg (fun j => some j = v.ownBlock) w W) => drpClo b b2 d u k W (hC.cell hcb (fun h => hnhcb h.symm)) (hC.cell hcb2 (fun h => hnhcb2 h.symm))
  have HCLO := Lib.hid hclo; clear hclo
  have HIX := Lib.hid hix; clear hix
  have HO : Hid (KRow w base v L) := h
  clear h hcb hcb2 hnhcb hnhcb2
  subst hvv
  go_enter Try.func142, Try.ntmps142
  go_wp2_with fail
  refine HIX.out.mono ?_
  rintro e w1 ⟨hcase, hall, hC⟩
  rcases hcase with rfl | ⟨i0, hi0, rfl, hpre, k0, hk0, hpk⟩
  · have hfil : (L.filter fun k => !drpP b b2 d u k) = L := List.filter_eq_self.2 (fun k hk => by rw [hall rfl k hk]; rfl)
    have HF := Lib.hid hfil; clear hfil hall
    have HC := Lib.hid hC; clear hC
    go_wp2_with fail
    go_ret
    exact ⟨_, rfl, by rw [HF.out]; exact HO.out.keep HC.out (fun _ _ => id), rfl, HC.out.toF _⟩
  · obtain ⟨g, cap, hv, hbg, hgl, hc1, hc2⟩ := HO.out.form (by omega)
    injection hv with h1 h2 h3
    subst h1 h3
    have hm1 : ((i0 : Int) == -1) = false := beq_eq_false_iff_ne.2 (by omega)
    have hi00 : (0 : Int) ≤ i0 := by omega
    have hL0 : (L.length : Int) ≤ 100 := by omega
    have hst : L.take i0 = (L.take (i0 + 1)).filter fun k => !drpP b b2 d u k := by
      rw [List.take_succ_eq_append_getElem hi0, List.filter_append]
      have e1 : (L.take i0).filter (fun k => !drpP b b2 d u k) = L.take i0 := List.filter_eq_self.2 (fun k hk => by rw [hpre k hk]; rfl)
      have e2 : L[i0] = k0 := by rw [List.getElem?_eq_getElem hi0] at hk0; injection hk0
      rw [e1, e2, List.filter_cons, hpk]; simp
    have hO1 := HO.out.keep hC (fun _ _ => id)
    have HO1 : Hid (KRow w1 base (.slice (some ⟨g, 0, none⟩) L.length c) L) := hO1
    clear hO1
    have HST := Lib.hid hst; clear hst hpre hpk hk0 hall
    have HC := Lib.hid hC; clear hC
    unfold maxLen at hc2
    go_wp2_with fail
    go_loopw [5, 6] (fun si sj wr => ∃ (i j : Nat) (L' : List Nat), si = .int .i64 i ∧ sj = .int .i64 j ∧ i < j ∧ j ≤ L.length ∧ L'.length = L.length ∧ L'.take i = ((L.take j).filter fun k => !drpP b b2 d u k) ∧ L'.drop j = L.drop j ∧ KRow wr base (.slice (some ⟨g, 0, none⟩) L.length c) L' ∧ Chg (fun k => k = g) w wr) (fun _ sj _ => L.length - (intOf sj).toNat)
    case atStart => exact ⟨i0, i0 + 1, L, rfl, by go_num, by omega, by omega, rfl, HST.out, rfl, HO1.out, HC.out.toF _⟩
    case round =>
      clear HST
      obtain ⟨i, j, L', rfl, rfl, hij, hj, hl, ht, hd, hO, hCw⟩ := hrel
      have j0 : (0 : Int) ≤ j := by omega
      have i0' : (0 : Int) ≤ i := by omega
      have i1' : (i : Int) < L.length := by omega
      by_cases hlt : j < L.length
      · have j1 : (j : Int) < L.length := by omega
        have hLj : L'[j]'(by omega) = L[j] := by
          have h3 := congrArg (fun l => l[0]?) hd
          simp only [List.getElem?_drop, Nat.add_zero] at h3
          rw [List.getElem?_eq_getElem (by omega), List.getElem?_eq_getElem hlt] at h3
          injection h3
        have A0 : wr.cell? ⟨g, j * 2, none⟩ = some (.int .i64 ((L[j] : Int) / 8)) := by have := hO.cell kc_len (i := j) (by omega) (show 0 < 2 by omega); rw [hLj] at this; exact this
        have A1 : wr.cell? ⟨g, j * 2 + 1, none⟩ = some (.int .i64 ((L[j] : Int) % 8)) := by have := hO.cell kc_len (i := j) (by omega) (show 1 < 2 by omega); rw [hLj] at this; exact this
        have hcl := HCLO.out L[j] (wr.alloc (.cells #[.int .i64 ((L[j] : Int) / 8), .int .i64 ((L[j] : Int) % 8)] 159)) ((hCw.mono (fun k _ h => by rw [h]; rfl)).alloc _)
        have HCL := Lib.hid hcl; clear hcl
        have hstep : L.take (j + 1) = L.take j ++ [L[j]] := List.take_succ_eq_append_getElem hlt
        have hdrop : L'.drop (j + 1) = L.drop (j + 1) := by rw [← List.drop_drop, ← List.drop_drop, hd]
        have hgl2 : g < wr.heap.size := (hO.at).2
        by_cases hp : drpP b b2 d u L[j] = true
        · have ht2 : L'.take i = ((L.take (j + 1)).filter fun k => !drpP b b2 d u k) := by rw [hstep, List.filter_append, ← ht]; simp [hp]
          rw [hp] at HCL
          have H1 := Lib.hid ht2; clear ht2 ht
          have H2 := Lib.hid hdrop; clear hdrop hd
          have H3 : Hid (KRow wr base (.slice (some ⟨g, 0, none⟩) L.length c) L') := hO
          have H4 := Lib.hid hCw; clear hCw hO
          clear hp hLj hstep
          go_wp2_with fail
          refine HCL.out.mono ?_
          rintro e w2 ⟨rfl, hD⟩
          have hD2 : Chg (fun _ => False) wr w2 := Chg.trans ((Chg.refl _ _).alloc _) hD
          have H5 := Lib.hid hD2; clear hD2 hD
          go_wp2_with fail
          go_roundw
          case rel => exact ⟨i, j + 1, L', rfl, by go_num, by omega, by omega, hl, H1.out, H2.out, H3.out.keep H5.out (fun _ _ => id), H4.out.trans (H5.out.toF _)⟩
          case measure => simp [intOf]; omega
        · have hp' : drpP b b2 d u L[j] = false := by simpa using hp
          rw [hp'] at HCL
          have hsl : (L'.set i L[j]).take (i + 1) = L'.take i ++ [L[j]] := by
            rw [List.take_succ_eq_append_getElem (by rw [List.length_set]; omega), List.getElem_set_self, List.take_set_of_le (Nat.le_refl _)]
          have ht2 : (L'.set i L[j]).take (i + 1) = ((L.take (j + 1)).filter fun k => !drpP b b2 d u k) := by rw [hsl, hstep, List.filter_append, ← ht]; simp [hp']
          have hd2 : (L'.set i L[j]).drop (j + 1) = L.drop (j + 1) := by rw [List.drop_set_of_lt (by omega), hdrop]
          have hst2 := fun (W : World) (hO' : KRow W base (.slice (some ⟨g, 0, none⟩) L.length c) L') => hO'.set kc_len (i := i) (by omega) L[j]
          have hcI := fun (W : World) (hO' : KRow W base (.slice (some ⟨g, 0, none⟩) L.length c) L') => (show W.cell? ⟨g, i * 2, none⟩ = some (.int .i64 ((L'[i]'(by omega) : Int) / 8)) from hO'.cell kc_len (by omega) (show 0 < 2 by omega))
          have hcI2 := fun (W : World) (hO' : KRow W base (.slice (some ⟨g, 0, none⟩) L.length c) L') => (show W.cell? ⟨g, i * 2 + 1, none⟩ = some (.int .i64 ((L'[i]'(by omega) : Int) % 8)) from hO'.cell kc_len (by omega) (show 1 < 2 by omega))
          have H1 := Lib.hid ht2; clear ht2 ht hsl
          have H2 := Lib.hid hd2; clear hd2 hdrop hd
          have H3 : Hid (KRow wr base (.slice (some ⟨g, 0, none⟩) L.length c) L') := hO
          have H4 := Lib.hid hCw; clear hCw hO
          have H6 := Lib.hid hst2; clear hst2
          have H7 := Lib.hid hcI; clear hcI
          have H8 := Lib.hid hcI2; clear hcI2
          clear hp hp' hLj hstep
          go_wp2_with fail
          refine HCL.out.mono ?_
          rintro e w2 ⟨rfl, hD⟩
          have hb := hD.new id
          have hD2 : Chg (fun _ => False) wr w2 := Chg.trans ((Chg.refl _ _).alloc _) hD
          have hO2 := H3.out.keep hD2 (fun _ _ => id)
          have V0 := blk_cell hb 0
          have V1 := blk_cell hb 1
          have I0 := H7.out w2 hO2
          have I1 := H8.out w2 hO2
          have G0 := hO2.free (i * 2)
          have G1 := hO2.free (i * 2 + 1)
          have hs2 := H6.out w2 hO2
          have H5 := Lib.hid hD2; clear hD2 hD hb hO2
          have H9 := Lib.hid hs2; clear hs2
          have ng : ¬ g = wr.heap.size := by omega
          have ng2 : ¬ wr.heap.size = g := by omega
          go_wp2_with fail
          go_roundw
          case rel => exact ⟨i + 1, j + 1, L'.set i L[j], by go_num, by go_num, by omega, by omega, by rw [List.length_set]; exact hl, H1.out, H2.out, H9.out, (H4.out.trans (H5.out.toF _)).trans (setCells_chg g w2 (kc L[j]) (i * 2))⟩
          case measure => simp [intOf]; omega
      · obtain rfl : j = L.length := by omega
        rw [List.take_of_length_le (Nat.le_refl _)] at ht
        obtain ⟨W', hcl, hown, hCc⟩ := clear_tail hO i (L.length - i) (c - i) (by omega) (by omega) 0
        have hcast : ((L.length : Int) - (i : Int)) = ((L.length - i : Nat) : Int) := by omega
        have i2' : (i : Int) ≤ c := by omega
        have hj1 : decide ((L.length : Int) < L.length) = false := by simp
        rw [ht] at hown
        have H1 := Lib.hid hown; clear hown ht hd
        have H4 := Lib.hid hCw; clear hCw hO
        have H5 := Lib.hid hCc; clear hCc
        go_wp2_with fail
        go_ret
        exact ⟨_, rfl, H1.out, rfl, (H4.out.trans H5.out).mono (fun j _ h => by rw [h]; rfl)⟩
end Go.Proofs.Ytpnhdiajiieonaa
