/- Configs: rows searched by closures; whose a frame is. Printed by mkcfgb.py. -/
import Derived.Test.YtncbcjjdnlmjbaaCfgA
set_option linter.unusedSimpArgs false
set_option linter.unusedVariables false
namespace Go.Proofs.Ytncbcjjdnlmjbaa
open Go.RowKit

theorem retB {a b : Bool} (h : a = b) : Ending.returned (.bool a) = .returned (.bool b) := by rw [h]
/-- Where a row has the first of which Q is so. -/
def IxAt {α : Type} (Q : α → Prop) (L : List α) (r : Int) : Prop := (r = -1 ∧ ∀ j (h : j < L.length), ¬ Q L[j]) ∨ ∃ i, ∃ h : i < L.length, r = i ∧ Q L[i] ∧ ∀ j (hj : j < L.length), j < i → ¬ Q L[j]
def IxPost {α : Type} (Q : α → Prop) (L : List α) (w : World) (e : Ending) (w' : World) : Prop := (∃ r : Int, e = .returned (.int .i64 r) ∧ IxAt Q L r) ∧ Chg (fun _ => False) w w'
theorem IxAt.has {α : Type} {Q : α → Prop} [DecidablePred Q] {L : List α} {r : Int} (h : IxAt Q L r) : decide (0 ≤ r) = decide (∃ x ∈ L, Q x) := by
  rw [Bool.eq_iff_iff]
  simp only [decide_eq_true_eq]
  rcases h with ⟨rfl, h⟩ | ⟨i, hi, rfl, hq, _⟩
  · constructor
    · intro h; omega
    · rintro ⟨x, hx, hq⟩
      obtain ⟨j, hj, rfl⟩ := List.getElem_of_mem hx
      exact absurd hq (h j hj)
  · exact ⟨fun _ => ⟨_, List.getElem_mem hi, hq⟩, fun _ => by omega⟩

set_option maxRecDepth 100000 in
set_option maxHeartbeats 1000000 in
theorem nIndex (f : Int) (v : Value) (L : List Int) (w : World) (h : RdN w v L) :
    Calls Try.prog 189 #[v, .int .i64 f] w (IxPost (fun x => x = f) L w) := by
  obtain ⟨hm, A, c, rfl, h⟩ := h
  have hm' : (L.length : Int) ≤ 9223372036854775807 := by unfold maxLen at hm; omega
  have HO := Lib.hid h; clear h hm
  go_enter Try.func189, Try.ntmps189
  go_wp2_with fail
  go_loopw [8] (fun s wr => ∃ j : Nat, j ≤ L.length ∧ s = .int .i64 j ∧ (∀ k (hk : k < L.length), k < j → ¬ L[k] = f) ∧ Chg (fun _ => False) w wr) (fun s _ => L.length - (intOf s).toNat)
  case atStart => exact ⟨0, by omega, rfl, by intro k hk h; omega, Chg.refl _ _⟩
  case round =>
    obtain ⟨j, hj, rfl, hne, hC⟩ := hrel
    have j0 : (0 : Int) ≤ j := by omega
    by_cases hlt : j < L.length
    · have j1 : (j : Int) < L.length := by omega
      obtain ⟨g, o, rfl, a0⟩ := HO.out j hlt
      have A0 := hC.cell a0 id
      have HC := Lib.hid hC; clear hC
      have HN := Lib.hid hne; clear hne a0
      by_cases hp : L[j] = f
      · rw [hp] at A0
        have HP := Lib.hid hp; clear hp
        go_wp2_with fail
        go_ret
        exact ⟨⟨_, rfl, .inr ⟨j, hlt, rfl, HP.out, HN.out⟩⟩, HC.out⟩
      · have HN2 := Lib.hid (show ∀ k (hk : k < L.length), k < j + 1 → ¬ L[k] = f from fun k hk hkj => by
          by_cases e : k = j
          · subst e; exact hp
          · exact HN.out k hk (by omega)); clear HN
        generalize L[j] = x at *
        have hb : (f == x) = false := by simpa using fun e => hp e.symm
        clear hp
        go_wp2_with fail
        go_roundw
        case rel => exact ⟨j + 1, by omega, by go_num, HN2.out, HC.out⟩
        case measure => simp [intOf]; omega
    · obtain rfl : j = L.length := by omega
      have HC := Lib.hid hC; clear hC
      have HN := Lib.hid hne; clear hne hlt hj
      go_wp2_with fail
      go_ret
      exact ⟨⟨_, rfl, .inl ⟨rfl, fun k hk => HN.out k hk hk⟩⟩, HC.out⟩
set_option maxRecDepth 100000 in
theorem nContains (f : Int) (v : Value) (L : List Int) (w : World) (h : RdN w v L) :
    Calls Try.prog 182 #[v, .int .i64 f] w fun e w' => e = .returned (.bool (decide (f ∈ L))) ∧ Chg (fun _ => False) w w' := by
  have hix := nIndex f v L w h
  have HIX := Lib.hid hix; clear hix h
  go_enter Try.func182, Try.ntmps182
  go_wp2_with fail
  refine HIX.out.mono ?_
  rintro e w1 ⟨⟨r, rfl, hr⟩, hC⟩
  have hb := hr.has
  rw [show decide (∃ x ∈ L, x = f) = decide (f ∈ L) from by simp] at hb
  have HB := Lib.hid hb; clear hb hr
  go_wp2_with fail
  go_ret
  exact ⟨by rw [← HB.out]; exact retB (by first | rfl | simp [Bool.eq_iff_iff]), hC⟩

/-- Does a partition have that frame? -/
theorem ownClo (f : Int) (b : Nat) (lv cats fi co : Int) (F : Value) (L : List Int) (w : World) (hc : w.cell? ⟨b, 0, none⟩ = some (.int .i64 f)) (hF : RdN w F L) :
    Calls Try.prog 181 (#[.agg #[.int .i64 lv, .int .i64 cats, F, .int .i64 fi, .int .i64 co]] ++ #[.pointer (some ⟨b, 0, none⟩)]) w fun e w' => e = .returned (.bool (decide (f ∈ L))) ∧ Chg (fun _ => False) w w' := by
  obtain ⟨hm, A, c, rfl, hF'⟩ := id hF
  clear hF'
  have hct := nContains f _ L (w.alloc (.cells #[.int .i64 lv, .int .i64 cats, .slice A L.length c, .int .i64 fi, .int .i64 co] 40)) (hF.keepN ((Chg.refl _ _).alloc _))
  have hlt := World.block_lt_of_cell? w _ hc
  have HCT := Lib.hid hct; clear hct hF hm
  go_enter Try.func181, Try.ntmps181
  go_wp2_with fail
  refine HCT.out.mono ?_
  rintro e w1 ⟨rfl, hC⟩
  go_wp2_with fail
  go_ret
  exact ⟨rfl, ((Chg.refl _ _).alloc _).trans hC⟩

set_option maxRecDepth 100000 in
set_option maxHeartbeats 1000000 in
theorem ownIdx (f : Int) (b : Nat) (v : Value) (L : List Prt) (w : World) (h : RdP w v L)
    (hclo : ∀ (j : Nat) (h : j < L.length) (F : Value) (W : World), Chg (fun _ => False) w W → RdN W F L[j].fr → Calls Try.prog 181 (#[.agg #[.int .i64 L[j].lv, .int .i64 L[j].cats, F, .int .i64 L[j].first, .int .i64 L[j].count]] ++ #[.pointer (some ⟨b, 0, none⟩)]) W fun e w' => e = .returned (.bool (decide ((fun p : Prt => f ∈ p.fr) L[j]))) ∧ Chg (fun _ => False) W w') :
    Calls Try.prog 180 #[v, .func (.func 181) #[] #[.pointer (some ⟨b, 0, none⟩)]] w (IxPost (fun p : Prt => f ∈ p.fr) L w) := by
  obtain ⟨hm, A, c, rfl, h⟩ := h
  have hm' : (L.length : Int) ≤ 9223372036854775807 := by unfold maxLen at hm; first | omega | (have := hm.1; omega)
  have HO := Lib.hid h; clear h hm
  have HCLO := Lib.hid hclo; clear hclo
  go_enter Try.func180, Try.ntmps180
  go_wp2_with fail
  go_loopw [8] (fun s wr => ∃ j : Nat, j ≤ L.length ∧ s = .int .i64 j ∧ (∀ k (hk : k < L.length), k < j → ¬ (fun p : Prt => f ∈ p.fr) L[k]) ∧ Chg (fun _ => False) w wr) (fun s _ => L.length - (intOf s).toNat)
  case atStart => exact ⟨0, by omega, rfl, by intro k hk h; omega, Chg.refl _ _⟩
  case round =>
    obtain ⟨j, hj, rfl, hne, hC⟩ := hrel
    have j0 : (0 : Int) ≤ j := by omega
    by_cases hlt : j < L.length
    · have j1 : (j : Int) < L.length := by omega
      obtain ⟨g, o, F, rfl, a0, a1, a2, a3, a4, hF⟩ := HO.out j hlt
      have A0 := hC.cell a0 id
      have A1 := hC.cell a1 id
      have A2 := hC.cell a2 id
      have A3 := hC.cell a3 id
      have A4 := hC.cell a4 id
      have hcl := HCLO.out j hlt F wr hC (hF.keepN hC)
      have HCL := Lib.hid hcl; clear hcl
      have HC := Lib.hid hC; clear hC
      have HN := Lib.hid hne; clear hne
      clear a0 a1 a2 a3 a4
      go_wp2_with fail
      refine HCL.out.mono ?_
      rintro e w1 ⟨rfl, hD⟩
      have hC1 := HC.out.trans hD
      have H1 := Lib.hid hC1; clear hC1 hD
      clear HCL A0 A1 A2 A3 A4
      by_cases hp : (fun p : Prt => f ∈ p.fr) L[j]
      · rw [decide_eq_true hp]
        have HP := Lib.hid hp; clear hp
        go_wp2_with fail
        go_ret
        exact ⟨⟨_, rfl, .inr ⟨j, hlt, rfl, HP.out, HN.out⟩⟩, H1.out⟩
      · rw [decide_eq_false hp]
        have HN2 := Lib.hid (show ∀ k (hk : k < L.length), k < j + 1 → ¬ (fun p : Prt => f ∈ p.fr) L[k] from fun k hk hkj => by
          by_cases e : k = j
          · subst e; exact hp
          · exact HN.out k hk (by omega)); clear hp HN
        go_wp2_with fail
        go_roundw
        case rel => exact ⟨j + 1, by omega, by go_num, HN2.out, H1.out⟩
        case measure => simp [intOf]; omega
    · obtain rfl : j = L.length := by omega
      have HC := Lib.hid hC; clear hC
      have HN := Lib.hid hne; clear hne hlt hj
      go_wp2_with fail
      go_ret
      exact ⟨⟨_, rfl, .inl ⟨rfl, fun k hk => HN.out k hk hk⟩⟩, HC.out⟩

theorem ownAt_ix (f : Int) : ∀ (L : List Prt) (i : Int) (r : Int), IxAt (fun p : Prt => f ∈ p.fr) L r → ownAt L f i = if r = -1 then -1 else i + r
  | [], i, r, h => by
    rcases h with ⟨rfl, _⟩ | ⟨_, h, _⟩
    · simp [ownAt]
    · exact absurd h (by simp)
  | p :: L, i, r, h => by
    by_cases hp : f ∈ p.fr
    · rcases h with ⟨rfl, h⟩ | ⟨k, hk, rfl, hq, hlt⟩
      · exact absurd hp (h 0 (by simp))
      · have : k = 0 := by
          rcases Nat.eq_zero_or_pos k with e | e
          · exact e
          · exact absurd hp (hlt 0 (by simp) e)
        subst this
        simp [ownAt, hp]
    · have key : ownAt (p :: L) f i = ownAt L f (i + 1) := by simp [ownAt, hp]
      rw [key]
      rcases h with ⟨rfl, h⟩ | ⟨k, hk, rfl, hq, hlt⟩
      · rw [ownAt_ix f L (i + 1) (-1) (.inl ⟨rfl, fun j hj => h (j + 1) (by simpa using hj)⟩)]
        simp
      · cases k with
        | zero => exact absurd hq hp
        | succ k =>
          rw [ownAt_ix f L (i + 1) k (.inr ⟨k, by simpa using hk, rfl, hq, fun j hj hjk => hlt (j + 1) (by simpa using hj) (by omega)⟩)]
          rw [if_neg (by omega), if_neg (by omega)]
          omega
theorem own_ix (f : Int) (C : Cf) (r : Int) (h : IxAt (fun p : Prt => f ∈ p.fr) C.parts r) : C.own f = r := by
  unfold Cf.own
  rw [ownAt_ix f C.parts 0 r h]
  split <;> omega
set_option maxRecDepth 100000 in
theorem ownerOf (b : Nat) (f : Int) (C : Cf) (s : Vs) (w : World) (h : CfP w b C s) :
    Calls Try.prog 162 #[.pointer (some ⟨b, 0, none⟩), .int .i64 f] w fun e w' => e = .returned (.int .i64 (C.own f)) ∧ Chg (fun _ => False) w w' := by
  have hA : Chg (fun _ => False) w (w.alloc (.cells #[.int .i64 f] 3)) := (Chg.refl _ _).alloc _
  have hix := ownIdx f w.heap.size s.ps C.parts _ (h.2.1.keepN hA) (fun j hj F W hC hF => ownClo f w.heap.size _ _ _ _ F _ W (hC.cell (blk_cell (blk_new w _) 0) id) hF)
  have c1 := (h.keepN hA).cell 1
  have HIX := Lib.hid hix; clear hix
  simp only [cfc] at c1
  obtain ⟨hm, A, c, hv, _⟩ := h.2.1
  rw [hv] at HIX c1
  clear h hv hm
  go_enter Try.func162, Try.ntmps162
  go_wp2_with fail
  refine HIX.out.mono ?_
  rintro e w1 ⟨⟨r, rfl, hr⟩, hC⟩
  have hb := own_ix f C r hr
  subst hb
  clear hr
  go_wp2_with fail
  go_ret
  exact ⟨rfl, hA.trans hC⟩
end Go.Proofs.Ytncbcjjdnlmjbaa
