/- May pools be? -/
import Derived.Test.YtnallfehffhaeaaMapI
import Derived.Test.YtnallfehffhaeaaCfg
set_option linter.unusedSimpArgs false
set_option linter.unusedVariables false
namespace Go.Proofs.Ytnallfehffhaeaa
open Go.RowKit

/-- A slice of slices of ints reads as L. -/
def RdLL (w : World) (v : Value) (L : Pls) : Prop := L.length ≤ maxLen ∧ ∃ A c, v = .slice A L.length c ∧ ∀ (j : Nat) (h : j < L.length), ∃ g o F, A = some ⟨g, o, none⟩ ∧ w.cell? ⟨g, o + j, none⟩ = some F ∧ RdN w F L[j]
theorem RdLL.keepN {w w' : World} {v : Value} {L : Pls} (h : RdLL w v L) (hC : Chg (fun _ => False) w w') : RdLL w' v L := by
  obtain ⟨hm, A, c, rfl, h⟩ := h
  refine ⟨hm, A, c, rfl, fun j hj => ?_⟩
  obtain ⟨g, o, F, rfl, h0, h1⟩ := h j hj
  exact ⟨g, o, F, rfl, hC.cell h0 id, h1.keepN hC⟩
def badP (P : List Int) : Bool := decide (P.length < 2) || decide (5 < P.length)
def PoolsP (bs : List UInt8) (L : Pls) : Prop := (∀ f ∈ L.flatten, frameP bs f) ∧ L.flatten.Nodup ∧ 1 ≤ L.length ∧ L.length ≤ 4 ∧ ∀ P ∈ L, badP P = false
set_option maxRecDepth 100000 in
theorem pBad (F : Value) (P : List Int) (w : World) (h : RdN w F P) : Calls Try.prog 66 #[F] w fun e w' => e = .returned (.bool (badP P)) ∧ w = w' := by
  obtain ⟨hm, A, c, rfl, _⟩ := h
  unfold badP
  have hmm : P.length ≤ 9223372036854775807 := by unfold maxLen at hm; omega
  clear hm
  by_cases h1 : P.length < 2
  · have b1 : decide ((P.length : Int) < 2) = true := decide_eq_true (by omega)
    have EN := Lib.hid (decide_eq_true h1)
    clear h1
    go_enter Try.func66, Try.ntmps66
    go_wp2
    go_ret
    exact ⟨by rw [EN.out]; rfl, rfl⟩
  · have b1 : decide ((P.length : Int) < 2) = false := decide_eq_false (by omega)
    have EN := Lib.hid (decide_eq_false h1)
    clear h1
    by_cases h2 : 5 < P.length
    · have b2 : decide ((5 : Int) < P.length) = true := decide_eq_true (by omega)
      have EM := Lib.hid (decide_eq_true h2)
      clear h2
      go_enter Try.func66, Try.ntmps66
      go_wp2
      go_ret
      exact ⟨by rw [EN.out, EM.out]; rfl, rfl⟩
    · have b2 : decide ((5 : Int) < P.length) = false := decide_eq_false (by omega)
      have EM := Lib.hid (decide_eq_false h2)
      clear h2
      go_enter Try.func66, Try.ntmps66
      go_wp2
      go_ret
      exact ⟨by rw [EN.out, EM.out]; rfl, rfl⟩
set_option maxRecDepth 100000 in
set_option maxHeartbeats 2000000 in
theorem pIndex (v : Value) (L : Pls) (w : World) (h : RdLL w v L) (h4 : L.length ≤ 4) :
    Calls Try.prog 78 #[v, .func (.func 66) #[] #[]] w fun e w' => ((e = .returned (.int .i64 (-1)) ∧ ∀ P ∈ L, badP P = false) ∨ ∃ i : Nat, ∃ h : i < L.length, e = .returned (.int .i64 i) ∧ badP L[i] = true) ∧ Chg (fun _ => False) w w' := by
  obtain ⟨A, c, rfl⟩ : ∃ A c, v = .slice A L.length c := by obtain ⟨_, A, c, h, _⟩ := h; exact ⟨A, c, h⟩
  have H := Lib.hid h; clear h
  go_enter Try.func78, Try.ntmps78
  go_wp2_with fail
  go_loopw [8] (fun s wr => ∃ j : Nat, j ≤ L.length ∧ s = .int .i64 j ∧ (∀ k (hk : k < L.length), k < j → badP L[k] = false) ∧ Chg (fun _ => False) w wr) (fun s _ => L.length - (intOf s).toNat)
  case atStart => exact ⟨0, by omega, rfl, (fun k hk h => by omega), Chg.refl _ _⟩
  case round =>
    obtain ⟨j, hj, rfl, hno, hC⟩ := hrel
    have HN := Lib.hid hno; clear hno
    have j0 : (0 : Int) ≤ j := by omega
    have l4 : (L.length : Int) ≤ 4 := by omega
    by_cases hlt : j < L.length
    · have j1 : (j : Int) < L.length := by omega
      obtain ⟨_, A', c', hv, hel⟩ := H.out.keepN hC
      injection hv with e1 e2 e3
      subst e1 e3
      obtain ⟨g, o, F, rfl, a0, a1⟩ := hel j hlt
      have HB := Lib.hid (pBad F L[j] wr a1)
      have HC := Lib.hid hC; clear hC hel a1
      have HJ : Hid (badP L[j] = true → ∃ i : Nat, ∃ h : i < L.length, Ending.returned (.int .i64 j) = .returned (.int .i64 i) ∧ badP L[i] = true) := fun h => ⟨j, hlt, rfl, h⟩
      have HK : Hid (badP L[j] = false → ∀ k (hk : k < L.length), k < j + 1 → badP L[k] = false) := fun h k hk hkj => by
        by_cases e : k = j
        · subst e; exact h
        · exact HN.out k hk (by omega)
      generalize badP L[j] = bb at *
      go_wp2_with fail
      refine HB.out.mono ?_
      rintro e w1 ⟨rfl, rfl⟩
      clear HB
      cases bb with
      | true =>
        go_wp2_with fail
        go_ret
        exact ⟨.inr (HJ.out (by simp)), HC.out⟩
      | false =>
        have HK2 := Lib.hid (HK.out (by simp))
        clear HK HJ
        go_wp2_with fail
        go_roundw
        case rel => exact ⟨j + 1, by omega, by go_num, HK2.out, HC.out⟩
        case measure => simp [intOf]; omega
    · obtain rfl : j = L.length := by omega
      have HC := Lib.hid hC; clear hC hlt hj
      go_wp2_with fail
      go_ret
      exact ⟨.inl ⟨rfl, fun P hP => by obtain ⟨k, hk, rfl⟩ := List.mem_iff_getElem.1 hP; exact HN.out k hk hk⟩, HC.out⟩
set_option maxRecDepth 100000 in
theorem pContains (v : Value) (L : Pls) (w : World) (h : RdLL w v L) (h4 : L.length ≤ 4) :
    Calls Try.prog 67 #[v, .func (.func 66) #[] #[]] w fun e w' => (∃ b : Bool, e = .returned (.bool b) ∧ (b = false ↔ ∀ P ∈ L, badP P = false)) ∧ Chg (fun _ => False) w w' := by
  have HI := Lib.hid (pIndex v L w h h4)
  clear h h4
  go_enter Try.func67, Try.ntmps67
  go_wp2_with fail
  refine HI.out.mono ?_
  rintro e w1 ⟨hc, hC⟩
  have HC := Lib.hid hC; clear hC HI
  rcases hc with ⟨rfl, hn⟩ | ⟨i, hi, rfl, hb⟩
  · have HN := Lib.hid hn; clear hn
    go_wp2_with fail
    go_ret
    exact ⟨⟨false, rfl, fun _ => HN.out, fun _ => rfl⟩, HC.out⟩
  · have i0 : (0 : Int) ≤ i := by omega
    have HN : Hid (¬ ∀ P ∈ L, badP P = false) := fun h => by rw [h _ (List.getElem_mem hi)] at hb; cases hb
    clear hb hi
    have b0 : decide ((0 : Int) ≤ i) = true := decide_eq_true i0
    go_wp2_with fail
    go_ret
    exact ⟨⟨true, rfl, (fun h => by cases h), fun h => absurd h HN.out⟩, HC.out⟩
theorem flat_at {L : Pls} {k : Nat} (hk : k < L.length) {j : Nat} (hj : j < L[k].length) : ∃ rest, L.flatten = ((L.take k).flatten ++ L[k].take j) ++ L[k][j] :: rest := by
  refine ⟨L[k].drop (j + 1) ++ (L.drop (k + 1)).flatten, ?_⟩
  have h1 : L[k] = L[k].take j ++ L[k][j] :: L[k].drop (j + 1) := by rw [List.getElem_cons_drop, List.take_append_drop]
  have h2 : L = L.take k ++ L[k] :: L.drop (k + 1) := by rw [List.getElem_cons_drop, List.take_append_drop]
  have h3 := congrArg (· ++ (L.drop (k + 1)).flatten) h1
  simp only [List.append_assoc, List.cons_append] at h3
  have h4 := congrArg List.flatten h2
  rw [List.flatten_append, List.flatten_cons, h3] at h4
  rw [h4, List.append_assoc]
end Go.Proofs.Ytnallfehffhaeaa
