/- May pools be: the walk. -/
import Derived.Test.YtnallfehffhaeaaIomJ
set_option linter.unusedSimpArgs false
set_option linter.unusedVariables false
namespace Go.Proofs.Ytnallfehffhaeaa
open Go.RowKit

/-- What is seen so far is good. -/
def SeenOk (bs : List UInt8) (M S : List Int) : Prop := (∀ q, q ∈ M ↔ q ∈ S) ∧ (∀ f ∈ S, frameP bs f) ∧ S.Nodup
theorem SeenOk.snoc {bs : List UInt8} {M M' S : List Int} {f : Int} (h : SeenOk bs M S) (hf : frameP bs f) (hn : f ∉ M) (hM : ∀ q, q ∈ M' ↔ q = f ∨ q ∈ M) : SeenOk bs M' (S ++ [f]) := by
  obtain ⟨h1, h2, h3⟩ := h
  refine ⟨fun q => by rw [hM, h1]; simp [or_comm], fun g hg => ?_, ?_⟩
  · rcases List.mem_append.1 hg with hg | hg
    · exact h2 g hg
    · simp at hg; subst hg; exact hf
  · rw [List.nodup_append]
    refine ⟨h3, by simp, fun a ha b hb e => ?_⟩
    simp at hb
    subst hb; subst e
    exact hn ((h1 _).2 ha)
theorem not_pools_frame {bs : List UInt8} {L : Pls} {S rest : List Int} {f : Int} (h : L.flatten = S ++ f :: rest) (hf : ¬ frameP bs f) : ¬ PoolsP bs L := fun hp => hf (hp.1 f (by rw [h]; simp))
theorem not_pools_twice {bs : List UInt8} {L : Pls} {S rest M : List Int} {f : Int} (h : L.flatten = S ++ f :: rest) (hM : SeenOk bs M S) (hf : f ∈ M) : ¬ PoolsP bs L := fun hp => by
  have := hp.2.1
  rw [h, List.nodup_append] at this
  exact this.2.2 f ((hM.1 f).1 hf) f (by simp) rfl
theorem flat_take {L : Pls} {k : Nat} (hk : k < L.length) : (L.take (k + 1)).flatten = (L.take k).flatten ++ L[k] := by
  rw [List.take_add_one, List.getElem?_eq_getElem hk, List.flatten_append]
  simp
set_option maxRecDepth 100000 in
set_option maxHeartbeats 8000000 in
theorem pMay (p r : Nat) (bs : List UInt8) (v : Value) (L : Pls) (w : World) (hMm : MemAt w 93 p r bs) (hl : bs.length ≤ 4096) (h : RdLL w v L) :
    Calls Try.prog 41 #[.pointer (some ⟨p, 0, none⟩), v] w fun e w' => (∃ b : Bool, e = .returned (.bool b) ∧ (b = true ↔ PoolsP bs L)) ∧ Chg (fun _ => False) w w' := by
  have hmk := run_makeMap (P := Try.prog) 111 w
  have hmax : (L.length : Int) ≤ 9223372036854775807 := by have := h.1; unfold maxLen at this; omega
  have HM : Hid (∀ W, Chg (fun _ => False) w W → MemAt W 93 p r bs) := fun W hW => hMm.keepD hW
  have HR : Hid (∀ W, Chg (fun _ => False) w W → RdLL W v L) := fun W hW => h.keepN hW
  have HLN := Lib.hid hl
  obtain ⟨A, c, rfl⟩ : ∃ A c, v = .slice A L.length c := by obtain ⟨_, A, c, h, _⟩ := h; exact ⟨A, c, h⟩
  clear h hMm hl
  go_enter Try.func41, Try.ntmps41
  go_wp2_with fail
  clear hmk
  go_loopw [14] (fun s wr => ∃ (k : Nat) (M : List Int), k ≤ L.length ∧ s = .int .i64 k ∧ IM.MapAt wr w.heap.size M ∧ SeenOk bs M (L.take k).flatten ∧ Chg (fun _ => False) w wr) (fun s _ => L.length - (intOf s).toNat)
  case atStart => exact ⟨0, [], by omega, rfl, ⟨#[], 0, blk_new _ _, rfl⟩, ⟨by simp, by simp, by simp⟩, (Chg.refl _ _).alloc _⟩
  case round =>
    obtain ⟨k, M, hk, rfl, hM, hS, hC⟩ := hrel
    have k0 : (0 : Int) ≤ k := by omega
    obtain ⟨w0, hw0⟩ : ∃ x, x = wr := ⟨_, rfl⟩
    subst wr
    by_cases hlt : k < L.length
    · have k1 : (k : Int) < L.length := by omega
      obtain ⟨_, A', c', hv, hel⟩ := HR.out w (Chg.refl _ _)
      injection hv with e1 e2 e3
      subst e1 e3
      obtain ⟨g, o, F, rfl, a0w, a1⟩ := hel k hlt
      have a0 := hC.cell a0w id
      clear a0w
      obtain ⟨P, hP⟩ : ∃ P, P = L[k] := ⟨_, rfl⟩
      rw [← hP] at a1
      have pmax : (P.length : Int) ≤ 9223372036854775807 := by have := a1.1; unfold maxLen at this; omega
      have HF : Hid (∀ W, Chg (fun _ => False) w W → RdN W F P) := fun W hW => a1.keepN hW
      have HFL : Hid (∀ j (hj : j < P.length), ∃ rest, L.flatten = ((L.take k).flatten ++ P.take j) ++ P[j] :: rest) := by subst hP; exact fun j hj => flat_at hlt hj
      have HNX := Lib.hid (flat_take hlt)
      rw [← hP] at HNX
      obtain ⟨A2, c2, rfl⟩ : ∃ A c, F = .slice A P.length c := by obtain ⟨_, A, c, h, _⟩ := a1; exact ⟨A, c, h⟩
      have HC := Lib.hid hC
      have HMM := Lib.hid hM
      have HSS := Lib.hid hS
      clear hM hS hC hel a1 hP
      go_wp2_with fail
      clear a0
      go_loopw [20] (fun s wr => ∃ (j : Nat) (M : List Int), j ≤ P.length ∧ s = .int .i64 j ∧ IM.MapAt wr w.heap.size M ∧ SeenOk bs M ((L.take k).flatten ++ P.take j) ∧ Chg (fun _ => False) w wr) (fun s _ => P.length - (intOf s).toNat)
      case atStart => exact ⟨0, M, by omega, rfl, HMM.out, by simpa using HSS.out, HC.out⟩
      case round =>
        obtain ⟨j, M1, hj, rfl, hM1, hS1, hC1⟩ := hrel
        have j0 : (0 : Int) ≤ j := by omega
        by_cases hjt : j < P.length
        · have j1 : (j : Int) < P.length := by omega
          obtain ⟨_, A3, c3, hv3, hel3⟩ := HF.out wr hC1
          injection hv3 with e1 e2 e3
          subst e1 e3
          obtain ⟨g2, o2, rfl, a2⟩ := hel3 j hjt
          obtain ⟨rest, hrest⟩ := HFL.out j hjt
          have hMr := HM.out wr hC1
          have hlook := IM.mapLook hM1 P[j]
          dsimp only [IM.mKey] at hlook
          have htk : (L.take k).flatten ++ P.take (j + 1) = ((L.take k).flatten ++ P.take j) ++ [P[j]] := by rw [List.take_add_one, List.getElem?_eq_getElem hjt, List.append_assoc]; rfl
          have HTK := Lib.hid htk; clear htk
          obtain ⟨W', M', hrun, hM', hmem', hCm⟩ := IM.mapPut hM1 P[j]
          dsimp only [IM.mKey] at hrun
          have hC' : Chg (fun _ => False) w W' := hC1.trans' hCm (fun q hq e => by omega)
          have HCm := Lib.hid hC'; have HM' := Lib.hid hM'; have HMEM := Lib.hid hmem'; have HS1 := Lib.hid hS1; have HC1 := Lib.hid hC1; have HRST := Lib.hid hrest; have HMR := Lib.hid hMr
          clear hC' hM' hmem' hS1 hC1 hrest hMr hel3 hCm hM1
          generalize P[j] = f at *
          by_cases hfr : frameP bs f
          · have HFP := Lib.hid hfr
            have HFC := Lib.hid (frame59_yes p r bs f wr HMR.out HLN.out hfr)
            clear hfr
            by_cases hmem : f ∈ M1
            · rw [decide_eq_true hmem] at hlook
              have HNO := Lib.hid (not_pools_twice HRST.out HS1.out hmem)
              clear hmem hrun
              go_wp2_with fail
              refine HFC.out.mono ?_
              rintro e w2 ⟨rfl, rfl⟩
              go_wp2_with fail
              go_ret
              exact ⟨⟨false, rfl, (fun h => by cases h), fun h => absurd h HNO.out⟩, HC1.out⟩
            · rw [decide_eq_false hmem] at hlook
              have HSN := Lib.hid (HS1.out.snoc HFP.out hmem HMEM.out)
              rw [← HTK.out] at HSN
              clear hmem
              go_wp2_with fail
              refine HFC.out.mono ?_
              rintro e w2 ⟨rfl, rfl⟩
              go_wp2_with fail
              go_roundw
              case rel => exact ⟨j + 1, M', by omega, by go_num, HM'.out, HSN.out, HCm.out⟩
              case measure => simp [intOf]; omega
          · have HNO := Lib.hid (not_pools_frame HRST.out hfr)
            have HFC := Lib.hid (frame59_no p r bs f wr HMR.out HLN.out hfr)
            clear hfr hrun hlook
            go_wp2_with fail
            refine HFC.out.mono ?_
            rintro e w2 ⟨rfl, rfl⟩
            go_wp2_with fail
            go_ret
            exact ⟨⟨false, rfl, (fun h => by cases h), fun h => absurd h HNO.out⟩, HC1.out⟩
        · obtain rfl : j = P.length := by omega
          rw [List.take_of_length_le (Nat.le_refl _), ← HNX.out] at hS1
          have HM1 := Lib.hid hM1
          have HS1 := Lib.hid hS1
          have HC1 := Lib.hid hC1
          clear hM1 hS1 hC1
          go_wp2_with fail
          go_roundw
          case rel => exact ⟨k + 1, M1, by omega, by go_num, HM1.out, HS1.out, HC1.out⟩
          case measure => simp [intOf]; omega
    · obtain rfl : k = L.length := by omega
      rw [List.take_of_length_le (Nat.le_refl _)] at hS
      have HC := Lib.hid hC
      have HS := Lib.hid hS
      clear hC hS hM
      by_cases h1 : 1 ≤ L.length
      · have b1 : decide ((1 : Int) ≤ L.length) = true := decide_eq_true (by omega)
        by_cases h4 : L.length ≤ 4
        · have b4 : decide ((L.length : Int) ≤ 4) = true := decide_eq_true (by omega)
          have HCT := Lib.hid (pContains _ L w0 (HR.out w0 HC.out) h4)
          have HEQ : Hid (∀ b : Bool, (b = false ↔ ∀ P ∈ L, badP P = false) → ((!b) = true ↔ PoolsP bs L)) := fun b hb => by
            cases b
            · exact ⟨fun _ => ⟨HS.out.2.1, HS.out.2.2, h1, h4, hb.1 rfl⟩, fun _ => rfl⟩
            · exact ⟨(fun h => by cases h), fun h => by have := hb.2 h.2.2.2.2; cases this⟩
          clear h1 h4
          go_wp2_with fail
          refine HCT.out.mono ?_
          rintro e w1 ⟨⟨b, rfl, hb⟩, hC1⟩
          have HE := Lib.hid (HEQ.out b hb)
          have HC1 := Lib.hid (HC.out.trans hC1)
          clear hb hC1
          go_wp2_with fail
          go_ret
          exact ⟨⟨!b, rfl, HE.out⟩, HC1.out⟩
        · have b4 : decide ((L.length : Int) ≤ 4) = false := decide_eq_false (by omega)
          have HNO : Hid (¬ PoolsP bs L) := fun h => h4 h.2.2.2.1
          clear h1 h4
          go_wp2_with fail
          go_ret
          exact ⟨⟨false, rfl, (fun h => by cases h), fun h => absurd h HNO.out⟩, HC.out⟩
      · have b1 : decide ((1 : Int) ≤ L.length) = false := decide_eq_false (by omega)
        have HNO : Hid (¬ PoolsP bs L) := fun h => h1 h.2.2.1
        clear h1
        go_wp2_with fail
        go_ret
        exact ⟨⟨false, rfl, (fun h => by cases h), fun h => absurd h HNO.out⟩, HC.out⟩
end Go.Proofs.Ytnallfehffhaeaa
