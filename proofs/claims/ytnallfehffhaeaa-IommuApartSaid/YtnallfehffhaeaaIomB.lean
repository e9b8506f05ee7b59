/- The Iommu's leaf, fresh, look. Printed by mkiom2.py. -/
import Derived.Test.YtnallfehffhaeaaTk
import Derived.Test.YtnallfehffhaeaaIom
set_option linter.unusedSimpArgs false
set_option linter.unusedVariables false
namespace Go.Proofs.Ytnallfehffhaeaa
open Go.RowKit

theorem freeF_at {bs : List UInt8} {root : Int} : ∀ {fs : List Int} {k : Nat} (hk : k < fs.length) (_ : ∀ j, j < k → leadsB bs root (fs.getD j 0) = true) (_ : leadsB bs root (fs.getD k 0) = false), freeF bs root fs = some (fs.getD k 0)
  | f :: fs, 0, _, _, h2 => by
    simp only [List.getD_cons_zero] at h2
    simp [freeF, h2]
  | f :: fs, k + 1, hk, h1, h2 => by
    have h0 := h1 0 (by omega)
    simp only [List.getD_cons_zero] at h0
    simp only [freeF, h0, if_true, List.getD_cons_succ]
    exact freeF_at (by simpa using hk) (fun j hj => by have := h1 (j + 1) (by omega); simpa using this) (by simpa using h2)
theorem freeF_none {bs : List UInt8} {root : Int} : ∀ {fs : List Int} (_ : ∀ j, j < fs.length → leadsB bs root (fs.getD j 0) = true), freeF bs root fs = none
  | [], _ => rfl
  | f :: fs, h => by
    have h0 := h 0 (by simp)
    simp only [List.getD_cons_zero] at h0
    simp only [freeF, h0, if_true]
    exact freeF_none (fun j hj => by have := h (j + 1) (by simpa using hj); simpa using this)
theorem div16 {page : Int} (h : 0 ≤ page ∧ page < 256) : IntKind.i64.wrap (page.tdiv 16) = page / 16 := by
  obtain ⟨h0, h1⟩ := h
  rw [Int.tdiv_eq_ediv_of_nonneg h0]
  have a : 0 ≤ page / 16 := by omega
  have b : page / 16 < 16 := by omega
  generalize page / 16 = z at *
  rw [IntKind.wrap_i64]
  omega
theorem mod16 {page : Int} (h : 0 ≤ page ∧ page < 256) : IntKind.i64.wrap (page.tmod 16) = page % 16 := by
  obtain ⟨h0, h1⟩ := h
  rw [Int.tmod_eq_emod_of_nonneg h0]
  have a : 0 ≤ page % 16 := by omega
  have b : page % 16 < 16 := by omega
  generalize page % 16 = z at *
  rw [IntKind.wrap_i64]
  omega
def LeafPost (p r : Nat) (m : Int × Int × List UInt8) (w : World) (e : Ending) (w' : World) : Prop := e = .returned (.tuple #[.int .i64 m.1, .int .i64 m.2.1]) ∧ MemAt w' 93 p r m.2.2 ∧ Chg (fun k => k = r) w w'
theorem own_cells {w : World} {g n c : Nat} {pool : List Int} (h : OwnC icell 1 3 w 0 (.slice (some ⟨g, 0, none⟩) n c) pool) : ∀ i, i < pool.length → w.cell? ⟨g, i, none⟩ = some (.int .i64 (pool.getD i 0)) := by
  intro i hi
  have := h.cell (fun _ => rfl) hi (show 0 < 1 by omega)
  simp only [Nat.mul_one, Nat.add_zero, icell, List.getElem?_cons_zero] at this
  rw [this, List.getD_eq_getElem?_getD, List.getElem?_eq_getElem hi]; rfl
set_option maxRecDepth 100000 in
set_option maxHeartbeats 4000000 in
theorem iLeaf (x p tb r : Nat) (L : Pls) (nf : Int) (v : Value) (P T : Nat → Prop) (bs : List UInt8) (g c m : Nat) (rt : Int) (rest : List Int) (page : Int) (w : World) (h : IomV w x p tb L nf v P T) (hM : MemAt w 93 p r bs) (hl : bs.length ≤ 4096)
    (hp : ∀ i, i < (rt :: rest).length → w.cell? ⟨g, i, none⟩ = some (.int .i64 ((rt :: rest).getD i 0))) (hgr : g ≠ r) (hm : rest.length = m) (h4 : 1 ≤ m ∧ m ≤ 4) (hcc : m ≤ c) (hcm : c < maxLen) (hrt : 0 ≤ rt ∧ rt < 64) (hfr : ∀ f ∈ rest, 0 ≤ f ∧ f < 64) (hpg : 0 ≤ page ∧ page < 256) :
    Calls Try.prog 37 #[.pointer (some ⟨x, 0, none⟩), .slice (some ⟨g, 0, none⟩) (m + 1) (c + 1), .int .i64 page] w (LeafPost p r (leafM bs (rt :: rest) page) w) := by
  have hxr : x ≠ r := fun e => blk_unl h.blk (e ▸ hM.2) (by decide)
  have HX : Hid (∀ W, Chg (fun _ => False) w W → IomV W x p tb L nf v P T) := fun W hW => h.keepN hW
  have HM : Hid (∀ W, Chg (fun _ => False) w W → MemAt W 93 p r bs) := fun W hW => hM.keepD hW
  have HCG : Hid (∀ W, Chg (fun k => k = r) w W → ∀ i, i < (rt :: rest).length → W.cell? ⟨g, i, none⟩ = some (.int .i64 ((rt :: rest).getD i 0))) := fun W hW i hi => hW.cell (hp i hi) hgr
  have HY : Hid (∀ W, Chg (fun _ => False) w W → W.cell? ⟨x, 0, none⟩ = some (.pointer (some ⟨p, 0, none⟩)) ∧ W.cell? ⟨g, 0, none⟩ = some (.int .i64 rt)) := fun W hW => ⟨(HX.out _ hW).cells.1, HCG.out W (hW.mono (fun _ _ h => h.elim)) 0 (by simp)⟩
  have HYX : Hid (∀ W, Chg (fun k => k = r) w W → W.cell? ⟨x, 0, none⟩ = some (.pointer (some ⟨p, 0, none⟩)) ∧ W.cell? ⟨g, 0, none⟩ = some (.int .i64 rt)) := fun W hW => ⟨blk_cell (hW.at h.blk hxr) 0, HCG.out W hW 0 (by simp)⟩
  have HL : Hid (∀ W, Chg (fun _ => False) w W → Calls Try.prog 31 #[.pointer (some ⟨p, 0, none⟩), .int .i64 rt, .int .i64 page] W fun e w' => e = .returned (.tuple #[.int .i64 (leafI bs rt (page / 16)).1, .int .i64 (leafI bs rt (page / 16)).2]) ∧ Chg (fun _ => False) W w') := fun W hW => wLeaf p r bs rt page W (HM.out W hW) hl hrt hpg
  have HLN := Lib.hid hl
  have HRT := Lib.hid hrt
  have HFR := Lib.hid hfr
  have HMM := Lib.hid hm
  have HP6 : Hid (0 ≤ page / 16 ∧ page / 16 < 16) := ⟨by omega, by omega⟩
  have HEN : Hid (leafM bs (rt :: rest) page = if (leafI bs rt (page / 16)).2 = 0 then ((leafI bs rt (page / 16)).1, 0, bs)
    else match freeF bs rt rest with
    | some f => (f, putC bs (rt * 64 + page / 16 * 4) (putE f 3), putB bs (rt * 64 + page / 16 * 4) (putE f 3))
    | none => (0, 701, bs)) := rfl
  generalize leafM bs (rt :: rest) page = RES at *
  generalize leafI bs rt (page / 16) = le at *
  have HDV : Hid (IntKind.i64.wrap (page.tdiv 16) = page / 16) := div16 hpg
  have ppg0 := hpg.1
  have ppg1 := hpg.2
  have hm1 := h4.1
  have hm4 := h4.2
  clear h hM hp hl hrt hfr hm hpg h4
  go_enter Try.func37, Try.ntmps37
  go_upto_region 1 with fail
  refine wp_region_held_drew (S := fun W => Chg (fun _ => False) w W) (by kernel_rfl) ((Chg.refl _ _).drew) (fun hHeld => ?_)
  have HR : Hid (Chg (fun _ => False) w _) := hHeld
  refine tkH 0 (y := by intro w hSw; obtain ⟨y0, y1⟩ := HY.out _ hSw; go_simp; try with_reducible rfl) (h := ?_)
  refine tkH 1 (y := by intro w hSw; obtain ⟨y0, y1⟩ := HY.out _ hSw; go_simp; try with_reducible rfl) (h := ?_)
  refine tkH 2 (y := by intro w hSw; obtain ⟨y0, y1⟩ := HY.out _ hSw; go_simp; try with_reducible rfl) (h := ?_)
  refine tkH 3 (y := by intro w hSw; obtain ⟨y0, y1⟩ := HY.out _ hSw; go_simp; try with_reducible rfl) (h := ?_)
  refine tkH 4 (y := by intro w hSw; obtain ⟨y0, y1⟩ := HY.out _ hSw; go_simp; try with_reducible rfl) (h := ?_)
  refine tkH 5 (y := by intro w hSw; obtain ⟨y0, y1⟩ := HY.out _ hSw; go_simp; try with_reducible rfl) (h := ?_)
  refine tkH 6 (y := by intro w hSw; obtain ⟨y0, y1⟩ := HY.out _ hSw; go_simp; try with_reducible rfl) (h := ?_)
  refine tkH 7 (y := by intro w hSw; obtain ⟨y0, y1⟩ := HY.out _ hSw; go_simp; try with_reducible rfl) (h := ?_)
  refine cH 8 (y := fun K hK => ?_)
  go_simp
  (go_at_call 31; refine (HL.out _ HR.out).mono ?_; rintro e w1 ⟨rfl, k1⟩; replace HR := Lib.hid (HR.out.trans k1); clear k1)
  refine hK.out _ _ (HR.out) (fun hHeld => ?_)
  clear hK K
  try simp only [Act.put, List.setIfInBounds_toArray, List.set_cons_zero, List.set_cons_succ]
  refine tkH 9 (y := by intro w hSw; obtain ⟨y0, y1⟩ := HY.out _ hSw; go_simp; try with_reducible rfl) (h := ?_)
  refine tkH 10 (y := by intro w hSw; obtain ⟨y0, y1⟩ := HY.out _ hSw; go_simp; try with_reducible rfl) (h := ?_)
  refine tkH 11 (y := by intro w hSw; obtain ⟨y0, y1⟩ := HY.out _ hSw; go_simp; try with_reducible rfl) (h := ?_)
  refine tkH 12 (y := by intro w hSw; obtain ⟨y0, y1⟩ := HY.out _ hSw; go_simp; try with_reducible rfl) (h := ?_)
  refine tkH 13 (y := by intro w hSw; obtain ⟨y0, y1⟩ := HY.out _ hSw; go_simp; try with_reducible rfl) (h := ?_)
  refine dnH ?_
  clear HL
  by_cases e0 : le.2 = 0
  · rw [if_pos e0] at HEN
    rw [e0] at *
    have b0 : ((0 : Int) == 0) = true := rfl
    go_wp2_with fail
    go_ret2
    rw [HEN.out]
    exact ⟨rfl, HM.out _ HR.out, HR.out.mono (fun _ _ h => h.elim)⟩
  · rw [if_neg e0] at HEN
    have b0 : (le.2 == 0) = false := by simpa using e0
    clear e0
    go_wp2_with fail
    go_loopw [33] (fun s wr => ∃ k : Nat, k ≤ m ∧ s = .int .i64 k ∧ (∀ j : Nat, j < k → leadsB bs rt (rest.getD j 0) = true) ∧ Chg (fun _ => False) w wr) (fun s _ => m - (intOf s).toNat)
    case atStart => exact ⟨0, by omega, rfl, fun j hj => by omega, HR.out⟩
    case round =>
      obtain ⟨k, hk, rfl, hno, hC⟩ := hrel
      have k0 : (0 : Int) ≤ k := by omega
      have HC := Lib.hid hC; clear hC
      have HN := Lib.hid hno; clear hno
      by_cases hlt : k < m
      · have k1 : (k : Int) < m := by omega
        have hkm : k < rest.length := by rw [HMM.out]; exact hlt
        obtain ⟨y0, y1⟩ := HY.out _ HC.out
        have y2 := HCG.out _ (HC.out.mono (fun _ _ h => h.elim)) (k + 1) (by simpa using hkm)
        rw [List.getD_cons_succ] at y2
        have y3 : wr.cell? ⟨g, 1 + k, none⟩ = some (.int .i64 (rest.getD k 0)) := by rw [Nat.add_comm]; exact y2
        have hf : 0 ≤ rest.getD k 0 ∧ rest.getD k 0 < 64 := by rw [List.getD_eq_getElem?_getD, List.getElem?_eq_getElem hkm]; exact HFR.out _ (List.getElem_mem hkm)
        have HKM := Lib.hid hkm
        have HFA : Hid (leadsB bs rt (rest.getD k 0) = false → freeF bs rt rest = some (rest.getD k 0)) := fun hno => freeF_at HKM.out HN.out hno
        have HNX : Hid (leadsB bs rt (rest.getD k 0) = true → ∀ j : Nat, j < k + 1 → leadsB bs rt (rest.getD j 0) = true) := fun hy j hj => by
          by_cases ej : j = k
          · rw [ej]; exact hy
          · exact HN.out j (by omega)
        generalize rest.getD k 0 = f at *
        have HF := Lib.hid hf; clear hf hkm
        have HLD := Lib.hid (iLeads x p tb r L nf v P T bs rt f _ (HX.out _ HC.out) (HM.out _ HC.out) HLN.out HRT.out)
        clear HN
        go_wp2_with fail
        refine HLD.out.mono ?_
        rintro e w1 ⟨rfl, k1'⟩
        clear HLD y0 y1 y2 y3
        replace HC := Lib.hid (HC.out.trans k1'); clear k1'
        cases hq : leadsB bs rt f
        · have EF := Lib.hid (HFA.out hq)
          clear HNX HFA hq
          go_wp2_with fail
          refine (ptePut f 3 _).mono ?_
          rintro e w2 ⟨rfl, k2⟩
          have hmay : mayE f 3 := .inr ⟨by decide, by decide, HF.out.1, HF.out.2⟩
          rw [if_pos hmay, if_pos hmay]
          replace HC := Lib.hid (HC.out.trans k2)
          have HYR : Hid (∀ W, Chg (fun k => k = r) w2 W → W.cell? ⟨x, 0, none⟩ = some (.pointer (some ⟨p, 0, none⟩)) ∧ W.cell? ⟨g, 0, none⟩ = some (.int .i64 rt)) := fun W hW => HYX.out W ((HC.out.toF _).trans hW)
          clear k2 hmay
          go_upto_region 9 with fail
          refine wp_region_held_drew (S := fun W => Chg (fun k => k = r) w2 W) (by kernel_rfl) ((Chg.refl _ _).drew) (fun hHeld => ?_)
          have HR2 : Hid (Chg (fun _ => False) w2 _) := (Chg.refl _ _).drew
          refine tkH 0 (y := by intro w hSw; obtain ⟨y0, y1⟩ := HYR.out _ hSw; go_simp; try with_reducible rfl) (h := ?_)
          refine tkH 1 (y := by intro w hSw; obtain ⟨y0, y1⟩ := HYR.out _ hSw; go_simp; try with_reducible rfl) (h := ?_)
          refine tkH 2 (y := by intro w hSw; obtain ⟨y0, y1⟩ := HYR.out _ hSw; go_simp; try with_reducible rfl) (h := ?_)
          refine tkH 3 (y := by intro w hSw; obtain ⟨y0, y1⟩ := HYR.out _ hSw; go_simp; try with_reducible rfl) (h := ?_)
          refine tkH 4 (y := by intro w hSw; obtain ⟨y0, y1⟩ := HYR.out _ hSw; go_simp; try with_reducible rfl) (h := ?_)
          refine tkH 5 (y := by intro w hSw; obtain ⟨y0, y1⟩ := HYR.out _ hSw; go_simp; try with_reducible rfl) (h := ?_)
          refine tkH 6 (y := by intro w hSw; obtain ⟨y0, y1⟩ := HYR.out _ hSw; go_simp; try with_reducible rfl) (h := ?_)
          refine tkH 7 (y := by intro w hSw; obtain ⟨y0, y1⟩ := HYR.out _ hSw; go_simp; try with_reducible rfl) (h := ?_)
          refine tkH 8 (y := by intro w hSw; obtain ⟨y0, y1⟩ := HYR.out _ hSw; go_simp; try with_reducible rfl) (h := ?_)
          refine tkH 9 (y := by intro w hSw; obtain ⟨y0, y1⟩ := HYR.out _ hSw; go_simp; try with_reducible rfl) (h := ?_)
          refine tkH 11 (y := by intro w hSw; obtain ⟨y0, y1⟩ := HYR.out _ hSw; go_simp; try with_reducible rfl) (h := ?_)
          refine cH 10 (y := fun K hK => ?_)
          go_simp
          (go_at_call 34; rw [HDV.out]; refine (wAt rt (page / 16) _ HRT.out HP6.out).mono ?_; rintro e w3 ⟨rfl, rfl⟩)
          refine hK.out _ _ (HR2.out.mono (fun _ _ h => h.elim)) (fun hHeld => ?_)
          clear hK K
          try simp only [Act.put, List.setIfInBounds_toArray, List.set_cons_zero, List.set_cons_succ]
          refine cH 12 (y := fun K hK => ?_)
          go_simp
          (go_at_call 33; refine (put43 p r bs _ _ _ (HM.out _ (HC.out.trans HR2.out)) HLN.out).mono ?_; rintro e w4 ⟨rfl, hM4, k4⟩; have HM4 := Lib.hid hM4; have HK4 := Lib.hid ((HR2.out.mono (fun _ _ h => h.elim)).trans k4); clear hM4 k4)
          refine hK.out _ _ (HK4.out) (fun hHeld => ?_)
          clear hK K
          try simp only [Act.put, List.setIfInBounds_toArray, List.set_cons_zero, List.set_cons_succ]
          refine tkH 13 (y := by intro w hSw; obtain ⟨y0, y1⟩ := HYR.out _ hSw; go_simp; try with_reducible rfl) (h := ?_)
          refine tkH 14 (y := by intro w hSw; obtain ⟨y0, y1⟩ := HYR.out _ hSw; go_simp; try with_reducible rfl) (h := ?_)
          refine dnH ?_
          go_wp2_with fail
          go_ret2
          rw [HEN.out, EF.out]
          exact ⟨rfl, HM4.out, (HC.out.toF _).trans HK4.out⟩
        · have HN2 := Lib.hid (HNX.out hq)
          clear HNX HFA hq
          go_wp2_with fail
          go_roundw
          case rel => exact ⟨k + 1, by omega, by go_num, HN2.out, HC.out⟩
          case measure => simp [intOf]; omega
      · obtain rfl : k = m := by omega
        have EN : Hid (freeF bs rt rest = none) := freeF_none (fun j hj => HN.out j (by rw [← HMM.out]; exact hj))
        go_wp2_with fail
        go_ret2
        rw [HEN.out, EN.out]
        exact ⟨rfl, HM.out _ HC.out, HC.out.mono (fun _ _ h => h.elim)⟩
end Go.Proofs.Ytnallfehffhaeaa
