/- The Iommu's devices; fresh. Printed by mkiom3.py. -/
import Derived.Test.YtnallfehffhaeaaTk
import Derived.Test.YtnallfehffhaeaaIomB
set_option linter.unusedSimpArgs false
set_option linter.unusedVariables false
namespace Go.Proofs.Ytnallfehffhaeaa
open Go.RowKit

section
variable {w w' : World} {x p tb r : Nat} {L : Pls} {nf : Int} {v : Value} {P T : Nat → Prop}
/-- A device's pool in the heap. -/
structure DevV (w : World) (L : Pls) (nf : Int) (v : Value) (P : Nat → Prop) (d : Int) (n gp cp g cg : Nat) (rt : Int) (rest : List Int) : Prop where
  dn : d = (n : Int)
  lt : n < L.length
  pv : v = .slice (some ⟨gp, 0, none⟩) L.length cp
  cell : w.cell? ⟨gp, n, none⟩ = some (.slice (some ⟨g, 0, none⟩) (rest.length + 1) (cg + 1))
  pool : poolOf L d = rt :: rest
  at_ : ∀ i, i < (rt :: rest).length → w.cell? ⟨g, i, none⟩ = some (.int .i64 ((rt :: rest).getD i 0))
  pg : P g
  pgp : P gp
  cap : rest.length ≤ cg ∧ cg < maxLen
  len : 1 ≤ rest.length ∧ rest.length ≤ 4
  root : 0 ≤ rt ∧ rt < nf
  fr : ∀ f ∈ rest, 0 ≤ f ∧ f < nf
theorem DevV.keep {d : Int} {n gp cp g cg : Nat} {rt : Int} {rest : List Int} {X : Nat → Prop} (h : DevV w L nf v P d n gp cp g cg rt rest) (hC : Chg X w w') (hX : ∀ k, P k → ¬ X k) : DevV w' L nf v P d n gp cp g cg rt rest :=
  { h with cell := hC.cell h.cell (hX _ h.pgp), at_ := fun i hi => hC.cell (h.at_ i hi) (hX _ h.pg) }
theorem DevV.y {d : Int} {n gp cp g cg : Nat} {rt : Int} {rest : List Int} (h : DevV w L nf v P d n gp cp g cg rt rest) : w.cell? ⟨g, 0, none⟩ = some (.int .i64 rt) := h.at_ 0 (by simp)
theorem IomV.dev {d : Int} (h : IomV w x p tb L nf v P T) (hd : devIn L d) : ∃ n gp cp g cg rt rest, DevV w L nf v P d n gp cp g cg rt rest := by
  obtain ⟨n, rfl⟩ := Int.eq_ofNat_of_zero_le hd.1
  have hn : n < L.length := by have := hd.2; omega
  obtain ⟨h2, h5, hf⟩ := h.ok.pool hd
  obtain ⟨M, hM, h1, h3, h4⟩ := h.pools
  have hn' : n < M.length := by rw [← hM] at hn; simpa using hn
  obtain ⟨gp, cp, hv, _⟩ := h1.form (by omega)
  have hL : L.length = M.length := by rw [← hM]; simp
  have hO := h3 _ (List.getElem_mem hn')
  have hp : poolOf L (n : Int) = M[n].1 := by rw [poolOf_at hn]; simp only [← hM, List.getElem_map]
  rw [hp] at h2 h5 hf
  obtain ⟨g, cg, hF, _, _, c1, c2⟩ := hO.form (by omega)
  subst hv
  have hc := h1.cell poc_len hn' (show 0 < 1 by omega)
  simp only [Nat.mul_one, Nat.add_zero, poc, List.getElem?_cons_zero] at hc
  have pg : P g := (h4 g).2 (.inr ⟨_, List.getElem_mem hn', by rw [hF]; rfl⟩)
  have pgp : P gp := (h4 gp).2 (.inl rfl)
  rw [hF] at hc hO
  have hat := own_cells hO
  generalize M[n].1 = Q at *
  match Q, h2 with
  | rt :: rest, h2 =>
    simp only [List.length_cons] at *
    obtain ⟨cg', rfl⟩ : ∃ z, cg = z + 1 := ⟨cg - 1, by omega⟩
    exact ⟨n, gp, cp, g, cg', rt, rest, rfl, hn, by rw [hL], hc, hp, hat, pg, pgp, ⟨by omega, by omega⟩, ⟨by omega, by omega⟩, hf _ (List.mem_cons_self ..), fun f h => hf _ (List.mem_cons_of_mem _ h)⟩
end
theorem stepE_ok {bs : List UInt8} {frame k : Int} (h : (stepE bs frame k).2 = 0) : ∃ f q, getE (wordK bs frame k) = some (f, q) ∧ q ≠ 0 ∧ 0 ≤ f ∧ f < (bs.length : Int) / 64 ∧ stepE bs frame k = ((f, q), 0) := by
  unfold stepE at *
  split at h
  · cases h
  · rename_i f q hg
    have hm := (getE_may hg).1
    by_cases hq : q = 0
    · rw [if_pos hq] at h; cases h
    · rw [if_neg hq] at h
      by_cases hf : f < (bs.length : Int) / 64
      · refine ⟨f, q, hg, hq, ?_, hf, ?_⟩
        · rcases hm with hm | hm <;> omega
        · simp only [hg, if_neg hq, if_pos hf]
      · rw [if_neg hf] at h; cases h
theorem leafI_ok {bs : List UInt8} {rt i : Int} (h : (leafI bs rt i).2 = 0) : 0 ≤ (leafI bs rt i).1 ∧ (leafI bs rt i).1 < (bs.length : Int) / 64 := by
  have hu : leafI bs rt i = if (stepE bs rt i).2 ≠ 0 then (0, (stepE bs rt i).2) else if (stepE bs rt i).1.2 = 3 then ((stepE bs rt i).1.1, 0) else (0, 502) := rfl
  by_cases h0 : (stepE bs rt i).2 = 0
  · obtain ⟨f, q, _, _, h1, h2, h3⟩ := stepE_ok h0
    rw [if_neg (by simpa using h0), h3] at hu
    by_cases hq : q = 3
    · rw [if_pos hq] at hu; rw [hu]; exact ⟨h1, h2⟩
    · rw [if_neg hq] at hu; rw [hu] at h; cases h
  · rw [if_pos h0] at hu; rw [hu] at h; exact absurd h h0
/-- Do the tables still have that entry? -/
def freshB (bs : List UInt8) (rt page f q : Int) : Bool := ((leafI bs rt (page / 16)).2 == 0) && (wordR bs ((leafI bs rt (page / 16)).1 * 64 + page % 16 * 4) == if mayE f q then putE f q else 0)
theorem freshB_walk {bs : List UInt8} {rt page f q nf : Int} (hp : pageP page) (hr : frameP bs rt) (hn : nf = (bs.length : Int) / 64) (hg : goodE nf f q) (h : freshB bs rt page f q = true) : walkE bs rt page = ((f, q), 0) := by
  unfold freshB at h
  simp only [Bool.and_eq_true, beq_iff_eq] at h
  obtain ⟨g1, g2, g3, g4, g5⟩ := hg
  have hm : mayE f q := .inr ⟨g1, g2, g3, by omega⟩
  rw [if_pos hm] at h
  rw [walkE_step bs rt page ⟨hp, hr⟩ h.1]
  unfold stepE wordK
  rw [h.2, getE_put hm]
  simp only
  rw [if_neg (by omega), if_pos (by omega)]
set_option maxRecDepth 100000 in
set_option maxHeartbeats 4000000 in
theorem iFresh (x p tb r : Nat) (L : Pls) (nf : Int) (v : Value) (P T : Nat → Prop) (bs : List UInt8) (d page f q : Int) (w : World) (h : IomV w x p tb L nf v P T) (hM : MemAt w 93 p r bs) (hl : bs.length ≤ 4096) (hd : devIn L d) (hpg : 0 ≤ page ∧ page < 256) :
    Calls Try.prog 64 #[.pointer (some ⟨x, 0, none⟩), .int .i64 d, .int .i64 page, .agg #[.int .i64 f, .int .i64 q]] w fun e w' => e = .returned (.bool (freshB bs (rootOf L d) page f q)) ∧ Chg (fun _ => False) w w' := by
  obtain ⟨n, gp, cp, g, cg, rt, rest, hD⟩ := h.dev hd
  have hroot : rootOf L d = rt := by unfold rootOf; rw [hD.pool]; rfl
  rw [hroot]
  obtain rfl := hD.dn
  obtain rfl := hD.pv
  obtain ⟨W0, hW0⟩ : ∃ W, W = w.alloc (.cells #[.int .i64 f, .int .i64 q] 29) := ⟨_, rfl⟩
  obtain ⟨eb, heb⟩ : ∃ b, b = w.heap.size := ⟨_, rfl⟩
  have hA : Chg (fun _ => False) w W0 := by rw [hW0]; exact (Chg.refl _ _).alloc _
  have hB : W0.heap[eb]? = some (.cells #[.int .i64 f, .int .i64 q] 29 (0, 0)) := by rw [hW0, heb]; exact blk_new w _
  have HM : Hid (∀ W, Chg (fun _ => False) W0 W → MemAt W 93 p r bs) := fun W hW => hM.keepD (hA.trans hW)
  have HB : Hid (∀ W, Chg (fun _ => False) W0 W → W.cell? ⟨eb, 0, none⟩ = some (.int .i64 f) ∧ W.cell? ⟨eb, 1, none⟩ = some (.int .i64 q)) := fun W hW => ⟨blk_cell (hW.at hB id) 0, blk_cell (hW.at hB id) 1⟩
  have HY : Hid (∀ W, Chg (fun _ => False) W0 W → W.cell? ⟨x, 0, none⟩ = some (.pointer (some ⟨p, 0, none⟩)) ∧ W.cell? ⟨x, 1, none⟩ = some (.slice (some ⟨gp, 0, none⟩) L.length cp) ∧ W.cell? ⟨gp, n, none⟩ = some (.slice (some ⟨g, 0, none⟩) (rest.length + 1) (cg + 1)) ∧ W.cell? ⟨g, 0, none⟩ = some (.int .i64 rt)) := fun W hW => by
    have hx := (h.keepN (hA.trans hW)).cells
    have hD' := hD.keep (hA.trans hW) (fun _ _ => id)
    exact ⟨hx.1, hx.2.1, hD'.cell, hD'.y⟩
  have n64 := h.ok.2.2
  have hrt : 0 ≤ rt ∧ rt < 64 := ⟨hD.root.1, by have := hD.root.2; omega⟩
  have HL : Hid (∀ W, Chg (fun _ => False) W0 W → Calls Try.prog 31 #[.pointer (some ⟨p, 0, none⟩), .int .i64 rt, .int .i64 page] W fun e w' => e = .returned (.tuple #[.int .i64 (leafI bs rt (page / 16)).1, .int .i64 (leafI bs rt (page / 16)).2]) ∧ Chg (fun _ => False) W w') := fun W hW => wLeaf p r bs rt page W (HM.out W hW) hl hrt hpg
  have HLN := Lib.hid hl
  have HP6 : Hid (0 ≤ page % 16 ∧ page % 16 < 16) := ⟨by omega, by omega⟩
  have HDV : Hid (page.tmod 16 = page % 16) := Int.tmod_eq_emod_of_nonneg hpg.1
  have HBD : Hid ((leafI bs rt (page / 16)).2 = 0 → 0 ≤ (leafI bs rt (page / 16)).1 ∧ (leafI bs rt (page / 16)).1 < 64) := fun e => by
    have := leafI_ok e
    exact ⟨this.1, by omega⟩
  have HEN : Hid (freshB bs rt page f q = (((leafI bs rt (page / 16)).2 == 0) && (wordR bs ((leafI bs rt (page / 16)).1 * 64 + page % 16 * 4) == if mayE f q then putE f q else 0))) := rfl
  generalize freshB bs rt page f q = RES at *
  generalize leafI bs rt (page / 16) = le at *
  have i0 : (0 : Int) ≤ n := by omega
  have i1 : (n : Int) < L.length := by have := hD.lt; omega
  have l4 : (L.length : Int) ≤ 4 := by have := h.ok.1; omega
  have r4 : (rest.length : Int) ≤ 4 := by have := hD.len.2; omega
  have HA := Lib.hid hA
  clear h hM hD hd hA hB hl hrt hpg n64 hroot
  go_enter Try.func64, Try.ntmps64
  go_upto_region 1 with fail
  rw [← hW0]
  try rw [← heb]
  clear hW0 heb
  refine wp_region_held_drew (S := fun W => Chg (fun _ => False) W0 W) (by kernel_rfl) ((Chg.refl _ _).drew) (fun hHeld => ?_)
  have HR : Hid (Chg (fun _ => False) W0 _) := hHeld
  refine tkH 0 (y := by intro w hSw; obtain ⟨y0, y1, y2, y3⟩ := HY.out _ hSw; go_simp; try with_reducible rfl) (h := ?_)
  refine tkH 1 (y := by intro w hSw; obtain ⟨y0, y1, y2, y3⟩ := HY.out _ hSw; go_simp; try with_reducible rfl) (h := ?_)
  refine tkH 2 (y := by intro w hSw; obtain ⟨y0, y1, y2, y3⟩ := HY.out _ hSw; go_simp; try with_reducible rfl) (h := ?_)
  refine tkH 3 (y := by intro w hSw; obtain ⟨y0, y1, y2, y3⟩ := HY.out _ hSw; go_simp; try with_reducible rfl) (h := ?_)
  refine tkH 4 (y := by intro w hSw; obtain ⟨y0, y1, y2, y3⟩ := HY.out _ hSw; go_simp; try with_reducible rfl) (h := ?_)
  refine tkH 5 (y := by intro w hSw; obtain ⟨y0, y1, y2, y3⟩ := HY.out _ hSw; go_simp; try with_reducible rfl) (h := ?_)
  refine tkH 6 (y := by intro w hSw; obtain ⟨y0, y1, y2, y3⟩ := HY.out _ hSw; go_simp; try with_reducible rfl) (h := ?_)
  refine tkH 7 (y := by intro w hSw; obtain ⟨y0, y1, y2, y3⟩ := HY.out _ hSw; go_simp; try with_reducible rfl) (h := ?_)
  refine tkH 8 (y := by intro w hSw; obtain ⟨y0, y1, y2, y3⟩ := HY.out _ hSw; go_simp; try with_reducible rfl) (h := ?_)
  refine tkH 9 (y := by intro w hSw; obtain ⟨y0, y1, y2, y3⟩ := HY.out _ hSw; go_simp; try with_reducible rfl) (h := ?_)
  refine tkH 10 (y := by intro w hSw; obtain ⟨y0, y1, y2, y3⟩ := HY.out _ hSw; go_simp; try with_reducible rfl) (h := ?_)
  refine tkH 11 (y := by intro w hSw; obtain ⟨y0, y1, y2, y3⟩ := HY.out _ hSw; go_simp; try with_reducible rfl) (h := ?_)
  refine tkH 12 (y := by intro w hSw; obtain ⟨y0, y1, y2, y3⟩ := HY.out _ hSw; go_simp; try with_reducible rfl) (h := ?_)
  refine tkH 13 (y := by intro w hSw; obtain ⟨y0, y1, y2, y3⟩ := HY.out _ hSw; go_simp; try with_reducible rfl) (h := ?_)
  refine cH 14 (y := fun K hK => ?_)
  go_simp
  (go_at_call 31; refine (HL.out _ HR.out).mono ?_; rintro e w1 ⟨rfl, k1⟩; replace HR := Lib.hid (HR.out.trans k1); clear k1)
  refine hK.out _ _ (HR.out) (fun hHeld => ?_)
  clear hK K
  try simp only [Act.put, List.setIfInBounds_toArray, List.set_cons_zero, List.set_cons_succ]
  refine tkH 15 (y := by intro w hSw; obtain ⟨y0, y1, y2, y3⟩ := HY.out _ hSw; go_simp; try with_reducible rfl) (h := ?_)
  refine tkH 16 (y := by intro w hSw; obtain ⟨y0, y1, y2, y3⟩ := HY.out _ hSw; go_simp; try with_reducible rfl) (h := ?_)
  refine tkH 17 (y := by intro w hSw; obtain ⟨y0, y1, y2, y3⟩ := HY.out _ hSw; go_simp; try with_reducible rfl) (h := ?_)
  refine tkH 18 (y := by intro w hSw; obtain ⟨y0, y1, y2, y3⟩ := HY.out _ hSw; go_simp; try with_reducible rfl) (h := ?_)
  refine tkH 19 (y := by intro w hSw; obtain ⟨y0, y1, y2, y3⟩ := HY.out _ hSw; go_simp; try with_reducible rfl) (h := ?_)
  refine dnH ?_
  clear HL
  by_cases e0 : le.2 = 0
  · have HB1 := Lib.hid (HBD.out e0)
    rw [e0] at HEN
    rw [e0] at *
    have b0 : ((0 : Int) == 0) = true := rfl
    clear HBD e0
    go_upto_region 4 with fail
    refine wp_region_held_drew (S := fun W => Chg (fun _ => False) W0 W) (by kernel_rfl) (HR.out.drew) (fun hHeld => ?_)
    replace HR : Hid (Chg (fun _ => False) W0 _) := hHeld
    refine tkH 0 (y := by intro w hSw; obtain ⟨y0, y1, y2, y3⟩ := HY.out _ hSw; go_simp; try with_reducible rfl) (h := ?_)
    refine tkH 1 (y := by intro w hSw; obtain ⟨y0, y1, y2, y3⟩ := HY.out _ hSw; go_simp; try with_reducible rfl) (h := ?_)
    refine tkH 2 (y := by intro w hSw; obtain ⟨y0, y1, y2, y3⟩ := HY.out _ hSw; go_simp; try with_reducible rfl) (h := ?_)
    refine tkH 3 (y := by intro w hSw; obtain ⟨y0, y1, y2, y3⟩ := HY.out _ hSw; go_simp; try with_reducible rfl) (h := ?_)
    refine tkH 4 (y := by intro w hSw; obtain ⟨y0, y1, y2, y3⟩ := HY.out _ hSw; go_simp; try with_reducible rfl) (h := ?_)
    refine tkH 5 (y := by intro w hSw; obtain ⟨y0, y1, y2, y3⟩ := HY.out _ hSw; go_simp; try with_reducible rfl) (h := ?_)
    refine tkH 6 (y := by intro w hSw; obtain ⟨y0, y1, y2, y3⟩ := HY.out _ hSw; go_simp; try with_reducible rfl) (h := ?_)
    refine cH 7 (y := fun K hK => ?_)
    go_simp
    (go_at_call 34; rw [HDV.out]; refine (wAt le.1 (page % 16) _ HB1.out HP6.out).mono ?_; rintro e w3 ⟨rfl, rfl⟩)
    refine hK.out _ _ (HR.out) (fun hHeld => ?_)
    clear hK K
    try simp only [Act.put, List.setIfInBounds_toArray, List.set_cons_zero, List.set_cons_succ]
    refine cH 8 (y := fun K hK => ?_)
    go_simp
    (go_at_call 57; refine (word48 p r bs _ _ (HM.out _ HR.out) HLN.out).mono ?_; rintro e w4 ⟨rfl, rfl⟩)
    refine hK.out _ _ (HR.out) (fun hHeld => ?_)
    clear hK K
    try simp only [Act.put, List.setIfInBounds_toArray, List.set_cons_zero, List.set_cons_succ]
    refine tkH 9 (y := by intro w hSw; obtain ⟨y0, y1, y2, y3⟩ := HY.out _ hSw; go_simp; try with_reducible rfl) (h := ?_)
    refine tkH 10 (y := by intro w hSw; obtain ⟨y0, y1, y2, y3⟩ := HY.out _ hSw; go_simp; try with_reducible rfl) (h := ?_)
    refine tkH 11 (y := by intro w hSw; obtain ⟨y0, y1, y2, y3⟩ := HY.out _ hSw; go_simp; try with_reducible rfl) (h := ?_)
    refine tkH 12 (y := by intro w hSw; obtain ⟨y0, y1, y2, y3⟩ := HY.out _ hSw; go_simp; try with_reducible rfl) (h := ?_)
    refine tkH 13 (y := by intro w hSw; obtain ⟨y0, y1, y2, y3⟩ := HY.out _ hSw; go_simp; try with_reducible rfl) (h := ?_)
    refine dnH ?_
    obtain ⟨z0, z1⟩ := HB.out _ HR.out
    go_wp2_with fail
    refine (ptePut f q _).mono ?_
    rintro e w5 ⟨rfl, k5⟩
    replace HR := Lib.hid (HR.out.trans k5)
    clear k5 z0 z1
    generalize (if mayE f q then putE f q else 0) = want at *
    generalize (if mayE f q then (0 : Int) else 400) = wc at *
    generalize wordR bs (le.fst * 64 + page % 16 * 4) = gotw at *
    generalize wordE bs (le.fst * 64 + page % 16 * 4) = gote at *
    go_wp2_with fail
    go_ret
    exact ⟨by rw [HEN.out]; rfl, HA.out.trans HR.out⟩
  · have b0 : (le.2 == 0) = false := by simpa using e0
    rw [b0] at HEN
    clear e0 HBD
    go_wp2_with fail
    go_ret
    exact ⟨by rw [HEN.out]; rfl, HA.out.trans HR.out⟩
end Go.Proofs.Ytnallfehffhaeaa
