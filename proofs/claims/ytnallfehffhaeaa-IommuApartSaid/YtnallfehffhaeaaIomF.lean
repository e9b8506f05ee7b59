/- The Iommu's Unmap. Printed by mkiom6.py. -/
import Derived.Test.YtnallfehffhaeaaTk
import Derived.Test.YtnallfehffhaeaaIomE
set_option linter.unusedSimpArgs false
set_option linter.unusedVariables false
namespace Go.Proofs.Ytnallfehffhaeaa
open Go.RowKit

/-- What Unmap answers, the bytes behind it. -/
def unmapM (bs : List UInt8) (rt page : Int) : Int × List UInt8 :=
  if (walkE bs rt page).2 ≠ 0 then (failC (walkE bs rt page).2, bs)
  else (putC bs ((leafI bs rt (page / 16)).1 * 64 + page % 16 * 4) 0, putB bs ((leafI bs rt (page / 16)).1 * 64 + page % 16 * 4) 0)
set_option maxRecDepth 100000 in
set_option maxHeartbeats 4000000 in
theorem iUnmap_no (x p tb r : Nat) (L : Pls) (nf : Int) (v : Value) (P T : Nat → Prop) (bs : List UInt8) (d page : Int) (w : World) (h : IomV w x p tb L nf v P T) (hM : MemAt w 93 p r bs) (hd : ¬ (devIn L d ∧ pageP page)) :
    Calls Try.prog 11 #[.pointer (some ⟨x, 0, none⟩), .int .i64 d, .int .i64 page] w (ClearPost x p tb r L nf v P T 700 bs w) := by
  have HT := Lib.hid (iThere x p tb L nf v P T d w h)
  have H : Hid (ClearPost x p tb r L nf v P T 700 bs w (.returned (.int .i64 700)) w) := ⟨rfl, h, hM, Chg.refl _ _⟩
  generalize ClearPost x p tb r L nf v P T 700 bs w = POST at *
  by_cases h1 : devIn L d
  · have HP := Lib.hid (fun h2 : pageP page => hd ⟨h1, h2⟩)
    rw [decide_eq_true h1] at HT
    clear h hM hd h1
    go_enter Try.func11, Try.ntmps11
    go_wp2_with fail
    refine HT.out.mono ?_
    rintro e w1 ⟨rfl, rfl⟩
    go_wp2_with fail
    refine (wPage_no page _ HP.out).mono ?_
    rintro e w1 ⟨rfl, rfl⟩
    go_wp2_with fail
    exact H.out
  · rw [decide_eq_false h1] at HT
    clear h hM hd h1
    go_enter Try.func11, Try.ntmps11
    go_wp2_with fail
    refine HT.out.mono ?_
    rintro e w1 ⟨rfl, rfl⟩
    go_wp2_with fail
    exact H.out
set_option maxRecDepth 100000 in
set_option maxHeartbeats 4000000 in
theorem iUnmap_yes (x p tb r : Nat) (L : Pls) (nf : Int) (v : Value) (P T : Nat → Prop) (bs : List UInt8) (d page : Int) (w : World) (h : IomV w x p tb L nf v P T) (hM : MemAt w 93 p r bs) (hl : bs.length ≤ 4096) (hnf : nf = (bs.length : Int) / 64) (hd : devIn L d) (hpg : pageP page) :
    Calls Try.prog 11 #[.pointer (some ⟨x, 0, none⟩), .int .i64 d, .int .i64 page] w (ClearPost x p tb r L nf v P T (unmapM bs (rootOf L d) page).1 (unmapM bs (rootOf L d) page).2 w) := by
  have HT := Lib.hid (iThere x p tb L nf v P T d w h)
  rw [decide_eq_true hd] at HT
  obtain ⟨n, gp, cp, g, cg, rt, rest, hD⟩ := h.dev hd
  have hroot : rootOf L d = rt := by unfold rootOf; rw [hD.pool]; rfl
  rw [hroot]
  obtain rfl := hD.dn
  obtain rfl := hD.pv
  have n64 := h.ok.2.2
  have hrt : 0 ≤ rt ∧ rt < 64 := ⟨hD.root.1, by have := hD.root.2; omega⟩
  have hfrm : frameP bs rt := ⟨hD.root.1, by have := hD.root.2; omega⟩
  have HX : Hid (∀ W, Chg (fun _ => False) w W → IomV W x p tb L nf (.slice (some ⟨gp, 0, none⟩) L.length cp) P T) := fun W hW => h.keepN hW
  have HM : Hid (∀ W, Chg (fun _ => False) w W → MemAt W 93 p r bs) := fun W hW => hM.keepD hW
  have HWK : Hid (∀ W, Chg (fun _ => False) w W → Calls Try.prog 29 #[.pointer (some ⟨p, 0, none⟩), .int .i64 rt, .int .i64 page] W fun e w' =>
      e = .returned (.tuple #[.agg #[.int .i64 (walkE bs rt page).1.1, .int .i64 (walkE bs rt page).1.2], .int .i64 (walkE bs rt page).2]) ∧ Chg (fun _ => False) W w') := fun W hW => wWalk p r bs rt page W (HM.out W hW) hl
  have HL : Hid (∀ W, Chg (fun _ => False) w W → Calls Try.prog 31 #[.pointer (some ⟨p, 0, none⟩), .int .i64 rt, .int .i64 page] W fun e w' => e = .returned (.tuple #[.int .i64 (leafI bs rt (page / 16)).1, .int .i64 (leafI bs rt (page / 16)).2]) ∧ Chg (fun _ => False) W w') := fun W hW => wLeaf p r bs rt page W (HM.out W hW) hl hrt hpg
  have HBD : Hid ((walkE bs rt page).2 = 0 → 0 ≤ (leafI bs rt (page / 16)).1 ∧ (leafI bs rt (page / 16)).1 < 64) := fun e => by
    by_cases hl0 : (leafI bs rt (page / 16)).2 = 0
    · have := leafI_ok hl0
      exact ⟨this.1, by omega⟩
    · rw [walkE_leaf bs rt page ⟨hpg, hfrm⟩ hl0] at e; exact absurd e hl0
  have HEN : Hid (unmapM bs rt page = if (walkE bs rt page).2 ≠ 0 then (failC (walkE bs rt page).2, bs) else (putC bs ((leafI bs rt (page / 16)).1 * 64 + page % 16 * 4) 0, putB bs ((leafI bs rt (page / 16)).1 * 64 + page % 16 * 4) 0)) := rfl
  generalize unmapM bs rt page = RES at *
  generalize walkE bs rt page = we at *
  obtain ⟨le, lc⟩ : ∃ z, z = leafI bs rt (page / 16) := ⟨_, rfl⟩
  rw [← lc] at HL HBD HEN
  clear lc
  obtain ⟨le, lcode⟩ := le
  have HP6 : Hid (0 ≤ page % 16 ∧ page % 16 < 16) := ⟨by omega, by omega⟩
  have HDV : Hid (page.tmod 16 = page % 16) := Int.tmod_eq_emod_of_nonneg hpg.1
  have HLN := Lib.hid hl
  have HPG := Lib.hid hpg
  have i0 : (0 : Int) ≤ n := by omega
  have i1 : (n : Int) < L.length := by have := hD.lt; omega
  have l4 : (L.length : Int) ≤ 4 := by have := h.ok.1; omega
  have r4 : (rest.length : Int) ≤ 4 := by have := hD.len.2; omega
  obtain ⟨x0, x1, x2⟩ := h.cells
  have dc := hD.cell
  have dy := hD.y
  clear h hM hl hnf hd hpg hD hroot n64 hrt hfrm
  go_enter Try.func11, Try.ntmps11
  go_wp2_with fail
  refine HT.out.mono ?_
  rintro e w1 ⟨rfl, rfl⟩
  go_wp2_with fail
  refine (wPage_yes page _ HPG.out).mono ?_
  rintro e w1 ⟨rfl, rfl⟩
  go_wp2_with fail
  refine (HWK.out _ (Chg.refl _ _)).mono ?_
  rintro e w2 ⟨rfl, hk2⟩
  have HC := Lib.hid (hk2.alloc (.cells #[.int .i64 we.1.1, .int .i64 we.1.2] 29))
  clear HT HWK hk2 x0 x1 x2 dc dy
  go_upto_region 7 with fail
  obtain ⟨W2, hW2⟩ : ∃ W, W = w2.alloc (.cells #[.int .i64 we.1.1, .int .i64 we.1.2] 29) := ⟨_, rfl⟩
  rw [← hW2] at HC
  rw [← hW2]
  generalize w2.heap.size = b8 at *
  clear hW2
  by_cases e2 : we.2 = 0
  · have b2 : (we.2 == 0) = true := by simpa using e2
    have HB1 := Lib.hid (HBD.out e2)
    rw [if_neg (by rw [e2]; decide)] at HEN
    obtain ⟨x0, x1, x2⟩ := (HX.out _ HC.out).cells
    clear e2 HBD
    go_wp2_with fail
    refine (HL.out _ HC.out).mono ?_
    rintro e w3 ⟨rfl, k3⟩
    replace HC := Lib.hid (HC.out.trans k3)
    clear k3 x0 x1 x2 HL
    obtain ⟨x0, x1, x2⟩ := (HX.out _ HC.out).cells
    go_wp2_with fail
    refine (tDrop tb n page nf T _ (HX.out _ HC.out).tlb).mono ?_
    rintro e w6 ⟨⟨x6, rfl⟩, ht6, k6⟩
    have HI6 := Lib.hid ((HX.out _ HC.out).tlb_ ht6 k6)
    have HM6 := Lib.hid ((HX.out _ HC.out).mem (HM.out _ HC.out) k6)
    have HK6 := Lib.hid ((HC.out.toF _).trans k6)
    clear ht6 k6 x0 x1 x2
    have HY6 : Hid (∀ W, Chg (fun k => k = r) w6 W → W.cell? ⟨x, 0, none⟩ = some (.pointer (some ⟨p, 0, none⟩))) := fun W hW => (HI6.out.bytes HM6.out hW).cells.1
    go_upto_region 11 with fail
    refine wp_region_held_drew (S := fun W => Chg (fun k => k = r) w6 W) (by kernel_rfl) ((Chg.refl _ _).drew) (fun hHeld => ?_)
    refine tkH 0 (y := by intro w hSw; have y0 := HY6.out _ hSw; go_simp; try with_reducible rfl) (h := ?_)
    refine tkH 1 (y := by intro w hSw; have y0 := HY6.out _ hSw; go_simp; try with_reducible rfl) (h := ?_)
    refine tkH 2 (y := by intro w hSw; have y0 := HY6.out _ hSw; go_simp; try with_reducible rfl) (h := ?_)
    refine tkH 3 (y := by intro w hSw; have y0 := HY6.out _ hSw; go_simp; try with_reducible rfl) (h := ?_)
    refine tkH 4 (y := by intro w hSw; have y0 := HY6.out _ hSw; go_simp; try with_reducible rfl) (h := ?_)
    refine tkH 5 (y := by intro w hSw; have y0 := HY6.out _ hSw; go_simp; try with_reducible rfl) (h := ?_)
    refine tkH 6 (y := by intro w hSw; have y0 := HY6.out _ hSw; go_simp; try with_reducible rfl) (h := ?_)
    refine cH 7 (y := fun K hK => ?_)
    go_simp
    (go_at_call 34; rw [HDV.out]; refine (wAt le (page % 16) _ HB1.out HP6.out).mono ?_; rintro e w7 ⟨rfl, rfl⟩)
    refine hK.out _ _ (hHeld) (fun hHeld => ?_)
    clear hK K
    try simp only [Act.put, List.setIfInBounds_toArray, List.set_cons_zero, List.set_cons_succ]
    refine cH 8 (y := fun K hK => ?_)
    go_simp
    (go_at_call 33; refine (put43 p r bs _ _ _ (HM6.out.keepD (Chg.refl _ _).drew) HLN.out).mono ?_; rintro e w8 ⟨rfl, hM8, k8⟩; have HM8 := Lib.hid hM8; have HK8 := Lib.hid (((Chg.refl _ _).drew).trans k8); clear hM8 k8)
    refine hK.out _ _ (HK8.out) (fun hHeld => ?_)
    clear hK K
    try simp only [Act.put, List.setIfInBounds_toArray, List.set_cons_zero, List.set_cons_succ]
    refine tkH 9 (y := by intro w hSw; have y0 := HY6.out _ hSw; go_simp; try with_reducible rfl) (h := ?_)
    refine dnH ?_
    have HFIN : Hid (ClearPost x p tb r L nf (.slice (some ⟨gp, 0, none⟩) L.length cp) P T RES.1 RES.2 w (.returned (.int .i64 RES.1)) w8) := ⟨rfl, HI6.out.bytes HM6.out HK8.out, by rw [HEN.out]; exact HM8.out, (HK6.out.mono (fun _ _ h => .inr h)).trans (HK8.out.mono (fun _ _ h => .inl h))⟩
    go_wp2_with fail
    go_ret
    rw [HEN.out] at HFIN ⊢
    exact HFIN.out
  · have b2 : (we.2 == 0) = false := by simpa using e2
    rw [if_pos e2] at HEN
    have HFIN : Hid (ClearPost x p tb r L nf (.slice (some ⟨gp, 0, none⟩) L.length cp) P T RES.1 RES.2 w (.returned (.int .i64 RES.1)) W2) := ⟨rfl, HX.out _ HC.out, by rw [HEN.out]; exact HM.out _ HC.out, HC.out.toF _⟩
    clear e2
    go_wp2_with fail
    refine (iFailed we.2 _).mono ?_
    rintro e w3 ⟨rfl, rfl⟩
    go_wp2_with fail
    go_ret
    rw [HEN.out] at HFIN ⊢
    exact HFIN.out
end Go.Proofs.Ytnallfehffhaeaa
