/- The Iommu's look. Printed by mkiom4.py. -/
import Derived.Test.YtnallfehffhaeaaTk
import Derived.Test.YtnallfehffhaeaaIomC
import Derived.Deep.DeepCutAuto
import Derived.Deep.CutBlock
set_option linter.unusedSimpArgs false
set_option linter.unusedVariables false
namespace Go.Proofs.Ytnallfehffhaeaa
open Go.RowKit

theorem walkE_good {bs : List UInt8} {rt page nf : Int} (hn : nf = (bs.length : Int) / 64) (h64 : nf ≤ 64) (h : (walkE bs rt page).2 = 0) : goodE nf (walkE bs rt page).1.1 (walkE bs rt page).1.2 := by
  by_cases hp : pageP page ∧ frameP bs rt
  · by_cases hl : (leafI bs rt (page / 16)).2 = 0
    · rw [walkE_step bs rt page hp hl] at h ⊢
      obtain ⟨f, q, g1, g2, g3, g4, g5⟩ := stepE_ok h
      rw [g5]
      have hm := (getE_may g1).1
      show goodE nf f q
      have g6 : f < nf := by omega
      unfold goodE
      unfold mayE at hm
      omega
    · rw [walkE_leaf bs rt page hp hl] at h; exact absurd h hl
  · rw [walkE_no bs rt page hp] at h; cases h
def LookPost (x p tb r : Nat) (L : Pls) (nf : Int) (v : Value) (P T : Nat → Prop) (bs : List UInt8) (rt page : Int) (w : World) (e : Ending) (w' : World) : Prop := ∃ T', e = .returned (.tuple #[.agg #[.int .i64 (walkE bs rt page).1.1, .int .i64 (walkE bs rt page).1.2], .int .i64 (failC (walkE bs rt page).2)]) ∧ IomV w' x p tb L nf v P T' ∧ (∀ k, T' k → T k ∨ w.heap.size ≤ k) ∧ MemAt w' 93 p r bs ∧ Chg T w w'
set_option maxRecDepth 100000 in
set_option maxHeartbeats 4000000 in
theorem iLook (x p tb r : Nat) (L : Pls) (nf : Int) (v : Value) (P T : Nat → Prop) (bs : List UInt8) (d page : Int) (w : World) (h : IomV w x p tb L nf v P T) (hM : MemAt w 93 p r bs) (hl : bs.length ≤ 4096) (hnf : nf = (bs.length : Int) / 64) (hd : devIn L d) (hpg : pageP page) :
    Calls Try.prog 40 #[.pointer (some ⟨x, 0, none⟩), .int .i64 d, .int .i64 page] w (LookPost x p tb r L nf v P T bs (rootOf L d) page w) := by
  obtain ⟨n, gp, cp, g, cg, rt, rest, hD⟩ := h.dev hd
  have hroot : rootOf L d = rt := by unfold rootOf; rw [hD.pool]; rfl
  obtain ⟨W0, hW0⟩ : ∃ W, W = w.alloc (.cells #[.int .i64 0, .int .i64 0] 29) := ⟨_, rfl⟩
  obtain ⟨sb, hsb⟩ : ∃ b, b = w.heap.size := ⟨_, rfl⟩
  have hA : Chg (fun _ => False) w W0 := by rw [hW0]; exact (Chg.refl _ _).alloc _
  have hB : W0.heap[sb]? = some (.cells #[.int .i64 0, .int .i64 0] 29 (0, 0)) := by rw [hW0, hsb]; exact blk_new w _
  have HFR : Hid (∀ W f q, Chg (fun _ => False) W0 W → Calls Try.prog 64 #[.pointer (some ⟨x, 0, none⟩), .int .i64 d, .int .i64 page, .agg #[.int .i64 f, .int .i64 q]] W fun e w' => e = .returned (.bool (freshB bs rt page f q)) ∧ Chg (fun _ => False) W w') := fun W f q hW => by
    have := iFresh x p tb r L nf v P T bs d page f q W (h.keepN (hA.trans hW)) (hM.keepD (hA.trans hW)) hl hd hpg
    rw [hroot] at this; exact this
  rw [hroot]
  obtain rfl := hD.dn
  obtain rfl := hD.pv
  have HX : Hid (∀ W, Chg (fun _ => False) W0 W → IomV W x p tb L nf (.slice (some ⟨gp, 0, none⟩) L.length cp) P T) := fun W hW => h.keepN (hA.trans hW)
  have HM : Hid (∀ W, Chg (fun _ => False) W0 W → MemAt W 93 p r bs) := fun W hW => hM.keepD (hA.trans hW)
  have HB : Hid (∀ W, Chg (fun _ => False) W0 W → W.heap[sb]? = some (.cells #[.int .i64 0, .int .i64 0] 29 (0, 0))) := fun W hW => hW.at hB id
  have HY : Hid (∀ W, Chg (fun _ => False) W0 W → W.cell? ⟨x, 0, none⟩ = some (.pointer (some ⟨p, 0, none⟩)) ∧ W.cell? ⟨x, 1, none⟩ = some (.slice (some ⟨gp, 0, none⟩) L.length cp) ∧ W.cell? ⟨gp, n, none⟩ = some (.slice (some ⟨g, 0, none⟩) (rest.length + 1) (cg + 1)) ∧ W.cell? ⟨g, 0, none⟩ = some (.int .i64 rt)) := fun W hW => by
    have hx := (h.keepN (hA.trans hW)).cells
    have hD' := hD.keep (hA.trans hW) (fun _ _ => id)
    exact ⟨hx.1, hx.2.1, hD'.cell, hD'.y⟩
  have n64 := h.ok.2.2
  have hfrm : frameP bs rt := ⟨hD.root.1, by have := hD.root.2; omega⟩
  have HFW : Hid (∀ f q, goodE nf f q → freshB bs rt page f q = true → walkE bs rt page = ((f, q), 0)) := fun f q hg hb => freshB_walk hpg hfrm hnf hg hb
  have HWG : Hid ((walkE bs rt page).2 = 0 → goodE nf (walkE bs rt page).1.1 (walkE bs rt page).1.2) := fun e => walkE_good hnf n64 e
  have HWK : Hid (∀ W, Chg (fun _ => False) W0 W → Calls Try.prog 29 #[.pointer (some ⟨p, 0, none⟩), .int .i64 rt, .int .i64 page] W fun e w' =>
      e = .returned (.tuple #[.agg #[.int .i64 (walkE bs rt page).1.1, .int .i64 (walkE bs rt page).1.2], .int .i64 (walkE bs rt page).2]) ∧ Chg (fun _ => False) W w') := fun W hW => wWalk p r bs rt page W (HM.out W hW) hl
  have HOUT : Hid (∀ T' W5 a b, IomV W5 x p tb L nf (.slice (some ⟨gp, 0, none⟩) L.length cp) P T' → (∀ k, T' k → T k ∨ w.heap.size + 1 ≤ k) → MemAt W5 93 p r bs → Chg T W0 W5 → LookPost x p tb r L nf (.slice (some ⟨gp, 0, none⟩) L.length cp) P T bs rt page w (.returned (.tuple #[.agg #[.int .i64 (walkE bs rt page).1.1, .int .i64 (walkE bs rt page).1.2], .int .i64 (failC (walkE bs rt page).2)])) ((W5.setCell ⟨sb, 0, none⟩ a).setCell ⟨sb, 1, none⟩ b)) := fun T' W5 a b a1 a2 a3 a4 => by
    have hS : Chg (fun k => k = sb) W5 ((W5.setCell ⟨sb, 0, none⟩ a).setCell ⟨sb, 1, none⟩ b) := ((Chg.refl _ _).set1 _).set1 _
    have lx := lt_of_heap h.blk
    have lp := lt_of_heap hM.1
    have lr := lt_of_heap hM.2
    refine ⟨T', rfl, a1.keep hS (by omega) (fun k hk => by have := h.pools.lt k hk; omega) (fun k hk => by have h2 := a2 k hk; rcases h2 with h2 | h2; have := h.tlb.lt k h2; omega; omega), (fun k hk => by have h2 := a2 k hk; rcases h2 with h2 | h2; exact .inl h2; exact .inr (by omega)), ⟨hS.at a3.1 (by omega), hS.at a3.2 (by omega)⟩, ((hA.toF _).trans a4).trans' hS (fun k hk e => by omega)⟩
  generalize LookPost x p tb r L nf (.slice (some ⟨gp, 0, none⟩) L.length cp) P T bs rt page w = POST at *
  generalize walkE bs rt page = we at *
  have i0 : (0 : Int) ≤ n := by omega
  have i1 : (n : Int) < L.length := by have := hD.lt; omega
  have l4 : (L.length : Int) ≤ 4 := by have := h.ok.1; omega
  have r4 : (rest.length : Int) ≤ 4 := by have := hD.len.2; omega
  have HA := Lib.hid hA
  have HSB : Hid (sb = w.heap.size) := hsb
  have HPG := Lib.hid hpg
  have HTL : Hid (∀ k, T k → k < w.heap.size) := fun k hk => h.tlb.lt k hk
  have c2 : W0.cell? ⟨x, 2, none⟩ = some (.pointer (some ⟨tb, 0, none⟩)) := (HX.out W0 (Chg.refl _ _)).cells.2.2
  clear h hM hD hd hA hB hl hpg n64 hroot hfrm hnf
  go_enter Try.func40, Try.ntmps40
  go_upto_region 1 with fail
  rw [← hW0]
  try rw [← hsb]
  clear hW0 hsb
  go_wp2_with fail
  refine (tGet tb n page nf T _ (HX.out _ (Chg.refl _ _)).tlb).mono ?_
  rintro e w1 ⟨f, q, b, rfl, hg, hC⟩
  have HG := Lib.hid hg; clear hg
  have HC := Lib.hid hC; clear hC
  clear c2
  go_upto_region 2 with fail
  obtain ⟨b8, hb8⟩ : ∃ z, z = w1.heap.size := ⟨_, rfl⟩
  obtain ⟨W2, hW2⟩ : ∃ W, W = w1.alloc (.cells #[.int .i64 f, .int .i64 q] 29) := ⟨_, rfl⟩
  have hC2 : Chg (fun _ => False) W0 W2 := by rw [hW2]; exact HC.out.alloc _
  have hB8 : W2.heap[b8]? = some (.cells #[.int .i64 f, .int .i64 q] 29 (0, 0)) := by rw [hW2, hb8]; exact blk_new w1 _
  rw [← hW2, ← hb8]
  have HC2 := Lib.hid hC2
  have HB8 : Hid (∀ W, Chg (fun _ => False) W2 W → W.cell? ⟨b8, 0, none⟩ = some (.int .i64 f) ∧ W.cell? ⟨b8, 1, none⟩ = some (.int .i64 q)) := fun W hW => ⟨blk_cell (hW.at hB8 id) 0, blk_cell (hW.at hB8 id) 1⟩
  clear hC2 hB8 hW2 hb8 HC
  go_cut [29] (fun s wx => ∃ bb : Bool, s = .bool bb ∧ (bb = true → we = ((f, q), 0)) ∧ Chg (fun _ => False) W2 wx)
  case first =>
    obtain ⟨y0, y1⟩ := HB8.out _ (Chg.refl _ _)
    have HFRC := Lib.hid (HFR.out W2 f q HC2.out)
    cases b
    · go_wp2_with fail
      go_meet
      exact ⟨false, rfl, (fun h => by cases h), Chg.refl _ _⟩
    · have hg := HG.out rfl
      have HFQ := Lib.hid (HFW.out f q hg)
      clear hg
      go_wp2_with fail
      refine HFRC.out.mono ?_
      rintro e w3 ⟨rfl, k3⟩
      clear HFRC y0 y1
      have HK3 := Lib.hid k3; clear k3
      generalize freshB bs rt page f q = fb at *
      go_wp2_with fail
      go_meet
      exact ⟨fb, rfl, HFQ.out, HK3.out⟩
  case rest =>
    obtain ⟨bb, rfl, hbb, hC3⟩ := hcut
    have HC3 := Lib.hid (HC2.out.trans hC3)
    obtain ⟨y0, y1⟩ := HB8.out _ hC3
    have hsb := HB.out _ HC3.out
    have z0 := blk_cell hsb 0
    have z1 := blk_cell hsb 1
    have f0 := blk_free hsb 0
    have f1 := blk_free hsb 1
    have sl := lt_of_heap hsb
    simp only [List.getElem?_toArray, List.getElem?_cons_zero, List.getElem?_cons_succ] at z0 z1
    clear hC3 hsb
    cases bb
    · clear y0 y1 z0 z1 f0 f1 sl hbb
      go_upto_region 4 with fail
      go_cut [10, 11] (fun s10 s11 wx => ∃ eb, s10 = .pointer (some ⟨eb, 0, none⟩) ∧ s11 = .int .i64 we.2 ∧ sb < eb ∧ wx.heap[eb]? = some (.cells #[.int .i64 we.1.1, .int .i64 we.1.2] 29 (0, 0)) ∧ Chg (fun _ => False) W0 wx)
      case first =>
        have HSZ := Lib.hid HC3.out.size
        have HSL := Lib.hid (lt_of_heap (HB.out W0 (Chg.refl _ _)))
        refine wp_region_held_drew (S := fun W => Chg (fun _ => False) W0 W) (by kernel_rfl) (HC3.out.drew) (fun hHeld => ?_)
        have HR : Hid (Chg (fun _ => False) W0 _) := hHeld
        refine tkH 0 (y := by intro w hSw; obtain ⟨y0, y1, y2, y3⟩ := HY.out _ hSw; go_simp; try with_reducible rfl) (h := ?_)
        refine tkH 1 (y := by intro w hSw; obtain ⟨y0, y1, y2, y3⟩ := HY.out _ hSw; go_simp; try with_reducible rfl) (h := ?_)
        refine tkH 2 (y := by intro w hSw; obtain ⟨y0, y1, y2, y3⟩ := HY.out _ hSw; go_simp; try with_reducible rfl) (h := ?_)
        refine tkH 3 (y := by intro w hSw; obtain ⟨y0, y1, y2, y3⟩ := HY.out _ hSw; go_simp; try with_reducible rfl) (h := ?_)
        refine tkH 4 (y := by intro w hSw; obtain ⟨y0, y1, y2, y3⟩ := HY.out _ hSw; go_simp; try with_reducible rfl) (h := ?_)
        refine tkH 5 (y := by intro w hSw; obtain ⟨y0, y1, y2, y3⟩ := HY.out _ hSw; go_simp; try with_reducible rfl) (h := ?_)
        refine tkH 6 (y := by intro w hSw; obtain ⟨y0, y1, y2, y3⟩ := HY.out _ hSw; go_simp; try with_reducible rfl) (h := ?_)
        refine tkH 7 (y := by intro w hSw; obtain ⟨y0, y1, y2, y3⟩ := HY.out _ hSw; go_simp; try with_reducible rfl) (h := ?_)
        refine tkH 8 (y := by intro w hSw; obtain ⟨y0, y1, y2, y3⟩ := HY.out _ hSw; go_simp; try with_reducible rfl) (h := ?_)
        refine tkH 9 (y := by intro w hSw; obtain ⟨y0, y1, y2, y3⟩ := HY.out _ hSw; go_simp; try with_reducible rfl) (h := ?_)
        refine tkH 10 (y := by intro w hSw; obtain ⟨y0, y1, y2, y3⟩ := HY.out _ hSw; go_simp; try with_reducible rfl) (h := ?_)
        refine tkH 11 (y := by intro w hSw; obtain ⟨y0, y1, y2, y3⟩ := HY.out _ hSw; go_simp; try with_reducible rfl) (h := ?_)
        refine tkH 12 (y := by intro w hSw; obtain ⟨y0, y1, y2, y3⟩ := HY.out _ hSw; go_simp; try with_reducible rfl) (h := ?_)
        refine tkH 13 (y := by intro w hSw; obtain ⟨y0, y1, y2, y3⟩ := HY.out _ hSw; go_simp; try with_reducible rfl) (h := ?_)
        refine cH2 14 18 (y := fun K hK => ?_) (y' := fun K hK => ?_)
        ·
          go_simp
          (go_at_call 29; refine (HWK.out _ HR.out).mono ?_; rintro e w4 ⟨rfl, k4⟩; replace HR := Lib.hid (HR.out.trans k4); clear k4)
          refine hK.out _ _ (HR.out) (fun hHeld => ?_)
          clear hK K
          try simp only [Act.put, List.setIfInBounds_toArray, List.set_cons_zero, List.set_cons_succ]
          refine tkH 15 (y := by intro w hSw; obtain ⟨y0, y1, y2, y3⟩ := HY.out _ hSw; go_simp; try with_reducible rfl) (h := ?_)
          refine tkH 16 (y := by intro w hSw; obtain ⟨y0, y1, y2, y3⟩ := HY.out _ hSw; go_simp; try with_reducible rfl) (h := ?_)
          refine tkH 17 (y := by intro w hSw; obtain ⟨y0, y1, y2, y3⟩ := HY.out _ hSw; go_simp; try with_reducible rfl) (h := ?_)
          refine wpAnyH_ready (rs := [18]) (by kernel_rfl) (List.cons_ne_nil _ _) ?_
          refine (AllReadyH.cons (o := ({ dst := some 10, op := Go.Op.alloc 29, type := 0, pos := "iommu.go:145", after := #[], guard := none } : Oper)) rfl (fun K hK => ?_) AllReadyH.nil)
          refine Eq.mpr (if_pos (by rfl)) ?_
          go_simp
          skip
          refine hK.out _ _ (HR.out.alloc _) (fun hHeld => ?_)
          clear hK K
          try simp only [Act.put, List.setIfInBounds_toArray, List.set_cons_zero, List.set_cons_succ]
          refine wpAnyH_ready (rs := [19]) (by kernel_rfl) (List.cons_ne_nil _ _) ?_
          refine (AllReadyH.cons (o := ({ dst := none, op := Go.Op.store 29 (Go.Operand.tmp 10) (Go.Operand.tmp 47), type := 0, pos := "iommu.go:145", after := #[{ on := 18, ground := Go.Ground.data }, { on := 16, ground := Go.Ground.data }, { on := 14, ground := Go.Ground.chain }, { on := 0, ground := Go.Ground.phase }, { on := 1, ground := Go.Ground.phase }, { on := 2, ground := Go.Ground.phase }, { on := 3, ground := Go.Ground.phase }, { on := 4, ground := Go.Ground.phase }, { on := 5, ground := Go.Ground.phase }, { on := 6, ground := Go.Ground.phase }, { on := 7, ground := Go.Ground.phase }, { on := 8, ground := Go.Ground.phase }, { on := 9, ground := Go.Ground.phase }, { on := 10, ground := Go.Ground.phase }, { on := 11, ground := Go.Ground.phase }, { on := 12, ground := Go.Ground.phase }, { on := 13, ground := Go.Ground.phase }, { on := 14, ground := Go.Ground.phase }, { on := 15, ground := Go.Ground.phase }, { on := 16, ground := Go.Ground.phase }, { on := 17, ground := Go.Ground.textOnly Go.Departure.lateStores }, { on := 18, ground := Go.Ground.phase }], guard := none } : Oper)) rfl (fun K hK => ?_) AllReadyH.nil)
          refine Eq.mpr (if_pos (by rfl)) ?_
          go_simp
          skip
          refine hK.out _ _ (HR.out.alloc _) (fun hHeld => ?_)
          clear hK K
          try simp only [Act.put, List.setIfInBounds_toArray, List.set_cons_zero, List.set_cons_succ]
          refine tkH 20 (y := by intro w hSw; obtain ⟨y0, y1, y2, y3⟩ := HY.out _ hSw; go_simp; try with_reducible rfl) (h := ?_)
          refine dnH ?_
          have HR6 := Lib.hid (HR.out.alloc (.cells #[.int .i64 we.1.1, .int .i64 we.1.2] 29))
          have HSZ4 := Lib.hid HR.out.size
          go_wp2_with fail
          go_meet
          exact ⟨w4.heap.size, rfl, rfl, (by have := HSZ4.out; have := HSL.out; omega), blk_new _ _, HR6.out⟩
        ·
          go_simp
          skip
          refine hK.out _ _ (HR.out.alloc _) (fun hHeld => ?_)
          clear hK K
          try simp only [Act.put, List.setIfInBounds_toArray, List.set_cons_zero, List.set_cons_succ]
          refine wpAnyH_ready (rs := [14]) (by kernel_rfl) (List.cons_ne_nil _ _) ?_
          refine (AllReadyH.cons (o := ({ dst := some 46, op := Go.Op.call { callee := Go.Callee.value (Go.Operand.func 29), args := #[Go.Operand.tmp 35, Go.Operand.tmp 44, Go.Operand.tmp 45], argTypes := #[24, 3, 3] }, type := 77, pos := "iommu.go:145", after := #[{ on := 3, ground := Go.Ground.data }, { on := 12, ground := Go.Ground.data }, { on := 13, ground := Go.Ground.data }], guard := none } : Oper)) rfl (fun K hK => ?_) AllReadyH.nil)
          refine Eq.mpr (if_pos (by rfl)) ?_
          go_simp
          (have HR5 : Hid (Chg (fun _ => False) W0 _) := hHeld; go_at_call 29; refine (HWK.out _ HR5.out).mono ?_; rintro e w4 ⟨rfl, k4⟩; have hb4 : w4.heap[wc.heap.size]? = some (.cells #[.int .i64 0, .int .i64 0] 29 (0, 0)) := k4.at (blk_new wc.drew (.cells #[.int .i64 0, .int .i64 0] 29)) id; have z0 : w4.cell? ⟨wc.heap.size, 0, none⟩ = some (.int .i64 0) := blk_cell hb4 0; have z1 : w4.cell? ⟨wc.heap.size, 1, none⟩ = some (.int .i64 0) := blk_cell hb4 1; have f0 : w4.frozen? ⟨wc.heap.size, 0, none⟩ = false := blk_free hb4 0; have f1 : w4.frozen? ⟨wc.heap.size, 1, none⟩ = false := blk_free hb4 1; have sl := lt_of_heap hb4; have HB4 := Lib.hid hb4; have HR4 := Lib.hid (HR5.out.trans k4); clear hb4 k4)
          refine hK.out _ _ (HR4.out) (fun hHeld => ?_)
          clear hK K
          try simp only [Act.put, List.setIfInBounds_toArray, List.set_cons_zero, List.set_cons_succ]
          refine tkH 15 (y := by intro w hSw; obtain ⟨y0, y1, y2, y3⟩ := HY.out _ hSw; go_simp; try with_reducible rfl) (h := ?_)
          refine tkH 16 (y := by intro w hSw; obtain ⟨y0, y1, y2, y3⟩ := HY.out _ hSw; go_simp; try with_reducible rfl) (h := ?_)
          refine tkH 17 (y := by intro w hSw; obtain ⟨y0, y1, y2, y3⟩ := HY.out _ hSw; go_simp; try with_reducible rfl) (h := ?_)
          refine wpAnyH_ready (rs := [19]) (by kernel_rfl) (List.cons_ne_nil _ _) ?_
          refine (AllReadyH.cons (o := ({ dst := none, op := Go.Op.store 29 (Go.Operand.tmp 10) (Go.Operand.tmp 47), type := 0, pos := "iommu.go:145", after := #[{ on := 18, ground := Go.Ground.data }, { on := 16, ground := Go.Ground.data }, { on := 14, ground := Go.Ground.chain }, { on := 0, ground := Go.Ground.phase }, { on := 1, ground := Go.Ground.phase }, { on := 2, ground := Go.Ground.phase }, { on := 3, ground := Go.Ground.phase }, { on := 4, ground := Go.Ground.phase }, { on := 5, ground := Go.Ground.phase }, { on := 6, ground := Go.Ground.phase }, { on := 7, ground := Go.Ground.phase }, { on := 8, ground := Go.Ground.phase }, { on := 9, ground := Go.Ground.phase }, { on := 10, ground := Go.Ground.phase }, { on := 11, ground := Go.Ground.phase }, { on := 12, ground := Go.Ground.phase }, { on := 13, ground := Go.Ground.phase }, { on := 14, ground := Go.Ground.phase }, { on := 15, ground := Go.Ground.phase }, { on := 16, ground := Go.Ground.phase }, { on := 17, ground := Go.Ground.textOnly Go.Departure.lateStores }, { on := 18, ground := Go.Ground.phase }], guard := none } : Oper)) rfl (fun K hK => ?_) AllReadyH.nil)
          refine Eq.mpr (if_pos (by rfl)) ?_
          go_simp
          skip
          refine hK.out _ _ (((HR4.out.trans' ((Chg.refl (fun k => k = wc.heap.size) _).set1 _) (fun k hk e => by have := HSZ.out; omega)).trans' ((Chg.refl (fun k => k = wc.heap.size) _).set1 _) (fun k hk e => by have := HSZ.out; omega))) (fun hHeld => ?_)
          clear hK K
          try simp only [Act.put, List.setIfInBounds_toArray, List.set_cons_zero, List.set_cons_succ]
          refine tkH 20 (y := by intro w hSw; obtain ⟨y0, y1, y2, y3⟩ := HY.out _ hSw; go_simp; try with_reducible rfl) (h := ?_)
          refine dnH ?_
          have HR6 := Lib.hid hHeld
          go_wp2_with fail
          go_meet
          exact ⟨wc.heap.size, rfl, rfl, (by have := HSZ.out; have := HSL.out; omega), blk_set (blk_set HB4.out 0 _) 1 _, HR6.out⟩
      case rest =>
        obtain ⟨eb, rfl, rfl, hlt, hEB, hC4⟩ := hcut
        have HC4 := Lib.hid hC4
        have HEB := Lib.hid hEB
        have HLT := Lib.hid hlt
        have HXC := Lib.hid (HX.out _ HC4.out)
        have HW0 : Hid (w.heap.size < W0.heap.size) := by have := lt_of_heap (HB.out W0 (Chg.refl _ _)); have := HSB.out; exact (by omega : w.heap.size < W0.heap.size)
        have HNT : Hid (¬ T x ∧ ¬ T eb ∧ ¬ T sb) := ⟨fun e => by
          obtain ⟨cs, t, h1, h2⟩ := HXC.out.tlb.typ x e
          rcases h2 with rfl | rfl <;> exact blk_unl HXC.out.blk h1 (by decide), fun e => by have := HTL.out _ e; have := HLT.out; have := HSB.out; omega, fun e => by have := HTL.out _ e; have := HSB.out; omega⟩
        have HY8 : Hid (∀ W, Chg T wc W → W.cell? ⟨x, 2, none⟩ = some (.pointer (some ⟨tb, 0, none⟩)) ∧ W.cell? ⟨eb, 0, none⟩ = some (.int .i64 we.1.1) ∧ W.cell? ⟨eb, 1, none⟩ = some (.int .i64 we.1.2)) := fun W hW => ⟨blk_cell (hW.at HXC.out.blk HNT.out.1) 2, blk_cell (hW.at HEB.out HNT.out.2.1) 0, blk_cell (hW.at HEB.out HNT.out.2.1) 1⟩
        have i4 : (n : Int) < 4 := by omega
        clear hC4 hEB hlt
        by_cases e2 : we.2 = 0
        · have b2 : (we.2 == 0) = true := by simpa using e2
          have HGG := Lib.hid (HWG.out e2)
          have HE2 := Lib.hid e2
          clear e2
          go_upto_region 8 with fail
          refine wp_region_held_drew (S := fun W => Chg T wc W) (by kernel_rfl) ((Chg.refl _ _).drew) (fun hHeld => ?_)
          refine tkH 0 (y := by intro w hSw; obtain ⟨y0, y1, y2⟩ := HY8.out _ hSw; go_simp; try with_reducible rfl) (h := ?_)
          refine tkH 1 (y := by intro w hSw; obtain ⟨y0, y1, y2⟩ := HY8.out _ hSw; go_simp; try with_reducible rfl) (h := ?_)
          refine tkH 2 (y := by intro w hSw; obtain ⟨y0, y1, y2⟩ := HY8.out _ hSw; go_simp; try with_reducible rfl) (h := ?_)
          refine tkH 3 (y := by intro w hSw; obtain ⟨y0, y1, y2⟩ := HY8.out _ hSw; go_simp; try with_reducible rfl) (h := ?_)
          refine tkH 4 (y := by intro w hSw; obtain ⟨y0, y1, y2⟩ := HY8.out _ hSw; go_simp; try with_reducible rfl) (h := ?_)
          refine tkH 5 (y := by intro w hSw; obtain ⟨y0, y1, y2⟩ := HY8.out _ hSw; go_simp; try with_reducible rfl) (h := ?_)
          refine tkH 6 (y := by intro w hSw; obtain ⟨y0, y1, y2⟩ := HY8.out _ hSw; go_simp; try with_reducible rfl) (h := ?_)
          refine cH 7 (y := fun K hK => ?_)
          go_simp
          (go_at_call 65; refine (tPut tb n page we.1.1 we.1.2 nf T _ (HXC.out.tlb.keepN (Chg.refl _ _).drew) i0 i4 HPG.out HGG.out).mono ?_; rintro e w6 ⟨T6, ⟨x6, rfl⟩, ht6, hs6, k6⟩; have HR6 : Hid (Chg T wc w6) := Lib.hid (((Chg.refl _ _).drew).trans k6); have HI6 := Lib.hid (HXC.out.tlb_ ht6 HR6.out); have HS6 := Lib.hid hs6; clear ht6 hs6 k6)
          refine hK.out _ _ (HR6.out) (fun hHeld => ?_)
          clear hK K
          try simp only [Act.put, List.setIfInBounds_toArray, List.set_cons_zero, List.set_cons_succ]
          refine dnH ?_
          have HM6 := Lib.hid (HXC.out.mem (HM.out _ HC4.out) HR6.out)
          obtain ⟨y0, y1, y2⟩ := HY8.out _ HR6.out
          have hsb := HR6.out.at (HB.out _ HC4.out) HNT.out.2.2
          have z0 := blk_cell hsb 0
          have z1 := blk_cell hsb 1
          have f0 := blk_free hsb 0
          have f1 := blk_free hsb 1
          have sl := lt_of_heap hsb
          simp only [List.getElem?_toArray, List.getElem?_cons_zero, List.getElem?_cons_succ] at z0 z1
          clear hsb
          go_wp2_with fail
          refine bodyPost_ret (v := .tuple #[.agg #[.int .i64 we.1.1, .int .i64 we.1.2], .int .i64 0]) (by simp [results, Try.results40, go_sem, z0, z1, f0, f1, sl]) rfl ?_
          have hfc : failC we.2 = 0 := by rw [HE2.out]; decide
          have hout := HOUT.out T6 w6 (.int .i64 we.1.1) (.int .i64 we.1.2) HI6.out (fun k hk => (HS6.out k hk).imp id (fun h => by have h2 : wc.heap.size ≤ k := h; have := HC4.out.size; have := HW0.out; omega)) HM6.out ((HC4.out.toF _).trans HR6.out)
          rw [hfc] at hout
          exact hout
        · have b2 : (we.2 == 0) = false := by simpa using e2
          clear e2
          obtain ⟨y0, y1, y2⟩ := HY8.out _ (Chg.refl _ _)
          go_wp2_with fail
          refine (tDrop tb n page nf T _ HXC.out.tlb).mono ?_
          rintro e w6 ⟨⟨x6, rfl⟩, ht6, k6⟩
          clear y0 y1 y2
          have HK6 := Lib.hid k6
          have HI6 := Lib.hid (HXC.out.tlb_ ht6 k6)
          have HM6 := Lib.hid (HXC.out.mem (HM.out _ HC4.out) k6)
          clear ht6 k6
          have hsb := HK6.out.at (HB.out _ HC4.out) HNT.out.2.2
          have heb := HK6.out.at HEB.out HNT.out.2.1
          have HE7 : Hid (∀ W, Chg (fun k => k = sb) w6 W → W.cell? ⟨eb, 0, none⟩ = some (.int .i64 we.1.1) ∧ W.cell? ⟨eb, 1, none⟩ = some (.int .i64 we.1.2)) := fun W hW => by
            have hb := hW.at heb (fun e => by have := HLT.out; omega)
            exact ⟨blk_cell hb 0, blk_cell hb 1⟩
          have z0 := blk_cell hsb 0
          have z1 := blk_cell hsb 1
          have f0 := blk_free hsb 0
          have f1 := blk_free hsb 1
          have sl := lt_of_heap hsb
          simp only [List.getElem?_toArray, List.getElem?_cons_zero, List.getElem?_cons_succ] at z0 z1
          clear hsb heb
          go_upto_region 7 with fail
          refine wp_region_held_drew (S := fun W => Chg (fun k => k = sb) w6 W) (by kernel_rfl) ((Chg.refl _ _).drew) (fun hHeld => ?_)
          have HR7 : Hid (Chg (fun k => k = sb) w6 _) := hHeld
          refine tkH 0 (y := by intro w hSw; obtain ⟨y0, y1⟩ := HE7.out _ hSw; go_simp; try with_reducible rfl) (h := ?_)
          refine tkH 1 (y := by intro w hSw; obtain ⟨y0, y1⟩ := HE7.out _ hSw; go_simp; try with_reducible rfl) (h := ?_)
          refine cH 2 (y := fun K hK => ?_)
          go_simp
          (go_at_call 30; refine (iFailed we.2 _).mono ?_; rintro e w7 ⟨rfl, rfl⟩)
          refine hK.out _ _ (HR7.out) (fun hHeld => ?_)
          clear hK K
          try simp only [Act.put, List.setIfInBounds_toArray, List.set_cons_zero, List.set_cons_succ]
          refine cH 3 (y := fun K hK => ?_)
          go_simp
          skip
          refine hK.out _ _ (((((Chg.refl _ _).set1 _).set1 _).drew)) (fun hHeld => ?_)
          clear hK K
          try simp only [Act.put, List.setIfInBounds_toArray, List.set_cons_zero, List.set_cons_succ]
          refine tkH 4 (y := by intro w hSw; obtain ⟨y0, y1⟩ := HE7.out _ hSw; go_simp; try with_reducible rfl) (h := ?_)
          refine dnH ?_
          go_wp2_with fail
          refine bodyPost_ret (v := .tuple #[.agg #[.int .i64 we.1.1, .int .i64 we.1.2], .int .i64 (failC we.2)]) (by simp [results, Try.results40, go_sem, z0, z1, f0, f1, sl]) rfl ?_
          exact HOUT.out T w6.drew _ _ (HI6.out.keepN (Chg.refl _ _).drew) (fun k hk => .inl hk) (HM6.out.keepD (Chg.refl _ _).drew) (((HC4.out.toF _).trans HK6.out).trans (Chg.refl _ _).drew)
    · obtain rfl := hbb rfl
      go_wp2_with fail
      refine bodyPost_ret (v := .tuple #[.agg #[.int .i64 f, .int .i64 q], .int .i64 0]) (by simp [results, Try.results40, go_sem, z0, z1, f0, f1, sl]) rfl ?_
      exact HOUT.out T _ _ _ (HX.out _ HC3.out) (fun k hk => .inl hk) (HM.out _ HC3.out) (HC3.out.toF _)
end Go.Proofs.Ytnallfehffhaeaa
