/- The Iommu's Map. Printed by mkiom7.py. -/
import Derived.Test.YtnallfehffhaeaaTk
import Derived.Test.YtnallfehffhaeaaIomF
import Derived.Deep.DeepCutAuto
import Derived.Deep.CutBlock
set_option linter.unusedSimpArgs false
set_option linter.unusedVariables false
namespace Go.Proofs.Ytnallfehffhaeaa
open Go.RowKit

/-- May Map be asked so? -/
def MapP (L : Pls) (bs : List UInt8) (d page f q : Int) : Prop := devIn L d ∧ pageP page ∧ mayE f q ∧ q ≠ 0 ∧ frameP bs f
instance decMapP (L : Pls) (bs : List UInt8) (d page f q : Int) : Decidable (MapP L bs d page f q) := by unfold MapP frameP; infer_instance
/-- What Map answers, the bytes behind it. -/
def mapM (bs : List UInt8) (pool : List Int) (page f q : Int) : Int × List UInt8 :=
  if (leafM bs pool page).2.1 ≠ 0 then (leafM bs pool page).2
  else (putC (leafM bs pool page).2.2 ((leafM bs pool page).1 * 64 + page % 16 * 4) (putE f q), putB (leafM bs pool page).2.2 ((leafM bs pool page).1 * 64 + page % 16 * 4) (putE f q))
theorem leafM_len (bs : List UInt8) (pool : List Int) (page : Int) : (leafM bs pool page).2.2.length = bs.length := by
  unfold leafM
  split
  · rfl
  · split
    · exact putB_len _ _ _
    · rfl
theorem freeF_mem {bs : List UInt8} {root : Int} : ∀ {fs : List Int} {f : Int}, freeF bs root fs = some f → f ∈ fs
  | [], _, h => by cases h
  | g :: gs, f, h => by
    unfold freeF at h
    split at h
    · exact List.mem_cons_of_mem _ (freeF_mem h)
    · cases h; exact List.mem_cons_self ..
theorem leafM_ok {bs : List UInt8} {rt page nf : Int} {rest : List Int} (hn : nf = (bs.length : Int) / 64) (hf : ∀ f ∈ rest, 0 ≤ f ∧ f < nf) (h : (leafM bs (rt :: rest) page).2.1 = 0) : 0 ≤ (leafM bs (rt :: rest) page).1 ∧ (leafM bs (rt :: rest) page).1 < nf := by
  unfold leafM at h ⊢
  split
  · rename_i h0
    have := leafI_ok h0
    exact ⟨this.1, by rw [hn]; exact this.2⟩
  · rename_i h0
    rw [if_neg h0] at h
    simp only [List.drop_succ_cons, List.drop_zero, List.getD_cons_zero] at h ⊢
    cases hq : freeF bs rt rest with
    | none => rw [hq] at h; cases h
    | some f => exact hf f (freeF_mem hq)
set_option maxRecDepth 100000 in
set_option maxHeartbeats 8000000 in
theorem iMap (x p tb r : Nat) (L : Pls) (nf : Int) (v : Value) (P T : Nat → Prop) (bs : List UInt8) (d page f q : Int) (w : World) (h : IomV w x p tb L nf v P T) (hM : MemAt w 93 p r bs) (hl : bs.length ≤ 4096) (hnf : nf = (bs.length : Int) / 64) :
    Calls Try.prog 13 #[.pointer (some ⟨x, 0, none⟩), .int .i64 d, .int .i64 page, .agg #[.int .i64 f, .int .i64 q]] w
      (ClearPost x p tb r L nf v P T (if MapP L bs d page f q then (mapM bs (poolOf L d) page f q).1 else 700) (if MapP L bs d page f q then (mapM bs (poolOf L d) page f q).2 else bs) w) := by
  obtain ⟨W0, hW0⟩ : ∃ W, W = w.alloc (.cells #[.int .i64 f, .int .i64 q] 29) := ⟨_, rfl⟩
  obtain ⟨eb, heb⟩ : ∃ b, b = w.heap.size := ⟨_, rfl⟩
  have hA : Chg (fun _ => False) w W0 := by rw [hW0]; exact (Chg.refl _ _).alloc _
  have hB : W0.heap[eb]? = some (.cells #[.int .i64 f, .int .i64 q] 29 (0, 0)) := by rw [hW0, heb]; exact blk_new w _
  have HX : Hid (∀ W, Chg (fun _ => False) W0 W → IomV W x p tb L nf v P T) := fun W hW => h.keepN (hA.trans hW)
  have HM : Hid (∀ W, Chg (fun _ => False) W0 W → MemAt W 93 p r bs) := fun W hW => hM.keepD (hA.trans hW)
  have HB : Hid (W0.heap[eb]? = some (.cells #[.int .i64 f, .int .i64 q] 29 (0, 0))) := hB
  have HY3 : Hid (∀ W, Chg (fun _ => False) W0 W → W.cell? ⟨x, 0, none⟩ = some (.pointer (some ⟨p, 0, none⟩)) ∧ W.cell? ⟨eb, 0, none⟩ = some (.int .i64 f) ∧ W.cell? ⟨eb, 1, none⟩ = some (.int .i64 q)) := fun W hW => ⟨(h.keepN (hA.trans hW)).cells.1, blk_cell (hW.at hB id) 0, blk_cell (hW.at hB id) 1⟩
  have HLN := Lib.hid hl
  have HNF := Lib.hid hnf
  have HEB : Hid (eb = w.heap.size) := heb
  have HAA := Lib.hid hA
  have HTL : Hid (∀ k, T k → k < w.heap.size) := fun k hk => h.tlb.lt k hk
  have HMR : Hid (r < w.heap.size) := lt_of_heap hM.2
  have HYES : Hid (MapP L bs d page f q → ∀ W', IomV W' x p tb L nf v P T → MemAt W' 93 p r (mapM bs (poolOf L d) page f q).2 → Chg (fun k => k = r ∨ T k) w W' → ClearPost x p tb r L nf v P T (if MapP L bs d page f q then (mapM bs (poolOf L d) page f q).1 else 700) (if MapP L bs d page f q then (mapM bs (poolOf L d) page f q).2 else bs) w (.returned (.int .i64 (mapM bs (poolOf L d) page f q).1)) W') := fun hm W' a1 a2 a3 => by
    rw [if_pos hm, if_pos hm]; exact ⟨rfl, a1, a2, a3⟩
  have HNO : Hid (¬ MapP L bs d page f q → ∀ W', Chg (fun _ => False) W0 W' → ClearPost x p tb r L nf v P T (if MapP L bs d page f q then (mapM bs (poolOf L d) page f q).1 else 700) (if MapP L bs d page f q then (mapM bs (poolOf L d) page f q).2 else bs) w (.returned (.int .i64 700)) W') := fun hm W' a1 => by
    rw [if_neg hm, if_neg hm]; exact ⟨rfl, h.keepN (hA.trans a1), hM.keepD (hA.trans a1), (hA.trans a1).toF _⟩
  generalize ClearPost x p tb r L nf v P T (if MapP L bs d page f q then (mapM bs (poolOf L d) page f q).1 else 700) (if MapP L bs d page f q then (mapM bs (poolOf L d) page f q).2 else bs) w = POST at *
  clear h hM hl hnf hA hB
  go_enter Try.func13, Try.ntmps13
  go_upto_region 1 with fail
  rw [← hW0]
  try rw [← heb]
  clear hW0 heb
  go_upto_region 3 with fail
  go_cut [16] (fun s wx => s = .bool (!decide (MapP L bs d page f q)) ∧ Chg (fun _ => False) W0 wx)
  case first =>
    by_cases h1 : devIn L d
    case neg =>
      have ED := Lib.hid (decide_eq_false h1)
      have EE := Lib.hid (decide_eq_false (fun h : MapP L bs d page f q => h1 h.1))
      clear h1
      refine wp_region_held_drew (S := fun W => Chg (fun _ => False) W0 W) (by kernel_rfl) ((Chg.refl _ _).drew) (fun hHeld => ?_)
      have HR : Hid (Chg (fun _ => False) W0 _) := hHeld
      refine tkH 0 (y := by intro w hSw; obtain ⟨y0, y1, y2⟩ := HY3.out _ hSw; go_simp; try with_reducible rfl) (h := ?_)
      refine tkH 1 (y := by intro w hSw; obtain ⟨y0, y1, y2⟩ := HY3.out _ hSw; go_simp; try with_reducible rfl) (h := ?_)
      refine cH 2 (y := fun K hK => ?_)
      go_simp
      (go_at_call 27; refine (iThere x p tb L nf _ P T d _ ((HX.out _ HR.out).keepN (Chg.refl _ _))).mono ?_; rintro e w6 ⟨rfl, rfl⟩; rw [ED.out])
      refine hK.out _ _ (HR.out) (fun hHeld => ?_)
      clear hK K
      try simp only [Act.put, List.setIfInBounds_toArray, List.set_cons_zero, List.set_cons_succ]
      refine tkH 3 (y := by intro w hSw; obtain ⟨y0, y1, y2⟩ := HY3.out _ hSw; go_simp; try with_reducible rfl) (h := ?_)
      refine tkH 4 (y := by intro w hSw; obtain ⟨y0, y1, y2⟩ := HY3.out _ hSw; go_simp; try with_reducible rfl) (h := ?_)
      refine skH 5 (h := ?_)
      refine wpAnyH_ready (rs := [6]) (by kernel_rfl) (List.cons_ne_nil _ _) ?_
      refine AllReadyH.cons (o := ({ dst := some 23, op := Go.Op.call { callee := Go.Callee.value (Go.Operand.func 28), args := #[Go.Operand.tmp 22], argTypes := #[3] }, type := 4, pos := "iommu.go:89", after := #[{ on := 5, ground := Go.Ground.data }, { on := 4, ground := Go.Ground.chain }, { on := 4, ground := Go.Ground.guard }], guard := some (4, false) } : Oper)) rfl (fun K hK => ?_) AllReadyH.nil
      change if false = true then _ else _
      rw [if_neg Bool.false_ne_true]
      refine hK.out _ _ (HR.out) (fun hHeld => ?_)
      clear hK K
      try simp only [Act.put, List.setIfInBounds_toArray, List.set_cons_zero, List.set_cons_succ]
      refine skH 7 (h := ?_)
      refine tkH 8 (y := by intro w hSw; obtain ⟨y0, y1, y2⟩ := HY3.out _ hSw; go_simp; try with_reducible rfl) (h := ?_)
      refine tkH 9 (y := by intro w hSw; obtain ⟨y0, y1, y2⟩ := HY3.out _ hSw; go_simp; try with_reducible rfl) (h := ?_)
      refine skH 10 (h := ?_)
      refine wpAnyH_ready (rs := [11]) (by kernel_rfl) (List.cons_ne_nil _ _) ?_
      refine AllReadyH.cons (o := ({ dst := some 28, op := Go.Op.call { callee := Go.Callee.value (Go.Operand.func 35), args := #[Go.Operand.tmp 27], argTypes := #[29] }, type := 4, pos := "iommu.go:89", after := #[{ on := 10, ground := Go.Ground.data }, { on := 9, ground := Go.Ground.chain }, { on := 9, ground := Go.Ground.guard }], guard := some (9, false) } : Oper)) rfl (fun K hK => ?_) AllReadyH.nil
      change if false = true then _ else _
      rw [if_neg Bool.false_ne_true]
      refine hK.out _ _ (HR.out) (fun hHeld => ?_)
      clear hK K
      try simp only [Act.put, List.setIfInBounds_toArray, List.set_cons_zero, List.set_cons_succ]
      refine skH 12 (h := ?_)
      refine tkH 13 (y := by intro w hSw; obtain ⟨y0, y1, y2⟩ := HY3.out _ hSw; go_simp; try with_reducible rfl) (h := ?_)
      refine tkH 14 (y := by intro w hSw; obtain ⟨y0, y1, y2⟩ := HY3.out _ hSw; go_simp; try with_reducible rfl) (h := ?_)
      refine skH 15 (h := ?_)
      refine skH 16 (h := ?_)
      refine skH 17 (h := ?_)
      refine tkH 18 (y := by intro w hSw; obtain ⟨y0, y1, y2⟩ := HY3.out _ hSw; go_simp; try with_reducible rfl) (h := ?_)
      refine tkH 19 (y := by intro w hSw; obtain ⟨y0, y1, y2⟩ := HY3.out _ hSw; go_simp; try with_reducible rfl) (h := ?_)
      refine skH 20 (h := ?_)
      refine skH 21 (h := ?_)
      refine skH 22 (h := ?_)
      refine skH 23 (h := ?_)
      refine skH 24 (h := ?_)
      refine skH 25 (h := ?_)
      refine wpAnyH_ready (rs := [26]) (by kernel_rfl) (List.cons_ne_nil _ _) ?_
      refine AllReadyH.cons (o := ({ dst := some 43, op := Go.Op.call { callee := Go.Callee.value (Go.Operand.func 36), args := #[Go.Operand.tmp 40, Go.Operand.tmp 42], argTypes := #[24, 3] }, type := 4, pos := "iommu.go:89", after := #[{ on := 23, ground := Go.Ground.data }, { on := 25, ground := Go.Ground.data }, { on := 19, ground := Go.Ground.chain }, { on := 19, ground := Go.Ground.guard }], guard := some (19, false) } : Oper)) rfl (fun K hK => ?_) AllReadyH.nil
      change if false = true then _ else _
      rw [if_neg Bool.false_ne_true]
      refine hK.out _ _ (HR.out) (fun hHeld => ?_)
      clear hK K
      try simp only [Act.put, List.setIfInBounds_toArray, List.set_cons_zero, List.set_cons_succ]
      refine skH 27 (h := ?_)
      refine tkH 28 (y := by intro w hSw; obtain ⟨y0, y1, y2⟩ := HY3.out _ hSw; go_simp; try with_reducible rfl) (h := ?_)
      refine tkH 29 (y := by intro w hSw; obtain ⟨y0, y1, y2⟩ := HY3.out _ hSw; go_simp; try with_reducible rfl) (h := ?_)
      refine dnH ?_
      have HR9 := Lib.hid HR.out
      go_wp2_with fail
      go_meet
      exact ⟨by rw [EE.out]; rfl, HR9.out⟩
    have ED := Lib.hid (decide_eq_true h1)
    by_cases h2 : pageP page
    case neg =>
      have EE := Lib.hid (decide_eq_false (fun h : MapP L bs d page f q => h2 h.2.1))
      have HPG := Lib.hid h2
      clear h1 h2
      refine wp_region_held_drew (S := fun W => Chg (fun _ => False) W0 W) (by kernel_rfl) ((Chg.refl _ _).drew) (fun hHeld => ?_)
      have HR : Hid (Chg (fun _ => False) W0 _) := hHeld
      refine tkH 0 (y := by intro w hSw; obtain ⟨y0, y1, y2⟩ := HY3.out _ hSw; go_simp; try with_reducible rfl) (h := ?_)
      refine tkH 1 (y := by intro w hSw; obtain ⟨y0, y1, y2⟩ := HY3.out _ hSw; go_simp; try with_reducible rfl) (h := ?_)
      refine cH 2 (y := fun K hK => ?_)
      go_simp
      (go_at_call 27; refine (iThere x p tb L nf _ P T d _ ((HX.out _ HR.out).keepN (Chg.refl _ _))).mono ?_; rintro e w6 ⟨rfl, rfl⟩; rw [ED.out])
      refine hK.out _ _ (HR.out) (fun hHeld => ?_)
      clear hK K
      try simp only [Act.put, List.setIfInBounds_toArray, List.set_cons_zero, List.set_cons_succ]
      refine tkH 3 (y := by intro w hSw; obtain ⟨y0, y1, y2⟩ := HY3.out _ hSw; go_simp; try with_reducible rfl) (h := ?_)
      refine tkH 4 (y := by intro w hSw; obtain ⟨y0, y1, y2⟩ := HY3.out _ hSw; go_simp; try with_reducible rfl) (h := ?_)
      refine tkH 5 (y := by intro w hSw; obtain ⟨y0, y1, y2⟩ := HY3.out _ hSw; go_simp; try with_reducible rfl) (h := ?_)
      refine cH 6 (y := fun K hK => ?_)
      go_simp
      (go_at_call 28; refine (wPage_no page _ HPG.out).mono ?_; rintro e w6 ⟨rfl, rfl⟩)
      refine hK.out _ _ (HR.out) (fun hHeld => ?_)
      clear hK K
      try simp only [Act.put, List.setIfInBounds_toArray, List.set_cons_zero, List.set_cons_succ]
      refine tkH 7 (y := by intro w hSw; obtain ⟨y0, y1, y2⟩ := HY3.out _ hSw; go_simp; try with_reducible rfl) (h := ?_)
      refine tkH 8 (y := by intro w hSw; obtain ⟨y0, y1, y2⟩ := HY3.out _ hSw; go_simp; try with_reducible rfl) (h := ?_)
      refine tkH 9 (y := by intro w hSw; obtain ⟨y0, y1, y2⟩ := HY3.out _ hSw; go_simp; try with_reducible rfl) (h := ?_)
      refine skH 10 (h := ?_)
      refine wpAnyH_ready (rs := [11]) (by kernel_rfl) (List.cons_ne_nil _ _) ?_
      refine AllReadyH.cons (o := ({ dst := some 28, op := Go.Op.call { callee := Go.Callee.value (Go.Operand.func 35), args := #[Go.Operand.tmp 27], argTypes := #[29] }, type := 4, pos := "iommu.go:89", after := #[{ on := 10, ground := Go.Ground.data }, { on := 9, ground := Go.Ground.chain }, { on := 9, ground := Go.Ground.guard }], guard := some (9, false) } : Oper)) rfl (fun K hK => ?_) AllReadyH.nil
      change if false = true then _ else _
      rw [if_neg Bool.false_ne_true]
      refine hK.out _ _ (HR.out) (fun hHeld => ?_)
      clear hK K
      try simp only [Act.put, List.setIfInBounds_toArray, List.set_cons_zero, List.set_cons_succ]
      refine skH 12 (h := ?_)
      refine tkH 13 (y := by intro w hSw; obtain ⟨y0, y1, y2⟩ := HY3.out _ hSw; go_simp; try with_reducible rfl) (h := ?_)
      refine tkH 14 (y := by intro w hSw; obtain ⟨y0, y1, y2⟩ := HY3.out _ hSw; go_simp; try with_reducible rfl) (h := ?_)
      refine skH 15 (h := ?_)
      refine skH 16 (h := ?_)
      refine skH 17 (h := ?_)
      refine tkH 18 (y := by intro w hSw; obtain ⟨y0, y1, y2⟩ := HY3.out _ hSw; go_simp; try with_reducible rfl) (h := ?_)
      refine tkH 19 (y := by intro w hSw; obtain ⟨y0, y1, y2⟩ := HY3.out _ hSw; go_simp; try with_reducible rfl) (h := ?_)
      refine skH 20 (h := ?_)
      refine skH 21 (h := ?_)
      refine skH 22 (h := ?_)
      refine skH 23 (h := ?_)
      refine skH 24 (h := ?_)
      refine skH 25 (h := ?_)
      refine wpAnyH_ready (rs := [26]) (by kernel_rfl) (List.cons_ne_nil _ _) ?_
      refine AllReadyH.cons (o := ({ dst := some 43, op := Go.Op.call { callee := Go.Callee.value (Go.Operand.func 36), args := #[Go.Operand.tmp 40, Go.Operand.tmp 42], argTypes := #[24, 3] }, type := 4, pos := "iommu.go:89", after := #[{ on := 23, ground := Go.Ground.data }, { on := 25, ground := Go.Ground.data }, { on := 19, ground := Go.Ground.chain }, { on := 19, ground := Go.Ground.guard }], guard := some (19, false) } : Oper)) rfl (fun K hK => ?_) AllReadyH.nil
      change if false = true then _ else _
      rw [if_neg Bool.false_ne_true]
      refine hK.out _ _ (HR.out) (fun hHeld => ?_)
      clear hK K
      try simp only [Act.put, List.setIfInBounds_toArray, List.set_cons_zero, List.set_cons_succ]
      refine skH 27 (h := ?_)
      refine tkH 28 (y := by intro w hSw; obtain ⟨y0, y1, y2⟩ := HY3.out _ hSw; go_simp; try with_reducible rfl) (h := ?_)
      refine tkH 29 (y := by intro w hSw; obtain ⟨y0, y1, y2⟩ := HY3.out _ hSw; go_simp; try with_reducible rfl) (h := ?_)
      refine dnH ?_
      have HR9 := Lib.hid HR.out
      go_wp2_with fail
      go_meet
      exact ⟨by rw [EE.out]; rfl, HR9.out⟩
    have HPG := Lib.hid h2
    by_cases h3 : mayE f q
    case neg =>
      have EE := Lib.hid (decide_eq_false (fun h : MapP L bs d page f q => h3 h.2.2.1))
      have EM := Lib.hid (decide_eq_false h3)
      clear h1 h2 h3
      refine wp_region_held_drew (S := fun W => Chg (fun _ => False) W0 W) (by kernel_rfl) ((Chg.refl _ _).drew) (fun hHeld => ?_)
      have HR : Hid (Chg (fun _ => False) W0 _) := hHeld
      refine tkH 0 (y := by intro w hSw; obtain ⟨y0, y1, y2⟩ := HY3.out _ hSw; go_simp; try with_reducible rfl) (h := ?_)
      refine tkH 1 (y := by intro w hSw; obtain ⟨y0, y1, y2⟩ := HY3.out _ hSw; go_simp; try with_reducible rfl) (h := ?_)
      refine cH 2 (y := fun K hK => ?_)
      go_simp
      (go_at_call 27; refine (iThere x p tb L nf _ P T d _ ((HX.out _ HR.out).keepN (Chg.refl _ _))).mono ?_; rintro e w6 ⟨rfl, rfl⟩; rw [ED.out])
      refine hK.out _ _ (HR.out) (fun hHeld => ?_)
      clear hK K
      try simp only [Act.put, List.setIfInBounds_toArray, List.set_cons_zero, List.set_cons_succ]
      refine tkH 3 (y := by intro w hSw; obtain ⟨y0, y1, y2⟩ := HY3.out _ hSw; go_simp; try with_reducible rfl) (h := ?_)
      refine tkH 4 (y := by intro w hSw; obtain ⟨y0, y1, y2⟩ := HY3.out _ hSw; go_simp; try with_reducible rfl) (h := ?_)
      refine tkH 5 (y := by intro w hSw; obtain ⟨y0, y1, y2⟩ := HY3.out _ hSw; go_simp; try with_reducible rfl) (h := ?_)
      refine cH 6 (y := fun K hK => ?_)
      go_simp
      (go_at_call 28; refine (wPage_yes page _ HPG.out).mono ?_; rintro e w6 ⟨rfl, rfl⟩)
      refine hK.out _ _ (HR.out) (fun hHeld => ?_)
      clear hK K
      try simp only [Act.put, List.setIfInBounds_toArray, List.set_cons_zero, List.set_cons_succ]
      refine tkH 7 (y := by intro w hSw; obtain ⟨y0, y1, y2⟩ := HY3.out _ hSw; go_simp; try with_reducible rfl) (h := ?_)
      refine tkH 8 (y := by intro w hSw; obtain ⟨y0, y1, y2⟩ := HY3.out _ hSw; go_simp; try with_reducible rfl) (h := ?_)
      refine tkH 9 (y := by intro w hSw; obtain ⟨y0, y1, y2⟩ := HY3.out _ hSw; go_simp; try with_reducible rfl) (h := ?_)
      refine tkH 10 (y := by intro w hSw; obtain ⟨y0, y1, y2⟩ := HY3.out _ hSw; go_simp; try with_reducible rfl) (h := ?_)
      refine cH 11 (y := fun K hK => ?_)
      go_simp
      (go_at_call 35; refine (pteMay f q _).mono ?_; rintro e w6 ⟨rfl, k6⟩; replace HR := Lib.hid (HR.out.trans k6); clear k6; rw [EM.out])
      refine hK.out _ _ (HR.out) (fun hHeld => ?_)
      clear hK K
      try simp only [Act.put, List.setIfInBounds_toArray, List.set_cons_zero, List.set_cons_succ]
      refine tkH 12 (y := by intro w hSw; obtain ⟨y0, y1, y2⟩ := HY3.out _ hSw; go_simp; try with_reducible rfl) (h := ?_)
      refine tkH 13 (y := by intro w hSw; obtain ⟨y0, y1, y2⟩ := HY3.out _ hSw; go_simp; try with_reducible rfl) (h := ?_)
      refine tkH 14 (y := by intro w hSw; obtain ⟨y0, y1, y2⟩ := HY3.out _ hSw; go_simp; try with_reducible rfl) (h := ?_)
      refine skH 15 (h := ?_)
      refine skH 16 (h := ?_)
      refine skH 17 (h := ?_)
      refine tkH 18 (y := by intro w hSw; obtain ⟨y0, y1, y2⟩ := HY3.out _ hSw; go_simp; try with_reducible rfl) (h := ?_)
      refine tkH 19 (y := by intro w hSw; obtain ⟨y0, y1, y2⟩ := HY3.out _ hSw; go_simp; try with_reducible rfl) (h := ?_)
      refine skH 20 (h := ?_)
      refine skH 21 (h := ?_)
      refine skH 22 (h := ?_)
      refine skH 23 (h := ?_)
      refine skH 24 (h := ?_)
      refine skH 25 (h := ?_)
      refine wpAnyH_ready (rs := [26]) (by kernel_rfl) (List.cons_ne_nil _ _) ?_
      refine AllReadyH.cons (o := ({ dst := some 43, op := Go.Op.call { callee := Go.Callee.value (Go.Operand.func 36), args := #[Go.Operand.tmp 40, Go.Operand.tmp 42], argTypes := #[24, 3] }, type := 4, pos := "iommu.go:89", after := #[{ on := 23, ground := Go.Ground.data }, { on := 25, ground := Go.Ground.data }, { on := 19, ground := Go.Ground.chain }, { on := 19, ground := Go.Ground.guard }], guard := some (19, false) } : Oper)) rfl (fun K hK => ?_) AllReadyH.nil
      change if false = true then _ else _
      rw [if_neg Bool.false_ne_true]
      refine hK.out _ _ (HR.out) (fun hHeld => ?_)
      clear hK K
      try simp only [Act.put, List.setIfInBounds_toArray, List.set_cons_zero, List.set_cons_succ]
      refine skH 27 (h := ?_)
      refine tkH 28 (y := by intro w hSw; obtain ⟨y0, y1, y2⟩ := HY3.out _ hSw; go_simp; try with_reducible rfl) (h := ?_)
      refine tkH 29 (y := by intro w hSw; obtain ⟨y0, y1, y2⟩ := HY3.out _ hSw; go_simp; try with_reducible rfl) (h := ?_)
      refine dnH ?_
      have HR9 := Lib.hid HR.out
      go_wp2_with fail
      go_meet
      exact ⟨by rw [EE.out]; rfl, HR9.out⟩
    have EM := Lib.hid (decide_eq_true h3)
    by_cases h4 : q = 0
    case pos =>
      have EE := Lib.hid (decide_eq_false (fun h : MapP L bs d page f q => h.2.2.2.1 h4))
      have bq : (q == 0) = true := by simpa using h4
      clear h1 h2 h3 h4
      refine wp_region_held_drew (S := fun W => Chg (fun _ => False) W0 W) (by kernel_rfl) ((Chg.refl _ _).drew) (fun hHeld => ?_)
      have HR : Hid (Chg (fun _ => False) W0 _) := hHeld
      refine tkH 0 (y := by intro w hSw; obtain ⟨y0, y1, y2⟩ := HY3.out _ hSw; go_simp; try with_reducible rfl) (h := ?_)
      refine tkH 1 (y := by intro w hSw; obtain ⟨y0, y1, y2⟩ := HY3.out _ hSw; go_simp; try with_reducible rfl) (h := ?_)
      refine cH 2 (y := fun K hK => ?_)
      go_simp
      (go_at_call 27; refine (iThere x p tb L nf _ P T d _ ((HX.out _ HR.out).keepN (Chg.refl _ _))).mono ?_; rintro e w6 ⟨rfl, rfl⟩; rw [ED.out])
      refine hK.out _ _ (HR.out) (fun hHeld => ?_)
      clear hK K
      try simp only [Act.put, List.setIfInBounds_toArray, List.set_cons_zero, List.set_cons_succ]
      refine tkH 3 (y := by intro w hSw; obtain ⟨y0, y1, y2⟩ := HY3.out _ hSw; go_simp; try with_reducible rfl) (h := ?_)
      refine tkH 4 (y := by intro w hSw; obtain ⟨y0, y1, y2⟩ := HY3.out _ hSw; go_simp; try with_reducible rfl) (h := ?_)
      refine tkH 5 (y := by intro w hSw; obtain ⟨y0, y1, y2⟩ := HY3.out _ hSw; go_simp; try with_reducible rfl) (h := ?_)
      refine cH 6 (y := fun K hK => ?_)
      go_simp
      (go_at_call 28; refine (wPage_yes page _ HPG.out).mono ?_; rintro e w6 ⟨rfl, rfl⟩)
      refine hK.out _ _ (HR.out) (fun hHeld => ?_)
      clear hK K
      try simp only [Act.put, List.setIfInBounds_toArray, List.set_cons_zero, List.set_cons_succ]
      refine tkH 7 (y := by intro w hSw; obtain ⟨y0, y1, y2⟩ := HY3.out _ hSw; go_simp; try with_reducible rfl) (h := ?_)
      refine tkH 8 (y := by intro w hSw; obtain ⟨y0, y1, y2⟩ := HY3.out _ hSw; go_simp; try with_reducible rfl) (h := ?_)
      refine tkH 9 (y := by intro w hSw; obtain ⟨y0, y1, y2⟩ := HY3.out _ hSw; go_simp; try with_reducible rfl) (h := ?_)
      refine tkH 10 (y := by intro w hSw; obtain ⟨y0, y1, y2⟩ := HY3.out _ hSw; go_simp; try with_reducible rfl) (h := ?_)
      refine cH 11 (y := fun K hK => ?_)
      go_simp
      (go_at_call 35; refine (pteMay f q _).mono ?_; rintro e w6 ⟨rfl, k6⟩; replace HR := Lib.hid (HR.out.trans k6); clear k6; rw [EM.out])
      refine hK.out _ _ (HR.out) (fun hHeld => ?_)
      clear hK K
      try simp only [Act.put, List.setIfInBounds_toArray, List.set_cons_zero, List.set_cons_succ]
      refine tkH 12 (y := by intro w hSw; obtain ⟨y0, y1, y2⟩ := HY3.out _ hSw; go_simp; try with_reducible rfl) (h := ?_)
      refine tkH 13 (y := by intro w hSw; obtain ⟨y0, y1, y2⟩ := HY3.out _ hSw; go_simp; try with_reducible rfl) (h := ?_)
      refine tkH 14 (y := by intro w hSw; obtain ⟨y0, y1, y2⟩ := HY3.out _ hSw; go_simp; try with_reducible rfl) (h := ?_)
      refine tkH 15 (y := by intro w hSw; obtain ⟨y0, y1, y2⟩ := HY3.out _ hSw; go_simp; try with_reducible rfl) (h := ?_)
      refine tkH 16 (y := by intro w hSw; obtain ⟨y0, y1, y2⟩ := HY3.out _ hSw; go_simp; try with_reducible rfl) (h := ?_)
      refine tkH 17 (y := by intro w hSw; obtain ⟨y0, y1, y2⟩ := HY3.out _ hSw; go_simp; try with_reducible rfl) (h := ?_)
      refine tkH 18 (y := by intro w hSw; obtain ⟨y0, y1, y2⟩ := HY3.out _ hSw; go_simp; try with_reducible rfl) (h := ?_)
      refine tkH 19 (y := by intro w hSw; obtain ⟨y0, y1, y2⟩ := HY3.out _ hSw; go_simp; try with_reducible rfl) (h := ?_)
      refine skH 20 (h := ?_)
      refine skH 21 (h := ?_)
      refine skH 22 (h := ?_)
      refine skH 23 (h := ?_)
      refine skH 24 (h := ?_)
      refine skH 25 (h := ?_)
      refine wpAnyH_ready (rs := [26]) (by kernel_rfl) (List.cons_ne_nil _ _) ?_
      refine AllReadyH.cons (o := ({ dst := some 43, op := Go.Op.call { callee := Go.Callee.value (Go.Operand.func 36), args := #[Go.Operand.tmp 40, Go.Operand.tmp 42], argTypes := #[24, 3] }, type := 4, pos := "iommu.go:89", after := #[{ on := 23, ground := Go.Ground.data }, { on := 25, ground := Go.Ground.data }, { on := 19, ground := Go.Ground.chain }, { on := 19, ground := Go.Ground.guard }], guard := some (19, false) } : Oper)) rfl (fun K hK => ?_) AllReadyH.nil
      change if false = true then _ else _
      rw [if_neg Bool.false_ne_true]
      refine hK.out _ _ (HR.out) (fun hHeld => ?_)
      clear hK K
      try simp only [Act.put, List.setIfInBounds_toArray, List.set_cons_zero, List.set_cons_succ]
      refine skH 27 (h := ?_)
      refine tkH 28 (y := by intro w hSw; obtain ⟨y0, y1, y2⟩ := HY3.out _ hSw; go_simp; try with_reducible rfl) (h := ?_)
      refine tkH 29 (y := by intro w hSw; obtain ⟨y0, y1, y2⟩ := HY3.out _ hSw; go_simp; try with_reducible rfl) (h := ?_)
      refine dnH ?_
      have HR9 := Lib.hid HR.out
      go_wp2_with fail
      go_meet
      exact ⟨by rw [EE.out]; rfl, HR9.out⟩
    have bq : (q == 0) = false := by simpa using h4
    by_cases h5 : frameP bs f
    case neg =>
      have EE := Lib.hid (decide_eq_false (fun h : MapP L bs d page f q => h5 h.2.2.2.2))
      have HFR := Lib.hid h5
      clear h1 h2 h3 h4 h5
      refine wp_region_held_drew (S := fun W => Chg (fun _ => False) W0 W) (by kernel_rfl) ((Chg.refl _ _).drew) (fun hHeld => ?_)
      have HR : Hid (Chg (fun _ => False) W0 _) := hHeld
      refine tkH 0 (y := by intro w hSw; obtain ⟨y0, y1, y2⟩ := HY3.out _ hSw; go_simp; try with_reducible rfl) (h := ?_)
      refine tkH 1 (y := by intro w hSw; obtain ⟨y0, y1, y2⟩ := HY3.out _ hSw; go_simp; try with_reducible rfl) (h := ?_)
      refine cH 2 (y := fun K hK => ?_)
      go_simp
      (go_at_call 27; refine (iThere x p tb L nf _ P T d _ ((HX.out _ HR.out).keepN (Chg.refl _ _))).mono ?_; rintro e w6 ⟨rfl, rfl⟩; rw [ED.out])
      refine hK.out _ _ (HR.out) (fun hHeld => ?_)
      clear hK K
      try simp only [Act.put, List.setIfInBounds_toArray, List.set_cons_zero, List.set_cons_succ]
      refine tkH 3 (y := by intro w hSw; obtain ⟨y0, y1, y2⟩ := HY3.out _ hSw; go_simp; try with_reducible rfl) (h := ?_)
      refine tkH 4 (y := by intro w hSw; obtain ⟨y0, y1, y2⟩ := HY3.out _ hSw; go_simp; try with_reducible rfl) (h := ?_)
      refine tkH 5 (y := by intro w hSw; obtain ⟨y0, y1, y2⟩ := HY3.out _ hSw; go_simp; try with_reducible rfl) (h := ?_)
      refine cH 6 (y := fun K hK => ?_)
      go_simp
      (go_at_call 28; refine (wPage_yes page _ HPG.out).mono ?_; rintro e w6 ⟨rfl, rfl⟩)
      refine hK.out _ _ (HR.out) (fun hHeld => ?_)
      clear hK K
      try simp only [Act.put, List.setIfInBounds_toArray, List.set_cons_zero, List.set_cons_succ]
      refine tkH 7 (y := by intro w hSw; obtain ⟨y0, y1, y2⟩ := HY3.out _ hSw; go_simp; try with_reducible rfl) (h := ?_)
      refine tkH 8 (y := by intro w hSw; obtain ⟨y0, y1, y2⟩ := HY3.out _ hSw; go_simp; try with_reducible rfl) (h := ?_)
      refine tkH 9 (y := by intro w hSw; obtain ⟨y0, y1, y2⟩ := HY3.out _ hSw; go_simp; try with_reducible rfl) (h := ?_)
      refine tkH 10 (y := by intro w hSw; obtain ⟨y0, y1, y2⟩ := HY3.out _ hSw; go_simp; try with_reducible rfl) (h := ?_)
      refine cH 11 (y := fun K hK => ?_)
      go_simp
      (go_at_call 35; refine (pteMay f q _).mono ?_; rintro e w6 ⟨rfl, k6⟩; replace HR := Lib.hid (HR.out.trans k6); clear k6; rw [EM.out])
      refine hK.out _ _ (HR.out) (fun hHeld => ?_)
      clear hK K
      try simp only [Act.put, List.setIfInBounds_toArray, List.set_cons_zero, List.set_cons_succ]
      refine tkH 12 (y := by intro w hSw; obtain ⟨y0, y1, y2⟩ := HY3.out _ hSw; go_simp; try with_reducible rfl) (h := ?_)
      refine tkH 13 (y := by intro w hSw; obtain ⟨y0, y1, y2⟩ := HY3.out _ hSw; go_simp; try with_reducible rfl) (h := ?_)
      refine tkH 14 (y := by intro w hSw; obtain ⟨y0, y1, y2⟩ := HY3.out _ hSw; go_simp; try with_reducible rfl) (h := ?_)
      refine tkH 15 (y := by intro w hSw; obtain ⟨y0, y1, y2⟩ := HY3.out _ hSw; go_simp; try with_reducible rfl) (h := ?_)
      refine tkH 16 (y := by intro w hSw; obtain ⟨y0, y1, y2⟩ := HY3.out _ hSw; go_simp; try with_reducible rfl) (h := ?_)
      refine tkH 17 (y := by intro w hSw; obtain ⟨y0, y1, y2⟩ := HY3.out _ hSw; go_simp; try with_reducible rfl) (h := ?_)
      refine tkH 18 (y := by intro w hSw; obtain ⟨y0, y1, y2⟩ := HY3.out _ hSw; go_simp; try with_reducible rfl) (h := ?_)
      refine tkH 19 (y := by intro w hSw; obtain ⟨y0, y1, y2⟩ := HY3.out _ hSw; go_simp; try with_reducible rfl) (h := ?_)
      refine tkH 20 (y := by intro w hSw; obtain ⟨y0, y1, y2⟩ := HY3.out _ hSw; go_simp; try with_reducible rfl) (h := ?_)
      refine tkH 21 (y := by intro w hSw; obtain ⟨y0, y1, y2⟩ := HY3.out _ hSw; go_simp; try with_reducible rfl) (h := ?_)
      refine tkH 22 (y := by intro w hSw; obtain ⟨y0, y1, y2⟩ := HY3.out _ hSw; go_simp; try with_reducible rfl) (h := ?_)
      refine tkH 23 (y := by intro w hSw; obtain ⟨y0, y1, y2⟩ := HY3.out _ hSw; go_simp; try with_reducible rfl) (h := ?_)
      refine tkH 24 (y := by intro w hSw; obtain ⟨y0, y1, y2⟩ := HY3.out _ hSw; go_simp; try with_reducible rfl) (h := ?_)
      refine tkH 25 (y := by intro w hSw; obtain ⟨y0, y1, y2⟩ := HY3.out _ hSw; go_simp; try with_reducible rfl) (h := ?_)
      refine cH 26 (y := fun K hK => ?_)
      go_simp
      (go_at_call 36; refine (frame59_no p r bs f _ (HM.out _ HR.out) HLN.out HFR.out).mono ?_; rintro e w6 ⟨rfl, rfl⟩)
      refine hK.out _ _ (HR.out) (fun hHeld => ?_)
      clear hK K
      try simp only [Act.put, List.setIfInBounds_toArray, List.set_cons_zero, List.set_cons_succ]
      refine tkH 27 (y := by intro w hSw; obtain ⟨y0, y1, y2⟩ := HY3.out _ hSw; go_simp; try with_reducible rfl) (h := ?_)
      refine tkH 28 (y := by intro w hSw; obtain ⟨y0, y1, y2⟩ := HY3.out _ hSw; go_simp; try with_reducible rfl) (h := ?_)
      refine tkH 29 (y := by intro w hSw; obtain ⟨y0, y1, y2⟩ := HY3.out _ hSw; go_simp; try with_reducible rfl) (h := ?_)
      refine dnH ?_
      have HR9 := Lib.hid HR.out
      go_wp2_with fail
      go_meet
      exact ⟨by rw [EE.out]; rfl, HR9.out⟩
    case pos =>
      have EE := Lib.hid (decide_eq_true (show MapP L bs d page f q from ⟨h1, h2, h3, h4, h5⟩))
      have HFR := Lib.hid h5
      clear h1 h2 h3 h4 h5
      refine wp_region_held_drew (S := fun W => Chg (fun _ => False) W0 W) (by kernel_rfl) ((Chg.refl _ _).drew) (fun hHeld => ?_)
      have HR : Hid (Chg (fun _ => False) W0 _) := hHeld
      refine tkH 0 (y := by intro w hSw; obtain ⟨y0, y1, y2⟩ := HY3.out _ hSw; go_simp; try with_reducible rfl) (h := ?_)
      refine tkH 1 (y := by intro w hSw; obtain ⟨y0, y1, y2⟩ := HY3.out _ hSw; go_simp; try with_reducible rfl) (h := ?_)
      refine cH 2 (y := fun K hK => ?_)
      go_simp
      (go_at_call 27; refine (iThere x p tb L nf _ P T d _ ((HX.out _ HR.out).keepN (Chg.refl _ _))).mono ?_; rintro e w6 ⟨rfl, rfl⟩; rw [ED.out])
      refine hK.out _ _ (HR.out) (fun hHeld => ?_)
      clear hK K
      try simp only [Act.put, List.setIfInBounds_toArray, List.set_cons_zero, List.set_cons_succ]
      refine tkH 3 (y := by intro w hSw; obtain ⟨y0, y1, y2⟩ := HY3.out _ hSw; go_simp; try with_reducible rfl) (h := ?_)
      refine tkH 4 (y := by intro w hSw; obtain ⟨y0, y1, y2⟩ := HY3.out _ hSw; go_simp; try with_reducible rfl) (h := ?_)
      refine tkH 5 (y := by intro w hSw; obtain ⟨y0, y1, y2⟩ := HY3.out _ hSw; go_simp; try with_reducible rfl) (h := ?_)
      refine cH 6 (y := fun K hK => ?_)
      go_simp
      (go_at_call 28; refine (wPage_yes page _ HPG.out).mono ?_; rintro e w6 ⟨rfl, rfl⟩)
      refine hK.out _ _ (HR.out) (fun hHeld => ?_)
      clear hK K
      try simp only [Act.put, List.setIfInBounds_toArray, List.set_cons_zero, List.set_cons_succ]
      refine tkH 7 (y := by intro w hSw; obtain ⟨y0, y1, y2⟩ := HY3.out _ hSw; go_simp; try with_reducible rfl) (h := ?_)
      refine tkH 8 (y := by intro w hSw; obtain ⟨y0, y1, y2⟩ := HY3.out _ hSw; go_simp; try with_reducible rfl) (h := ?_)
      refine tkH 9 (y := by intro w hSw; obtain ⟨y0, y1, y2⟩ := HY3.out _ hSw; go_simp; try with_reducible rfl) (h := ?_)
      refine tkH 10 (y := by intro w hSw; obtain ⟨y0, y1, y2⟩ := HY3.out _ hSw; go_simp; try with_reducible rfl) (h := ?_)
      refine cH 11 (y := fun K hK => ?_)
      go_simp
      (go_at_call 35; refine (pteMay f q _).mono ?_; rintro e w6 ⟨rfl, k6⟩; replace HR := Lib.hid (HR.out.trans k6); clear k6; rw [EM.out])
      refine hK.out _ _ (HR.out) (fun hHeld => ?_)
      clear hK K
      try simp only [Act.put, List.setIfInBounds_toArray, List.set_cons_zero, List.set_cons_succ]
      refine tkH 12 (y := by intro w hSw; obtain ⟨y0, y1, y2⟩ := HY3.out _ hSw; go_simp; try with_reducible rfl) (h := ?_)
      refine tkH 13 (y := by intro w hSw; obtain ⟨y0, y1, y2⟩ := HY3.out _ hSw; go_simp; try with_reducible rfl) (h := ?_)
      refine tkH 14 (y := by intro w hSw; obtain ⟨y0, y1, y2⟩ := HY3.out _ hSw; go_simp; try with_reducible rfl) (h := ?_)
      refine tkH 15 (y := by intro w hSw; obtain ⟨y0, y1, y2⟩ := HY3.out _ hSw; go_simp; try with_reducible rfl) (h := ?_)
      refine tkH 16 (y := by intro w hSw; obtain ⟨y0, y1, y2⟩ := HY3.out _ hSw; go_simp; try with_reducible rfl) (h := ?_)
      refine tkH 17 (y := by intro w hSw; obtain ⟨y0, y1, y2⟩ := HY3.out _ hSw; go_simp; try with_reducible rfl) (h := ?_)
      refine tkH 18 (y := by intro w hSw; obtain ⟨y0, y1, y2⟩ := HY3.out _ hSw; go_simp; try with_reducible rfl) (h := ?_)
      refine tkH 19 (y := by intro w hSw; obtain ⟨y0, y1, y2⟩ := HY3.out _ hSw; go_simp; try with_reducible rfl) (h := ?_)
      refine tkH 20 (y := by intro w hSw; obtain ⟨y0, y1, y2⟩ := HY3.out _ hSw; go_simp; try with_reducible rfl) (h := ?_)
      refine tkH 21 (y := by intro w hSw; obtain ⟨y0, y1, y2⟩ := HY3.out _ hSw; go_simp; try with_reducible rfl) (h := ?_)
      refine tkH 22 (y := by intro w hSw; obtain ⟨y0, y1, y2⟩ := HY3.out _ hSw; go_simp; try with_reducible rfl) (h := ?_)
      refine tkH 23 (y := by intro w hSw; obtain ⟨y0, y1, y2⟩ := HY3.out _ hSw; go_simp; try with_reducible rfl) (h := ?_)
      refine tkH 24 (y := by intro w hSw; obtain ⟨y0, y1, y2⟩ := HY3.out _ hSw; go_simp; try with_reducible rfl) (h := ?_)
      refine tkH 25 (y := by intro w hSw; obtain ⟨y0, y1, y2⟩ := HY3.out _ hSw; go_simp; try with_reducible rfl) (h := ?_)
      refine cH 26 (y := fun K hK => ?_)
      go_simp
      (go_at_call 36; refine (frame59_yes p r bs f _ (HM.out _ HR.out) HLN.out HFR.out).mono ?_; rintro e w6 ⟨rfl, rfl⟩)
      refine hK.out _ _ (HR.out) (fun hHeld => ?_)
      clear hK K
      try simp only [Act.put, List.setIfInBounds_toArray, List.set_cons_zero, List.set_cons_succ]
      refine tkH 27 (y := by intro w hSw; obtain ⟨y0, y1, y2⟩ := HY3.out _ hSw; go_simp; try with_reducible rfl) (h := ?_)
      refine tkH 28 (y := by intro w hSw; obtain ⟨y0, y1, y2⟩ := HY3.out _ hSw; go_simp; try with_reducible rfl) (h := ?_)
      refine tkH 29 (y := by intro w hSw; obtain ⟨y0, y1, y2⟩ := HY3.out _ hSw; go_simp; try with_reducible rfl) (h := ?_)
      refine dnH ?_
      have HR9 := Lib.hid HR.out
      go_wp2_with fail
      go_meet
      exact ⟨by rw [EE.out]; rfl, HR9.out⟩
  case rest =>
    obtain ⟨rfl, hC⟩ := hcut
    have HC := Lib.hid hC; clear hC
    by_cases hm : MapP L bs d page f q
    · rw [decide_eq_true hm, Bool.not_true]
      have HYE := Lib.hid (HYES.out hm)
      clear HYES HNO
      obtain ⟨hd, hpg, hme, hq, hfr⟩ := hm
      have HXC := Lib.hid (HX.out _ HC.out)
      have HMC := Lib.hid (HM.out _ HC.out)
      obtain ⟨n, gp, cp, g, cg, rt, rest, hD⟩ := HXC.out.dev hd
      rw [hD.pool] at HYE
      obtain rfl := hD.dn
      obtain rfl := hD.pv
      have n64 := HXC.out.ok.2.2
      have hgr : g ≠ r := fun e => by
        obtain ⟨cs, t, h1, h2⟩ := HXC.out.pools.typ g hD.pg
        rcases h2 with rfl | rfl <;> exact blk_unl h1 (e ▸ HMC.out.2) (by decide)
      have HLF := Lib.hid (iLeaf x p tb r L nf _ P T bs g cg rest.length rt rest page wc HXC.out HMC.out HLN.out hD.at_ hgr rfl hD.len hD.cap.1 hD.cap.2 ⟨hD.root.1, by have := hD.root.2; omega⟩ (fun f hf => ⟨(hD.fr f hf).1, by have := (hD.fr f hf).2; omega⟩) hpg)
      have HOK : Hid ((leafM bs (rt :: rest) page).2.1 = 0 → 0 ≤ (leafM bs (rt :: rest) page).1 ∧ (leafM bs (rt :: rest) page).1 < 64) := fun e => by
        have := leafM_ok HNF.out hD.fr e
        exact ⟨this.1, by omega⟩
      have HLN3 : Hid ((leafM bs (rt :: rest) page).2.2.length ≤ 4096) := by rw [leafM_len]; exact HLN.out
      have HEN : Hid (mapM bs (rt :: rest) page f q = if (leafM bs (rt :: rest) page).2.1 ≠ 0 then (leafM bs (rt :: rest) page).2
        else (putC (leafM bs (rt :: rest) page).2.2 ((leafM bs (rt :: rest) page).1 * 64 + page % 16 * 4) (putE f q), putB (leafM bs (rt :: rest) page).2.2 ((leafM bs (rt :: rest) page).1 * 64 + page % 16 * 4) (putE f q))) := rfl
      generalize mapM bs (rt :: rest) page f q = RES at *
      generalize leafM bs (rt :: rest) page = lm at *
      obtain ⟨l1, l2, l3⟩ := lm
      simp only at HOK HLN3 HEN
      have HP6 : Hid (0 ≤ page % 16 ∧ page % 16 < 16) := ⟨by have := hpg.1; omega, by omega⟩
      have HDV : Hid (page.tmod 16 = page % 16) := Int.tmod_eq_emod_of_nonneg hpg.1
      have HME := Lib.hid hme
      have i0 : (0 : Int) ≤ n := by omega
      have i1 : (n : Int) < L.length := by have := hD.lt; omega
      have l4 : (L.length : Int) ≤ 4 := by have := HXC.out.ok.1; omega
      have r4 : (rest.length : Int) ≤ 4 := by have := hD.len.2; omega
      obtain ⟨x0, x1, x2⟩ := HXC.out.cells
      have dc := hD.cell
      clear hd hpg hme hq hfr hD n64 hgr
      go_wp2_with fail
      refine HLF.out.mono ?_
      rintro e w2 ⟨rfl, hM2, k2⟩
      have HI2 := Lib.hid (HXC.out.bytes HMC.out k2)
      have HM2 := Lib.hid hM2
      have HK2 := Lib.hid k2
      clear hM2 k2 x0 x1 x2 dc HLF
      simp only at HM2
      by_cases e2 : l2 = 0
      · have b2 : (l2 == 0) = true := by simpa using e2
        have HB1 := Lib.hid (HOK.out e2)
        rw [if_neg (by rw [e2]; decide)] at HEN
        have hb2 := (HC.out.toF (fun k => k = r)).trans HK2.out |>.at HB.out (fun e => by have := HMR.out; have := HEB.out; omega)
        have z0 := blk_cell hb2 0
        have z1 := blk_cell hb2 1
        simp only [List.getElem?_toArray, List.getElem?_cons_zero, List.getElem?_cons_succ] at z0 z1
        clear hb2 e2 HOK
        go_wp2_with fail
        refine (ptePut f q _).mono ?_
        rintro e w3 ⟨rfl, k3⟩
        rw [if_pos HME.out, if_pos HME.out]
        have HI3 := Lib.hid (HI2.out.keepN k3)
        have HM3 := Lib.hid (HM2.out.keepD k3)
        have HK3 := Lib.hid (HK2.out.trans (k3.toF _))
        obtain ⟨x0, x1, x2⟩ := HI3.out.cells
        clear k3 z0 z1
        go_wp2_with fail
        refine (tDrop tb n page nf T _ HI3.out.tlb).mono ?_
        rintro e w6 ⟨⟨x6, rfl⟩, ht6, k6⟩
        have HI6 := Lib.hid (HI3.out.tlb_ ht6 k6)
        have HM6 := Lib.hid (HI3.out.mem HM3.out k6)
        have HK6 := Lib.hid k6
        clear ht6 k6 x0 x1 x2
        have HY6 : Hid (∀ W, Chg (fun k => k = r) w6 W → W.cell? ⟨x, 0, none⟩ = some (.pointer (some ⟨p, 0, none⟩))) := fun W hW => (HI6.out.bytes HM6.out hW).cells.1
        go_upto_region 10 with fail
        refine wp_region_held_drew (S := fun W => Chg (fun k => k = r) w6 W) (by kernel_rfl) ((Chg.refl _ _).drew) (fun hHeld => ?_)
        refine tkH 0 (y := by intro w hSw; have y0 := HY6.out _ hSw; go_simp; try with_reducible rfl) (h := ?_)
        refine tkH 1 (y := by intro w hSw; have y0 := HY6.out _ hSw; go_simp; try with_reducible rfl) (h := ?_)
        refine tkH 2 (y := by intro w hSw; have y0 := HY6.out _ hSw; go_simp; try with_reducible rfl) (h := ?_)
        refine tkH 3 (y := by intro w hSw; have y0 := HY6.out _ hSw; go_simp; try with_reducible rfl) (h := ?_)
        refine tkH 4 (y := by intro w hSw; have y0 := HY6.out _ hSw; go_simp; try with_reducible rfl) (h := ?_)
        refine tkH 5 (y := by intro w hSw; have y0 := HY6.out _ hSw; go_simp; try with_reducible rfl) (h := ?_)
        refine tkH 6 (y := by intro w hSw; have y0 := HY6.out _ hSw; go_simp; try with_reducible rfl) (h := ?_)
        refine tkH 8 (y := by intro w hSw; have y0 := HY6.out _ hSw; go_simp; try with_reducible rfl) (h := ?_)
        refine cH 7 (y := fun K hK => ?_)
        go_simp
        (go_at_call 34; rw [HDV.out]; refine (wAt l1 (page % 16) _ HB1.out HP6.out).mono ?_; rintro e w7 ⟨rfl, rfl⟩)
        refine hK.out _ _ (hHeld) (fun hHeld => ?_)
        clear hK K
        try simp only [Act.put, List.setIfInBounds_toArray, List.set_cons_zero, List.set_cons_succ]
        refine cH 9 (y := fun K hK => ?_)
        go_simp
        (go_at_call 33; refine (put43 p r l3 _ _ _ (HM6.out.keepD (Chg.refl _ _).drew) HLN3.out).mono ?_; rintro e w8 ⟨rfl, hM8, k8⟩; have HM8 := Lib.hid hM8; have HK8 := Lib.hid (((Chg.refl _ _).drew).trans k8); clear hM8 k8)
        refine hK.out _ _ (HK8.out) (fun hHeld => ?_)
        clear hK K
        try simp only [Act.put, List.setIfInBounds_toArray, List.set_cons_zero, List.set_cons_succ]
        refine tkH 10 (y := by intro w hSw; have y0 := HY6.out _ hSw; go_simp; try with_reducible rfl) (h := ?_)
        refine dnH ?_
        have HF := Lib.hid (HYE.out w8 (HI6.out.bytes HM6.out HK8.out) (by rw [HEN.out]; exact HM8.out) ((((HAA.out.trans HC.out).toF _).trans (HK3.out.mono (fun _ _ h => .inl h))).trans' ((HK6.out.mono (fun _ _ h => .inr h)).trans (HK8.out.mono (fun _ _ h => .inl h))) (fun k _ h => h)))
        go_wp2_with fail
        rw [HEN.out] at HF
        exact HF.out
      · have b2 : (l2 == 0) = false := by simpa using e2
        rw [if_pos e2] at HEN
        have HF := Lib.hid (HYE.out w2 HI2.out (by rw [HEN.out]; exact HM2.out) (((HAA.out.trans HC.out).toF _).trans (HK2.out.mono (fun _ _ h => .inl h))))
        clear e2
        go_wp2_with fail
        rw [HEN.out] at HF
        exact HF.out
    · rw [decide_eq_false hm, Bool.not_false]
      have HF := Lib.hid (HNO.out hm _ HC.out)
      clear hm HYES HNO
      go_wp2_with fail
      exact HF.out
end Go.Proofs.Ytnallfehffhaeaa
