/- Arguments opened: a config. Printed by mkopenc.py. -/
import Derived.Test.YtncbcjjdnlmjbaaOpenW
import Derived.Test.YtncbcjjdnlmjbaaCfg
set_option linter.unusedSimpArgs false
set_option linter.unusedVariables false
namespace Go.Proofs.Ytncbcjjdnlmjbaa
open Go.RowKit Go.ChangeShapes Go.WideShapes Go.Deep

/-- Elements as their cells lie: a slice in them by its address. -/
structure PrtV where
  lv : Int
  cats : Int
  A : Option Addr
  c : Nat
  L : List Int
  first : Int
  count : Int
def PrtV.cells (x : PrtV) : List Value := [.int .i64 x.lv, .int .i64 x.cats, .slice x.A x.L.length x.c, .int .i64 x.first, .int .i64 x.count]
def PrtV.p (x : PrtV) : Prt := ⟨x.lv, x.cats, x.L, x.first, x.count⟩
structure DvV where
  part : Int
  A : Option Addr
  c : Nat
  L : List Int
def DvV.cells (x : DvV) : List Value := [.int .i64 x.part, .slice x.A x.L.length x.c]
def DvV.p (x : DvV) : Dv := ⟨x.part, x.L⟩
def Wn.cells (x : Wn) : List Value := [.int .i64 x.part, .int .i64 x.start, .int .i64 x.len, .int .i64 x.deliver]
def Gr.cells (x : Gr) : List Value := [.int .i64 x.frame, .int .i64 x.to, .bool x.write]
def SlWf (w : World) (A : Option Addr) (L : List Int) : Prop := RowC w A (L.flatMap icell) ∧ L.length ≤ maxLen ∧ L.length * 8 ≤ reachBytes
set_option maxRecDepth 100000 in
theorem trod_label {H : Type} {enc : TypeId × Value → H} {w : World} {base : Nat} {spare : Nat → Bool} {held : Bool} {m : Nat} {cs : List Value} {y : DataW H × List MemPlace} (h : DataW.trod enc Try.prog w base spare held m 37 cs = some y) : ∃ a b : Int, cs = [.int .i64 a, .int .i64 b] := by
  obtain ⟨ys, n', _, hy, hl, hyl, hf⟩ := DataW.trod_struct Try.underlying37 h
  rw [show Try.prog.cellsOf 37 = 2 from by kernel_rfl] at hl
  match cs, hl with
  | [c0, c1], _ =>
    have g0 := hf 0 _ rfl
    have g1 := hf 1 _ rfl
    rw [List.getElem?_eq_getElem (by rw [hyl]; decide)] at g0 g1
    have k3 : Try.prog.cellsOf 3 = 1 := by kernel_rfl
    change DataW.trod enc Try.prog w base spare held n' 3 (List.take (Try.prog.cellsOf 3) [c0, c1]) = _ at g0
    change DataW.trod enc Try.prog w base spare held n' 3 (List.take (Try.prog.cellsOf 3) [c1]) = _ at g1
    rw [k3] at g0 g1
    change DataW.trod enc Try.prog w base spare held n' 3 [c0] = _ at g0
    change DataW.trod enc Try.prog w base spare held n' 3 [c1] = _ at g1
    obtain ⟨n0, e0, _⟩ := DataW.trod_int Try.underlying3 g0
    obtain ⟨n1, e1, _⟩ := DataW.trod_int Try.underlying3 g1
    simp only [List.cons.injEq, and_true] at e0 e1
    subst e0 e1
    exact ⟨n0, n1, rfl⟩
set_option maxRecDepth 100000 in
theorem trod_part {H : Type} {enc : TypeId × Value → H} {w : World} {base : Nat} {spare : Nat → Bool} {held : Bool} {m : Nat} {cs : List Value} {y : DataW H × List MemPlace} (h : DataW.trod enc Try.prog w base spare held m 40 cs = some y)
    (hw : ∀ k ∈ DataW.weights Try.prog 40 y.1, k ≤ reachBytes) : ∃ x : PrtV, cs = x.cells ∧ SlWf w x.A x.L := by
  obtain ⟨ys, n', _, hy, hl, hyl, hf⟩ := DataW.trod_struct Try.underlying40 h
  rw [show Try.prog.cellsOf 40 = 5 from by kernel_rfl] at hl
  match cs, hl with
  | [c0, c1, c2, c3, c4], _ =>
    have g0 := hf 0 _ rfl
    have g1 := hf 1 _ rfl
    have g2 := hf 2 _ rfl
    have g3 := hf 3 _ rfl
    rw [List.getElem?_eq_getElem (by rw [hyl]; decide)] at g0 g1 g2 g3
    have k3 : Try.prog.cellsOf 3 = 1 := by kernel_rfl
    have k37 : Try.prog.cellsOf 37 = 2 := by kernel_rfl
    have k38 : Try.prog.cellsOf 38 = 1 := by kernel_rfl
    change DataW.trod enc Try.prog w base spare held n' 37 (List.take (Try.prog.cellsOf 37) [c0, c1, c2, c3, c4]) = _ at g0
    rw [k37] at g0
    change DataW.trod enc Try.prog w base spare held n' 37 [c0, c1] = _ at g0
    change DataW.trod enc Try.prog w base spare held n' 38 (List.take (Try.prog.cellsOf 38) [c2, c3, c4]) = _ at g1
    rw [k38] at g1
    change DataW.trod enc Try.prog w base spare held n' 38 [c2] = _ at g1
    change DataW.trod enc Try.prog w base spare held n' 3 (List.take (Try.prog.cellsOf 3) [c3, c4]) = _ at g2
    rw [k3] at g2
    change DataW.trod enc Try.prog w base spare held n' 3 [c3] = _ at g2
    change DataW.trod enc Try.prog w base spare held n' 3 (List.take (Try.prog.cellsOf 3) [c4]) = _ at g3
    rw [k3] at g3
    change DataW.trod enc Try.prog w base spare held n' 3 [c4] = _ at g3
    obtain ⟨n0, n0b, e0⟩ := trod_label g0
    simp only [List.cons.injEq, and_true] at e0
    obtain ⟨rfl, rfl⟩ := e0
    obtain ⟨A, n, c, hc1⟩ := trod_slice_form Try.underlying38 g1
    simp only [List.cons.injEq, and_true] at hc1
    subst hc1
    have hw1 : ∀ k ∈ DataW.weights Try.prog 38 (ys[1]'(by rw [hyl]; decide)).1, k ≤ reachBytes := by
      have hyl1 : 1 < ys.length := by rw [hyl]; decide
      rw [hy] at hw
      exact weights_field Try.underlying40 hw (j := 1) rfl (by rw [List.getElem?_map, List.getElem?_eq_getElem hyl1]; rfl)
    obtain ⟨hm, hb, L, rfl, hr, _⟩ := open_listW (cells := icell) (Wf := fun _ => True) Try.underlying38 (C := 1) (by kernel_rfl) (by decide) hw1 (fun m cs y h _ => trod_icell h) (fun _ => rfl) ⟨n', g1⟩
    rw [show Try.prog.bytesOf 3 = 8 from by kernel_rfl] at hb
    obtain ⟨n2, e2, qi2⟩ := DataW.trod_int Try.underlying3 g2
    simp only [List.cons.injEq, and_true] at e2
    subst e2
    obtain ⟨n3, e3, qi3⟩ := DataW.trod_int Try.underlying3 g3
    simp only [List.cons.injEq, and_true] at e3
    subst e3
    exact ⟨⟨n0, n0b, A, c, L, n2, n3⟩, rfl, hr, hm, hb⟩
set_option maxRecDepth 100000 in
theorem trod_dev {H : Type} {enc : TypeId × Value → H} {w : World} {base : Nat} {spare : Nat → Bool} {held : Bool} {m : Nat} {cs : List Value} {y : DataW H × List MemPlace} (h : DataW.trod enc Try.prog w base spare held m 42 cs = some y)
    (hw : ∀ k ∈ DataW.weights Try.prog 42 y.1, k ≤ reachBytes) : ∃ x : DvV, cs = x.cells ∧ SlWf w x.A x.L := by
  obtain ⟨ys, n', _, hy, hl, hyl, hf⟩ := DataW.trod_struct Try.underlying42 h
  rw [show Try.prog.cellsOf 42 = 2 from by kernel_rfl] at hl
  match cs, hl with
  | [c0, c1], _ =>
    have g0 := hf 0 _ rfl
    have g1 := hf 1 _ rfl
    rw [List.getElem?_eq_getElem (by rw [hyl]; decide)] at g0 g1
    have k3 : Try.prog.cellsOf 3 = 1 := by kernel_rfl
    have k38 : Try.prog.cellsOf 38 = 1 := by kernel_rfl
    change DataW.trod enc Try.prog w base spare held n' 3 (List.take (Try.prog.cellsOf 3) [c0, c1]) = _ at g0
    rw [k3] at g0
    change DataW.trod enc Try.prog w base spare held n' 3 [c0] = _ at g0
    change DataW.trod enc Try.prog w base spare held n' 38 (List.take (Try.prog.cellsOf 38) [c1]) = _ at g1
    rw [k38] at g1
    change DataW.trod enc Try.prog w base spare held n' 38 [c1] = _ at g1
    obtain ⟨n0, e0, qi0⟩ := DataW.trod_int Try.underlying3 g0
    simp only [List.cons.injEq, and_true] at e0
    subst e0
    obtain ⟨A, n, c, hc1⟩ := trod_slice_form Try.underlying38 g1
    simp only [List.cons.injEq, and_true] at hc1
    subst hc1
    have hw1 : ∀ k ∈ DataW.weights Try.prog 38 (ys[1]'(by rw [hyl]; decide)).1, k ≤ reachBytes := by
      have hyl1 : 1 < ys.length := by rw [hyl]; decide
      rw [hy] at hw
      exact weights_field Try.underlying42 hw (j := 1) rfl (by rw [List.getElem?_map, List.getElem?_eq_getElem hyl1]; rfl)
    obtain ⟨hm, hb, L, rfl, hr, _⟩ := open_listW (cells := icell) (Wf := fun _ => True) Try.underlying38 (C := 1) (by kernel_rfl) (by decide) hw1 (fun m cs y h _ => trod_icell h) (fun _ => rfl) ⟨n', g1⟩
    rw [show Try.prog.bytesOf 3 = 8 from by kernel_rfl] at hb
    exact ⟨⟨n0, A, c, L⟩, rfl, hr, hm, hb⟩
theorem lit_le {n : Int} (h : (Lit.int .i64 n).wf = true) : n ≤ 9223372036854775807 := by
  unfold Lit.wf at h
  simp only [Bool.and_eq_true, decide_eq_true_eq] at h
  have := h.2
  exact this
set_option maxRecDepth 100000 in
theorem trod_win {H : Type} {enc : TypeId × Value → H} {w : World} {base : Nat} {spare : Nat → Bool} {held : Bool} {m : Nat} {cs : List Value} {y : DataW H × List MemPlace} (h : DataW.trod enc Try.prog w base spare held m 119 cs = some y)
    (hw : ∀ k ∈ DataW.weights Try.prog 119 y.1, k ≤ reachBytes) : ∃ x : Wn, cs = x.cells ∧ x.deliver ≤ 9223372036854775807 := by
  obtain ⟨ys, n', _, hy, hl, hyl, hf⟩ := DataW.trod_struct Try.underlying119 h
  rw [show Try.prog.cellsOf 119 = 4 from by kernel_rfl] at hl
  match cs, hl with
  | [c0, c1, c2, c3], _ =>
    have g0 := hf 0 _ rfl
    have g1 := hf 1 _ rfl
    have g2 := hf 2 _ rfl
    have g3 := hf 3 _ rfl
    rw [List.getElem?_eq_getElem (by rw [hyl]; decide)] at g0 g1 g2 g3
    have k3 : Try.prog.cellsOf 3 = 1 := by kernel_rfl
    change DataW.trod enc Try.prog w base spare held n' 3 (List.take (Try.prog.cellsOf 3) [c0, c1, c2, c3]) = _ at g0
    rw [k3] at g0
    change DataW.trod enc Try.prog w base spare held n' 3 [c0] = _ at g0
    change DataW.trod enc Try.prog w base spare held n' 3 (List.take (Try.prog.cellsOf 3) [c1, c2, c3]) = _ at g1
    rw [k3] at g1
    change DataW.trod enc Try.prog w base spare held n' 3 [c1] = _ at g1
    change DataW.trod enc Try.prog w base spare held n' 3 (List.take (Try.prog.cellsOf 3) [c2, c3]) = _ at g2
    rw [k3] at g2
    change DataW.trod enc Try.prog w base spare held n' 3 [c2] = _ at g2
    change DataW.trod enc Try.prog w base spare held n' 3 (List.take (Try.prog.cellsOf 3) [c3]) = _ at g3
    rw [k3] at g3
    change DataW.trod enc Try.prog w base spare held n' 3 [c3] = _ at g3
    obtain ⟨n0, e0, qi0⟩ := DataW.trod_int Try.underlying3 g0
    simp only [List.cons.injEq, and_true] at e0
    subst e0
    obtain ⟨n1, e1, qi1⟩ := DataW.trod_int Try.underlying3 g1
    simp only [List.cons.injEq, and_true] at e1
    subst e1
    obtain ⟨n2, e2, qi2⟩ := DataW.trod_int Try.underlying3 g2
    simp only [List.cons.injEq, and_true] at e2
    subst e2
    obtain ⟨n3, e3, qi3⟩ := DataW.trod_int Try.underlying3 g3
    simp only [List.cons.injEq, and_true] at e3
    subst e3
    exact ⟨⟨n0, n1, n2, n3⟩, rfl, lit_le qi3.2⟩
set_option maxRecDepth 100000 in
theorem trod_grant {H : Type} {enc : TypeId × Value → H} {w : World} {base : Nat} {spare : Nat → Bool} {held : Bool} {m : Nat} {cs : List Value} {y : DataW H × List MemPlace} (h : DataW.trod enc Try.prog w base spare held m 44 cs = some y)
    (hw : ∀ k ∈ DataW.weights Try.prog 44 y.1, k ≤ reachBytes) : ∃ x : Gr, cs = x.cells ∧ True := by
  obtain ⟨ys, n', _, hy, hl, hyl, hf⟩ := DataW.trod_struct Try.underlying44 h
  rw [show Try.prog.cellsOf 44 = 3 from by kernel_rfl] at hl
  match cs, hl with
  | [c0, c1, c2], _ =>
    have g0 := hf 0 _ rfl
    have g1 := hf 1 _ rfl
    have g2 := hf 2 _ rfl
    rw [List.getElem?_eq_getElem (by rw [hyl]; decide)] at g0 g1 g2
    have k4 : Try.prog.cellsOf 4 = 1 := by kernel_rfl
    have k3 : Try.prog.cellsOf 3 = 1 := by kernel_rfl
    change DataW.trod enc Try.prog w base spare held n' 3 (List.take (Try.prog.cellsOf 3) [c0, c1, c2]) = _ at g0
    rw [k3] at g0
    change DataW.trod enc Try.prog w base spare held n' 3 [c0] = _ at g0
    change DataW.trod enc Try.prog w base spare held n' 3 (List.take (Try.prog.cellsOf 3) [c1, c2]) = _ at g1
    rw [k3] at g1
    change DataW.trod enc Try.prog w base spare held n' 3 [c1] = _ at g1
    change DataW.trod enc Try.prog w base spare held n' 4 (List.take (Try.prog.cellsOf 4) [c2]) = _ at g2
    rw [k4] at g2
    change DataW.trod enc Try.prog w base spare held n' 4 [c2] = _ at g2
    obtain ⟨n0, e0, qi0⟩ := DataW.trod_int Try.underlying3 g0
    simp only [List.cons.injEq, and_true] at e0
    subst e0
    obtain ⟨n1, e1, qi1⟩ := DataW.trod_int Try.underlying3 g1
    simp only [List.cons.injEq, and_true] at e1
    subst e1
    obtain ⟨n2, e2, _⟩ := DataW.trod_bool Try.underlying4 g2
    simp only [List.cons.injEq, and_true] at e2
    subst e2
    exact ⟨⟨n0, n1, n2⟩, rfl, trivial⟩
theorem rdn_row {w : World} {A : Option Addr} {L : List Int} (h : SlWf w A L) (c : Nat) : RdN w (.slice A L.length c) L := by
  refine ⟨h.2.1, A, c, rfl, fun j hj => ?_⟩
  obtain ⟨g, o, rfl, h0⟩ := intAt h.1 j hj
  exact ⟨g, o, rfl, h0⟩
theorem rdp_row {w : World} {A : Option Addr} {xs : List PrtV} (h : RowC w A (xs.flatMap PrtV.cells)) (hm : xs.length ≤ maxLen) (hwf : ∀ x ∈ xs, SlWf w x.A x.L) (c : Nat) : RdP w (.slice A xs.length c) (xs.map PrtV.p) := by
  have hl : (xs.map PrtV.p).length = xs.length := by simp
  refine ⟨by rw [hl]; exact hm, A, c, by rw [hl], fun j hj => ?_⟩
  rw [hl] at hj
  have g : ∀ i (hi : i < 5), (xs.flatMap PrtV.cells)[j * 5 + i]? = (xs[j].cells)[i]? := fun i hi => by rw [flat_get PrtV.cells 5 (fun _ => rfl) i hi xs j, List.getElem?_eq_getElem hj]; rfl
  obtain ⟨b0, o0, rfl, h0⟩ := h _ _ (g 0 (by omega))
  obtain ⟨b1, o1, e1, h1⟩ := h _ _ (g 1 (by omega))
  injection e1 with e1; injection e1 with e1 f1; subst e1 f1
  obtain ⟨b2, o2, e2, h2⟩ := h _ _ (g 2 (by omega))
  injection e2 with e2; injection e2 with e2 f2; subst e2 f2
  obtain ⟨b3, o3, e3, h3⟩ := h _ _ (g 3 (by omega))
  injection e3 with e3; injection e3 with e3 f3; subst e3 f3
  obtain ⟨b4, o4, e4, h4⟩ := h _ _ (g 4 (by omega))
  injection e4 with e4; injection e4 with e4 f4; subst e4 f4
  simp only [List.getElem_map]
  exact ⟨b0, o0, _, rfl, h0, h1, h2, h3, h4, rdn_row (hwf _ (List.getElem_mem hj)) _⟩
theorem rdd_row {w : World} {A : Option Addr} {xs : List DvV} (h : RowC w A (xs.flatMap DvV.cells)) (hm : xs.length ≤ maxLen) (hwf : ∀ x ∈ xs, SlWf w x.A x.L) (c : Nat) : RdD w (.slice A xs.length c) (xs.map DvV.p) := by
  have hl : (xs.map DvV.p).length = xs.length := by simp
  refine ⟨by rw [hl]; exact hm, A, c, by rw [hl], fun j hj => ?_⟩
  rw [hl] at hj
  have g : ∀ i (hi : i < 2), (xs.flatMap DvV.cells)[j * 2 + i]? = (xs[j].cells)[i]? := fun i hi => by rw [flat_get DvV.cells 2 (fun _ => rfl) i hi xs j, List.getElem?_eq_getElem hj]; rfl
  obtain ⟨b0, o0, rfl, h0⟩ := h _ _ (g 0 (by omega))
  obtain ⟨b1, o1, e1, h1⟩ := h _ _ (g 1 (by omega))
  injection e1 with e1; injection e1 with e1 f1; subst e1 f1
  simp only [List.getElem_map]
  exact ⟨b0, o0, _, rfl, h0, h1, rdn_row (hwf _ (List.getElem_mem hj)) _⟩
theorem rdw_row {w : World} {A : Option Addr} {xs : List Wn} (h : RowC w A (xs.flatMap Wn.cells)) (hm : xs.length ≤ maxLen)  (c : Nat) (hc : xs.length ≤ c) : RdW w (.slice A xs.length c) xs := by
  refine ⟨⟨hm, fun A2 n2 c2 e => by injection e with _ e1 e2; omega⟩, A, c, rfl, fun j hj => ?_⟩
  have g : ∀ i (hi : i < 4), (xs.flatMap Wn.cells)[j * 4 + i]? = (xs[j].cells)[i]? := fun i hi => by rw [flat_get Wn.cells 4 (fun _ => rfl) i hi xs j, List.getElem?_eq_getElem hj]; rfl
  obtain ⟨b0, o0, rfl, h0⟩ := h _ _ (g 0 (by omega))
  obtain ⟨b1, o1, e1, h1⟩ := h _ _ (g 1 (by omega))
  injection e1 with e1; injection e1 with e1 f1; subst e1 f1
  obtain ⟨b2, o2, e2, h2⟩ := h _ _ (g 2 (by omega))
  injection e2 with e2; injection e2 with e2 f2; subst e2 f2
  obtain ⟨b3, o3, e3, h3⟩ := h _ _ (g 3 (by omega))
  injection e3 with e3; injection e3 with e3 f3; subst e3 f3
  exact ⟨b0, o0, rfl, h0, h1, h2, h3⟩
theorem rdg_row {w : World} {A : Option Addr} {xs : List Gr} (h : RowC w A (xs.flatMap Gr.cells)) (hm : xs.length ≤ maxLen)  (c : Nat) : RdG w (.slice A xs.length c) xs := by
  refine ⟨hm, A, c, rfl, fun j hj => ?_⟩
  have g : ∀ i (hi : i < 3), (xs.flatMap Gr.cells)[j * 3 + i]? = (xs[j].cells)[i]? := fun i hi => by rw [flat_get Gr.cells 3 (fun _ => rfl) i hi xs j, List.getElem?_eq_getElem hj]; rfl
  obtain ⟨b0, o0, rfl, h0⟩ := h _ _ (g 0 (by omega))
  obtain ⟨b1, o1, e1, h1⟩ := h _ _ (g 1 (by omega))
  injection e1 with e1; injection e1 with e1 f1; subst e1 f1
  obtain ⟨b2, o2, e2, h2⟩ := h _ _ (g 2 (by omega))
  injection e2 with e2; injection e2 with e2 f2; subst e2 f2
  exact ⟨b0, o0, rfl, h0, h1, h2⟩
theorem slice_cap {H : Type} {enc : TypeId × Value → H} {P : Program} {w : World} {base : Nat} {spare : Nat → Bool} {held : Bool} {t e : TypeId} {fuel : Nat} {A : Option Addr} {n c : Nat} {y : DataW H × List MemPlace} (ht : P.underlying t = some (.slice e)) (h : DataW.trod enc P w base spare held fuel t [.slice A n c] = some y) : n ≤ c := by
  rcases open_slice ht h with ⟨hcs, _⟩ | ⟨a, len, cap, m, k, D, Pl, hcs, hb, hl, _⟩
  · injection hcs with hcs _; injection hcs with _ e1 e2; omega
  · injection hcs with hcs _; injection hcs with _ e1 e2; omega
/-- What a config's rows weigh. -/
structure CfB (C : Cf) : Prop where
  ps : C.parts.length * 56 ≤ reachBytes
  ds : C.devs.length * 32 ≤ reachBytes
  ws : C.wins.length * 32 ≤ reachBytes
  gs : C.grants.length * 24 ≤ reachBytes
  fr : ∀ x ∈ C.parts, x.fr.length * 8 ≤ reachBytes
  po : ∀ x ∈ C.devs, x.pool.length * 8 ≤ reachBytes
  wd : ∀ x ∈ C.wins, x.deliver ≤ 9223372036854775807
set_option maxRecDepth 100000 in
set_option maxHeartbeats 1000000 in
theorem open_cfg {H : Type} {enc : TypeId × Value → H} {w : World} {base : Nat} {spare : Nat → Bool} {held : Bool} {v : Array Value} {d : DataW H} {p : List MemPlace} (h0 : DataW.Trod enc Try.prog w base spare held 27 (.agg v) d p)
    (hw : ∀ k ∈ DataW.weights Try.prog 27 d, k ≤ reachBytes) : ∃ C s, v = cfc C s ∧ s.R w C ∧ CfB C := by
  obtain ⟨fuel, h⟩ := h0
  obtain ⟨ys, n', _, hy, hl, hyl, hf⟩ := DataW.trod_struct Try.underlying27 h
  rw [show Try.prog.cellsOf 27 = 9 from by kernel_rfl] at hl
  have hcs : (Value.agg v).cells.toList = v.toList := by simp [Value.cells]
  rw [hcs] at hl hf
  obtain ⟨v⟩ := v
  simp only at hl hf
  match v, hl with
  | [c0, c1, c2, c3, c4, c5, c6, c7, c8], _ =>
    have g0 := hf 0 _ rfl
    have g1 := hf 1 _ rfl
    have g2 := hf 2 _ rfl
    have g3 := hf 3 _ rfl
    have g4 := hf 4 _ rfl
    have g5 := hf 5 _ rfl
    have g6 := hf 6 _ rfl
    have g7 := hf 7 _ rfl
    have g8 := hf 8 _ rfl
    rw [List.getElem?_eq_getElem (by rw [hyl]; decide)] at g0 g1 g2 g3 g4 g5 g6 g7 g8
    have k3 : Try.prog.cellsOf 3 = 1 := by kernel_rfl
    have k22 : Try.prog.cellsOf 22 = 1 := by kernel_rfl
    have k23 : Try.prog.cellsOf 23 = 1 := by kernel_rfl
    have k24 : Try.prog.cellsOf 24 = 1 := by kernel_rfl
    have k25 : Try.prog.cellsOf 25 = 1 := by kernel_rfl
    change DataW.trod enc Try.prog w base spare held n' 3 (List.take (Try.prog.cellsOf 3) [c0, c1, c2, c3, c4, c5, c6, c7, c8]) = _ at g0
    rw [k3] at g0
    change DataW.trod enc Try.prog w base spare held n' 3 [c0] = _ at g0
    change DataW.trod enc Try.prog w base spare held n' 22 (List.take (Try.prog.cellsOf 22) [c1, c2, c3, c4, c5, c6, c7, c8]) = _ at g1
    rw [k22] at g1
    change DataW.trod enc Try.prog w base spare held n' 22 [c1] = _ at g1
    change DataW.trod enc Try.prog w base spare held n' 23 (List.take (Try.prog.cellsOf 23) [c2, c3, c4, c5, c6, c7, c8]) = _ at g2
    rw [k23] at g2
    change DataW.trod enc Try.prog w base spare held n' 23 [c2] = _ at g2
    change DataW.trod enc Try.prog w base spare held n' 3 (List.take (Try.prog.cellsOf 3) [c3, c4, c5, c6, c7, c8]) = _ at g3
    rw [k3] at g3
    change DataW.trod enc Try.prog w base spare held n' 3 [c3] = _ at g3
    change DataW.trod enc Try.prog w base spare held n' 24 (List.take (Try.prog.cellsOf 24) [c4, c5, c6, c7, c8]) = _ at g4
    rw [k24] at g4
    change DataW.trod enc Try.prog w base spare held n' 24 [c4] = _ at g4
    change DataW.trod enc Try.prog w base spare held n' 25 (List.take (Try.prog.cellsOf 25) [c5, c6, c7, c8]) = _ at g5
    rw [k25] at g5
    change DataW.trod enc Try.prog w base spare held n' 25 [c5] = _ at g5
    change DataW.trod enc Try.prog w base spare held n' 3 (List.take (Try.prog.cellsOf 3) [c6, c7, c8]) = _ at g6
    rw [k3] at g6
    change DataW.trod enc Try.prog w base spare held n' 3 [c6] = _ at g6
    change DataW.trod enc Try.prog w base spare held n' 3 (List.take (Try.prog.cellsOf 3) [c7, c8]) = _ at g7
    rw [k3] at g7
    change DataW.trod enc Try.prog w base spare held n' 3 [c7] = _ at g7
    change DataW.trod enc Try.prog w base spare held n' 3 (List.take (Try.prog.cellsOf 3) [c8]) = _ at g8
    rw [k3] at g8
    change DataW.trod enc Try.prog w base spare held n' 3 [c8] = _ at g8
    obtain ⟨n0, e0, qi0⟩ := DataW.trod_int Try.underlying3 g0
    simp only [List.cons.injEq, and_true] at e0
    subst e0
    obtain ⟨A1, l1, k1, hc1⟩ := trod_slice_form Try.underlying22 g1
    simp only [List.cons.injEq, and_true] at hc1
    subst hc1
    have cap1 := slice_cap Try.underlying22 g1
    have hw1 : ∀ k ∈ DataW.weights Try.prog 22 (ys[1]'(by rw [hyl]; decide)).1, k ≤ reachBytes := by
      have hyl1 : 1 < ys.length := by rw [hyl]; decide
      rw [show d = _ from congrArg Prod.fst hy] at hw
      exact weights_field Try.underlying27 hw (j := 1) rfl (by rw [List.getElem?_map, List.getElem?_eq_getElem hyl1]; rfl)
    obtain ⟨m1, b1, X1, rfl, r1, f1⟩ := open_listW (cells := PrtV.cells) (Wf := fun x => SlWf w x.A x.L) Try.underlying22 (C := 5) (by kernel_rfl) (by decide) hw1 (fun m cs y h hw => trod_part h hw) (fun _ => rfl) ⟨n', g1⟩
    rw [show Try.prog.bytesOf 40 = 56 from by kernel_rfl] at b1
    obtain ⟨A2, l2, k2, hc2⟩ := trod_slice_form Try.underlying23 g2
    simp only [List.cons.injEq, and_true] at hc2
    subst hc2
    have cap2 := slice_cap Try.underlying23 g2
    have hw2 : ∀ k ∈ DataW.weights Try.prog 23 (ys[2]'(by rw [hyl]; decide)).1, k ≤ reachBytes := by
      have hyl2 : 2 < ys.length := by rw [hyl]; decide
      rw [show d = _ from congrArg Prod.fst hy] at hw
      exact weights_field Try.underlying27 hw (j := 2) rfl (by rw [List.getElem?_map, List.getElem?_eq_getElem hyl2]; rfl)
    obtain ⟨m2, b2, X2, rfl, r2, f2⟩ := open_listW (cells := DvV.cells) (Wf := fun x => SlWf w x.A x.L) Try.underlying23 (C := 2) (by kernel_rfl) (by decide) hw2 (fun m cs y h hw => trod_dev h hw) (fun _ => rfl) ⟨n', g2⟩
    rw [show Try.prog.bytesOf 42 = 32 from by kernel_rfl] at b2
    obtain ⟨n3, e3, qi3⟩ := DataW.trod_int Try.underlying3 g3
    simp only [List.cons.injEq, and_true] at e3
    subst e3
    obtain ⟨A4, l4, k4, hc4⟩ := trod_slice_form Try.underlying24 g4
    simp only [List.cons.injEq, and_true] at hc4
    subst hc4
    have cap4 := slice_cap Try.underlying24 g4
    have hw4 : ∀ k ∈ DataW.weights Try.prog 24 (ys[4]'(by rw [hyl]; decide)).1, k ≤ reachBytes := by
      have hyl4 : 4 < ys.length := by rw [hyl]; decide
      rw [show d = _ from congrArg Prod.fst hy] at hw
      exact weights_field Try.underlying27 hw (j := 4) rfl (by rw [List.getElem?_map, List.getElem?_eq_getElem hyl4]; rfl)
    obtain ⟨m4, b4, X4, rfl, r4, f4⟩ := open_listW (cells := Wn.cells) (Wf := fun x => x.deliver ≤ 9223372036854775807) Try.underlying24 (C := 4) (by kernel_rfl) (by decide) hw4 (fun m cs y h hw => trod_win h hw) (fun _ => rfl) ⟨n', g4⟩
    rw [show Try.prog.bytesOf 119 = 32 from by kernel_rfl] at b4
    obtain ⟨A5, l5, k5, hc5⟩ := trod_slice_form Try.underlying25 g5
    simp only [List.cons.injEq, and_true] at hc5
    subst hc5
    have cap5 := slice_cap Try.underlying25 g5
    have hw5 : ∀ k ∈ DataW.weights Try.prog 25 (ys[5]'(by rw [hyl]; decide)).1, k ≤ reachBytes := by
      have hyl5 : 5 < ys.length := by rw [hyl]; decide
      rw [show d = _ from congrArg Prod.fst hy] at hw
      exact weights_field Try.underlying27 hw (j := 5) rfl (by rw [List.getElem?_map, List.getElem?_eq_getElem hyl5]; rfl)
    obtain ⟨m5, b5, X5, rfl, r5, f5⟩ := open_listW (cells := Gr.cells) (Wf := fun _ => True) Try.underlying25 (C := 3) (by kernel_rfl) (by decide) hw5 (fun m cs y h hw => trod_grant h hw) (fun _ => rfl) ⟨n', g5⟩
    rw [show Try.prog.bytesOf 44 = 24 from by kernel_rfl] at b5
    obtain ⟨n6, e6, qi6⟩ := DataW.trod_int Try.underlying3 g6
    simp only [List.cons.injEq, and_true] at e6
    subst e6
    obtain ⟨n7, e7, qi7⟩ := DataW.trod_int Try.underlying3 g7
    simp only [List.cons.injEq, and_true] at e7
    subst e7
    obtain ⟨n8, e8, qi8⟩ := DataW.trod_int Try.underlying3 g8
    simp only [List.cons.injEq, and_true] at e8
    subst e8
    refine ⟨⟨n0, X1.map PrtV.p, X2.map DvV.p, n3, X4, X5, n6, n7, n8⟩, ⟨_, _, _, _⟩, rfl, ⟨rdp_row r1 m1 f1 k1, rdd_row r2 m2 f2 k2, rdw_row r4 m4 k4 cap4, rdg_row r5 m5 k5⟩, ⟨by simpa using b1, by simpa using b2, b4, b5, fun x hx => ?_, fun x hx => ?_, f4⟩⟩
    · obtain ⟨z, hz, rfl⟩ := List.mem_map.1 hx
      exact (f1 z hz).2.2
    · obtain ⟨z, hz, rfl⟩ := List.mem_map.1 hx
      exact (f2 z hz).2.2
end Go.Proofs.Ytncbcjjdnlmjbaa
