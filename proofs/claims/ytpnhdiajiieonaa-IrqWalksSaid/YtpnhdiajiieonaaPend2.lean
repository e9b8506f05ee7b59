/- Chapter 12: the program's sets beside the document's; the law's acts. -/
import Derived.Test.YtpnhdiajiieonaaRefP3
import Derived.Test.YtpnhdiajiieonaaLendI
import Derived.Test.YtpnhdiajiieonaaOpenW
set_option linter.unusedSimpArgs false
set_option linter.unusedVariables false
namespace Go.Proofs.Ytpnhdiajiieonaa
open Go.RowKit Go.ChangeShapes Go.WideShapes Go.Deep

def tkL (n : Nat) (part tick : Int) (ms : List Iq) (S : Nat → Nat → Bool) : List Iq := if 0 ≤ part ∧ part < n then takeL S ms part.toNat tick else []
def tkS (n : Nat) (part : Int) (ms : List Iq) (S : Nat → Nat → Bool) : Nat → Nat → Bool := if 0 ≤ part ∧ part < n then takeS S ms part.toNat else S
theorem tkL_len (n : Nat) (part tick : Int) (ms : List Iq) (S : Nat → Nat → Bool) : (tkL n part tick ms S).length ≤ 32 := by
  unfold tkL
  split
  · unfold takeL takeK
    rw [List.length_map]
    exact Nat.le_trans (List.length_filter_le _ _) (by rw [List.length_range]; exact Nat.le_refl _)
  · simp
def PTakeAny (p n : Nat) (part tick : Int) (ms : List Iq) (S : Nat → Nat → Bool) (F : Nat → Prop) (w : World) (e : Ending) (w' : World) : Prop :=
  ∃ v, e = .returned v ∧ OwnC iqc 3 92 w' w.heap.size v (tkL n part tick ms S) ∧ ∃ F', SetsAt w' p n (tkS n part ms S) F' ∧ FootOf w F F' ∧ (∀ g, v.ownBlock = some g → ¬ F' g) ∧ Chg F w w'
theorem pTakeAny (p n mb : Nat) (part tick : Int) (mv : Value) (ms : List Iq) (S : Nat → Nat → Bool) (F : Nat → Prop) (w : World) (h : SetsAt w p n S F) (hn : n ≤ 4) (hm : OwnC iqc 3 92 w mb mv ms) (hml : ms.length ≤ 9223372036854775807) :
    Calls Try.prog 51 #[.pointer (some ⟨p, 0, none⟩), .int .i64 part, .int .i64 tick, mv] w (PTakeAny p n part tick ms S F w) := by
  unfold PTakeAny tkL tkS
  by_cases hp : 0 ≤ part ∧ part < n
  · obtain ⟨i, rfl⟩ := Int.eq_ofNat_of_zero_le hp.1
    simp only [if_pos hp]
    exact pTake_in p n i mb tick mv ms S F w h hn (by omega) hm hml
  · simp only [if_neg hp]
    refine (pTake_out p n part tick mv S F w h hn hp).mono ?_
    rintro e w' ⟨rfl, rfl⟩
    exact ⟨_, rfl, OwnC.nil _ _, F, h, fun k hk => .inl hk, (fun g hg => by cases hg), Chg.refl _ _⟩
def RTakeAny (p R n : Nat) (part tick : Int) (ms : List Iq) (S : Nat → Nat → Bool) (w : World) (e : Ending) (w' : World) : Prop :=
  ∃ v, e = .returned v ∧ OwnC iqc 3 92 w' w.heap.size v (tkL n part tick ms S) ∧ RefAt w' p R n (tkS n part ms S) ∧ Chg (fun k => k = R) w w'
theorem rTakeAny (p R n : Nat) (part tick : Int) (mv : Value) (ms : List Iq) (S : Nat → Nat → Bool) (w : World) (h : RefAt w p R n S) (hn : n ≤ 4) (hm : ∀ W, Chg (fun k => k = R) w W → RdI W mv ms) (hml : ms.length ≤ 9223372036854775807) :
    Calls Try.prog 53 #[.pointer (some ⟨p, 0, none⟩), .int .i64 part, .int .i64 tick, mv] w (RTakeAny p R n part tick ms S w) := by
  unfold RTakeAny tkL tkS
  by_cases hp : 0 ≤ part ∧ part < n
  · obtain ⟨i, rfl⟩ := Int.eq_ofNat_of_zero_le hp.1
    simp only [if_pos hp]
    exact rTake_in p R n i tick mv ms S w h hn (by omega) hm hml
  · simp only [if_neg hp]
    refine (rTake_out p R n part tick mv S w h hn hp).mono ?_
    rintro e w' ⟨rfl, rfl⟩
    exact ⟨_, rfl, OwnC.nil _ _, h, Chg.refl _ _⟩
theorem footKeep {W : World} {F F' : Nat → Prop} {g : Nat} (hf : FootOf W F F') (h : ¬ F g) (hg : g < W.heap.size) : ¬ F' g := fun hin => by
  rcases hf g hin with h1 | h1
  · exact h h1
  · omega
/-- The program's sets, the document's. -/
structure PR (w0 W : World) (p q R n : Nat) (S T : Nat → Nat → Bool) (F : Nat → Prop) : Prop where
  ps : PS w0 W p n S F
  ref : RefAt W q R n T
  fq : ¬ F q
  fR : ¬ F R
  q0 : w0.heap.size ≤ q
  R0 : w0.heap.size ≤ R
section
variable {w0 W W' : World} {p q R n : Nat} {S S' T T' : Nat → Nat → Bool} {F F' : Nat → Prop}
theorem PR.keepN (h : PR w0 W p q R n S T F) (hC : Chg (fun _ => False) W W') : PR w0 W' p q R n S T F := ⟨h.ps.keepN hC, h.ref.keepN hC, h.fq, h.fR, h.q0, h.R0⟩
theorem PR.a (h : PR w0 W p q R n S T F) (ha : SetsAt W' p n S' F') (hf : FootOf W F F') (hC : Chg F W W') : PR w0 W' p q R n S' T F' :=
  ⟨h.ps.step ha hf hC, h.ref.keep hC h.fq h.fR, footKeep hf h.fq (lt_of_heap h.ref.hp), footKeep hf h.fR h.ref.up.lt, h.q0, h.R0⟩
theorem PR.pR (h : PR w0 W p q R n S T F) : p ≠ R ∧ p ≠ q := by
  obtain ⟨R', vs, f, hV, _, _⟩ := h.ps.at_
  obtain ⟨cs, hb, _⟩ := h.ref.up
  refine ⟨fun e => ?_, fun e => ?_⟩
  · have := hV.hp
    rw [e, hb] at this; injection this with this; injection this with _ h2; exact absurd h2 (by decide)
  · have := hV.hp
    rw [e, h.ref.hp] at this; injection this with this; injection this with _ h2; exact absurd h2 (by decide)
theorem PR.r (h : PR w0 W p q R n S T F) (hr : RefAt W' q R n T') (hC : Chg (fun k => k = R) W W') : PR w0 W' p q R n S T' F :=
  ⟨⟨h.ps.at_.keep hC h.pR.1 (fun k hk e => h.fR (by rw [← e]; exact hk)), h.ps.ge, h.ps.chg.trans' hC (fun k hk e => by have := h.R0; omega)⟩, hr, h.fq, h.fR, h.q0, h.R0⟩
/-- A block beside them is turned. -/
theorem PR.other (h : PR w0 W p q R n S T F) {X : Nat → Prop} (hC : Chg X W W') (hX : ∀ k, X k → ¬ F k ∧ k ≠ p ∧ k ≠ q ∧ k ≠ R ∧ w0.heap.size ≤ k) : PR w0 W' p q R n S T F :=
  ⟨⟨h.ps.at_.keep hC (fun e => (hX _ e).2.1 rfl) (fun k hk e => (hX _ e).1 hk), h.ps.ge, h.ps.chg.trans' hC (fun k hk e => by have := (hX _ e).2.2.2.2; omega)⟩, h.ref.keep hC (fun e => (hX _ e).2.2.1 rfl) (fun e => (hX _ e).2.2.2.1 rfl), h.fq, h.fR, h.q0, h.R0⟩
end
/-- An act. -/
structure PAct where
  kind : Int
  part : Int
  dev : Int
  vec : Int
  tick : Int
  A : Option Addr
  c : Nat
  L : List Iq
def PAct.cells (x : PAct) : List Value := [.int .i64 x.kind, .int .i64 x.part, .int .i64 x.dev, .int .i64 x.vec, .int .i64 x.tick, .slice x.A x.L.length x.c]
def PAct.Wf (w : World) (x : PAct) : Prop := RowC w x.A (x.L.flatMap iqc) ∧ x.L.length * 24 ≤ 140737488351232
set_option maxRecDepth 100000 in
theorem trod_iq {H : Type} {enc : TypeId × Value → H} {w : World} {base : Nat} {spare : Nat → Bool} {held : Bool} {m : Nat} {cs : List Value} {y : DataW H × List MemPlace} (h : DataW.trod enc Try.prog w base spare held m 92 cs = some y) : ∃ x : Iq, cs = iqc x ∧ True := by
  obtain ⟨ys, n', _, _, hl, hyl, hf⟩ := DataW.trod_struct Try.underlying92 h
  rw [show Try.prog.cellsOf 92 = 3 from by kernel_rfl] at hl
  match cs, hl with
  | [c0, c1, c2], _ =>
    have g0 := hf 0 _ rfl
    have g1 := hf 1 _ rfl
    have g2 := hf 2 _ rfl
    rw [List.getElem?_eq_getElem (by rw [hyl]; decide)] at g0 g1 g2
    obtain ⟨n0, e0, _⟩ := DataW.trod_int Try.underlying3 g0
    obtain ⟨n1, e1, _⟩ := DataW.trod_int Try.underlying3 g1
    obtain ⟨n2, e2, _⟩ := DataW.trod_int Try.underlying3 g2
    have k3 : Try.prog.cellsOf 3 = 1 := by kernel_rfl
    change List.take (Try.prog.cellsOf 3) [c0, c1, c2] = _ at e0
    change List.take (Try.prog.cellsOf 3) [c1, c2] = _ at e1
    change List.take (Try.prog.cellsOf 3) [c2] = _ at e2
    rw [k3] at e0 e1 e2
    simp at e0 e1 e2
    subst e0; subst e1; subst e2
    exact ⟨⟨n0, n1, n2⟩, rfl, trivial⟩
set_option maxRecDepth 100000 in
theorem trod_pact {H : Type} {enc : TypeId × Value → H} {w : World} {base : Nat} {spare : Nat → Bool} {held : Bool} {m : Nat} {cs : List Value} {y : DataW H × List MemPlace} (h : DataW.trod enc Try.prog w base spare held m 79 cs = some y)
    (hw : ∀ k ∈ DataW.weights Try.prog 79 y.1, k ≤ reachBytes) : ∃ x : PAct, cs = x.cells ∧ x.Wf w := by
  obtain ⟨ys, n', _, hy, hl, hyl, hf⟩ := DataW.trod_struct Try.underlying79 h
  rw [show Try.prog.cellsOf 79 = 6 from by kernel_rfl] at hl
  match cs, hl with
  | [c0, c1, c2, c3, c4, c5], _ =>
    have g0 := hf 0 _ rfl
    have g1 := hf 1 _ rfl
    have g2 := hf 2 _ rfl
    have g3 := hf 3 _ rfl
    have g4 := hf 4 _ rfl
    have g5 := hf 5 _ rfl
    rw [List.getElem?_eq_getElem (by rw [hyl]; decide)] at g0 g1 g2 g3 g4 g5
    have k3 : Try.prog.cellsOf 3 = 1 := by kernel_rfl
    have k77 : Try.prog.cellsOf 77 = 1 := by kernel_rfl
    obtain ⟨n0, e0, _⟩ := DataW.trod_int Try.underlying3 g0
    obtain ⟨n1, e1, _⟩ := DataW.trod_int Try.underlying3 g1
    obtain ⟨n2, e2, _⟩ := DataW.trod_int Try.underlying3 g2
    obtain ⟨n3, e3, _⟩ := DataW.trod_int Try.underlying3 g3
    obtain ⟨n4, e4, _⟩ := DataW.trod_int Try.underlying3 g4
    change DataW.trod enc Try.prog w base spare held n' 77 (List.take (Try.prog.cellsOf 77) [c5]) = _ at g5
    rw [k77] at g5
    change DataW.trod enc Try.prog w base spare held n' 77 [c5] = _ at g5
    obtain ⟨A, n, c, hc5⟩ := trod_slice_form Try.underlying77 g5
    simp only [List.cons.injEq, and_true] at hc5
    subst hc5
    have hw5 : ∀ k ∈ DataW.weights Try.prog 77 (ys[5]'(by rw [hyl]; decide)).1, k ≤ reachBytes := by
      have hyl5 : 5 < ys.length := by rw [hyl]; decide
      rw [hy] at hw
      exact weights_field Try.underlying79 hw (j := 5) rfl (by rw [List.getElem?_map, List.getElem?_eq_getElem hyl5]; rfl)
    obtain ⟨_, hb, L, rfl, hr, _⟩ := open_listW (cells := iqc) (Wf := fun _ => True) Try.underlying77 (C := 3) (by kernel_rfl) (by decide) hw5 (fun m cs y h _ => trod_iq h) iqc_len ⟨n', g5⟩
    rw [show Try.prog.bytesOf 92 = 24 from by kernel_rfl] at hb
    change List.take (Try.prog.cellsOf 3) [c0, c1, c2, c3, c4, .slice A L.length c] = _ at e0
    change List.take (Try.prog.cellsOf 3) [c1, c2, c3, c4, .slice A L.length c] = _ at e1
    change List.take (Try.prog.cellsOf 3) [c2, c3, c4, .slice A L.length c] = _ at e2
    change List.take (Try.prog.cellsOf 3) [c3, c4, .slice A L.length c] = _ at e3
    change List.take (Try.prog.cellsOf 3) [c4, .slice A L.length c] = _ at e4
    rw [k3] at e0 e1 e2 e3 e4
    simp at e0 e1 e2 e3 e4
    subst e0; subst e1; subst e2; subst e3; subst e4
    exact ⟨⟨n0, n1, n2, n3, n4, A, c, L⟩, rfl, hr, hb⟩
theorem pact_len (x : PAct) : x.cells.length = 6 := rfl
theorem pactAt {w : World} {A : Option Addr} {xs : List PAct} (h : RowC w A (xs.flatMap PAct.cells)) (k : Nat) (hk : k < xs.length) : ∃ b o, A = some ⟨b, o, none⟩ ∧ w.cell? ⟨b, o + k * 6, none⟩ = some (.int .i64 xs[k].kind) ∧ w.cell? ⟨b, o + k * 6 + 1, none⟩ = some (.int .i64 xs[k].part) ∧ w.cell? ⟨b, o + k * 6 + 2, none⟩ = some (.int .i64 xs[k].dev) ∧ w.cell? ⟨b, o + k * 6 + 3, none⟩ = some (.int .i64 xs[k].vec) ∧ w.cell? ⟨b, o + k * 6 + 4, none⟩ = some (.int .i64 xs[k].tick) ∧ w.cell? ⟨b, o + k * 6 + 5, none⟩ = some (.slice xs[k].A xs[k].L.length xs[k].c) := by
  have g : ∀ i (hi : i < 6), (xs.flatMap PAct.cells)[k * 6 + i]? = (xs[k].cells)[i]? := fun i hi => by rw [flat_get PAct.cells 6 pact_len i hi xs k, List.getElem?_eq_getElem hk]; rfl
  obtain ⟨b, o, rfl, h0⟩ := h _ _ (g 0 (by omega))
  obtain ⟨b1, o1, e1, h1⟩ := h _ _ (g 1 (by omega))
  obtain ⟨b2, o2, e2, h2⟩ := h _ _ (g 2 (by omega))
  obtain ⟨b3, o3, e3, h3⟩ := h _ _ (g 3 (by omega))
  obtain ⟨b4, o4, e4, h4⟩ := h _ _ (g 4 (by omega))
  obtain ⟨b5, o5, e5, h5⟩ := h _ _ (g 5 (by omega))
  injection e1 with e1; injection e1 with e1 e1'; subst e1 e1'
  injection e2 with e2; injection e2 with e2 e2'; subst e2 e2'
  injection e3 with e3; injection e3 with e3 e3'; subst e3 e3'
  injection e4 with e4; injection e4 with e4 e4'; subst e4 e4'
  injection e5 with e5; injection e5 with e5 e5'; subst e5 e5'
  exact ⟨b, o, rfl, h0, h1, h2, h3, h4, h5⟩
end Go.Proofs.Ytpnhdiajiieonaa
