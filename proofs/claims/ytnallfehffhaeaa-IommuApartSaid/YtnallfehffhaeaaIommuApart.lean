/- The law IommuApart: the walk. Printed by mkiapart.py. -/
import Derived.Test.YtnallfehffhaeaaTk
import Derived.Test.YtnallfehffhaeaaAwake7
import Derived.Deep.DeepCutAuto
import Derived.Deep.CutBlock
set_option linter.unusedSimpArgs false
set_option linter.unusedVariables false
namespace Go.Proofs.Ytnallfehffhaeaa
open Go.RowKit
attribute [local go_sem] i64_and63 i64_and7 i64_and3 i64_and1

inductive Op7 where
  | map (p : Nat) (f : Int)
  | unmap (p : Nat)
  | clear
def opC (bs : List UInt8) (d : Int) : Op7 → Int
  | .map p f => if MapP PL7 bs d p f 3 then (mapM bs (poolOf PL7 d) p f 3).1 else 700
  | .unmap p => if devIn PL7 d ∧ pageP p then (unmapM bs (rootOf PL7 d) p).1 else 700
  | .clear => if devIn PL7 d then 0 else 700
def opB (bs : List UInt8) (d : Int) : Op7 → List UInt8
  | .map p f => if MapP PL7 bs d p f 3 then (mapM bs (poolOf PL7 d) p f 3).2 else bs
  | .unmap p => if devIn PL7 d ∧ pageP p then (unmapM bs (rootOf PL7 d) p).2 else bs
  | .clear => if devIn PL7 d then clearB bs (poolOf PL7 d) else bs
def opOk : Op7 → Prop
  | .map p f => p < 256 ∧ 0 ≤ f ∧ f < 16
  | .unmap p => p < 256
  | .clear => True
def P03 (E : Nat → Int × Int) : Prop := ∀ p, (E p).2 = 0 ∨ (E p).2 = 3
theorem P03.upd {E : Nat → Int × Int} (h : P03 E) (k : Nat) (e : Int × Int) (he : e.2 = 0 ∨ e.2 = 3) : P03 (upd E k e) := fun p => by
  by_cases c : p = k
  · subst c; rw [upd_same]; exact he
  · rw [upd_ne _ _ c]; exact h p
section
variable {bx ba : List UInt8} {S0 S1 : List Nat} {E0 E1 : Nat → Int × Int}
theorem twin0 (hx : D7 bx S0 E0 S1 E1) (hy : D7 ba S0 E0 [] E00) (h3 : P03 E0) (op : Op7) (ok : opOk op) : ∃ S' E', opC bx 0 op = opC ba 0 op ∧ D7 (opB bx 0 op) S' E' S1 E1 ∧ D7 (opB ba 0 op) S' E' [] E00 ∧ P03 E' := by
  cases op with
  | map p f =>
    have a := hx.map0 (p := p) (f := f) (q := 3) ok.1 (by decide) (by decide) ok.2.1 ok.2.2
    have b := hy.map0 (p := p) (f := f) (q := 3) ok.1 (by decide) (by decide) ok.2.1 ok.2.2
    cases hs : slotS S0 3 p with
    | none =>
      rw [hs] at a b
      have e1 : opB bx 0 (.map p f) = bx := a.2
      have e2 : opB ba 0 (.map p f) = ba := b.2
      exact ⟨S0, E0, a.1.trans b.1.symm, by rw [e1]; exact hx, by rw [e2]; exact hy, h3⟩
    | some S' =>
      rw [hs] at a b
      exact ⟨S', _, a.1.trans b.1.symm, a.2, b.2, h3.upd _ _ (.inr rfl)⟩
  | unmap p =>
    have a := hx.unmap0 (p := p) ok
    have b := hy.unmap0 (p := p) ok
    by_cases h0 : (E0 p).2 = 0
    · rw [if_pos h0] at a b
      have e1 : opB bx 0 (.unmap p) = bx := a.2
      have e2 : opB ba 0 (.unmap p) = ba := b.2
      exact ⟨S0, E0, a.1.trans b.1.symm, by rw [e1]; exact hx, by rw [e2]; exact hy, h3⟩
    · rw [if_neg h0] at a b
      exact ⟨S0, _, a.1.trans b.1.symm, a.2, b.2, h3.upd _ _ (.inl rfl)⟩
  | clear => exact ⟨[], E00, rfl, hx.clear0, hy.clear0, fun _ => .inl rfl⟩
theorem twin1 (hx : D7 bx S0 E0 S1 E1) (hz : D7 ba [] E00 S1 E1) (h3 : P03 E1) (op : Op7) (ok : opOk op) : ∃ S' E', opC bx 1 op = opC ba 1 op ∧ D7 (opB bx 1 op) S0 E0 S' E' ∧ D7 (opB ba 1 op) [] E00 S' E' ∧ P03 E' := by
  cases op with
  | map p f =>
    have a := hx.map1 (p := p) (f := f) (q := 3) ok.1 (by decide) (by decide) ok.2.1 ok.2.2
    have b := hz.map1 (p := p) (f := f) (q := 3) ok.1 (by decide) (by decide) ok.2.1 ok.2.2
    cases hs : slotS S1 2 p with
    | none =>
      rw [hs] at a b
      have e1 : opB bx 1 (.map p f) = bx := a.2
      have e2 : opB ba 1 (.map p f) = ba := b.2
      exact ⟨S1, E1, a.1.trans b.1.symm, by rw [e1]; exact hx, by rw [e2]; exact hz, h3⟩
    | some S' =>
      rw [hs] at a b
      exact ⟨S', _, a.1.trans b.1.symm, a.2, b.2, h3.upd _ _ (.inr rfl)⟩
  | unmap p =>
    have a := hx.unmap1 (p := p) ok
    have b := hz.unmap1 (p := p) ok
    by_cases h0 : (E1 p).2 = 0
    · rw [if_pos h0] at a b
      have e1 : opB bx 1 (.unmap p) = bx := a.2
      have e2 : opB ba 1 (.unmap p) = ba := b.2
      exact ⟨S1, E1, a.1.trans b.1.symm, by rw [e1]; exact hx, by rw [e2]; exact hz, h3⟩
    · rw [if_neg h0] at a b
      exact ⟨S1, _, a.1.trans b.1.symm, a.2, b.2, h3.upd _ _ (.inl rfl)⟩
  | clear => exact ⟨[], E00, rfl, hx.clear1, hz.clear1, fun _ => .inl rfl⟩
end
theorem IoM.typ {w : World} {x p : Nat} {L : Pls} {bs : List UInt8} {F : Nat → Prop} (h : IoM w x p L bs F) : ∀ k, F k → ∃ cs t, w.heap[k]? = some (.cells cs t (0, 0)) ∧ t ≠ 29 := by
  obtain ⟨r, tb, v, P, T, hI, hM, _, hF⟩ := h
  intro k hk
  rcases (hF k).1 hk with rfl | rfl | rfl | h | h
  · exact ⟨_, _, hI.blk, by decide⟩
  · exact ⟨_, _, hM.1, by decide⟩
  · exact ⟨_, _, hM.2, by decide⟩
  · obtain ⟨cs, t, h1, h2⟩ := hI.pools.typ k h
    exact ⟨cs, t, h1, by rcases h2 with rfl | rfl <;> decide⟩
  · obtain ⟨cs, t, h1, h2⟩ := hI.tlb.typ k h
    exact ⟨cs, t, h1, by rcases h2 with rfl | rfl <;> decide⟩
/-- The three Iommus. -/
structure T3 (w : World) (x y z px py pz : Nat) (bx ba bz : List UInt8) (F G H : Nat → Prop) : Prop where
  ix : IoM w x px PL7 bx F
  iy : IoM w y py PL7 ba G
  iz : IoM w z pz PL7 bz H
  fg : ∀ k, F k → ¬ G k
  fh : ∀ k, F k → ¬ H k
  gh : ∀ k, G k → ¬ H k
section
variable {w w' : World} {x y z px py pz : Nat} {bx ba bz b' : List UInt8} {F G H F' : Nat → Prop}
theorem T3.keepN (h : T3 w x y z px py pz bx ba bz F G H) (hC : Chg (fun _ => False) w w') : T3 w' x y z px py pz bx ba bz F G H := ⟨h.ix.keepN hC, h.iy.keepN hC, h.iz.keepN hC, h.fg, h.fh, h.gh⟩
theorem T3.setx (h : T3 w x y z px py pz bx ba bz F G H) (hI : IoM w' x px PL7 b' F') (hF : ∀ k, F' k → F k ∨ w.heap.size ≤ k) (hC : Chg F w w') : T3 w' x y z px py pz b' ba bz F' G H :=
  ⟨hI, h.iy.keep hC (fun k hk hf => h.fg k hf hk), h.iz.keep hC (fun k hk hf => h.fh k hf hk), fun k hk hg => (hF k hk).elim (fun hf => h.fg k hf hg) (fun hs => by have := h.iy.lt k hg; omega), fun k hk hg => (hF k hk).elim (fun hf => h.fh k hf hg) (fun hs => by have := h.iz.lt k hg; omega), h.gh⟩
theorem T3.sety (h : T3 w x y z px py pz bx ba bz F G H) (hI : IoM w' y py PL7 b' F') (hF : ∀ k, F' k → G k ∨ w.heap.size ≤ k) (hC : Chg G w w') : T3 w' x y z px py pz bx b' bz F F' H :=
  ⟨h.ix.keep hC (fun k hk hf => h.fg k hk hf), hI, h.iz.keep hC (fun k hk hf => h.gh k hf hk), fun k hf hk => (hF k hk).elim (fun hg => h.fg k hf hg) (fun hs => by have := h.ix.lt k hf; omega), h.fh, fun k hk hg => (hF k hk).elim (fun hf => h.gh k hf hg) (fun hs => by have := h.iz.lt k hg; omega)⟩
theorem T3.setz (h : T3 w x y z px py pz bx ba bz F G H) (hI : IoM w' z pz PL7 b' F') (hF : ∀ k, F' k → H k ∨ w.heap.size ≤ k) (hC : Chg H w w') : T3 w' x y z px py pz bx ba b' F G F' :=
  ⟨h.ix.keep hC (fun k hk hf => h.fh k hk hf), h.iy.keep hC (fun k hk hf => h.gh k hk hf), hI, h.fg, fun k hf hk => (hF k hk).elim (fun hg => h.fh k hf hg) (fun hs => by have := h.ix.lt k hf; omega), fun k hf hk => (hF k hk).elim (fun hg => h.gh k hf hg) (fun hs => by have := h.iy.lt k hf; omega)⟩
end
/-- What the law keeps; U: all the blocks. -/
structure Tw (w0 w : World) (x y z px py pz : Nat) (E0 E1 : Nat → Int × Int) (U : Nat → Prop) : Prop where
  ex : ∃ bx ba bz F G H S0 S1, T3 w x y z px py pz bx ba bz F G H ∧ D7 bx S0 E0 S1 E1 ∧ D7 ba S0 E0 [] E00 ∧ D7 bz [] E00 S1 E1 ∧ ∀ k, U k ↔ F k ∨ G k ∨ H k
  p0 : P03 E0
  p1 : P03 E1
  new : ∀ k, U k → w0.heap.size ≤ k
  chg : Chg (fun _ => False) w0 w
/-- A call's end: the blocks, what stays. -/
def TwN (U U' : Nat → Prop) (w w' : World) : Prop := (∀ k, U' k → U k ∨ w.heap.size ≤ k) ∧ Chg U w w' ∧ ∀ k, U k → ∃ cs t, w.heap[k]? = some (.cells cs t (0, 0)) ∧ t ≠ 29
section
variable {w0 w w' : World} {x y z px py pz : Nat} {E0 E1 : Nat → Int × Int} {U : Nat → Prop}
theorem Tw.keepN (h : Tw w0 w x y z px py pz E0 E1 U) (hC : Chg (fun _ => False) w w') : Tw w0 w' x y z px py pz E0 E1 U := by
  obtain ⟨bx, ba, bz, F, G, H, S0, S1, h1, h2⟩ := h.ex
  exact ⟨⟨bx, ba, bz, F, G, H, S0, S1, h1.keepN hC, h2⟩, h.p0, h.p1, h.new, h.chg.trans hC⟩
theorem Tw.typ (h : Tw w0 w x y z px py pz E0 E1 U) : ∀ k, U k → ∃ cs t, w.heap[k]? = some (.cells cs t (0, 0)) ∧ t ≠ 29 := by
  obtain ⟨bx, ba, bz, F, G, H, S0, S1, h1, _, _, _, hU⟩ := h.ex
  intro k hk
  rcases (hU k).1 hk with hk | hk | hk
  · exact h1.ix.typ k hk
  · exact h1.iy.typ k hk
  · exact h1.iz.typ k hk
theorem Tw.lt (h : Tw w0 w x y z px py pz E0 E1 U) : ∀ k, U k → k < w.heap.size := fun k hk => by obtain ⟨cs, t, h1, _⟩ := h.typ k hk; exact lt_of_heap h1
/-- Between two calls. -/
structure Mid (w0 w : World) (x y z px py pz : Nat) (E0 E1 : Nat → Int × Int) (U : Nat → Prop) (d : Bool) (op : Op7) (c : Int) : Prop where
  ex : ∃ bx ba bz F G H S0 S1 E0' E1', T3 w x y z px py pz bx ba bz F G H ∧ D7 bx S0 E0' S1 E1' ∧ (∀ k, U k ↔ F k ∨ G k ∨ H k) ∧ P03 E0' ∧ P03 E1' ∧
    (if d then D7 ba S0 E0' [] E00 ∧ c = opC bz 1 op ∧ D7 (opB bz 1 op) [] E00 S1 E1' else D7 bz [] E00 S1 E1' ∧ c = opC ba 0 op ∧ D7 (opB ba 0 op) S0 E0' [] E00)
  new : ∀ k, U k → w0.heap.size ≤ k
  chg : Chg (fun _ => False) w0 w
theorem Mid.keepN {d : Bool} {op : Op7} {c : Int} (h : Mid w0 w x y z px py pz E0 E1 U d op c) (hC : Chg (fun _ => False) w w') : Mid w0 w' x y z px py pz E0 E1 U d op c := by
  obtain ⟨bx, ba, bz, F, G, H, S0, S1, E0', E1', h1, h2⟩ := h.ex
  exact ⟨⟨bx, ba, bz, F, G, H, S0, S1, E0', E1', h1.keepN hC, h2⟩, h.new, h.chg.trans hC⟩
theorem Mid.typ {d : Bool} {op : Op7} {c : Int} (h : Mid w0 w x y z px py pz E0 E1 U d op c) : ∀ k, U k → ∃ cs t, w.heap[k]? = some (.cells cs t (0, 0)) ∧ t ≠ 29 := by
  obtain ⟨bx, ba, bz, F, G, H, S0, S1, E0', E1', h1, _, hU, _⟩ := h.ex
  intro k hk
  rcases (hU k).1 hk with hk | hk | hk
  · exact h1.ix.typ k hk
  · exact h1.iy.typ k hk
  · exact h1.iz.typ k hk
theorem tw_n {U F F' G H : Nat → Prop} (hU : ∀ k, U k ↔ F k ∨ G k ∨ H k) (hF : ∀ k, F' k → F k ∨ w.heap.size ≤ k) (hC : Chg F w w') (ht : ∀ k, U k → ∃ cs t, w.heap[k]? = some (.cells cs t (0, 0)) ∧ t ≠ 29) : TwN U (fun k => F' k ∨ G k ∨ H k) w w' :=
  ⟨fun k hk => by
    rcases hk with hk | hk | hk
    · exact (hF k hk).imp (fun h => (hU k).2 (.inl h)) id
    · exact .inl ((hU k).2 (.inr (.inl hk)))
    · exact .inl ((hU k).2 (.inr (.inr hk))), hC.mono (fun k _ h => (hU k).2 (.inl h)), ht⟩
theorem TwN.new {U U' : Nat → Prop} (h : TwN U U' w w') (hU : ∀ k, U k → w0.heap.size ≤ k) (hC : Chg (fun _ => False) w0 w) : (∀ k, U' k → w0.heap.size ≤ k) ∧ Chg (fun _ => False) w0 w' :=
  ⟨fun k hk => (h.1 k hk).elim (hU k) (fun h' => Nat.le_trans hC.size h'), hC.trans' h.2.1 (fun k hk hu => absurd (hU k hu) (by omega))⟩
theorem Tw.first (h : Tw w0 w x y z px py pz E0 E1 U) (d : Bool) (op : Op7) (ok : opOk op) {f : FuncId} {args : Array Value}
    (hc : ∀ bs F, IoM w x px PL7 bs F → Calls Try.prog f args w (IoPost x px PL7 F w (.int .i64 (opC bs (if d then 1 else 0) op)) (opB bs (if d then 1 else 0) op))) :
    Calls Try.prog f args w fun e w' => ∃ c U', e = .returned (.int .i64 c) ∧ Mid w0 w' x y z px py pz E0 E1 U' d op c ∧ TwN U U' w w' := by
  obtain ⟨bx, ba, bz, F, G, H, S0, S1, h1, h2, h3, h4, hU⟩ := h.ex
  refine (hc bx F h1.ix).mono ?_
  rintro e w' ⟨rfl, F', hI, hF, hC⟩
  have hn := tw_n hU hF hC h.typ
  have hq := hn.new h.new h.chg
  refine ⟨_, _, rfl, ⟨?_, hq.1, hq.2⟩, hn⟩
  cases d with
  | false =>
    obtain ⟨S', E', a1, a2, a3, a4⟩ := twin0 h2 h3 h.p0 op ok
    exact ⟨_, ba, bz, F', G, H, S', S1, E', E1, h1.setx hI hF hC, a2, fun k => Iff.rfl, a4, h.p1, h4, a1, a3⟩
  | true =>
    obtain ⟨S', E', a1, a2, a3, a4⟩ := twin1 h2 h4 h.p1 op ok
    exact ⟨_, ba, bz, F', G, H, S0, S', E0, E', h1.setx hI hF hC, a2, fun k => Iff.rfl, h.p0, a4, h3, a1, a3⟩
theorem Mid.second {d : Bool} {op : Op7} {c : Int} (h : Mid w0 w x y z px py pz E0 E1 U d op c) {f : FuncId} {args : Array Value}
    (hc : ∀ bs F, IoM w (if d then z else y) (if d then pz else py) PL7 bs F → Calls Try.prog f args w (IoPost (if d then z else y) (if d then pz else py) PL7 F w (.int .i64 (opC bs (if d then 1 else 0) op)) (opB bs (if d then 1 else 0) op))) :
    Calls Try.prog f args w fun e w' => e = .returned (.int .i64 c) ∧ ∃ E0' E1' U', Tw w0 w' x y z px py pz E0' E1' U' ∧ (∀ k, U k → ∃ cs t, w.heap[k]? = some (.cells cs t (0, 0)) ∧ t ≠ 29) ∧ Chg U w w' := by
  have hty := h.typ
  obtain ⟨bx, ba, bz, F, G, H, S0, S1, E0', E1', h1, h2, hU, q0, q1, h3⟩ := h.ex
  cases d with
  | false =>
    obtain ⟨h4, rfl, h5⟩ := h3
    refine (hc ba G h1.iy).mono ?_
    rintro e w' ⟨rfl, G', hI, hF, hC⟩
    refine ⟨rfl, E0', E1', fun k => F k ∨ G' k ∨ H k, ⟨⟨_, _, _, F, G', H, S0, S1, h1.sety hI hF hC, h2, h5, h4, fun k => Iff.rfl⟩, q0, q1, fun k hk => ?_, h.chg.trans' hC (fun k hk hu => absurd (h.new k ((hU k).2 (.inr (.inl hu)))) (by omega))⟩, hty, hC.mono (fun k _ hk => (hU k).2 (.inr (.inl hk)))⟩
    rcases hk with hk | hk | hk
    · exact h.new k ((hU k).2 (.inl hk))
    · exact (hF k hk).elim (fun hg => h.new k ((hU k).2 (.inr (.inl hg)))) (fun hs => Nat.le_trans h.chg.size hs)
    · exact h.new k ((hU k).2 (.inr (.inr hk)))
  | true =>
    obtain ⟨h4, rfl, h5⟩ := h3
    refine (hc bz H h1.iz).mono ?_
    rintro e w' ⟨rfl, H', hI, hF, hC⟩
    refine ⟨rfl, E0', E1', fun k => F k ∨ G k ∨ H' k, ⟨⟨_, _, _, F, G, H', S0, S1, h1.setz hI hF hC, h2, h4, h5, fun k => Iff.rfl⟩, q0, q1, fun k hk => ?_, h.chg.trans' hC (fun k hk hu => absurd (h.new k ((hU k).2 (.inr (.inr hu)))) (by omega))⟩, hty, hC.mono (fun k _ hk => (hU k).2 (.inr (.inr hk)))⟩
    rcases hk with hk | hk | hk
    · exact h.new k ((hU k).2 (.inl hk))
    · exact h.new k ((hU k).2 (.inr (.inl hk)))
    · exact (hF k hk).elim (fun hg => h.new k ((hU k).2 (.inr (.inr hg)))) (fun hs => Nat.le_trans h.chg.size hs)
/-- A page's answer to a request of the whole page. -/
def trE (E : Nat → Int × Int) (k : Nat) : List (Int × Int × Int) × Int := if (E k).2 = 0 then ([], 702) else ([((E k).1, 0, 64)], 0)
theorem trE_of {bs : List UInt8} {rt d : Int} {rest : List Int} {S : List Nat} {E : Nat → Int × Int} (h : DT bs rt rest S E) (hr : rootOf PL7 d = rt) (hd : devIn PL7 d) (h3 : P03 E) {k : Nat} (hk : k < 64) : transQ bs PL7 d ((k : Int) * 64) 64 true = trE E k := by
  have := h.trans1 (L := PL7) (d := d) (b := (k : Int) * 64) (n := 64) (wri := true) hr ⟨hd, by omega, by omega, by omega, by omega⟩ (by omega)
  rw [show ((k : Int) * 64 / 64).toNat = k by omega, show ((k : Int) * 64) % 64 = 0 by omega] at this
  rw [this]
  unfold trE
  rcases h3 k with h | h
  · rw [if_pos h, if_pos h]
  · rw [h, if_neg (by decide), if_neg (by decide), if_neg (by decide)]
def TrPost (w0 w : World) (x y z px py pz : Nat) (E0 E1 : Nat → Int × Int) (U : Nat → Prop) (r : List (Int × Int × Int) × Int) (e : Ending) (w' : World) : Prop :=
  ∃ o U', e = .returned (.tuple #[o, .int .i64 r.2]) ∧ (∃ A c, o = .slice A r.1.length c) ∧ PcR w' U' o r.1 ∧ Tw w0 w' x y z px py pz E0 E1 U' ∧ TwN U U' w w'
theorem pcr_mono {w : World} {F U : Nat → Prop} {o : Value} {L : List (Int × Int × Int)} (h : PcR w F o L) (hU : ∀ k, o.ownBlock = some k → ¬ U k) : PcR w U o L := ⟨h.1, fun k hk => ⟨hU k hk, (h.2 k hk).2⟩⟩
theorem Tw.trx (h : Tw w0 w x y z px py pz E0 E1 U) (d : Bool) {k : Nat} (hk : k < 64) :
    Calls Try.prog 14 #[.pointer (some ⟨x, 0, none⟩), .int .i64 (if d then 1 else 0), .int .i64 ((k : Int) * 64), .int .i64 64, .bool true] w (TrPost w0 w x y z px py pz E0 E1 U (trE (if d then E1 else E0) k)) := by
  obtain ⟨bx, ba, bz, F, G, H, S0, S1, h1, h2, h3, h4, hU⟩ := h.ex
  have hm := ioTrans h1.ix (if d then 1 else 0) ((k : Int) * 64) 64 true
  rw [show transQ bx PL7 (if d then 1 else 0) ((k : Int) * 64) 64 true = trE (if d then E1 else E0) k from by cases d; exact trE_of h2.a rfl (by decide) h.p0 hk; exact trE_of h2.b rfl (by decide) h.p1 hk] at hm
  refine hm.mono ?_
  rintro e w' ⟨o, rfl, hO, F', hI, hF, hN, hC⟩
  have hn := tw_n hU hF hC h.typ
  have hq := hn.new h.new h.chg
  refine ⟨o, _, rfl, hO.slice, pcr_mono (io_rowN hO hI hN) (fun j hj hu => ?_), ⟨⟨_, _, _, F', G, H, S0, S1, h1.setx hI hF hC, h2, h3, h4, fun k => Iff.rfl⟩, h.p0, h.p1, hq.1, hq.2⟩, hn⟩
  rcases hu with hu | hu | hu
  · exact hN j hj hu
  · have := h1.iy.lt j hu; have := (own_lt hO hj).1; omega
  · have := h1.iz.lt j hu; have := (own_lt hO hj).1; omega
theorem tw_comm {U F' G H : Nat → Prop} (f : ∀ k, (F' k ∨ G k ∨ H k) ↔ U k) {A : Nat → Prop} (h : TwN A (fun k => F' k ∨ G k ∨ H k) w w') : TwN A U w w' := ⟨fun k hk => h.1 k ((f k).2 hk), h.2⟩
theorem Tw.try_ (h : Tw w0 w x y z px py pz E0 E1 U) {k : Nat} (hk : k < 64) :
    Calls Try.prog 14 #[.pointer (some ⟨y, 0, none⟩), .int .i64 0, .int .i64 ((k : Int) * 64), .int .i64 64, .bool true] w (TrPost w0 w x y z px py pz E0 E1 U (trE E0 k)) := by
  obtain ⟨bx, ba, bz, F, G, H, S0, S1, h1, h2, h3, h4, hU⟩ := h.ex
  have hm := ioTrans h1.iy 0 ((k : Int) * 64) 64 true
  rw [trE_of h3.a rfl (by decide) h.p0 hk] at hm
  refine hm.mono ?_
  rintro e w' ⟨o, rfl, hO, G', hI, hF, hN, hC⟩
  have hn : TwN U (fun k => F k ∨ G' k ∨ H k) w w' := tw_comm (F' := G') (G := F) (H := H) (fun k => ⟨fun h => by rcases h with h | h | h; exact .inr (.inl h); exact .inl h; exact .inr (.inr h), fun h => by rcases h with h | h | h; exact .inr (.inl h); exact .inl h; exact .inr (.inr h)⟩) (tw_n (F := G) (G := F) (H := H) (fun k => (hU k).trans ⟨fun h => by rcases h with h | h | h; exact .inr (.inl h); exact .inl h; exact .inr (.inr h), fun h => by rcases h with h | h | h; exact .inr (.inl h); exact .inl h; exact .inr (.inr h)⟩) hF hC h.typ)
  have hq := hn.new h.new h.chg
  refine ⟨o, _, rfl, hO.slice, pcr_mono (io_rowN hO hI hN) (fun j hj hu => ?_), ⟨⟨_, _, _, F, G', H, S0, S1, h1.sety hI hF hC, h2, h3, h4, fun k => Iff.rfl⟩, h.p0, h.p1, hq.1, hq.2⟩, hn⟩
  rcases hu with hu | hu | hu
  · have := h1.ix.lt j hu; have := (own_lt hO hj).1; omega
  · exact hN j hj hu
  · have := h1.iz.lt j hu; have := (own_lt hO hj).1; omega
theorem Tw.trz (h : Tw w0 w x y z px py pz E0 E1 U) {k : Nat} (hk : k < 64) :
    Calls Try.prog 14 #[.pointer (some ⟨z, 0, none⟩), .int .i64 1, .int .i64 ((k : Int) * 64), .int .i64 64, .bool true] w (TrPost w0 w x y z px py pz E0 E1 U (trE E1 k)) := by
  obtain ⟨bx, ba, bz, F, G, H, S0, S1, h1, h2, h3, h4, hU⟩ := h.ex
  have hm := ioTrans h1.iz 1 ((k : Int) * 64) 64 true
  rw [trE_of h4.b rfl (by decide) h.p1 hk] at hm
  refine hm.mono ?_
  rintro e w' ⟨o, rfl, hO, G', hI, hF, hN, hC⟩
  have hn : TwN U (fun k => F k ∨ G k ∨ G' k) w w' := tw_comm (F' := G') (G := F) (H := G) (fun k => ⟨fun h => by rcases h with h | h | h; exact .inr (.inr h); exact .inl h; exact .inr (.inl h), fun h => by rcases h with h | h | h; exact .inr (.inl h); exact .inr (.inr h); exact .inl h⟩) (tw_n (F := H) (G := F) (H := G) (fun k => (hU k).trans ⟨fun h => by rcases h with h | h | h; exact .inr (.inl h); exact .inr (.inr h); exact .inl h, fun h => by rcases h with h | h | h; exact .inr (.inr h); exact .inl h; exact .inr (.inl h)⟩) hF hC h.typ)
  have hq := hn.new h.new h.chg
  refine ⟨o, _, rfl, hO.slice, pcr_mono (io_rowN hO hI hN) (fun j hj hu => ?_), ⟨⟨_, _, _, F, G, G', S0, S1, h1.setz hI hF hC, h2, h3, h4, fun k => Iff.rfl⟩, h.p0, h.p1, hq.1, hq.2⟩, hn⟩
  rcases hu with hu | hu | hu
  · have := h1.ix.lt j hu; have := (own_lt hO hj).1; omega
  · have := h1.iy.lt j hu; have := (own_lt hO hj).1; omega
  · exact hN j hj hu
end
set_option maxRecDepth 100000 in
set_option maxHeartbeats 8000000 in
theorem iommuApart_main (A : Option Addr) (ca : Nat) (xs : List Int) (w0 : World) (hx : xs.length ≤ 9223372036854775807) (rx : RowC w0 A (xs.flatMap icell)) :
    Calls Try.prog 6 #[.slice A xs.length ca] w0 fun e w' => e = .returned (.bool true) ∧ Chg (fun _ => False) w0 w' := by
  have HRX := Lib.hid rx; clear rx
  go_enter Try.func6, Try.ntmps6
  go_wp2_with fail
  refine (awake7 _).mono ?_
  rintro e w ⟨rfl, hC0⟩
  have HC0 := Lib.hid hC0; clear hC0
  go_wp2_with fail
  refine (set7 w).mono ?_
  rintro e w1 ⟨x, px, bx, F, rfl, hI, hD, hF, hC1⟩
  have HC1 := Lib.hid (HC0.out.trans hC1); have HI1 := Lib.hid hI; have HD1 := Lib.hid hD; have HF1 := Lib.hid (fun k hk => Nat.le_trans HC0.out.size (hF k hk))
  clear hI hD hF hC1 HC0
  go_wp2_with fail
  refine (set7 w1).mono ?_
  rintro e w2 ⟨y, py, ba, G, rfl, hI, hD, hF, hC1⟩
  have HC2 := Lib.hid (HC1.out.trans hC1); have HI2 := Lib.hid hI; have HD2 := Lib.hid hD; have HF2 := Lib.hid hF
  replace HI1 := Lib.hid (And.intro (HI1.out.keepN hC1) HI1.out.lt)
  clear hI hD hF hC1
  go_wp2_with fail
  refine (set7 w2).mono ?_
  rintro e w3 ⟨z, pz, bz, H, rfl, hI, hD, hF, hC1⟩
  have hT : Tw w0 w3 x y z px py pz E00 E00 (fun k => F k ∨ G k ∨ H k) := by
    refine ⟨⟨bx, ba, bz, F, G, H, [], [], ⟨HI1.out.1.keepN hC1, HI2.out.keepN hC1, hI, fun k hk hg => ?_, fun k hk hg => ?_, fun k hk hg => ?_⟩, HD1.out, HD2.out, hD, fun k => Iff.rfl⟩, fun _ => .inl rfl, fun _ => .inl rfl, fun k hk => ?_, HC2.out.trans hC1⟩
    · have := HI1.out.2 k hk; have := HF2.out k hg; omega
    · have := HI1.out.1.lt k hk; have := hF k hg; omega
    · have := HI2.out.lt k hk; have := hF k hg; omega
    · rcases hk with hk | hk | hk
      · exact HF1.out k hk
      · exact Nat.le_trans HC1.out.size (HF2.out k hk)
      · exact Nat.le_trans HC2.out.size (hF k hk)
  have HT := Lib.hid hT
  clear hI hD hF hC1 hT HI1 HI2 HD1 HD2 HC1 HC2 HF1 HF2
  go_wp2_with fail
  go_loopw [9] (fun s wr => ∃ (i : Nat) (E0 E1 : Nat → Int × Int) (U : Nat → Prop), i ≤ min xs.length 40 ∧ s = .int .i64 i ∧ Tw w0 wr x y z px py pz E0 E1 U) (fun s _ => min xs.length 40 - (intOf s).toNat)
  case atStart => exact ⟨0, _, _, _, by omega, rfl, HT.out⟩
  case round =>
    clear HT
    obtain ⟨i, E0, E1, U, hi, rfl, hT⟩ := hrel
    have i0 : (0 : Int) ≤ i := by omega
    go_upto_region 9 with fail
    go_cut [62] (fun s wx => s = .bool (decide (i < xs.length ∧ i < 40)) ∧ wx = wr)
    case first =>
      by_cases h1 : i < xs.length
      · have i1 : (i : Int) < xs.length := by omega
        by_cases h2 : i < 40
        · have i2 : (i : Int) < 40 := by omega
          have EN := Lib.hid (decide_eq_true (show i < xs.length ∧ i < 40 from ⟨h1, h2⟩))
          go_wp2_with fail
          go_meet
          exact ⟨by rw [EN.out], rfl⟩
        · have i2 : decide ((i : Int) < 40) = false := decide_eq_false (by omega)
          have EN := Lib.hid (decide_eq_false (show ¬ (i < xs.length ∧ i < 40) from fun h => h2 h.2))
          go_wp2_with fail
          go_meet
          exact ⟨by rw [EN.out], rfl⟩
      · have i1 : decide ((i : Int) < xs.length) = false := decide_eq_false (by omega)
        have EN := Lib.hid (decide_eq_false (show ¬ (i < xs.length ∧ i < 40) from fun h => h1 h.1))
        go_wp2_with fail
        go_meet
        exact ⟨by rw [EN.out], rfl⟩
    case rest =>
    obtain ⟨rfl, rfl⟩ := hcut
    by_cases hlt : i < xs.length ∧ i < 40
    · rw [decide_eq_true hlt]
      obtain ⟨h1, h2⟩ := hlt
      have i1 : (i : Int) < xs.length := by omega
      have i2 : (i : Int) < 40 := by omega
      have HIM := Lib.hid (show i < min xs.length 40 by omega); clear hi
      obtain ⟨b, o, rfl, c0w⟩ := intAt HRX.out i h1
      have HCW := Lib.hid (fun W (h : Chg (fun _ => False) w0 W) => h.cell c0w id)
      clear c0w
      generalize xs[i] = v at *
      obtain ⟨d, hd⟩ : ∃ d : Bool, v % 2 = if d then 1 else 0 := by
        rcases (show v % 2 = 0 ∨ v % 2 = 1 by omega) with h | h
        · exact ⟨false, h⟩
        · exact ⟨true, h⟩
      obtain ⟨j, hj, hj64⟩ : ∃ j : Nat, v / 2 % 64 = j ∧ j < 64 := ⟨(v / 2 % 64).toNat, by omega, by omega⟩
      have HD := Lib.hid hd; have HJ := Lib.hid hj; have HT := Lib.hid hT
      have c0 := HCW.out _ hT.chg
      clear hd hj hT
      go_wp2_with fail
      go_quiet (fail)
      rename_i nq
      rw [HD.out, HJ.out]
      obtain ⟨wq, hwq⟩ : ∃ W, W = wc.drewN nq := ⟨_, rfl⟩
      rw [← hwq]
      have HTQ : Hid (Tw w0 wq x y z px py pz E0 E1 U) := by rw [hwq]; exact HT.out.keepN ((Chg.refl _ _).drewN nq)
      have HTW := Lib.hid (fun o => HTQ.out.keepN (w' := wq.alloc o) ((Chg.refl _ _).alloc o))
      have HCQ := Lib.hid (fun o => HCW.out _ (HTW.out o).chg)
      clear hwq HT c0
      obtain ⟨sw, hsw, s0, s1⟩ : ∃ s : Int, v / 128 % 8 = s ∧ 0 ≤ s ∧ s ≤ 7 := ⟨_, rfl, by omega, by omega⟩
      have HSW := Lib.hid hsw; clear hsw
      cases d with
      | false =>
        have c0 := HCQ.out (.cells #[.pointer (some ⟨y, 0, none⟩), .pointer (some ⟨z, 0, none⟩)] 25)
        go_upto_region 19 with fail
        rw [HSW.out]
        by_cases e0 : sw = 0
        · have b0 : (sw == 0) = true := by simpa using e0
          clear e0
          go_wp2_with fail
          refine ((HTW.out _).first false (.unmap j) (show j < 256 by omega) (fun bs F h => ioUnmap h _ _)).mono ?_
          rintro e wa ⟨c, U1, rfl, hm, hn⟩
          have HM := Lib.hid hm
          clear hm hn
          go_wp2_with fail
          refine (HM.out.second (fun bs F h => ioUnmap h _ _)).mono ?_
          rintro e wb ⟨rfl, E0b, E1b, U2, hT, _, _⟩
          have HT2 := Lib.hid hT
          clear hT HM
          go_wp2_with ((refine (num16q _ _).mono ?_; rintro e w6 ⟨rfl, rfl⟩))
          go_roundw
          case rel => exact ⟨i + 1, _, _, _, by have := HIM.out; omega, by go_num, HT2.out⟩
          case measure => have := HIM.out; simp [intOf]; omega
        · have b0 : (sw == 0) = false := by simpa using e0
          by_cases e1 : sw = 1
          · have b1 : (sw == 1) = true := by simpa using e1
            clear e0 e1
            by_cases e2 : v / 1024 % 4 = 0
            · have b2 : (v / 1024 % 4 == 0) = true := by simpa using e2
              clear e2
              go_wp2_with fail
              refine ((HTW.out _).first false .clear trivial (fun bs F h => ioClear h _)).mono ?_
              rintro e wa ⟨c, U1, rfl, hm, hn⟩
              have HM := Lib.hid hm
              clear hm hn
              go_wp2_with fail
              refine (HM.out.second (fun bs F h => ioClear h _)).mono ?_
              rintro e wb ⟨rfl, E0b, E1b, U2, hT, _, _⟩
              have HT2 := Lib.hid hT
              clear hT HM
              go_wp2_with ((refine (num16q _ _).mono ?_; rintro e w6 ⟨rfl, rfl⟩))
              go_roundw
              case rel => exact ⟨i + 1, _, _, _, by have := HIM.out; omega, by go_num, HT2.out⟩
              case measure => have := HIM.out; simp [intOf]; omega
            · have b2 : (v / 1024 % 4 == 0) = false := by simpa using e2
              clear e2
              have HT2 := Lib.hid (HTW.out (.cells #[.pointer (some ⟨y, 0, none⟩), .pointer (some ⟨z, 0, none⟩)] 25))
              go_wp2_with fail
              go_roundw
              case rel => exact ⟨i + 1, _, _, _, by have := HIM.out; omega, by go_num, HT2.out⟩
              case measure => have := HIM.out; simp [intOf]; omega
          · have b1 : (sw == 1) = false := by simpa using e1
            clear e0 e1
            obtain ⟨f, hf, f0, f1⟩ : ∃ f : Int, 7 + v / 1024 % 8 = f ∧ 0 ≤ f ∧ f < 16 := ⟨_, rfl, by omega, by omega⟩
            have HFF := Lib.hid hf; clear hf
            go_upto_region 16 with fail
            rw [HFF.out]
            obtain ⟨W1, hW1⟩ : ∃ W, W = wq.alloc (.cells #[.pointer (some ⟨y, 0, none⟩), .pointer (some ⟨z, 0, none⟩)] 25) := ⟨_, rfl⟩
            obtain ⟨gb, hgb⟩ : ∃ g, g = W1.heap.size := ⟨_, rfl⟩
            have hsz : gb = wq.heap.size + 1 := by rw [hgb, hW1]; simp
            obtain ⟨Wg, hWg⟩ : ∃ W, W = W1.alloc (.cells #[.int .i64 f, .int .i64 3] 29) := ⟨_, rfl⟩
            have HGB : Hid (Wg.heap[gb]? = some (.cells #[.int .i64 f, .int .i64 3] 29 (0, 0))) := by rw [hWg, hgb]; exact blk_new _ _
            have HTG : Hid (Tw w0 Wg x y z px py pz E0 E1 U) := by rw [hWg, hW1]; exact (HTW.out _).keepN ((Chg.refl _ _).alloc _)
            rw [← hW1, ← hWg]
            rw [← hsz]
            clear hW1 hgb hsz hWg c0 HTW HCQ HTQ HFF
            refine wp_region_held_drew (S := fun W => W.heap[gb]? = some (.cells #[.int .i64 f, .int .i64 3] 29 (0, 0))) (by kernel_rfl) (HGB.out) (fun hHeld => ?_)
            refine tkH 0 (y := by intro w hSw; have y0 := blk_cell hSw 0; have y1 := blk_cell hSw 1; simp only [List.getElem?_toArray, List.getElem?_cons_succ, List.getElem?_cons_zero] at y0 y1; go_simp; try with_reducible rfl) (h := ?_)
            refine tkH 1 (y := by intro w hSw; have y0 := blk_cell hSw 0; have y1 := blk_cell hSw 1; simp only [List.getElem?_toArray, List.getElem?_cons_succ, List.getElem?_cons_zero] at y0 y1; go_simp; try with_reducible rfl) (h := ?_)
            refine tkH 2 (y := by intro w hSw; have y0 := blk_cell hSw 0; have y1 := blk_cell hSw 1; simp only [List.getElem?_toArray, List.getElem?_cons_succ, List.getElem?_cons_zero] at y0 y1; go_simp; try with_reducible rfl) (h := ?_)
            refine tkH 3 (y := by intro w hSw; have y0 := blk_cell hSw 0; have y1 := blk_cell hSw 1; simp only [List.getElem?_toArray, List.getElem?_cons_succ, List.getElem?_cons_zero] at y0 y1; go_simp; try with_reducible rfl) (h := ?_)
            refine tkH 5 (y := by intro w hSw; have y0 := blk_cell hSw 0; have y1 := blk_cell hSw 1; simp only [List.getElem?_toArray, List.getElem?_cons_succ, List.getElem?_cons_zero] at y0 y1; go_simp; try with_reducible rfl) (h := ?_)
            refine tkH 6 (y := by intro w hSw; have y0 := blk_cell hSw 0; have y1 := blk_cell hSw 1; simp only [List.getElem?_toArray, List.getElem?_cons_succ, List.getElem?_cons_zero] at y0 y1; go_simp; try with_reducible rfl) (h := ?_)
            refine tkH 7 (y := by intro w hSw; have y0 := blk_cell hSw 0; have y1 := blk_cell hSw 1; simp only [List.getElem?_toArray, List.getElem?_cons_succ, List.getElem?_cons_zero] at y0 y1; go_simp; try with_reducible rfl) (h := ?_)
            refine tkH 8 (y := by intro w hSw; have y0 := blk_cell hSw 0; have y1 := blk_cell hSw 1; simp only [List.getElem?_toArray, List.getElem?_cons_succ, List.getElem?_cons_zero] at y0 y1; go_simp; try with_reducible rfl) (h := ?_)
            refine cH 4 (y := fun K hK => ?_)
            go_simp
            (go_at_call 13; refine ((HTG.out.keepN ((Chg.refl _ _).drew)).first false (.map j f) ⟨by omega, f0, f1⟩ (fun bs F h => ioMap h _ _ _ _)).mono ?_; rintro e wa ⟨c, U1, rfl, hm, hn⟩; have HM := Lib.hid hm; have hSa := hn.2.1.at hHeld (fun hu => by obtain ⟨cs, t, e1, e2⟩ := hn.2.2 _ hu; exact blk_unl hHeld e1 e2.symm); clear hm hn)
            refine hK.out _ _ (hSa) (fun hHeld => ?_)
            clear hK K
            try simp only [Act.put, List.setIfInBounds_toArray, List.set_cons_zero, List.set_cons_succ]
            refine cH 9 (y := fun K hK => ?_)
            go_simp
            (go_at_call 13; refine (HM.out.second (fun bs F h => ioMap h _ _ _ _)).mono ?_; rintro e wb ⟨rfl, E0b, E1b, U2, hT, hTy, hCb⟩; have hSb := hCb.at hSa (fun hu => by obtain ⟨cs, t, e1, e2⟩ := hTy _ hu; exact blk_unl hSa e1 e2.symm); have HT2 := Lib.hid hT; clear hT hTy hCb)
            refine hK.out _ _ (hSb) (fun hHeld => ?_)
            clear hK K
            try simp only [Act.put, List.setIfInBounds_toArray, List.set_cons_zero, List.set_cons_succ]
            refine tkH 10 (y := by intro w hSw; have y0 := blk_cell hSw 0; have y1 := blk_cell hSw 1; simp only [List.getElem?_toArray, List.getElem?_cons_succ, List.getElem?_cons_zero] at y0 y1; go_simp; try with_reducible rfl) (h := ?_)
            refine tkH 11 (y := by intro w hSw; have y0 := blk_cell hSw 0; have y1 := blk_cell hSw 1; simp only [List.getElem?_toArray, List.getElem?_cons_succ, List.getElem?_cons_zero] at y0 y1; go_simp; try with_reducible rfl) (h := ?_)
            refine dnH ?_
            go_wp2_with ((refine (num16q _ _).mono ?_; rintro e w6 ⟨rfl, rfl⟩))
            go_roundw
            case rel => exact ⟨i + 1, _, _, _, by have := HIM.out; omega, by go_num, HT2.out⟩
            case measure => have := HIM.out; simp [intOf]; omega
      | true =>
        have c0 := HCQ.out (.cells #[.pointer (some ⟨y, 0, none⟩), .pointer (some ⟨z, 0, none⟩)] 25)
        go_upto_region 19 with fail
        rw [HSW.out]
        by_cases e0 : sw = 0
        · have b0 : (sw == 0) = true := by simpa using e0
          clear e0
          go_wp2_with fail
          refine ((HTW.out _).first true (.unmap j) (show j < 256 by omega) (fun bs F h => ioUnmap h _ _)).mono ?_
          rintro e wa ⟨c, U1, rfl, hm, hn⟩
          have HM := Lib.hid hm
          clear hm hn
          go_wp2_with fail
          refine (HM.out.second (fun bs F h => ioUnmap h _ _)).mono ?_
          rintro e wb ⟨rfl, E0b, E1b, U2, hT, _, _⟩
          have HT2 := Lib.hid hT
          clear hT HM
          go_wp2_with ((refine (num16q _ _).mono ?_; rintro e w6 ⟨rfl, rfl⟩))
          go_roundw
          case rel => exact ⟨i + 1, _, _, _, by have := HIM.out; omega, by go_num, HT2.out⟩
          case measure => have := HIM.out; simp [intOf]; omega
        · have b0 : (sw == 0) = false := by simpa using e0
          by_cases e1 : sw = 1
          · have b1 : (sw == 1) = true := by simpa using e1
            clear e0 e1
            by_cases e2 : v / 1024 % 4 = 0
            · have b2 : (v / 1024 % 4 == 0) = true := by simpa using e2
              clear e2
              go_wp2_with fail
              refine ((HTW.out _).first true .clear trivial (fun bs F h => ioClear h _)).mono ?_
              rintro e wa ⟨c, U1, rfl, hm, hn⟩
              have HM := Lib.hid hm
              clear hm hn
              go_wp2_with fail
              refine (HM.out.second (fun bs F h => ioClear h _)).mono ?_
              rintro e wb ⟨rfl, E0b, E1b, U2, hT, _, _⟩
              have HT2 := Lib.hid hT
              clear hT HM
              go_wp2_with ((refine (num16q _ _).mono ?_; rintro e w6 ⟨rfl, rfl⟩))
              go_roundw
              case rel => exact ⟨i + 1, _, _, _, by have := HIM.out; omega, by go_num, HT2.out⟩
              case measure => have := HIM.out; simp [intOf]; omega
            · have b2 : (v / 1024 % 4 == 0) = false := by simpa using e2
              clear e2
              have HT2 := Lib.hid (HTW.out (.cells #[.pointer (some ⟨y, 0, none⟩), .pointer (some ⟨z, 0, none⟩)] 25))
              go_wp2_with fail
              go_roundw
              case rel => exact ⟨i + 1, _, _, _, by have := HIM.out; omega, by go_num, HT2.out⟩
              case measure => have := HIM.out; simp [intOf]; omega
          · have b1 : (sw == 1) = false := by simpa using e1
            clear e0 e1
            obtain ⟨f, hf, f0, f1⟩ : ∃ f : Int, 7 + v / 1024 % 8 = f ∧ 0 ≤ f ∧ f < 16 := ⟨_, rfl, by omega, by omega⟩
            have HFF := Lib.hid hf; clear hf
            go_upto_region 16 with fail
            rw [HFF.out]
            obtain ⟨W1, hW1⟩ : ∃ W, W = wq.alloc (.cells #[.pointer (some ⟨y, 0, none⟩), .pointer (some ⟨z, 0, none⟩)] 25) := ⟨_, rfl⟩
            obtain ⟨gb, hgb⟩ : ∃ g, g = W1.heap.size := ⟨_, rfl⟩
            have hsz : gb = wq.heap.size + 1 := by rw [hgb, hW1]; simp
            obtain ⟨Wg, hWg⟩ : ∃ W, W = W1.alloc (.cells #[.int .i64 f, .int .i64 3] 29) := ⟨_, rfl⟩
            have HGB : Hid (Wg.heap[gb]? = some (.cells #[.int .i64 f, .int .i64 3] 29 (0, 0))) := by rw [hWg, hgb]; exact blk_new _ _
            have HTG : Hid (Tw w0 Wg x y z px py pz E0 E1 U) := by rw [hWg, hW1]; exact (HTW.out _).keepN ((Chg.refl _ _).alloc _)
            rw [← hW1, ← hWg]
            rw [← hsz]
            clear hW1 hgb hsz hWg c0 HTW HCQ HTQ HFF
            refine wp_region_held_drew (S := fun W => W.heap[gb]? = some (.cells #[.int .i64 f, .int .i64 3] 29 (0, 0))) (by kernel_rfl) (HGB.out) (fun hHeld => ?_)
            refine tkH 0 (y := by intro w hSw; have y0 := blk_cell hSw 0; have y1 := blk_cell hSw 1; simp only [List.getElem?_toArray, List.getElem?_cons_succ, List.getElem?_cons_zero] at y0 y1; go_simp; try with_reducible rfl) (h := ?_)
            refine tkH 1 (y := by intro w hSw; have y0 := blk_cell hSw 0; have y1 := blk_cell hSw 1; simp only [List.getElem?_toArray, List.getElem?_cons_succ, List.getElem?_cons_zero] at y0 y1; go_simp; try with_reducible rfl) (h := ?_)
            refine tkH 2 (y := by intro w hSw; have y0 := blk_cell hSw 0; have y1 := blk_cell hSw 1; simp only [List.getElem?_toArray, List.getElem?_cons_succ, List.getElem?_cons_zero] at y0 y1; go_simp; try with_reducible rfl) (h := ?_)
            refine tkH 3 (y := by intro w hSw; have y0 := blk_cell hSw 0; have y1 := blk_cell hSw 1; simp only [List.getElem?_toArray, List.getElem?_cons_succ, List.getElem?_cons_zero] at y0 y1; go_simp; try with_reducible rfl) (h := ?_)
            refine tkH 5 (y := by intro w hSw; have y0 := blk_cell hSw 0; have y1 := blk_cell hSw 1; simp only [List.getElem?_toArray, List.getElem?_cons_succ, List.getElem?_cons_zero] at y0 y1; go_simp; try with_reducible rfl) (h := ?_)
            refine tkH 6 (y := by intro w hSw; have y0 := blk_cell hSw 0; have y1 := blk_cell hSw 1; simp only [List.getElem?_toArray, List.getElem?_cons_succ, List.getElem?_cons_zero] at y0 y1; go_simp; try with_reducible rfl) (h := ?_)
            refine tkH 7 (y := by intro w hSw; have y0 := blk_cell hSw 0; have y1 := blk_cell hSw 1; simp only [List.getElem?_toArray, List.getElem?_cons_succ, List.getElem?_cons_zero] at y0 y1; go_simp; try with_reducible rfl) (h := ?_)
            refine tkH 8 (y := by intro w hSw; have y0 := blk_cell hSw 0; have y1 := blk_cell hSw 1; simp only [List.getElem?_toArray, List.getElem?_cons_succ, List.getElem?_cons_zero] at y0 y1; go_simp; try with_reducible rfl) (h := ?_)
            refine cH 4 (y := fun K hK => ?_)
            go_simp
            (go_at_call 13; refine ((HTG.out.keepN ((Chg.refl _ _).drew)).first true (.map j f) ⟨by omega, f0, f1⟩ (fun bs F h => ioMap h _ _ _ _)).mono ?_; rintro e wa ⟨c, U1, rfl, hm, hn⟩; have HM := Lib.hid hm; have hSa := hn.2.1.at hHeld (fun hu => by obtain ⟨cs, t, e1, e2⟩ := hn.2.2 _ hu; exact blk_unl hHeld e1 e2.symm); clear hm hn)
            refine hK.out _ _ (hSa) (fun hHeld => ?_)
            clear hK K
            try simp only [Act.put, List.setIfInBounds_toArray, List.set_cons_zero, List.set_cons_succ]
            refine cH 9 (y := fun K hK => ?_)
            go_simp
            (go_at_call 13; refine (HM.out.second (fun bs F h => ioMap h _ _ _ _)).mono ?_; rintro e wb ⟨rfl, E0b, E1b, U2, hT, hTy, hCb⟩; have hSb := hCb.at hSa (fun hu => by obtain ⟨cs, t, e1, e2⟩ := hTy _ hu; exact blk_unl hSa e1 e2.symm); have HT2 := Lib.hid hT; clear hT hTy hCb)
            refine hK.out _ _ (hSb) (fun hHeld => ?_)
            clear hK K
            try simp only [Act.put, List.setIfInBounds_toArray, List.set_cons_zero, List.set_cons_succ]
            refine tkH 10 (y := by intro w hSw; have y0 := blk_cell hSw 0; have y1 := blk_cell hSw 1; simp only [List.getElem?_toArray, List.getElem?_cons_succ, List.getElem?_cons_zero] at y0 y1; go_simp; try with_reducible rfl) (h := ?_)
            refine tkH 11 (y := by intro w hSw; have y0 := blk_cell hSw 0; have y1 := blk_cell hSw 1; simp only [List.getElem?_toArray, List.getElem?_cons_succ, List.getElem?_cons_zero] at y0 y1; go_simp; try with_reducible rfl) (h := ?_)
            refine dnH ?_
            go_wp2_with ((refine (num16q _ _).mono ?_; rintro e w6 ⟨rfl, rfl⟩))
            go_roundw
            case rel => exact ⟨i + 1, _, _, _, by have := HIM.out; omega, by go_num, HT2.out⟩
            case measure => have := HIM.out; simp [intOf]; omega
    · rw [decide_eq_false hlt]
      have HT := Lib.hid hT
      clear hT hlt hi
      go_wp2_with fail
      go_loopw [22] (fun s wr => ∃ (k : Nat) (U : Nat → Prop), k ≤ 64 ∧ s = .int .i64 k ∧ Tw w0 wr x y z px py pz E0 E1 U) (fun s _ => 64 - (intOf s).toNat)
      case atStart => exact ⟨0, _, by omega, rfl, HT.out⟩
      case round =>
        clear HT
        obtain ⟨k, U1, hk, rfl, hT⟩ := hrel
        have k0 : (0 : Int) ≤ k := by omega
        by_cases hlt2 : k < 64
        · have k1 : (k : Int) < 64 := by omega
          rcases hT.p0 k with ha | ha
          · rcases hT.p1 k with hb | hb
            · have e0 : trE E0 k = ([], 702) := by unfold trE; rw [ha]; rfl
              have e1 : trE E1 k = ([], 702) := by unfold trE; rw [hb]; rfl
              have H1 := Lib.hid (hT.trx false hlt2)
              have HS := Lib.hid (fun (W : World) (U : Nat → Prop) (h : Tw w0 W x y z px py pz E0 E1 U) => And.intro (h.try_ hlt2) (And.intro (h.trx true hlt2) (h.trz hlt2)))
              simp only [Bool.false_eq_true, if_false, if_true] at H1 HS
              rw [e0] at H1
              rw [e0, e1] at HS
              clear ha hb hT e0 e1
              generalize (E0 k).1 = fa at *
              generalize (E1 k).1 = fb at *
              go_wp2_with fail
              refine H1.out.mono ?_
              rintro e w4 ⟨o1, U1, rfl, ⟨B1, d1, rfl⟩, hR, hT, _⟩
              have HR1 := Lib.hid hR; have HT1 := Lib.hid hT
              clear hR hT H1
              go_wp2_with fail
              refine (HS.out _ _ HT1.out).1.mono ?_
              rintro e w5 ⟨o2, U2, rfl, ⟨B2, d2, rfl⟩, hR, hT, hn⟩
              have HR1b := Lib.hid (io_row HR1.out hn.1 hn.2.1); have HR2 := Lib.hid hR; have HT2 := Lib.hid hT
              clear hR hT hn HR1 HT1
              go_wp2_with fail
              refine (HS.out _ _ HT2.out).2.1.mono ?_
              rintro e w6 ⟨o3, U3, rfl, ⟨B3, d3, rfl⟩, hR, hT, hn⟩
              have HR1c := Lib.hid (io_row HR1b.out hn.1 hn.2.1); have HR2c := Lib.hid (io_row HR2.out hn.1 hn.2.1); have HR3 := Lib.hid hR; have HT3 := Lib.hid hT
              clear hR hT hn HR1b HR2 HT2
              go_wp2_with fail
              refine (HS.out _ _ HT3.out).2.2.mono ?_
              rintro e w7 ⟨o4, U4, rfl, ⟨B4, d4, rfl⟩, hR, hT, hn⟩
              have HA := Lib.hid (io_row HR1c.out hn.1 hn.2.1).1; have HB := Lib.hid (io_row HR2c.out hn.1 hn.2.1).1; have HC := Lib.hid (io_row HR3.out hn.1 hn.2.1).1; have HDD := Lib.hid hR.1; have HT4 := Lib.hid hT
              clear hR hT hn HR1c HR2c HR3 HT3 HS
              go_wp2_with fail
              refine (samePc _ _ _ _ HA.out HB.out (by simp)).mono ?_
              rintro e w8 ⟨rfl, hC8⟩
              have HC2 := Lib.hid (HC.out.keep hC8 (fun _ _ => id)); have HD2 := Lib.hid (HDD.out.keep hC8 (fun _ _ => id)); have HT5 := Lib.hid (HT4.out.keepN hC8)
              clear hC8 HA HB HC HDD HT4
              go_wp2_with ((refine (num16q _ _).mono ?_; rintro e w6 ⟨rfl, rfl⟩))
              refine (samePc _ _ _ _ HC2.out HD2.out (by simp)).mono ?_
              rintro e w9 ⟨rfl, hC9⟩
              have HT6 := Lib.hid (HT5.out.keepN hC9)
              clear hC9 HC2 HD2 HT5
              go_wp2_with ((refine (num16q _ _).mono ?_; rintro e w6 ⟨rfl, rfl⟩))
              go_roundw
              case rel => exact ⟨k + 1, _, by omega, by go_num, HT6.out⟩
              case measure => simp [intOf]; omega
            · have e0 : trE E0 k = ([], 702) := by unfold trE; rw [ha]; rfl
              have e1 : trE E1 k = ([((E1 k).1, 0, 64)], 0) := by unfold trE; rw [hb]; rfl
              have H1 := Lib.hid (hT.trx false hlt2)
              have HS := Lib.hid (fun (W : World) (U : Nat → Prop) (h : Tw w0 W x y z px py pz E0 E1 U) => And.intro (h.try_ hlt2) (And.intro (h.trx true hlt2) (h.trz hlt2)))
              simp only [Bool.false_eq_true, if_false, if_true] at H1 HS
              rw [e0] at H1
              rw [e0, e1] at HS
              clear ha hb hT e0 e1
              generalize (E0 k).1 = fa at *
              generalize (E1 k).1 = fb at *
              go_wp2_with fail
              refine H1.out.mono ?_
              rintro e w4 ⟨o1, U1, rfl, ⟨B1, d1, rfl⟩, hR, hT, _⟩
              have HR1 := Lib.hid hR; have HT1 := Lib.hid hT
              clear hR hT H1
              go_wp2_with fail
              refine (HS.out _ _ HT1.out).1.mono ?_
              rintro e w5 ⟨o2, U2, rfl, ⟨B2, d2, rfl⟩, hR, hT, hn⟩
              have HR1b := Lib.hid (io_row HR1.out hn.1 hn.2.1); have HR2 := Lib.hid hR; have HT2 := Lib.hid hT
              clear hR hT hn HR1 HT1
              go_wp2_with fail
              refine (HS.out _ _ HT2.out).2.1.mono ?_
              rintro e w6 ⟨o3, U3, rfl, ⟨B3, d3, rfl⟩, hR, hT, hn⟩
              have HR1c := Lib.hid (io_row HR1b.out hn.1 hn.2.1); have HR2c := Lib.hid (io_row HR2.out hn.1 hn.2.1); have HR3 := Lib.hid hR; have HT3 := Lib.hid hT
              clear hR hT hn HR1b HR2 HT2
              go_wp2_with fail
              refine (HS.out _ _ HT3.out).2.2.mono ?_
              rintro e w7 ⟨o4, U4, rfl, ⟨B4, d4, rfl⟩, hR, hT, hn⟩
              have HA := Lib.hid (io_row HR1c.out hn.1 hn.2.1).1; have HB := Lib.hid (io_row HR2c.out hn.1 hn.2.1).1; have HC := Lib.hid (io_row HR3.out hn.1 hn.2.1).1; have HDD := Lib.hid hR.1; have HT4 := Lib.hid hT
              clear hR hT hn HR1c HR2c HR3 HT3 HS
              go_wp2_with fail
              refine (samePc _ _ _ _ HA.out HB.out (by simp)).mono ?_
              rintro e w8 ⟨rfl, hC8⟩
              have HC2 := Lib.hid (HC.out.keep hC8 (fun _ _ => id)); have HD2 := Lib.hid (HDD.out.keep hC8 (fun _ _ => id)); have HT5 := Lib.hid (HT4.out.keepN hC8)
              clear hC8 HA HB HC HDD HT4
              go_wp2_with ((refine (num16q _ _).mono ?_; rintro e w6 ⟨rfl, rfl⟩))
              refine (samePc _ _ _ _ HC2.out HD2.out (by simp)).mono ?_
              rintro e w9 ⟨rfl, hC9⟩
              have HT6 := Lib.hid (HT5.out.keepN hC9)
              clear hC9 HC2 HD2 HT5
              go_wp2_with ((refine (num16q _ _).mono ?_; rintro e w6 ⟨rfl, rfl⟩))
              go_roundw
              case rel => exact ⟨k + 1, _, by omega, by go_num, HT6.out⟩
              case measure => simp [intOf]; omega
          · rcases hT.p1 k with hb | hb
            · have e0 : trE E0 k = ([((E0 k).1, 0, 64)], 0) := by unfold trE; rw [ha]; rfl
              have e1 : trE E1 k = ([], 702) := by unfold trE; rw [hb]; rfl
              have H1 := Lib.hid (hT.trx false hlt2)
              have HS := Lib.hid (fun (W : World) (U : Nat → Prop) (h : Tw w0 W x y z px py pz E0 E1 U) => And.intro (h.try_ hlt2) (And.intro (h.trx true hlt2) (h.trz hlt2)))
              simp only [Bool.false_eq_true, if_false, if_true] at H1 HS
              rw [e0] at H1
              rw [e0, e1] at HS
              clear ha hb hT e0 e1
              generalize (E0 k).1 = fa at *
              generalize (E1 k).1 = fb at *
              go_wp2_with fail
              refine H1.out.mono ?_
              rintro e w4 ⟨o1, U1, rfl, ⟨B1, d1, rfl⟩, hR, hT, _⟩
              have HR1 := Lib.hid hR; have HT1 := Lib.hid hT
              clear hR hT H1
              go_wp2_with fail
              refine (HS.out _ _ HT1.out).1.mono ?_
              rintro e w5 ⟨o2, U2, rfl, ⟨B2, d2, rfl⟩, hR, hT, hn⟩
              have HR1b := Lib.hid (io_row HR1.out hn.1 hn.2.1); have HR2 := Lib.hid hR; have HT2 := Lib.hid hT
              clear hR hT hn HR1 HT1
              go_wp2_with fail
              refine (HS.out _ _ HT2.out).2.1.mono ?_
              rintro e w6 ⟨o3, U3, rfl, ⟨B3, d3, rfl⟩, hR, hT, hn⟩
              have HR1c := Lib.hid (io_row HR1b.out hn.1 hn.2.1); have HR2c := Lib.hid (io_row HR2.out hn.1 hn.2.1); have HR3 := Lib.hid hR; have HT3 := Lib.hid hT
              clear hR hT hn HR1b HR2 HT2
              go_wp2_with fail
              refine (HS.out _ _ HT3.out).2.2.mono ?_
              rintro e w7 ⟨o4, U4, rfl, ⟨B4, d4, rfl⟩, hR, hT, hn⟩
              have HA := Lib.hid (io_row HR1c.out hn.1 hn.2.1).1; have HB := Lib.hid (io_row HR2c.out hn.1 hn.2.1).1; have HC := Lib.hid (io_row HR3.out hn.1 hn.2.1).1; have HDD := Lib.hid hR.1; have HT4 := Lib.hid hT
              clear hR hT hn HR1c HR2c HR3 HT3 HS
              go_wp2_with fail
              refine (samePc _ _ _ _ HA.out HB.out (by simp)).mono ?_
              rintro e w8 ⟨rfl, hC8⟩
              have HC2 := Lib.hid (HC.out.keep hC8 (fun _ _ => id)); have HD2 := Lib.hid (HDD.out.keep hC8 (fun _ _ => id)); have HT5 := Lib.hid (HT4.out.keepN hC8)
              clear hC8 HA HB HC HDD HT4
              go_wp2_with ((refine (num16q _ _).mono ?_; rintro e w6 ⟨rfl, rfl⟩))
              refine (samePc _ _ _ _ HC2.out HD2.out (by simp)).mono ?_
              rintro e w9 ⟨rfl, hC9⟩
              have HT6 := Lib.hid (HT5.out.keepN hC9)
              clear hC9 HC2 HD2 HT5
              go_wp2_with ((refine (num16q _ _).mono ?_; rintro e w6 ⟨rfl, rfl⟩))
              go_roundw
              case rel => exact ⟨k + 1, _, by omega, by go_num, HT6.out⟩
              case measure => simp [intOf]; omega
            · have e0 : trE E0 k = ([((E0 k).1, 0, 64)], 0) := by unfold trE; rw [ha]; rfl
              have e1 : trE E1 k = ([((E1 k).1, 0, 64)], 0) := by unfold trE; rw [hb]; rfl
              have H1 := Lib.hid (hT.trx false hlt2)
              have HS := Lib.hid (fun (W : World) (U : Nat → Prop) (h : Tw w0 W x y z px py pz E0 E1 U) => And.intro (h.try_ hlt2) (And.intro (h.trx true hlt2) (h.trz hlt2)))
              simp only [Bool.false_eq_true, if_false, if_true] at H1 HS
              rw [e0] at H1
              rw [e0, e1] at HS
              clear ha hb hT e0 e1
              generalize (E0 k).1 = fa at *
              generalize (E1 k).1 = fb at *
              go_wp2_with fail
              refine H1.out.mono ?_
              rintro e w4 ⟨o1, U1, rfl, ⟨B1, d1, rfl⟩, hR, hT, _⟩
              have HR1 := Lib.hid hR; have HT1 := Lib.hid hT
              clear hR hT H1
              go_wp2_with fail
              refine (HS.out _ _ HT1.out).1.mono ?_
              rintro e w5 ⟨o2, U2, rfl, ⟨B2, d2, rfl⟩, hR, hT, hn⟩
              have HR1b := Lib.hid (io_row HR1.out hn.1 hn.2.1); have HR2 := Lib.hid hR; have HT2 := Lib.hid hT
              clear hR hT hn HR1 HT1
              go_wp2_with fail
              refine (HS.out _ _ HT2.out).2.1.mono ?_
              rintro e w6 ⟨o3, U3, rfl, ⟨B3, d3, rfl⟩, hR, hT, hn⟩
              have HR1c := Lib.hid (io_row HR1b.out hn.1 hn.2.1); have HR2c := Lib.hid (io_row HR2.out hn.1 hn.2.1); have HR3 := Lib.hid hR; have HT3 := Lib.hid hT
              clear hR hT hn HR1b HR2 HT2
              go_wp2_with fail
              refine (HS.out _ _ HT3.out).2.2.mono ?_
              rintro e w7 ⟨o4, U4, rfl, ⟨B4, d4, rfl⟩, hR, hT, hn⟩
              have HA := Lib.hid (io_row HR1c.out hn.1 hn.2.1).1; have HB := Lib.hid (io_row HR2c.out hn.1 hn.2.1).1; have HC := Lib.hid (io_row HR3.out hn.1 hn.2.1).1; have HDD := Lib.hid hR.1; have HT4 := Lib.hid hT
              clear hR hT hn HR1c HR2c HR3 HT3 HS
              go_wp2_with fail
              refine (samePc _ _ _ _ HA.out HB.out (by simp)).mono ?_
              rintro e w8 ⟨rfl, hC8⟩
              have HC2 := Lib.hid (HC.out.keep hC8 (fun _ _ => id)); have HD2 := Lib.hid (HDD.out.keep hC8 (fun _ _ => id)); have HT5 := Lib.hid (HT4.out.keepN hC8)
              clear hC8 HA HB HC HDD HT4
              go_wp2_with ((refine (num16q _ _).mono ?_; rintro e w6 ⟨rfl, rfl⟩))
              refine (samePc _ _ _ _ HC2.out HD2.out (by simp)).mono ?_
              rintro e w9 ⟨rfl, hC9⟩
              have HT6 := Lib.hid (HT5.out.keepN hC9)
              clear hC9 HC2 HD2 HT5
              go_wp2_with ((refine (num16q _ _).mono ?_; rintro e w6 ⟨rfl, rfl⟩))
              go_roundw
              case rel => exact ⟨k + 1, _, by omega, by go_num, HT6.out⟩
              case measure => simp [intOf]; omega
        · obtain rfl : k = 64 := by omega
          have HC := Lib.hid hT.chg
          clear hT
          go_wp2_with fail
          go_ret
          exact ⟨rfl, HC.out⟩
theorem iommuApart_walk (w : World) (A : Option Addr) (ca : Nat) (xs : List Int) (hmx : xs.length ≤ maxLen) (rx : RowC w A (xs.flatMap icell)) (_hw : ∀ x ∈ xs, True) :
    Calls Try.prog 6 #[.slice A xs.length ca] w fun e w' => e = .returned (.bool true) ∧ Below w.heap.size w w' := by
  unfold maxLen at hmx
  exact (iommuApart_main A ca xs w (by omega) rx).mono fun e w' ⟨h1, h2⟩ => ⟨h1, h2.below (Nat.le_refl _) (fun _ h => h.elim)⟩
end Go.Proofs.Ytnallfehffhaeaa
