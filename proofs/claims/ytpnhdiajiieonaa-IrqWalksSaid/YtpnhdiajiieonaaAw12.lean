/- Chapter 12: sets of a call's own; the law's awake. -/
import Derived.Test.YtpnhdiajiieonaaIrqs
set_option linter.unusedSimpArgs false
set_option linter.unusedVariables false
namespace Go.Proofs.Ytpnhdiajiieonaa
open Go.RowKit

/-- Sets that a call owns. -/
structure PS (w0 W : World) (p n : Nat) (S : Nat → Nat → Bool) (F : Nat → Prop) : Prop where
  at_ : SetsAt W p n S F
  ge : ∀ k, F k → w0.heap.size ≤ k
  chg : Chg (fun _ => False) w0 W
/-- A slice of a call's own that the sets do not reach. -/
structure IsV (W : World) (F : Nat → Prop) (v : Value) (L : List Iq) : Prop where
  rd : RdI W v L
  free : ∀ g, v.ownBlock = some g → ¬ F g ∧ g < W.heap.size
theorem IsV.step {W W' : World} {F F' : Nat → Prop} {v : Value} {L : List Iq} (h : IsV W F v L) (hf : FootOf W F F') (hC : Chg F W W') : IsV W' F' v L :=
  ⟨h.rd.keep hC (fun k hk => (h.free k hk).1), fun g hg => ⟨fun hin => by
    rcases hf g hin with h1 | h1
    · exact (h.free g hg).1 h1
    · have := (h.free g hg).2; omega, Nat.lt_of_lt_of_le (h.free g hg).2 hC.size⟩⟩
theorem IsV.keepN {W W' : World} {F : Nat → Prop} {v : Value} {L : List Iq} (h : IsV W F v L) (hC : Chg (fun _ => False) W W') : IsV W' F v L :=
  ⟨h.rd.keepN hC, fun g hg => ⟨(h.free g hg).1, Nat.lt_of_lt_of_le (h.free g hg).2 hC.size⟩⟩
theorem PS.keepN {w0 W W' : World} {p n : Nat} {S : Nat → Nat → Bool} {F : Nat → Prop} (h : PS w0 W p n S F) (hC : Chg (fun _ => False) W W') : PS w0 W' p n S F := ⟨h.at_.keepF hC, h.ge, h.chg.trans hC⟩
theorem PS.step {w0 W W' : World} {p n : Nat} {S S' : Nat → Nat → Bool} {F F' : Nat → Prop} (h : PS w0 W p n S F) (ha : SetsAt W' p n S' F') (hf : FootOf W F F') (hC : Chg F W W') : PS w0 W' p n S' F' :=
  ⟨ha, fun k hk => by
    rcases hf k hk with h1 | h1
    · exact h.ge k h1
    · have := h.chg.size; omega, h.chg.trans' hC (fun k hk hF => by have := h.ge k hF; omega)⟩
theorem lit_own {W : World} {g : Nat} {L : List Iq} (hb : W.heap[g]? = some (.cells (L.flatMap iqc).toArray 92 (0, 0))) (hn : L.length ≤ 1000000) : OwnC iqc 3 92 W 0 (.slice (some ⟨g, 0, none⟩) L.length L.length) L := by
  have hl : (L.flatMap iqc).length = L.length * 3 := flat_len iqc 3 iqc_len L
  refine ⟨hl, .inr ⟨g, L.length, _, rfl, Nat.zero_le _, hb, Nat.le_refl _, by unfold maxLen; omega, by simpa using hl, ?_⟩⟩
  rw [List.take_of_length_le (by simp only [List.toList_toArray]; omega)]
theorem psRaise {w0 W : World} {p n : Nat} {S : Nat → Nat → Bool} {F : Nat → Prop} (h : PS w0 W p n S F) (hn : n ≤ 4) (part d v : Int) :
    Calls Try.prog 48 #[.pointer (some ⟨p, 0, none⟩), .int .i64 part, .int .i64 d, .int .i64 v] W fun e w' =>
      e = .returned (.tuple #[.bool (raiseB n part d v S), .int .i64 (raiseC n part d v)]) ∧ ∃ F', PS w0 w' p n (raiseS n part d v S) F' ∧ FootOf W F F' ∧ Chg F W w' := by
  refine (pRaise p n part d v S F W h.at_ hn).mono ?_
  rintro e w' ⟨rfl, F', h1, h2, h3⟩
  exact ⟨rfl, F', h.step h1 h2 h3, h2, h3⟩
theorem psTake {w0 W : World} {p n i mb : Nat} {S : Nat → Nat → Bool} {F : Nat → Prop} {mv : Value} {ms : List Iq} (h : PS w0 W p n S F) (hn : n ≤ 4) (hi : i < n) (tick : Int) (hm : OwnC iqc 3 92 W mb mv ms) (hml : ms.length ≤ 9223372036854775807) :
    Calls Try.prog 51 #[.pointer (some ⟨p, 0, none⟩), .int .i64 i, .int .i64 tick, mv] W fun e w' =>
      ∃ v, e = .returned v ∧ ∃ F', PS w0 w' p n (takeS S ms i) F' ∧ IsV w' F' v (takeL S ms i tick) ∧ FootOf W F F' ∧ Chg F W w' := by
  refine (pTake_in p n i mb tick mv ms S F W h.at_ hn hi hm hml).mono ?_
  rintro e w' ⟨v, rfl, ho, F', h1, h2, h3, h4⟩
  exact ⟨v, rfl, F', h.step h1 h2 h4, ⟨RdI.of ho, fun g hg => ⟨h3 g hg, (own_lt ho hg).2⟩⟩, h2, h4⟩
theorem psClear {w0 W : World} {p n : Nat} {S : Nat → Nat → Bool} {F : Nat → Prop} (h : PS w0 W p n S F) (hn : n ≤ 4) (d : Int) :
    Calls Try.prog 56 #[.pointer (some ⟨p, 0, none⟩), .int .i64 d] W fun e w' =>
      e = .returned (.int .i64 (cntTo S (isDev d) n)) ∧ ∃ F', PS w0 w' p n (fun a k => S a k && !isDev d k) F' ∧ FootOf W F F' ∧ Chg F W w' := by
  refine (pClear p n d S F W h.at_ hn).mono ?_
  rintro e w' ⟨rfl, F', h1, h2, h3⟩
  exact ⟨rfl, F', h.step h1 h2 h3, h2, h3⟩
theorem psNew (n : Nat) (w0 W : World) (h1 : 1 ≤ n) (h2 : n ≤ 4) (hC : Chg (fun _ => False) w0 W) : Calls Try.prog 45 #[.int .i64 n] W fun e w' => e = .returned (.tuple #[.pointer (some ⟨W.heap.size + 1, 0, none⟩), .int .i64 0]) ∧
    PS w0 w' (W.heap.size + 1) n (fun _ _ => false) (fun k => k = W.heap.size) ∧ w'.heap.size = W.heap.size + 2 ∧ Chg (fun _ => False) W w' := by
  refine (pNew_ok n W h1 h2).mono ?_
  rintro e w' ⟨rfl, h3, h4, h5⟩
  exact ⟨rfl, ⟨h4, fun k hk => by have := hC.size; omega, hC.trans h5⟩, h3, h5⟩
theorem sameLit (v : Value) (L : List Iq) (W : World) (h : RdI W v L) (hn : L.length ≤ 1000000) :
    Calls Try.prog 52 #[v, .slice (some ⟨W.heap.size, 0, none⟩) L.length L.length] (W.alloc (.cells (L.flatMap iqc).toArray 92)) fun e w' => e = .returned (.bool true) ∧ Chg (fun _ => False) W w' := by
  refine (sameYes v _ L _ (h.keepN ((Chg.refl _ _).alloc _)) (RdI.of (lit_own (blk_new W _) hn)) (Nat.le_trans hn (by decide))).mono ?_
  rintro e w' ⟨rfl, hC⟩
  exact ⟨rfl, Chg.trans ((Chg.refl _ _).alloc _) hC⟩
def aw0 : Nat → Nat → Bool := fun _ _ => false
def aw1 := raiseS 2 1 2 5 aw0
def aw2 := raiseS 2 1 2 5 aw1
def aw3 := raiseS 2 1 0 7 aw2
def aw4 := raiseS 2 1 2 1 aw3
def aw5 := raiseS 2 2 0 0 aw4
def awM : List Iq := [⟨0, 2, 1⟩]
def aw6 := takeS aw5 awM 1
def aw7 := takeS aw6 [] 1
def aw8 := raiseS 2 0 3 3 aw7
def aw9 : Nat → Nat → Bool := fun a k => aw8 a k && !isDev 3 k
theorem aw_facts : raiseB 2 1 2 5 aw0 = true ∧ raiseC 2 1 2 5 = 0 ∧ raiseB 2 1 2 5 aw1 = false ∧ raiseC 2 2 0 0 = 1200 ∧ takeL aw5 awM 1 9 = [⟨9, 0, 7⟩, ⟨9, 2, 5⟩] ∧ takeL aw6 [] 1 10 = [⟨10, 2, 1⟩] ∧ cntTo aw8 (isDev 3) 2 = 1 ∧ takeL aw9 [] 0 1 = [] := by
  refine ⟨by decide, by decide, by decide, by decide, by rfl, by rfl, by decide, by rfl⟩
end Go.Proofs.Ytpnhdiajiieonaa
