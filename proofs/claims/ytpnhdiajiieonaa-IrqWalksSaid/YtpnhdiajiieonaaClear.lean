/- Sets of vectors that wait: Drop, Clear. -/
import Derived.Test.YtpnhdiajiieonaaDrop
set_option linter.unusedSimpArgs false
set_option linter.unusedVariables false
namespace Go.Proofs.Ytpnhdiajiieonaa
open Go.RowKit

def isDev (d : Int) (k : Nat) : Bool := decide ((k : Int) / 8 = d)
def isKey (d v : Int) (k : Nat) : Bool := decide ((k : Int) / 8 = d) && decide ((k : Int) % 8 = v)
def ClearPost (p n : Nat) (d : Int) (S : Nat → Nat → Bool) (F : Nat → Prop) (w : World) (e : Ending) (w' : World) : Prop :=
  e = .returned (.int .i64 (cntTo S (isDev d) n)) ∧ ∃ F', SetsAt w' p n (fun a k => S a k && !isDev d k) F' ∧ FootOf w F F' ∧ Chg F w w'
set_option maxRecDepth 100000 in
theorem pClear (p n : Nat) (d : Int) (S : Nat → Nat → Bool) (F : Nat → Prop) (w : World) (h : SetsAt w p n S F) (hn : n ≤ 4) :
    Calls Try.prog 56 #[.pointer (some ⟨p, 0, none⟩), .int .i64 d] w (ClearPost p n d S F w) := by
  have hs := h.keepF ((Chg.refl _ _).alloc (.cells #[.int .i64 d] 3))
  have hlt := h.lt
  have hdr := clrDrop p n w.heap.size d S F (w.alloc (.cells #[.int .i64 d] 3)) hs hn (blk_cell (blk_new w (.cells #[.int .i64 d] 3)) 0) (fun hf => by have := hlt.2 _ hf; omega)
  have HD := Lib.hid hdr; clear hdr
  clear h hs hlt
  go_enter Try.func56, Try.ntmps56
  go_wp2_with fail
  refine HD.out.mono ?_
  rintro e w1 ⟨rfl, F', h1, h2, h3⟩
  have hf : FootOf w F F' := fun k hk => by
    rcases h2 k hk with h | h
    · exact .inl h
    · exact .inr (by simp at h; omega)
  have H1 := Lib.hid h1; clear h1
  have H2 := Lib.hid hf; clear hf h2
  have H3 := Lib.hid h3; clear h3
  go_wp2_with fail
  go_ret
  exact ⟨rfl, F', H1.out, H2.out, Chg.trans ((Chg.refl _ _).alloc _) H3.out⟩
def DropPost (p n : Nat) (d v : Int) (S : Nat → Nat → Bool) (F : Nat → Prop) (w : World) (e : Ending) (w' : World) : Prop :=
  e = .returned (.tuple #[]) ∧ ∃ F', SetsAt w' p n (fun a k => S a k && !isKey d v k) F' ∧ FootOf w F F' ∧ Chg F w w'
set_option maxRecDepth 100000 in
theorem pDrop (p n : Nat) (d v : Int) (S : Nat → Nat → Bool) (F : Nat → Prop) (w : World) (h : SetsAt w p n S F) (hn : n ≤ 4) :
    Calls Try.prog 116 #[.pointer (some ⟨p, 0, none⟩), .int .i64 d, .int .i64 v] w (DropPost p n d v S F w) := by
  have hs := h.keepF (((Chg.refl _ _).alloc (.cells #[.int .i64 d] 3)).alloc (.cells #[.int .i64 v] 3))
  have hlt := h.lt
  have hdr := drpDrop p n w.heap.size (w.heap.size + 1) d v S F ((w.alloc (.cells #[.int .i64 d] 3)).alloc (.cells #[.int .i64 v] 3)) hs hn (blk_cell (blk_alloc (blk_new w (.cells #[.int .i64 d] 3)) _) 0) (fun hf => by have := hlt.2 _ hf; omega) (blk_cell (blk_new2 w _ (.cells #[.int .i64 v] 3)) 0) (fun hf => by have := hlt.2 _ hf; omega)
  have HD := Lib.hid hdr; clear hdr
  clear h hs hlt
  go_enter Try.func116, Try.ntmps116
  go_wp2_with fail
  refine HD.out.mono ?_
  rintro e w1 ⟨rfl, F', h1, h2, h3⟩
  have hf : FootOf w F F' := fun k hk => by
    rcases h2 k hk with h | h
    · exact .inl h
    · exact .inr (by simp at h; omega)
  have H1 := Lib.hid h1; clear h1
  have H2 := Lib.hid hf; clear hf h2
  have H3 := Lib.hid h3; clear h3
  go_wp2_with fail
  go_end0
  exact ⟨rfl, F', H1.out, H2.out, Chg.trans (((Chg.refl _ _).alloc _).alloc _) H3.out⟩
end Go.Proofs.Ytpnhdiajiieonaa
