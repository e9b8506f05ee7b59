/- The law PendingForms. -/
import Derived.Test.YtpnhdiajiieonaaAwake12
set_option linter.unusedSimpArgs false
set_option linter.unusedVariables false
namespace Go.Proofs.Ytpnhdiajiieonaa
open Go.RowKit Go.ChangeShapes Go.WideShapes Go.Deep
attribute [local go_sem] i64_and1023
theorem raise_bad {n : Nat} {a b c : Int} {S : Nat → Nat → Bool} (h : ¬ raiseP n a b c) : raiseB n a b c S = false ∧ raiseC n a b c = 1200 ∧ raiseS n a b c S = S :=
  ⟨if_neg h, if_neg h, if_neg h⟩
theorem cntRow_zero (S : Nat → Nat → Bool) {P : Nat → Bool} (h : ∀ k, k < 32 → P k = false) (a : Nat) : cntRow S P a = 0 := by
  unfold cntRow
  rw [List.length_eq_zero_iff, List.filter_eq_nil_iff]
  intro k hk
  rw [h k (List.mem_range.1 hk)]; simp
theorem cntTo_zero (S : Nat → Nat → Bool) {P : Nat → Bool} (h : ∀ k, k < 32 → P k = false) : ∀ n, cntTo S P n = 0
  | 0 => rfl
  | n + 1 => by rw [cntTo, cntTo_zero S h n, cntRow_zero S h]
theorem PS.cong {w0 W : World} {p n : Nat} {S S' : Nat → Nat → Bool} {F : Nat → Prop} (h : PS w0 W p n S F) (e : ∀ i k, i < n → k < 32 → S i k = S' i k) : PS w0 W p n S' F := ⟨h.at_.cong e, h.ge, h.chg⟩
theorem noDev {d : Int} (h : 4 ≤ d) : ∀ k, k < 32 → isDev d k = false := fun k hk => by unfold isDev; simp; omega
def pf1 := raiseS 2 0 2 3 aw0
def pf2 := raiseS 2 1 2 3 pf1
def pf3 := raiseS 2 1 1 3 pf2
def pf4 : Nat → Nat → Bool := fun a k => pf3 a k && !isDev 2 k
def pf5 := takeS pf4 [] 0
theorem pf_facts : cntTo pf3 (isDev 2) 2 = 2 ∧ takeL pf4 [] 0 1 = [] ∧ takeL pf5 [] 1 1 = [⟨1, 1, 3⟩] := by
  refine ⟨by decide, by rfl, by rfl⟩
set_option maxRecDepth 100000 in
set_option maxHeartbeats 8000000 in
theorem pendForms_main (w0 : World) (which x : Int) :
    Calls Try.prog 12 #[.int .i64 which, .int .i64 x] w0 fun e w' => e = .returned (.bool true) ∧ Chg (fun _ => False) w0 w' := by
  obtain ⟨d, hd, hd1, hd2⟩ : ∃ d : Int, 1 + x % 1024 = d ∧ 1 ≤ d ∧ d ≤ 1024 := ⟨1 + x % 1024, rfl, by omega, by omega⟩
  have Hd := Lib.hid hd; clear hd
  obtain ⟨n1, t1, t2⟩ := pf_facts
  go_enter Try.func12, Try.ntmps12
  go_wp2_with fail
  refine (awake12 _).mono ?_
  rintro e w ⟨rfl, hC0⟩
  go_wp2_with fail
  rw [Hd.out]
  clear Hd
  refine (pNew_no _ w (by omega)).mono ?_
  rintro e w1 ⟨rfl, rfl⟩
  go_wp2_with fail
  refine (pNew_no _ w (by omega)).mono ?_
  rintro e w1 ⟨rfl, rfl⟩
  go_wp2_with fail
  refine (psNew 2 w0 w (by omega) (by omega) hC0).mono ?_
  rintro e w1 ⟨rfl, P, _, _⟩
  generalize hp : w.heap.size + 1 = p at *
  generalize hF : (fun k => k = w.heap.size) = F at *
  clear hF hp hC0
  change PS w0 w1 p 2 aw0 F at P
  go_wp2_with fail
  refine (num16 0 w1).mono ?_
  rintro e w2 ⟨rfl, rfl⟩
  go_wp2_with fail
  refine (psRaise P (by omega) 0 2 3).mono ?_
  rintro e w2 ⟨rfl, F2, P2, _, _⟩
  change PS w0 w2 p 2 pf1 F2 at P2
  go_wp2_with fail
  refine (psRaise P2 (by omega) 1 2 3).mono ?_
  rintro e w3 ⟨rfl, F3, P3, _, _⟩
  change PS w0 w3 p 2 pf2 F3 at P3
  go_wp2_with fail
  refine (psRaise P3 (by omega) 1 1 3).mono ?_
  rintro e w4 ⟨rfl, F4, P4, _, _⟩
  change PS w0 w4 p 2 pf3 F4 at P4
  clear P P2 P3
  go_wp2_with fail
  all_goals
    refine (pRaise_out p 2 _ _ _ pf3 F4 w4 P4.at_ (by omega) (by unfold raiseP; omega)).mono ?_
    rintro e w5 ⟨rfl, rfl⟩
    go_wp2_with fail
    refine (pTake_out p 2 _ _ _ pf3 F4 w4 P4.at_ (by omega) (by omega)).mono ?_
    rintro e w5 ⟨rfl, rfl⟩
    go_wp2_with fail
    refine (psClear P4 (by omega) _).mono ?_
    rintro e w5 ⟨rfl, F5, P5, _, _⟩
    rw [cntTo_zero pf3 (noDev (by omega)) 2]
    replace P5 := P5.cong (S' := pf3) (fun a k _ hk => by rw [noDev (by omega) k hk]; simp)
    go_wp2_with fail
    refine (psClear P5 (by omega) 2).mono ?_
    rintro e w6 ⟨rfl, F6, P6, _, _⟩
    rw [n1]
    change PS w0 w6 p 2 pf4 F6 at P6
    clear P4 P5
    go_wp2_with fail
    refine (num16 1200 w6).mono ?_
    rintro e w7 ⟨rfl, rfl⟩
    go_wp2_with fail
    refine (num16 1200 w6).mono ?_
    rintro e w7 ⟨rfl, rfl⟩
    go_wp2_with fail
    refine (num16 1200 w6).mono ?_
    rintro e w7 ⟨rfl, rfl⟩
    go_wp2_with fail
    refine (psTake (i := 0) (mb := 0) P6 (by omega) (by omega) 1 (OwnC.nil _ _) (by decide)).mono ?_
    rintro e w7 ⟨va, rfl, F7, P7, V7, _, _⟩
    rw [t1] at V7
    change PS w0 w7 p 2 pf5 F7 at P7
    obtain ⟨⟨A, c, rfl, _⟩, _⟩ := V7
    clear P6
    go_wp2_with fail
    refine (psTake (i := 1) (mb := 0) P7 (by omega) (by omega) 1 (OwnC.nil _ _) (by decide)).mono ?_
    rintro e w8 ⟨vb, rfl, F8, P8, V8, _, _⟩
    rw [t2] at V8
    have hC := P8.chg
    clear P7 P8
    go_wp2_with fail
    refine (sameLit vb [⟨1, 1, 3⟩] w8 V8.rd (by decide)).mono ?_
    rintro e w9 ⟨rfl, k1⟩
    replace hC := hC.trans k1
    clear V8 k1
    go_wp2_with fail
    go_ret
    exact ⟨rfl, hC⟩
theorem pendingForms_walk (w : World) (which x : Int) :
    Calls Try.prog 12 #[.int .i64 which, .int .i64 x] w fun e w' => e = .returned (.bool true) ∧ Below w.heap.size w w' :=
  (pendForms_main w which x).mono fun e w' ⟨h1, h2⟩ => ⟨h1, h2.below (Nat.le_refl _) (fun _ h => h.elim)⟩
end Go.Proofs.Ytpnhdiajiieonaa
