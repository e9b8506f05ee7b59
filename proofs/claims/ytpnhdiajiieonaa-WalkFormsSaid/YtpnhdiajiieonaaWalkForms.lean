/- The law WalkForms. -/
import Derived.Test.YtpnhdiajiieonaaLaw5
set_option linter.unusedSimpArgs false
set_option linter.unusedVariables false
namespace Go.Proofs.Ytpnhdiajiieonaa
open Go.RowKit Go.ChangeShapes Go.WideShapes Go.Deep
attribute [local go_sem] i64_and1023
theorem put43_ok (p r : Nat) (bs : List UInt8) (a x : Int) (w : World) (h : MemAt w 141 p r bs) (hl : bs.length ≤ 4096) (hp : putP bs a x) :
    Calls Try.prog 32 #[.pointer (some ⟨p, 0, none⟩), .int .i64 a, .int .i64 x] w fun e w' => e = .returned (.int .i64 0) ∧ MemAt w' 141 p r (putB bs a x) ∧ Chg (fun k => k = r) w w' :=
  (put43 p r bs a x w h hl).mono fun e w' ⟨h1, h2⟩ => ⟨by rw [h1, show putC bs a x = 0 from if_pos hp], h2⟩
set_option maxRecDepth 100000 in
theorem wf4 : walkE (putB (putB (List.replicate (3 * 64) 0) 0 4099) 84 8195) 0 5 = ((0, 0), 502) := by decide +kernel
set_option maxRecDepth 100000 in
theorem wf5 : walkE (putB (putB (List.replicate (3 * 64) 0) 0 12295) 84 8195) 0 5 = ((0, 0), 502) := by decide +kernel
set_option maxRecDepth 100000 in
theorem wf6 : walkE (putB (putB (List.replicate (3 * 64) 0) 0 2) 84 8195) 0 5 = ((0, 0), 502) := by decide +kernel
set_option maxRecDepth 100000 in
theorem wf7 : walkE (putB (putB (List.replicate (3 * 64) 0) 0 4103) 84 12291) 0 5 = ((0, 0), 502) := by decide +kernel
set_option maxRecDepth 100000 in
theorem wf8 : walkE (putB (putB (List.replicate (3 * 64) 0) 0 4103) 84 4096) 0 5 = ((0, 0), 502) := by decide +kernel
set_option maxRecDepth 100000 in
theorem wf9 : walkE (putB (putB (List.replicate (3 * 64) 0) 0 4103) 84 0) 0 5 = ((0, 0), 501) := by decide +kernel

theorem len192 (w l : Int) : (putB (putB (List.replicate (3 * 64) 0) 0 w) 84 l).length = 192 := by rw [putB_len, putB_len, List.length_replicate]
set_option maxRecDepth 100000 in
set_option maxHeartbeats 4000000 in
theorem walkForms_main (w0 : World) (which x : Int) :
    Calls Try.prog 6 #[.int .i64 which, .int .i64 x] w0 fun e w' => e = .returned (.bool true) ∧ Chg (fun _ => False) w0 w' := by
  obtain ⟨d, hd, hd1, hd2⟩ : ∃ d : Int, 1 + x % 1024 = d ∧ 1 ≤ d ∧ d ≤ 1024 := ⟨1 + x % 1024, rfl, by omega, by omega⟩
  have Hd := Lib.hid hd; clear hd
  go_enter Try.func6, Try.ntmps6
  go_wp2_with fail
  refine (awake5 _).mono ?_
  rintro e w ⟨rfl, hC0⟩
  go_wp2_with fail
  rw [Hd.out]
  clear Hd
  refine (mnew37_ok 3 w (by omega) (by omega)).mono ?_
  rintro e w1 ⟨rfl, h1, hs, hC1⟩
  have hB := hC0.size
  have hC := hC0.trans hC1
  clear hC1 hC0 hs
  generalize w.heap.size = B at *
  go_wp2_with fail
  refine (num16 _ _).mono ?_
  rintro e w2 ⟨rfl, rfl⟩
  have hlen : (List.replicate (3 * 64) (0 : UInt8)).length ≤ 4096 := by decide
  have HLn := Lib.hid hlen; clear hlen
  go_wp2_with fail
  all_goals
    refine (put43_ok _ _ _ 0 _ w1 h1 HLn.out (by decide)).mono ?_
    rintro e w2 ⟨rfl, h2, hD⟩
    replace hC := hC.trans' hD (fun j hj h => by omega)
    clear hD h1
    go_wp2_with fail
    refine (put43_ok _ _ _ 84 _ w2 h2 (by rw [putB_len]; exact HLn.out) (by unfold putP wordP mayP; rw [putB_len]; decide)).mono ?_
    rintro e w3 ⟨rfl, h3, hD⟩
    replace hC := hC.trans' hD (fun j hj h => by omega)
    clear hD h2
    go_wp2_with fail
    refine (wWalk _ _ _ _ _ w3 h3 (by rw [len192]; decide)).mono ?_
    rintro e w4 ⟨rfl, hD⟩
    replace hC := hC.trans hD
    first
      | rw [wf4] | rw [wf5] | rw [wf6] | rw [wf7] | rw [wf8] | rw [wf9]
      | rw [walkE_no _ _ _ (by unfold pageP frameP; rw [len192]; omega)]
    clear hD h3
    have HC := Lib.hid hC; clear hC
    go_wp2_with ((refine (num16 _ _).mono ?_; rintro e w6 ⟨rfl, rfl⟩))
    go_ret
    exact ⟨rfl, HC.out.alloc _⟩
theorem walkForms_walk (w : World) (which x : Int) :
    Calls Try.prog 6 #[.int .i64 which, .int .i64 x] w fun e w' => e = .returned (.bool true) ∧ Below w.heap.size w w' :=
  (walkForms_main w which x).mono fun e w' ⟨h1, h2⟩ => ⟨h1, h2.below (Nat.le_refl _) (fun _ h => h.elim)⟩
end Go.Proofs.Ytpnhdiajiieonaa
