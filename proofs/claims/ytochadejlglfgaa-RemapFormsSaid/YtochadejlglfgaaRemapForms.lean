/- The law RemapForms. -/
import Derived.Test.YtochadejlglfgaaRemap6
namespace Go.Proofs.Ytochadejlglfgaa
open Go.RowKit
attribute [local go_sem] i64_and1023

theorem set27_bad (p r n : Nat) (f : Nat → Ent) (d v q : Int) (w : World) (h : TabAt w 101 115 p r n f) (hb : ¬ (inR n d v ∧ 0 ≤ q ∧ q < 4)) :
    Calls Try.prog 27 #[.pointer (some ⟨p, 0, none⟩), .int .i64 d, .int .i64 v, .int .i64 q] w fun e w' => e = .returned (.int .i64 1100) ∧ TabAt w' 101 115 p r n f ∧ Chg (fun k => k = r) w w' := by
  refine (set27 p r n f d v q w h).mono ?_
  rintro e w' ⟨rfl, h1, h2⟩
  have e0 : setC n d v q = 1100 := if_neg hb
  have e1 : setF n d v q f = f := if_neg hb
  rw [e1] at h1
  exact ⟨by rw [e0], h1, h2⟩
theorem clear33_bad (p r n : Nat) (f : Nat → Ent) (d : Int) (w : World) (h : TabAt w 101 115 p r n f) (hb : ¬ (0 ≤ d ∧ d < n)) :
    Calls Try.prog 33 #[.pointer (some ⟨p, 0, none⟩), .int .i64 d] w fun e w' => e = .returned (.int .i64 1100) ∧ TabAt w' 101 115 p r n f ∧ Chg (fun k => k = r) w w' := by
  refine (clear33 p r n f d w h).mono ?_
  rintro e w' ⟨rfl, h1, h2⟩
  have e0 : clearC n d = 1100 := if_neg hb
  have e1 : clearF n d f = f := if_neg hb
  rw [e1] at h1
  exact ⟨by rw [e0], h1, h2⟩

set_option maxRecDepth 100000 in
set_option maxHeartbeats 2000000 in
theorem remapForms_walk (w : World) (which x : Int) :
    Calls Try.prog 7 #[.int .i64 which, .int .i64 x] w fun e w' => e = .returned (.bool true) ∧ Below w.heap.size w w' := by
  suffices hS : Calls Try.prog 7 #[.int .i64 which, .int .i64 x] w fun e w' => e = .returned (.bool true) ∧ Chg (fun _ => False) w w' from hS.mono fun e w' ⟨h1, h2⟩ => ⟨h1, h2.below (Nat.le_refl _) (fun _ h => h.elim)⟩
  obtain ⟨d, hd, hd1, hd2⟩ : ∃ d : Int, 1 + x % 1024 = d ∧ 1 ≤ d ∧ d ≤ 1024 := ⟨1 + x % 1024, rfl, by omega, by omega⟩
  have Hd := Lib.hid hd; clear hd
  go_enter Try.func7, Try.ntmps7
  go_wp2_with fail
  refine (awake26 _).mono ?_
  rintro e w0 ⟨rfl, hC⟩
  go_wp2_with fail
  rw [Hd.out]
  clear Hd
  refine (new24_no _ _ (by omega)).mono ?_
  rintro e w1 ⟨rfl, rfl⟩
  go_wp2_with fail
  refine (new24_no _ _ (by omega)).mono ?_
  rintro e w1 ⟨rfl, rfl⟩
  go_wp2_with fail
  refine (new24_ok 2 w0 (by omega) (by omega)).mono ?_
  rintro e w1 ⟨rfl, h1, _, hC1⟩
  have hB := hC.size
  replace hC := hC.trans hC1
  clear hC1
  generalize w0.heap.size = B at *
  go_wp2_with fail
  refine (num16 _ _).mono ?_
  rintro e w2 ⟨rfl, rfl⟩
  go_wp2_with fail
  refine (set27 _ _ 2 _ 1 2 3 w1 h1).mono ?_
  rintro e w2 ⟨rfl, h2, hD⟩
  replace hC := hC.trans' hD (fun j hj h => by omega)
  clear hD h1
  rw [show setC 2 1 2 3 = 0 from rfl]
  go_wp2_with fail
  all_goals
    refine (set27_bad _ _ 2 _ _ _ _ w2 h2 (by unfold inR; omega)).mono ?_
    rintro e w3 ⟨rfl, h3, hD⟩
    replace hC := hC.trans' hD (fun j hj h => by omega)
    clear hD h2
    go_wp2_with fail
    refine (clear33_bad _ _ 2 _ _ w3 h3 (by omega)).mono ?_
    rintro e w4 ⟨rfl, h4, hD⟩
    replace hC := hC.trans' hD (fun j hj h => by omega)
    clear hD h3
    go_wp2_with fail
    refine (look35c _ _ 2 _ 1 2 w4 h4).mono ?_
    rintro e w5 ⟨rfl, h5, hD⟩
    replace hC := hC.trans hD
    clear hD h4 h5
    rw [show lookP 2 1 2 _ = 3 from rfl, show lookM 2 1 2 _ = false from rfl, show entE 2 1 2 _ = 0 from rfl]
    go_wp2_with ((refine (num16 _ _).mono ?_; rintro e w6 ⟨rfl, rfl⟩))
    go_ret
    exact ⟨rfl, hC⟩

end Go.Proofs.Ytochadejlglfgaa
