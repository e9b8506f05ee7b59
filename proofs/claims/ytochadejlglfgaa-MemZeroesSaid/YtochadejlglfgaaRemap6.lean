/- The check of the remap laws, and the laws themselves. -/
import Derived.Test.YtochadejlglfgaaRemap5
import Derived.Test.YtochadejlglfgaaLog2
namespace Go.Proofs.Ytochadejlglfgaa
open Go.RowKit

theorem look35c (p r n : Nat) (f : Nat → Ent) (d v : Int) (w : World) (h : TabAt w 101 115 p r n f) :
    Calls Try.prog 35 #[.pointer (some ⟨p, 0, none⟩), .int .i64 d, .int .i64 v] w fun e w' => e = .returned (.tuple #[.int .i64 (lookP n d v f), .bool (lookM n d v f), .int .i64 (entE n d v f)]) ∧ TabAt w' 101 115 p r n f ∧ Chg (fun _ => False) w w' := by
  refine (look35 p r n f d v w h).mono ?_
  rintro e w' ⟨rfl, m, rfl⟩
  exact ⟨rfl, h.keep (S := fun _ => False) ((Chg.refl _ _).drewN m) id id, (Chg.refl _ _).drewN m⟩
theorem look36c (p r n : Nat) (f : Nat → Ent) (d v : Int) (w : World) (h : TabAt w 104 112 p r n f) :
    Calls Try.prog 36 #[.pointer (some ⟨p, 0, none⟩), .int .i64 d, .int .i64 v] w fun e w' => e = .returned (.tuple #[.int .i64 (lookP n d v f), .bool (lookM n d v f), .int .i64 (entE n d v f)]) ∧ TabAt w' 104 112 p r n f ∧ Chg (fun _ => False) w w' := by
  refine (look36 p r n f d v w h).mono ?_
  rintro e w' ⟨rfl, hC⟩
  exact ⟨rfl, h.keep hC id id, hC⟩

set_option maxRecDepth 100000 in
set_option maxHeartbeats 1000000 in
theorem awake26 (w : World) : Calls Try.prog 26 #[] w fun e w' => e = .returned (.bool true) ∧ Chg (fun _ => False) w w' := by
  go_enter Try.func26, Try.ntmps26
  go_wp2_with fail
  refine (new24_ok 2 w (by omega) (by omega)).mono ?_
  rintro e w1 ⟨rfl, h1, hs, hC1⟩
  have hlt : w.heap.size < w.heap.size + 1 := by omega
  clear hs
  go_wp2_with fail
  refine (new24_no 5 w1 (by omega)).mono ?_
  rintro e w2 ⟨rfl, rfl⟩
  go_wp2_with fail
  refine (num16 _ _).mono ?_
  rintro e w2 ⟨rfl, rfl⟩
  go_wp2_with fail
  refine (set27 _ _ 2 _ 1 3 2 w1 h1).mono ?_
  rintro e w2 ⟨rfl, h2, hD2⟩
  have hC2 : Chg (fun _ => False) w w2 := hC1.trans' hD2 (fun j hj h => by omega)
  clear h1 hD2 hC1
  rw [show setC 2 1 3 2 = 0 from rfl]
  go_wp2_with fail
  refine (mask31 _ _ 2 _ 1 3 true w2 h2).mono ?_
  rintro e w3 ⟨rfl, h3, hD3⟩
  have hC3 : Chg (fun _ => False) w w3 := hC2.trans' hD3 (fun j hj h => by omega)
  clear h2 hD3 hC2
  rw [show entE 2 1 3 _ = 0 from rfl]
  go_wp2_with fail
  refine (look35c _ _ 2 _ 1 3 w3 h3).mono ?_
  rintro e w4 ⟨rfl, h4, hD4⟩
  have hC4 : Chg (fun _ => False) w w4 := hC3.trans hD4
  clear h3 hC3 hD4
  rw [show lookP 2 1 3 _ = 2 from rfl, show lookM 2 1 3 _ = true from rfl, show entE 2 1 3 _ = 0 from rfl]
  go_wp2_with fail
  refine (mask31 _ _ 2 _ 0 3 true w4 h4).mono ?_
  rintro e w5 ⟨rfl, h5, hD5⟩
  have hC5 : Chg (fun _ => False) w w5 := hC4.trans' hD5 (fun j hj h => by omega)
  clear h4 hD5 hC4
  rw [show entE 2 0 3 _ = 1101 from rfl]
  go_wp2_with fail
  refine (look35c _ _ 2 _ 2 3 w5 h5).mono ?_
  rintro e w6 ⟨rfl, h6, hD6⟩
  have hC6 : Chg (fun _ => False) w w6 := hC5.trans hD6
  clear h5 hC5 hD6
  rw [show lookP 2 2 3 _ = 0 from rfl, show lookM 2 2 3 _ = false from rfl, show entE 2 2 3 _ = 1100 from rfl]
  go_wp2_with fail
  refine (set27 _ _ 2 _ 1 8 2 w6 h6).mono ?_
  rintro e w7 ⟨rfl, h7, hD7⟩
  have hC7 : Chg (fun _ => False) w w7 := hC6.trans' hD7 (fun j hj h => by omega)
  clear h6 hD7 hC6
  rw [show setC 2 1 8 2 = 1100 from rfl]
  go_wp2_with fail
  refine (clear33 _ _ 2 _ 1 w7 h7).mono ?_
  rintro e w8 ⟨rfl, h8, hD8⟩
  have hC8 : Chg (fun _ => False) w w8 := hC7.trans' hD8 (fun j hj h => by omega)
  clear h7 hD8 hC7
  rw [show clearC 2 1 = 0 from rfl]
  go_wp2_with fail
  refine (look35c _ _ 2 _ 1 3 w8 h8).mono ?_
  rintro e w9 ⟨rfl, h9, hD9⟩
  have hC9 : Chg (fun _ => False) w w9 := hC8.trans hD9
  clear h8 hC8 hD9
  rw [show lookP 2 1 3 _ = 0 from rfl, show lookM 2 1 3 _ = false from rfl, show entE 2 1 3 _ = 1101 from rfl]
  go_wp2_with fail
  refine (unset29 _ _ 2 _ 1 3 w9 h9).mono ?_
  rintro e w10 ⟨rfl, h10, hD10⟩
  have hC10 : Chg (fun _ => False) w w10 := hC9.trans' hD10 (fun j hj h => by omega)
  clear h9 hD10 hC9
  rw [show entE 2 1 3 _ = 1101 from rfl]
  go_wp2_with fail
  clear h10
  refine (num16 _ _).mono ?_
  rintro e w11 ⟨rfl, rfl⟩
  go_wp2_with fail
  refine (num16 _ _).mono ?_
  rintro e w11 ⟨rfl, rfl⟩
  go_wp2_with fail
  refine (num16 _ _).mono ?_
  rintro e w11 ⟨rfl, rfl⟩
  go_wp2_with fail
  refine (num16 _ _).mono ?_
  rintro e w11 ⟨rfl, rfl⟩
  go_wp2_with fail
  refine (num16 _ _).mono ?_
  rintro e w11 ⟨rfl, rfl⟩
  go_wp2_with fail
  refine (num16 _ _).mono ?_
  rintro e w11 ⟨rfl, rfl⟩
  go_wp2_with fail
  refine (num16 _ _).mono ?_
  rintro e w11 ⟨rfl, rfl⟩
  go_wp2_with fail
  refine (num16 _ _).mono ?_
  rintro e w11 ⟨rfl, rfl⟩
  go_wp2_with fail
  refine (num16 _ _).mono ?_
  rintro e w11 ⟨rfl, rfl⟩
  go_wp2_with fail
  refine (num16 _ _).mono ?_
  rintro e w11 ⟨rfl, rfl⟩
  go_wp2_with fail
  go_ret
  exact ⟨rfl, hC10⟩

end Go.Proofs.Ytochadejlglfgaa
