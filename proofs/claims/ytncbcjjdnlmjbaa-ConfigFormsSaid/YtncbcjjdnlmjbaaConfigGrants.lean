/- The law ConfigGrants: the walk. Printed by mkcgrants.py. -/
import Derived.Test.YtncbcjjdnlmjbaaConfigApart
import Derived.Deep.DeepCutAuto
import Derived.IntWalk
set_option linter.unusedSimpArgs false
set_option linter.unusedVariables false
namespace Go.Proofs.Ytncbcjjdnlmjbaa
open Go.RowKit

def cGr (f p : Int) (iw : Bool) : Cf := { cPlain with grants := [⟨f, p, iw⟩] }
def ownB (f p : Int) : Bool := decide (cPlain.own f = p)
theorem may_cGr' : ∀ (f : Fin 7) (p : Fin 3) (iw : Bool), decide (MayP (cGr f.val p.val iw)) = !ownB f.val p.val := by decide +kernel
theorem may_cGr (f p : Int) (iw : Bool) (h0 : 0 ≤ f) (h1 : f < 7) (h2 : 0 ≤ p) (h3 : p < 3) : decide (MayP (cGr f p iw)) = !ownB f p := by
  obtain ⟨a, rfl⟩ := Int.eq_ofNat_of_zero_le h0
  obtain ⟨b, rfl⟩ := Int.eq_ofNat_of_zero_le h2
  exact may_cGr' ⟨a, by omega⟩ ⟨b, by omega⟩ iw
theorem reads_frame (C : Cf) (q g : Int) (iw : Bool) (hm : MayP C) (hq : C.there q) (h0 : 0 ≤ g) (h1 : g < C.frames) : ReadsP C q (g * 64) 64 iw ↔ ReachP C q g iw := by
  constructor
  · intro h
    have := h.2.2.2 0 (by decide)
    rwa [show (g * 64 + ((0 : Nat) : Int)) / 64 = g from by omega] at this
  · intro h
    refine ⟨hm, hq, ⟨by omega, by omega, by omega, by omega, by omega⟩, fun k hk => ?_⟩
    rwa [show (g * 64 + (k : Int)) / 64 = g from by omega]
theorem noG_plain_may : MayP (noG cPlain) := may_noG (by decide +kernel)
theorem no_reach (q g : Int) (iw : Bool) : ReachP (noG cPlain) q g iw ↔ cPlain.own g = q := by
  unfold ReachP noG
  simp [Cf.own]
theorem gr_reach (f p q g : Int) (iw iw' : Bool) : ReachP (cGr f p iw) q g iw' ↔ (cPlain.own g = q ∨ (f = g ∧ p = q ∧ (iw = true ∨ iw' = false))) := by
  unfold ReachP cGr
  simp [Cf.own]
theorem rdg_one {w : World} {g : Nat} {a b : Int} {c : Bool} (h : w.heap[g]? = some (.cells #[.int .i64 a, .int .i64 b, .bool c] 44 (0, 0))) : RdG w (.slice (some ⟨g, 0, none⟩) 1 1) [⟨a, b, c⟩] := by
  refine ⟨by unfold maxLen; simp, _, 1, rfl, fun j hj => ?_⟩
  have hj3 : j = 0 := by simp only [List.length_cons, List.length_nil] at hj; omega
  subst hj3
  exact ⟨_, _, rfl, blk_cell h 0, blk_cell h 1, blk_cell h 2⟩
set_option maxRecDepth 100000 in
set_option maxHeartbeats 8000000 in
theorem configGrants_c (a b : Int) (iw : Bool) (w : World) : Calls Try.prog 7 #[.int .i64 a, .int .i64 b, .bool iw] w fun e w' => e = .returned (.bool true) ∧ Chg (fun _ => False) w w' := by
  go_enter Try.func7, Try.ntmps7
  go_wp2_with fail
  refine (awake21 _).mono ?_
  rintro e w1 ⟨rfl, hC1⟩
  have C1 := Lib.hid hC1; clear hC1
  go_wp2_with fail
  refine (plain21 _).mono ?_
  rintro e w2 ⟨rfl, hp2, k2, s2⟩
  have C2 := Lib.hid (C1.out.trans k2); clear k2 C1
  have HP2 := Lib.hid hp2; clear hp2
  have S2 := Lib.hid s2; clear s2
  generalize hB1 : w1.heap.size = B1 at *
  simp only [cfc, cPlain, sPlain]
  go_wp2_with fail
  refine (plain21 _).mono ?_
  rintro e w3 ⟨rfl, hp3, k3, s3⟩
  have HP2' := Lib.hid (HP2.out.keepN k3); clear HP2
  have C3 := Lib.hid (C2.out.trans k3); clear k3 C2
  have HP3 := Lib.hid hp3; clear hp3
  have S3 := Lib.hid s3; clear s3
  generalize hB2 : w2.heap.size = B2 at *
  simp only [cfc, cPlain, sPlain]
  obtain ⟨f0, f1⟩ := uidx a 7 (by omega) (by omega)
  obtain ⟨p0, p1⟩ := uidx b 3 (by omega) (by omega)
  go_upto_region 6 with fail
  generalize wrap64 ((IntKind.u64.wrap a).tmod 7) = F at *
  generalize wrap64 ((IntKind.u64.wrap b).tmod 3) = P at *
  go_upto_region 8 with fail
  refine wp_abs (fun W => (∀ W', Chg (fun _ => False) W W' → CfP W' w3.heap.size (noG cPlain) ⟨.slice (some ⟨B1 + 4, 0, none⟩) 3 3, .slice (some ⟨B1 + 7, 0, none⟩) 2 2, .slice (some ⟨B1 + 8, 0, none⟩) 3 3, .slice none 0 0⟩ ∧ CfP W' (w3.heap.size + 1) (cGr F P iw) ⟨.slice (some ⟨B2 + 4, 0, none⟩) 3 3, .slice (some ⟨B2 + 7, 0, none⟩) 2 2, .slice (some ⟨B2 + 8, 0, none⟩) 3 3, .slice (some ⟨w3.heap.size + 1 + 1, 0, none⟩) 1 1⟩) ∧ Chg (fun _ => False) w W) ?_ ?_
  · have kA : ∀ o1 o2 o3, Chg (fun _ => False) w3 (((w3.alloc o1).alloc o2).alloc o3) := fun o1 o2 o3 => (((Chg.refl _ _).alloc _).alloc _).alloc _
    refine ⟨fun W' hW => ?_, C3.out.trans (kA _ _ _)⟩
    have hW3 := (kA _ _ _).trans hW
    have q2 := HP2'.out.keepN hW3
    have q3 := HP3.out.keepN hW3
    refine ⟨⟨hW.at ((((Chg.refl (fun _ => False) _).alloc _).alloc _).at (blk_new w3 _) id) id, q2.R.1, q2.R.2.1, q2.R.2.2.1, by unfold maxLen; exact Nat.zero_le _, none, 0, rfl, fun j hj => absurd hj (by simp [noG])⟩, ⟨hW.at (((Chg.refl (fun _ => False) _).alloc _).at (blk_new2 w3 _ _) id) id, q3.R.1, q3.R.2.1, q3.R.2.2.1, rdg_one (hW.at (blk_new3 w3 _ _ _) id)⟩⟩
  rintro W0 ⟨hh, hw0⟩
  have H2 := Lib.hid hh
  have HW0 := Lib.hid hw0
  have HR := Lib.hid (Chg.refl (fun _ => False) W0)
  clear hh hw0 HP2' HP3 C3 S2 S3
  generalize w3.heap.size = Cb at *
  generalize hDb : Cb + 1 = Db at *
  clear hDb
  go_cut [11] (fun s wx => s = .bool (ownB F P) ∧ wx = W0)
  case first =>
    clear H2 HR HW0 hB1 hB2
    by_cases c1 : F < 3
    · have d1 : decide (F < 3) = true := decide_eq_true c1
      have d2 : (F == 3) = false := by simp; omega
      have d3 : (F == 4) = false := by simp; omega
      have d4 : decide (4 < F) = false := decide_eq_false (by omega)
      by_cases c2 : P = 0
      · have EO := Lib.hid (show true = ownB F P by subst c2; have : F = 0 ∨ F = 1 ∨ F = 2 := by omega
                                                    rcases this with rfl | rfl | rfl <;> decide)
        have d5 : (P == 0) = true := by simpa using c2
        clear c1 c2
        go_wp2_with fail
        go_meet
        exact ⟨congrArg Value.bool EO.out, rfl⟩
      · have EO := Lib.hid (show false = ownB F P by have h1 : F = 0 ∨ F = 1 ∨ F = 2 := by omega
                                                     have h2 : P = 1 ∨ P = 2 := by omega
                                                     rcases h1 with rfl | rfl | rfl <;> rcases h2 with rfl | rfl <;> decide)
        have d5 : (P == 0) = false := by simpa using c2
        clear c1 c2
        go_wp2_with fail
        go_meet
        exact ⟨congrArg Value.bool EO.out, rfl⟩
    · have d1 : decide (F < 3) = false := decide_eq_false c1
      by_cases c3 : F = 3 ∨ F = 4
      · have d4 : decide (4 < F) = false := decide_eq_false (by omega)
        by_cases c2 : P = 1
        · have EO := Lib.hid (show true = ownB F P by subst c2; rcases c3 with rfl | rfl <;> decide)
          have d5 : (P == 1) = true := by simpa using c2
          clear c1 c2
          rcases c3 with rfl | rfl <;>
          · go_wp2_with fail
            go_meet
            exact ⟨congrArg Value.bool EO.out, rfl⟩
        · have EO := Lib.hid (show false = ownB F P by have h2 : P = 0 ∨ P = 2 := by omega
                                                       rcases c3 with rfl | rfl <;> rcases h2 with rfl | rfl <;> decide)
          have d5 : (P == 1) = false := by simpa using c2
          clear c1 c2
          rcases c3 with rfl | rfl <;>
          · go_wp2_with fail
            go_meet
            exact ⟨congrArg Value.bool EO.out, rfl⟩
      · have d2 : (F == 3) = false := by simp; omega
        have d3 : (F == 4) = false := by simp; omega
        have d4 : decide (4 < F) = true := decide_eq_true (by omega)
        have h1 : F = 5 ∨ F = 6 := by omega
        by_cases c2 : P = 2
        · have EO := Lib.hid (show true = ownB F P by subst c2; rcases h1 with rfl | rfl <;> decide)
          have d5 : (P == 2) = true := by simpa using c2
          clear c1 c2 c3 h1
          go_wp2_with fail
          go_meet
          exact ⟨congrArg Value.bool EO.out, rfl⟩
        · have EO := Lib.hid (show false = ownB F P by have h2 : P = 0 ∨ P = 1 := by omega
                                                       rcases h1 with rfl | rfl <;> rcases h2 with rfl | rfl <;> decide)
          have d5 : (P == 2) = false := by simpa using c2
          clear c1 c2 c3 h1
          go_wp2_with fail
          go_meet
          exact ⟨congrArg Value.bool EO.out, rfl⟩
  case rest =>
    obtain ⟨rfl, rfl⟩ := hcut
    clear hB1 hB2
    obtain ⟨z0, z1, z2, z3, z4, z5, z6, z7, z8⟩ := (H2.out _ HR.out).2.c9
    have EM := Lib.hid (may_cGr F P iw f0 f1 p0 p1)
    cases ho : ownB F P with
    | true =>
      rw [ho] at EM
      clear ho
      go_wp2_with fail
      refine (cMay (cGr F P iw) _ _ (H2.out _ HR.out).2.2).mono ?_
      rintro e w6 ⟨rfl, k6⟩
      rw [EM.out]
      replace HR := Lib.hid (HR.out.trans k6)
      clear k6 z0 z1 z2 z3 z4 z5 z6 z7 z8
      go_wp2_with fail
      go_ret
      exact ⟨rfl, HW0.out.trans HR.out⟩
    | false =>
      rw [ho] at EM
      have hmd : MayP (cGr F P iw) := of_decide_eq_true EM.out
      have hno : ¬ cPlain.own F = P := of_decide_eq_false ho
      have HMD := Lib.hid hmd
      have HNO := Lib.hid hno
      clear ho hmd hno
      go_wp2_with fail
      refine (cMay (cGr F P iw) _ _ (H2.out _ HR.out).2.2).mono ?_
      rintro e w6 ⟨rfl, k6⟩
      rw [EM.out]
      replace HR := Lib.hid (HR.out.trans k6)
      clear k6 z0 z1 z2 z3 z4 z5 z6 z7 z8
      go_wp2_with fail
      go_loopw [12] (fun s12 wr => ∃ j : Nat, j ≤ 16 ∧ s12 = .int .i64 j ∧ Chg (fun _ => False) wc wr) (fun s12 _ => (16 - intOf s12).toNat)
      case atStart => exact ⟨0, by omega, rfl, HR.out⟩
      case round =>
        clear HR
        obtain ⟨j, hj, rfl, hC⟩ := hrel
        have HR := Lib.hid hC; clear hC
        by_cases hlt : j < 16
        · have j1 : (j : Int) < 16 := by omega
          have j0 : 0 ≤ (j : Int) := by omega
          go_wp2_with fail
          go_loopw [13] (fun s13 wr => ∃ i : Nat, i ≤ 3 ∧ s13 = .int .i64 i ∧ Chg (fun _ => False) wc wr) (fun s13 _ => (3 - intOf s13).toNat)
          case atStart => exact ⟨0, by omega, rfl, HR.out⟩
          case round =>
            clear HR
            obtain ⟨i, hi, rfl, hC⟩ := hrel
            have HR := Lib.hid hC; clear hC
            by_cases hil : i < 3
            · have i1 : (i : Int) < 3 := by omega
              have i0 : 0 ≤ (i : Int) := by omega
              have hRC : ∀ x, decide (ReadsP (noG cPlain) i ((j : Int) * 64) 64 x) = decide (cPlain.own j = i) := fun x => by
                rw [Bool.eq_iff_iff]; simp only [decide_eq_true_eq]
                rw [reads_frame _ _ _ _ noG_plain_may ⟨i0, i1⟩ j0 j1]; exact no_reach _ _ _
              have hRD : ∀ x, decide (ReadsP (cGr F P iw) i ((j : Int) * 64) 64 x) = decide (cPlain.own j = i ∨ (F = j ∧ P = i ∧ (iw = true ∨ x = false))) := fun x => by
                rw [Bool.eq_iff_iff]; simp only [decide_eq_true_eq]
                rw [reads_frame _ _ _ _ HMD.out ⟨i0, i1⟩ j0 j1]; exact gr_reach _ _ _ _ _ _
              by_cases hown : cPlain.own j = i
              · have RC := Lib.hid ((hRC false).trans (decide_eq_true hown))
                have WC := Lib.hid ((hRC true).trans (decide_eq_true hown))
                have RD := Lib.hid ((hRD false).trans (decide_eq_true (.inl hown)))
                have WD := Lib.hid ((hRD true).trans (decide_eq_true (.inl hown)))
                have hne : ¬ ((j : Int) = F ∧ (i : Int) = P) := fun h => HNO.out (by rw [← h.1, ← h.2]; exact hown)
                clear hRC hRD hown
                by_cases hjf : (j : Int) = F
                · have hip : ((i : Int) == P) = false := by simp; exact fun h => hne ⟨hjf, h⟩
                  have hjb : ((j : Int) == F) = true := by simpa using hjf
                  clear hne hjf
                  go_upto_region 20 with fail
                  have hwr : IntKind.i64.wrap ((j : Int) * 64) = (j : Int) * 64 := IntWalk.i64_in _ (by omega)
                  refine wp_region_held_drew (S := fun W => Chg (fun _ => False) wc W) (by kernel_rfl) (HR.out.drew) (fun hHeld => ?_)
                  replace HR : Hid (Chg (fun _ => False) wc _) := hHeld
                  refine wpAnyH_take (i := 0) (oi := ({ dst := some 81, op := Go.Op.load 27 (Go.Operand.tmp 8), type := 27, pos := "more.go:108", after := #[], guard := none } : Oper)) (v := ?_) rfl (by kernel_rfl) (by kernel_rfl) (by kernel_rfl) (fun _ _ _ h => h) (Or.inl ⟨by rfl, ?_⟩) (by assumption) ?_
                  rotate_left
                  · (intro w hSw; (try dsimp only at hSw); obtain ⟨y0, y1, y2, y3, y4, y5, y6, y7, y8⟩ := (H2.out _ hSw).1.c9; obtain ⟨z0, z1, z2, z3, z4, z5, z6, z7, z8⟩ := (H2.out _ hSw).2.c9;  go_simp; try with_reducible rfl)
                  try simp only [Act.put, List.setIfInBounds_toArray, List.set_cons_zero, List.set_cons_succ]
                  refine wpAnyH_take (i := 1) (oi := ({ dst := some 82, op := Go.Op.move (Go.Operand.tmp 13), type := 3, pos := "more.go:108", after := #[], guard := none } : Oper)) (v := ?_) rfl (by kernel_rfl) (by kernel_rfl) (by kernel_rfl) (fun _ _ _ h => h) (Or.inl ⟨by rfl, ?_⟩) (by assumption) ?_
                  rotate_left
                  · (intro w hSw; (try dsimp only at hSw); obtain ⟨y0, y1, y2, y3, y4, y5, y6, y7, y8⟩ := (H2.out _ hSw).1.c9; obtain ⟨z0, z1, z2, z3, z4, z5, z6, z7, z8⟩ := (H2.out _ hSw).2.c9;  go_simp; try with_reducible rfl)
                  try simp only [Act.put, List.setIfInBounds_toArray, List.set_cons_zero, List.set_cons_succ]
                  refine wpAnyH_take (i := 2) (oi := ({ dst := some 83, op := Go.Op.move (Go.Operand.tmp 12), type := 3, pos := "more.go:108", after := #[], guard := none } : Oper)) (v := ?_) rfl (by kernel_rfl) (by kernel_rfl) (by kernel_rfl) (fun _ _ _ h => h) (Or.inl ⟨by rfl, ?_⟩) (by assumption) ?_
                  rotate_left
                  · (intro w hSw; (try dsimp only at hSw); obtain ⟨y0, y1, y2, y3, y4, y5, y6, y7, y8⟩ := (H2.out _ hSw).1.c9; obtain ⟨z0, z1, z2, z3, z4, z5, z6, z7, z8⟩ := (H2.out _ hSw).2.c9;  go_simp; try with_reducible rfl)
                  try simp only [Act.put, List.setIfInBounds_toArray, List.set_cons_zero, List.set_cons_succ]
                  refine wpAnyH_take (i := 3) (oi := ({ dst := some 84, op := Go.Op.binOp Go.BinOp.mul 3 (Go.Operand.tmp 83) (Go.Operand.const (Go.Value.int Go.IntKind.i64 64)) 3, type := 3, pos := "more.go:108", after := #[{ on := 2, ground := Go.Ground.data }], guard := none } : Oper)) (v := ?_) rfl (by kernel_rfl) (by kernel_rfl) (by kernel_rfl) (fun _ _ _ h => h) (Or.inl ⟨by rfl, ?_⟩) (by assumption) ?_
                  rotate_left
                  · (intro w hSw; (try dsimp only at hSw); obtain ⟨y0, y1, y2, y3, y4, y5, y6, y7, y8⟩ := (H2.out _ hSw).1.c9; obtain ⟨z0, z1, z2, z3, z4, z5, z6, z7, z8⟩ := (H2.out _ hSw).2.c9;  go_simp; try with_reducible rfl)
                  try simp only [Act.put, List.setIfInBounds_toArray, List.set_cons_zero, List.set_cons_succ]
                  refine wpAnyH_take (i := 5) (oi := ({ dst := some 86, op := Go.Op.load 27 (Go.Operand.tmp 7), type := 27, pos := "more.go:108", after := #[], guard := none } : Oper)) (v := ?_) rfl (by kernel_rfl) (by kernel_rfl) (by kernel_rfl) (fun _ _ _ h => h) (Or.inl ⟨by rfl, ?_⟩) (by assumption) ?_
                  rotate_left
                  · (intro w hSw; (try dsimp only at hSw); obtain ⟨y0, y1, y2, y3, y4, y5, y6, y7, y8⟩ := (H2.out _ hSw).1.c9; obtain ⟨z0, z1, z2, z3, z4, z5, z6, z7, z8⟩ := (H2.out _ hSw).2.c9;  go_simp; try with_reducible rfl)
                  try simp only [Act.put, List.setIfInBounds_toArray, List.set_cons_zero, List.set_cons_succ]
                  refine wpAnyH_take (i := 6) (oi := ({ dst := some 87, op := Go.Op.move (Go.Operand.tmp 13), type := 3, pos := "more.go:108", after := #[], guard := none } : Oper)) (v := ?_) rfl (by kernel_rfl) (by kernel_rfl) (by kernel_rfl) (fun _ _ _ h => h) (Or.inl ⟨by rfl, ?_⟩) (by assumption) ?_
                  rotate_left
                  · (intro w hSw; (try dsimp only at hSw); obtain ⟨y0, y1, y2, y3, y4, y5, y6, y7, y8⟩ := (H2.out _ hSw).1.c9; obtain ⟨z0, z1, z2, z3, z4, z5, z6, z7, z8⟩ := (H2.out _ hSw).2.c9;  go_simp; try with_reducible rfl)
                  try simp only [Act.put, List.setIfInBounds_toArray, List.set_cons_zero, List.set_cons_succ]
                  refine wpAnyH_take (i := 7) (oi := ({ dst := some 88, op := Go.Op.move (Go.Operand.tmp 12), type := 3, pos := "more.go:108", after := #[], guard := none } : Oper)) (v := ?_) rfl (by kernel_rfl) (by kernel_rfl) (by kernel_rfl) (fun _ _ _ h => h) (Or.inl ⟨by rfl, ?_⟩) (by assumption) ?_
                  rotate_left
                  · (intro w hSw; (try dsimp only at hSw); obtain ⟨y0, y1, y2, y3, y4, y5, y6, y7, y8⟩ := (H2.out _ hSw).1.c9; obtain ⟨z0, z1, z2, z3, z4, z5, z6, z7, z8⟩ := (H2.out _ hSw).2.c9;  go_simp; try with_reducible rfl)
                  try simp only [Act.put, List.setIfInBounds_toArray, List.set_cons_zero, List.set_cons_succ]
                  refine wpAnyH_take (i := 8) (oi := ({ dst := some 89, op := Go.Op.binOp Go.BinOp.mul 3 (Go.Operand.tmp 88) (Go.Operand.const (Go.Value.int Go.IntKind.i64 64)) 3, type := 3, pos := "more.go:108", after := #[{ on := 7, ground := Go.Ground.data }], guard := none } : Oper)) (v := ?_) rfl (by kernel_rfl) (by kernel_rfl) (by kernel_rfl) (fun _ _ _ h => h) (Or.inl ⟨by rfl, ?_⟩) (by assumption) ?_
                  rotate_left
                  · (intro w hSw; (try dsimp only at hSw); obtain ⟨y0, y1, y2, y3, y4, y5, y6, y7, y8⟩ := (H2.out _ hSw).1.c9; obtain ⟨z0, z1, z2, z3, z4, z5, z6, z7, z8⟩ := (H2.out _ hSw).2.c9;  go_simp; try with_reducible rfl)
                  try simp only [Act.put, List.setIfInBounds_toArray, List.set_cons_zero, List.set_cons_succ]
                  refine wpAnyH_ready (rs := [4]) (by kernel_rfl) (List.cons_ne_nil _ _) ?_
                  refine AllReadyH.cons (o := ({ dst := some 85, op := Go.Op.call { callee := Go.Callee.value (Go.Operand.func 25), args := #[Go.Operand.tmp 81, Go.Operand.tmp 82, Go.Operand.tmp 84, Go.Operand.const (Go.Value.int Go.IntKind.i64 64)], argTypes := #[27, 3, 3, 3] }, type := 4, pos := "more.go:108", after := #[{ on := 0, ground := Go.Ground.data }, { on := 1, ground := Go.Ground.data }, { on := 3, ground := Go.Ground.data }], guard := none } : Oper)) rfl (fun K hK => ?_) AllReadyH.nil
                  refine Eq.mpr (if_pos (by rfl)) ?_
                  go_simp
                  (go_at_call 25; refine (cReads i ((j : Int) * 64) 64 (cGr F P iw) _ _ (H2.out _ HR.out).2.2).mono ?_; rintro e w6 ⟨rfl, k6⟩; replace HR := Lib.hid (HR.out.trans k6); clear k6; rw [RD.out])
                  refine hK.out _ _ (HR.out) (fun hHeld => ?_)
                  clear hK K
                  try simp only [Act.put, List.setIfInBounds_toArray, List.set_cons_zero, List.set_cons_succ]
                  refine wpAnyH_ready (rs := [9]) (by kernel_rfl) (List.cons_ne_nil _ _) ?_
                  refine AllReadyH.cons (o := ({ dst := some 90, op := Go.Op.call { callee := Go.Callee.value (Go.Operand.func 25), args := #[Go.Operand.tmp 86, Go.Operand.tmp 87, Go.Operand.tmp 89, Go.Operand.const (Go.Value.int Go.IntKind.i64 64)], argTypes := #[27, 3, 3, 3] }, type := 4, pos := "more.go:108", after := #[{ on := 5, ground := Go.Ground.data }, { on := 6, ground := Go.Ground.data }, { on := 8, ground := Go.Ground.data }, { on := 4, ground := Go.Ground.chain }], guard := none } : Oper)) rfl (fun K hK => ?_) AllReadyH.nil
                  refine Eq.mpr (if_pos (by rfl)) ?_
                  go_simp
                  (go_at_call 25; refine (cReads i ((j : Int) * 64) 64 (noG cPlain) _ _ (H2.out _ HR.out).1.2).mono ?_; rintro e w6 ⟨rfl, k6⟩; replace HR := Lib.hid (HR.out.trans k6); clear k6; rw [RC.out])
                  refine hK.out _ _ (HR.out) (fun hHeld => ?_)
                  clear hK K
                  try simp only [Act.put, List.setIfInBounds_toArray, List.set_cons_zero, List.set_cons_succ]
                  refine wpAnyH_take (i := 10) (oi := ({ dst := some 91, op := Go.Op.move (Go.Operand.tmp 90), type := 4, pos := "more.go:108", after := #[{ on := 9, ground := Go.Ground.data }, { on := 9, ground := Go.Ground.chain }], guard := none } : Oper)) (v := ?_) rfl (by kernel_rfl) (by kernel_rfl) (by kernel_rfl) (fun _ _ _ h => h) (Or.inl ⟨by rfl, ?_⟩) (by assumption) ?_
                  rotate_left
                  · (intro w hSw; (try dsimp only at hSw); obtain ⟨y0, y1, y2, y3, y4, y5, y6, y7, y8⟩ := (H2.out _ hSw).1.c9; obtain ⟨z0, z1, z2, z3, z4, z5, z6, z7, z8⟩ := (H2.out _ hSw).2.c9;  go_simp; try with_reducible rfl)
                  try simp only [Act.put, List.setIfInBounds_toArray, List.set_cons_zero, List.set_cons_succ]
                  refine wpAnyH_take (i := 11) (oi := ({ dst := some 92, op := Go.Op.move (Go.Operand.tmp 14), type := 4, pos := "more.go:108", after := #[{ on := 10, ground := Go.Ground.guard }], guard := some (10, false) } : Oper)) (v := undef) rfl (by kernel_rfl) (by kernel_rfl) (by kernel_rfl) (fun _ _ _ h => h) (Or.inr ⟨by rfl, rfl⟩) (by assumption) ?_
                  try simp only [Act.put, List.setIfInBounds_toArray, List.set_cons_zero, List.set_cons_succ]
                  refine wpAnyH_take (i := 12) (oi := ({ dst := some 93, op := Go.Op.pick (Go.Operand.tmp 91) (Go.Operand.const (Go.Value.bool true)) (Go.Operand.tmp 92), type := 4, pos := "more.go:108", after := #[{ on := 10, ground := Go.Ground.data }, { on := 11, ground := Go.Ground.data }], guard := none } : Oper)) (v := ?_) rfl (by kernel_rfl) (by kernel_rfl) (by kernel_rfl) (fun _ _ _ h => h) (Or.inl ⟨by rfl, ?_⟩) (by assumption) ?_
                  rotate_left
                  · (intro w hSw; (try dsimp only at hSw); obtain ⟨y0, y1, y2, y3, y4, y5, y6, y7, y8⟩ := (H2.out _ hSw).1.c9; obtain ⟨z0, z1, z2, z3, z4, z5, z6, z7, z8⟩ := (H2.out _ hSw).2.c9;  go_simp; try with_reducible rfl)
                  try simp only [Act.put, List.setIfInBounds_toArray, List.set_cons_zero, List.set_cons_succ]
                  refine wpAnyH_take (i := 13) (oi := ({ dst := some 94, op := Go.Op.binOp Go.BinOp.neq 4 (Go.Operand.tmp 85) (Go.Operand.tmp 93) 4, type := 4, pos := "more.go:108", after := #[{ on := 4, ground := Go.Ground.data }, { on := 12, ground := Go.Ground.data }], guard := none } : Oper)) (v := ?_) rfl (by kernel_rfl) (by kernel_rfl) (by kernel_rfl) (fun _ _ _ h => h) (Or.inl ⟨by rfl, ?_⟩) (by assumption) ?_
                  rotate_left
                  · (intro w hSw; (try dsimp only at hSw); obtain ⟨y0, y1, y2, y3, y4, y5, y6, y7, y8⟩ := (H2.out _ hSw).1.c9; obtain ⟨z0, z1, z2, z3, z4, z5, z6, z7, z8⟩ := (H2.out _ hSw).2.c9;  go_simp; try with_reducible rfl)
                  try simp only [Act.put, List.setIfInBounds_toArray, List.set_cons_zero, List.set_cons_succ]
                  refine wpAnyH_take (i := 14) (oi := ({ dst := some 95, op := Go.Op.move (Go.Operand.tmp 94), type := 4, pos := "more.go:108", after := #[{ on := 13, ground := Go.Ground.data }, { on := 10, ground := Go.Ground.chain }], guard := none } : Oper)) (v := ?_) rfl (by kernel_rfl) (by kernel_rfl) (by kernel_rfl) (fun _ _ _ h => h) (Or.inl ⟨by rfl, ?_⟩) (by assumption) ?_
                  rotate_left
                  · (intro w hSw; (try dsimp only at hSw); obtain ⟨y0, y1, y2, y3, y4, y5, y6, y7, y8⟩ := (H2.out _ hSw).1.c9; obtain ⟨z0, z1, z2, z3, z4, z5, z6, z7, z8⟩ := (H2.out _ hSw).2.c9;  go_simp; try with_reducible rfl)
                  try simp only [Act.put, List.setIfInBounds_toArray, List.set_cons_zero, List.set_cons_succ]
                  refine wpAnyH_take (i := 15) (oi := ({ dst := some 96, op := Go.Op.load 27 (Go.Operand.tmp 8), type := 27, pos := "more.go:108", after := #[{ on := 14, ground := Go.Ground.guard }], guard := some (14, false) } : Oper)) (v := ?_) rfl (by kernel_rfl) (by kernel_rfl) (by kernel_rfl) (fun _ _ _ h => h) (Or.inl ⟨by rfl, ?_⟩) (by assumption) ?_
                  rotate_left
                  · (intro w hSw; (try dsimp only at hSw); obtain ⟨y0, y1, y2, y3, y4, y5, y6, y7, y8⟩ := (H2.out _ hSw).1.c9; obtain ⟨z0, z1, z2, z3, z4, z5, z6, z7, z8⟩ := (H2.out _ hSw).2.c9;  go_simp; try with_reducible rfl)
                  try simp only [Act.put, List.setIfInBounds_toArray, List.set_cons_zero, List.set_cons_succ]
                  refine wpAnyH_take (i := 16) (oi := ({ dst := some 97, op := Go.Op.move (Go.Operand.tmp 13), type := 3, pos := "more.go:108", after := #[{ on := 14, ground := Go.Ground.guard }], guard := some (14, false) } : Oper)) (v := ?_) rfl (by kernel_rfl) (by kernel_rfl) (by kernel_rfl) (fun _ _ _ h => h) (Or.inl ⟨by rfl, ?_⟩) (by assumption) ?_
                  rotate_left
                  · (intro w hSw; (try dsimp only at hSw); obtain ⟨y0, y1, y2, y3, y4, y5, y6, y7, y8⟩ := (H2.out _ hSw).1.c9; obtain ⟨z0, z1, z2, z3, z4, z5, z6, z7, z8⟩ := (H2.out _ hSw).2.c9;  go_simp; try with_reducible rfl)
                  try simp only [Act.put, List.setIfInBounds_toArray, List.set_cons_zero, List.set_cons_succ]
                  refine wpAnyH_take (i := 17) (oi := ({ dst := some 98, op := Go.Op.move (Go.Operand.tmp 12), type := 3, pos := "more.go:108", after := #[{ on := 14, ground := Go.Ground.guard }], guard := some (14, false) } : Oper)) (v := ?_) rfl (by kernel_rfl) (by kernel_rfl) (by kernel_rfl) (fun _ _ _ h => h) (Or.inl ⟨by rfl, ?_⟩) (by assumption) ?_
                  rotate_left
                  · (intro w hSw; (try dsimp only at hSw); obtain ⟨y0, y1, y2, y3, y4, y5, y6, y7, y8⟩ := (H2.out _ hSw).1.c9; obtain ⟨z0, z1, z2, z3, z4, z5, z6, z7, z8⟩ := (H2.out _ hSw).2.c9;  go_simp; try with_reducible rfl)
                  try simp only [Act.put, List.setIfInBounds_toArray, List.set_cons_zero, List.set_cons_succ]
                  refine wpAnyH_take (i := 18) (oi := ({ dst := some 99, op := Go.Op.binOp Go.BinOp.mul 3 (Go.Operand.tmp 98) (Go.Operand.const (Go.Value.int Go.IntKind.i64 64)) 3, type := 3, pos := "more.go:108", after := #[{ on := 17, ground := Go.Ground.data }, { on := 14, ground := Go.Ground.guard }], guard := some (14, false) } : Oper)) (v := ?_) rfl (by kernel_rfl) (by kernel_rfl) (by kernel_rfl) (fun _ _ _ h => h) (Or.inl ⟨by rfl, ?_⟩) (by assumption) ?_
                  rotate_left
                  · (intro w hSw; (try dsimp only at hSw); obtain ⟨y0, y1, y2, y3, y4, y5, y6, y7, y8⟩ := (H2.out _ hSw).1.c9; obtain ⟨z0, z1, z2, z3, z4, z5, z6, z7, z8⟩ := (H2.out _ hSw).2.c9;  go_simp; try with_reducible rfl)
                  try simp only [Act.put, List.setIfInBounds_toArray, List.set_cons_zero, List.set_cons_succ]
                  refine wpAnyH_take (i := 20) (oi := ({ dst := some 101, op := Go.Op.load 27 (Go.Operand.tmp 7), type := 27, pos := "more.go:108", after := #[{ on := 14, ground := Go.Ground.guard }], guard := some (14, false) } : Oper)) (v := ?_) rfl (by kernel_rfl) (by kernel_rfl) (by kernel_rfl) (fun _ _ _ h => h) (Or.inl ⟨by rfl, ?_⟩) (by assumption) ?_
                  rotate_left
                  · (intro w hSw; (try dsimp only at hSw); obtain ⟨y0, y1, y2, y3, y4, y5, y6, y7, y8⟩ := (H2.out _ hSw).1.c9; obtain ⟨z0, z1, z2, z3, z4, z5, z6, z7, z8⟩ := (H2.out _ hSw).2.c9;  go_simp; try with_reducible rfl)
                  try simp only [Act.put, List.setIfInBounds_toArray, List.set_cons_zero, List.set_cons_succ]
                  refine wpAnyH_take (i := 21) (oi := ({ dst := some 102, op := Go.Op.move (Go.Operand.tmp 13), type := 3, pos := "more.go:108", after := #[{ on := 14, ground := Go.Ground.guard }], guard := some (14, false) } : Oper)) (v := ?_) rfl (by kernel_rfl) (by kernel_rfl) (by kernel_rfl) (fun _ _ _ h => h) (Or.inl ⟨by rfl, ?_⟩) (by assumption) ?_
                  rotate_left
                  · (intro w hSw; (try dsimp only at hSw); obtain ⟨y0, y1, y2, y3, y4, y5, y6, y7, y8⟩ := (H2.out _ hSw).1.c9; obtain ⟨z0, z1, z2, z3, z4, z5, z6, z7, z8⟩ := (H2.out _ hSw).2.c9;  go_simp; try with_reducible rfl)
                  try simp only [Act.put, List.setIfInBounds_toArray, List.set_cons_zero, List.set_cons_succ]
                  refine wpAnyH_take (i := 22) (oi := ({ dst := some 103, op := Go.Op.move (Go.Operand.tmp 12), type := 3, pos := "more.go:108", after := #[{ on := 14, ground := Go.Ground.guard }], guard := some (14, false) } : Oper)) (v := ?_) rfl (by kernel_rfl) (by kernel_rfl) (by kernel_rfl) (fun _ _ _ h => h) (Or.inl ⟨by rfl, ?_⟩) (by assumption) ?_
                  rotate_left
                  · (intro w hSw; (try dsimp only at hSw); obtain ⟨y0, y1, y2, y3, y4, y5, y6, y7, y8⟩ := (H2.out _ hSw).1.c9; obtain ⟨z0, z1, z2, z3, z4, z5, z6, z7, z8⟩ := (H2.out _ hSw).2.c9;  go_simp; try with_reducible rfl)
                  try simp only [Act.put, List.setIfInBounds_toArray, List.set_cons_zero, List.set_cons_succ]
                  refine wpAnyH_take (i := 23) (oi := ({ dst := some 104, op := Go.Op.binOp Go.BinOp.mul 3 (Go.Operand.tmp 103) (Go.Operand.const (Go.Value.int Go.IntKind.i64 64)) 3, type := 3, pos := "more.go:108", after := #[{ on := 22, ground := Go.Ground.data }, { on := 14, ground := Go.Ground.guard }], guard := some (14, false) } : Oper)) (v := ?_) rfl (by kernel_rfl) (by kernel_rfl) (by kernel_rfl) (fun _ _ _ h => h) (Or.inl ⟨by rfl, ?_⟩) (by assumption) ?_
                  rotate_left
                  · (intro w hSw; (try dsimp only at hSw); obtain ⟨y0, y1, y2, y3, y4, y5, y6, y7, y8⟩ := (H2.out _ hSw).1.c9; obtain ⟨z0, z1, z2, z3, z4, z5, z6, z7, z8⟩ := (H2.out _ hSw).2.c9;  go_simp; try with_reducible rfl)
                  try simp only [Act.put, List.setIfInBounds_toArray, List.set_cons_zero, List.set_cons_succ]
                  refine wpAnyH_ready (rs := [19]) (by kernel_rfl) (List.cons_ne_nil _ _) ?_
                  refine AllReadyH.cons (o := ({ dst := some 100, op := Go.Op.call { callee := Go.Callee.value (Go.Operand.func 27), args := #[Go.Operand.tmp 96, Go.Operand.tmp 97, Go.Operand.tmp 99, Go.Operand.const (Go.Value.int Go.IntKind.i64 64)], argTypes := #[27, 3, 3, 3] }, type := 4, pos := "more.go:108", after := #[{ on := 15, ground := Go.Ground.data }, { on := 16, ground := Go.Ground.data }, { on := 18, ground := Go.Ground.data }, { on := 14, ground := Go.Ground.chain }, { on := 14, ground := Go.Ground.guard }], guard := some (14, false) } : Oper)) rfl (fun K hK => ?_) AllReadyH.nil
                  refine Eq.mpr (if_pos (by rfl)) ?_
                  go_simp
                  (go_at_call 27; refine (cWrites i ((j : Int) * 64) 64 (cGr F P iw) _ _ (H2.out _ HR.out).2.2).mono ?_; rintro e w6 ⟨rfl, k6⟩; replace HR := Lib.hid (HR.out.trans k6); clear k6; rw [WD.out])
                  refine hK.out _ _ (HR.out) (fun hHeld => ?_)
                  clear hK K
                  try simp only [Act.put, List.setIfInBounds_toArray, List.set_cons_zero, List.set_cons_succ]
                  refine wpAnyH_ready (rs := [24]) (by kernel_rfl) (List.cons_ne_nil _ _) ?_
                  refine AllReadyH.cons (o := ({ dst := some 105, op := Go.Op.call { callee := Go.Callee.value (Go.Operand.func 27), args := #[Go.Operand.tmp 101, Go.Operand.tmp 102, Go.Operand.tmp 104, Go.Operand.const (Go.Value.int Go.IntKind.i64 64)], argTypes := #[27, 3, 3, 3] }, type := 4, pos := "more.go:108", after := #[{ on := 20, ground := Go.Ground.data }, { on := 21, ground := Go.Ground.data }, { on := 23, ground := Go.Ground.data }, { on := 19, ground := Go.Ground.chain }, { on := 14, ground := Go.Ground.guard }], guard := some (14, false) } : Oper)) rfl (fun K hK => ?_) AllReadyH.nil
                  refine Eq.mpr (if_pos (by rfl)) ?_
                  go_simp
                  (go_at_call 27; refine (cWrites i ((j : Int) * 64) 64 (noG cPlain) _ _ (H2.out _ HR.out).1.2).mono ?_; rintro e w6 ⟨rfl, k6⟩; replace HR := Lib.hid (HR.out.trans k6); clear k6; rw [WC.out])
                  refine hK.out _ _ (HR.out) (fun hHeld => ?_)
                  clear hK K
                  try simp only [Act.put, List.setIfInBounds_toArray, List.set_cons_zero, List.set_cons_succ]
                  refine wpAnyH_take (i := 25) (oi := ({ dst := some 106, op := Go.Op.move (Go.Operand.tmp 105), type := 4, pos := "more.go:108", after := #[{ on := 24, ground := Go.Ground.data }, { on := 24, ground := Go.Ground.chain }, { on := 14, ground := Go.Ground.guard }], guard := some (14, false) } : Oper)) (v := ?_) rfl (by kernel_rfl) (by kernel_rfl) (by kernel_rfl) (fun _ _ _ h => h) (Or.inl ⟨by rfl, ?_⟩) (by assumption) ?_
                  rotate_left
                  · (intro w hSw; (try dsimp only at hSw); obtain ⟨y0, y1, y2, y3, y4, y5, y6, y7, y8⟩ := (H2.out _ hSw).1.c9; obtain ⟨z0, z1, z2, z3, z4, z5, z6, z7, z8⟩ := (H2.out _ hSw).2.c9;  go_simp; try with_reducible rfl)
                  try simp only [Act.put, List.setIfInBounds_toArray, List.set_cons_zero, List.set_cons_succ]
                  refine wpAnyH_take (i := 26) (oi := ({ dst := some 107, op := Go.Op.move (Go.Operand.tmp 14), type := 4, pos := "more.go:108", after := #[{ on := 25, ground := Go.Ground.guard }], guard := some (25, false) } : Oper)) (v := undef) rfl (by kernel_rfl) (by kernel_rfl) (by kernel_rfl) (fun _ _ _ h => h) (Or.inr ⟨by rfl, rfl⟩) (by assumption) ?_
                  try simp only [Act.put, List.setIfInBounds_toArray, List.set_cons_zero, List.set_cons_succ]
                  refine wpAnyH_take (i := 27) (oi := ({ dst := some 108, op := Go.Op.move (Go.Operand.tmp 107), type := 4, pos := "more.go:108", after := #[{ on := 26, ground := Go.Ground.data }, { on := 25, ground := Go.Ground.chain }, { on := 25, ground := Go.Ground.guard }], guard := some (25, false) } : Oper)) (v := undef) rfl (by kernel_rfl) (by kernel_rfl) (by kernel_rfl) (fun _ _ _ h => h) (Or.inr ⟨by rfl, rfl⟩) (by assumption) ?_
                  try simp only [Act.put, List.setIfInBounds_toArray, List.set_cons_zero, List.set_cons_succ]
                  refine wpAnyH_take (i := 28) (oi := ({ dst := some 109, op := Go.Op.move (Go.Operand.tmp 2), type := 4, pos := "more.go:108", after := #[{ on := 27, ground := Go.Ground.guard }], guard := some (27, true) } : Oper)) (v := undef) rfl (by kernel_rfl) (by kernel_rfl) (by kernel_rfl) (fun _ _ _ h => h) (Or.inr ⟨by rfl, rfl⟩) (by assumption) ?_
                  try simp only [Act.put, List.setIfInBounds_toArray, List.set_cons_zero, List.set_cons_succ]
                  refine wpAnyH_take (i := 29) (oi := ({ dst := some 110, op := Go.Op.pick (Go.Operand.tmp 108) (Go.Operand.tmp 109) (Go.Operand.const (Go.Value.bool false)), type := 4, pos := "more.go:108", after := #[{ on := 27, ground := Go.Ground.data }, { on := 28, ground := Go.Ground.data }, { on := 25, ground := Go.Ground.guard }], guard := some (25, false) } : Oper)) (v := undef) rfl (by kernel_rfl) (by kernel_rfl) (by kernel_rfl) (fun _ _ _ h => h) (Or.inr ⟨by rfl, rfl⟩) (by assumption) ?_
                  try simp only [Act.put, List.setIfInBounds_toArray, List.set_cons_zero, List.set_cons_succ]
                  refine wpAnyH_take (i := 30) (oi := ({ dst := some 111, op := Go.Op.pick (Go.Operand.tmp 106) (Go.Operand.const (Go.Value.bool true)) (Go.Operand.tmp 110), type := 4, pos := "more.go:108", after := #[{ on := 25, ground := Go.Ground.data }, { on := 29, ground := Go.Ground.data }, { on := 14, ground := Go.Ground.guard }], guard := some (14, false) } : Oper)) (v := ?_) rfl (by kernel_rfl) (by kernel_rfl) (by kernel_rfl) (fun _ _ _ h => h) (Or.inl ⟨by rfl, ?_⟩) (by assumption) ?_
                  rotate_left
                  · (intro w hSw; (try dsimp only at hSw); obtain ⟨y0, y1, y2, y3, y4, y5, y6, y7, y8⟩ := (H2.out _ hSw).1.c9; obtain ⟨z0, z1, z2, z3, z4, z5, z6, z7, z8⟩ := (H2.out _ hSw).2.c9;  go_simp; try with_reducible rfl)
                  try simp only [Act.put, List.setIfInBounds_toArray, List.set_cons_zero, List.set_cons_succ]
                  refine wpAnyH_take (i := 31) (oi := ({ dst := some 112, op := Go.Op.binOp Go.BinOp.neq 4 (Go.Operand.tmp 100) (Go.Operand.tmp 111) 4, type := 4, pos := "more.go:108", after := #[{ on := 19, ground := Go.Ground.data }, { on := 30, ground := Go.Ground.data }, { on := 14, ground := Go.Ground.guard }], guard := some (14, false) } : Oper)) (v := ?_) rfl (by kernel_rfl) (by kernel_rfl) (by kernel_rfl) (fun _ _ _ h => h) (Or.inl ⟨by rfl, ?_⟩) (by assumption) ?_
                  rotate_left
                  · (intro w hSw; (try dsimp only at hSw); obtain ⟨y0, y1, y2, y3, y4, y5, y6, y7, y8⟩ := (H2.out _ hSw).1.c9; obtain ⟨z0, z1, z2, z3, z4, z5, z6, z7, z8⟩ := (H2.out _ hSw).2.c9;  go_simp; try with_reducible rfl)
                  try simp only [Act.put, List.setIfInBounds_toArray, List.set_cons_zero, List.set_cons_succ]
                  refine wpAnyH_take (i := 32) (oi := ({ dst := some 113, op := Go.Op.pick (Go.Operand.tmp 95) (Go.Operand.const (Go.Value.bool true)) (Go.Operand.tmp 112), type := 4, pos := "more.go:108", after := #[{ on := 14, ground := Go.Ground.data }, { on := 31, ground := Go.Ground.data }], guard := none } : Oper)) (v := ?_) rfl (by kernel_rfl) (by kernel_rfl) (by kernel_rfl) (fun _ _ _ h => h) (Or.inl ⟨by rfl, ?_⟩) (by assumption) ?_
                  rotate_left
                  · (intro w hSw; (try dsimp only at hSw); obtain ⟨y0, y1, y2, y3, y4, y5, y6, y7, y8⟩ := (H2.out _ hSw).1.c9; obtain ⟨z0, z1, z2, z3, z4, z5, z6, z7, z8⟩ := (H2.out _ hSw).2.c9;  go_simp; try with_reducible rfl)
                  try simp only [Act.put, List.setIfInBounds_toArray, List.set_cons_zero, List.set_cons_succ]
                  refine wpAnyH_done (by kernel_rfl) ?_ _
                  clear hwr
                  go_wp2_with fail
                  go_roundw
                  case rel => exact ⟨i + 1, by omega, by go_num, HR.out⟩
                  case measure => simp [intOf]; omega
                · have hjb : ((j : Int) == F) = false := by simpa using hjf
                  clear hne hjf
                  go_upto_region 20 with fail
                  have hwr : IntKind.i64.wrap ((j : Int) * 64) = (j : Int) * 64 := IntWalk.i64_in _ (by omega)
                  refine wp_region_held_drew (S := fun W => Chg (fun _ => False) wc W) (by kernel_rfl) (HR.out.drew) (fun hHeld => ?_)
                  replace HR : Hid (Chg (fun _ => False) wc _) := hHeld
                  refine wpAnyH_take (i := 0) (oi := ({ dst := some 81, op := Go.Op.load 27 (Go.Operand.tmp 8), type := 27, pos := "more.go:108", after := #[], guard := none } : Oper)) (v := ?_) rfl (by kernel_rfl) (by kernel_rfl) (by kernel_rfl) (fun _ _ _ h => h) (Or.inl ⟨by rfl, ?_⟩) (by assumption) ?_
                  rotate_left
                  · (intro w hSw; (try dsimp only at hSw); obtain ⟨y0, y1, y2, y3, y4, y5, y6, y7, y8⟩ := (H2.out _ hSw).1.c9; obtain ⟨z0, z1, z2, z3, z4, z5, z6, z7, z8⟩ := (H2.out _ hSw).2.c9;  go_simp; try with_reducible rfl)
                  try simp only [Act.put, List.setIfInBounds_toArray, List.set_cons_zero, List.set_cons_succ]
                  refine wpAnyH_take (i := 1) (oi := ({ dst := some 82, op := Go.Op.move (Go.Operand.tmp 13), type := 3, pos := "more.go:108", after := #[], guard := none } : Oper)) (v := ?_) rfl (by kernel_rfl) (by kernel_rfl) (by kernel_rfl) (fun _ _ _ h => h) (Or.inl ⟨by rfl, ?_⟩) (by assumption) ?_
                  rotate_left
                  · (intro w hSw; (try dsimp only at hSw); obtain ⟨y0, y1, y2, y3, y4, y5, y6, y7, y8⟩ := (H2.out _ hSw).1.c9; obtain ⟨z0, z1, z2, z3, z4, z5, z6, z7, z8⟩ := (H2.out _ hSw).2.c9;  go_simp; try with_reducible rfl)
                  try simp only [Act.put, List.setIfInBounds_toArray, List.set_cons_zero, List.set_cons_succ]
                  refine wpAnyH_take (i := 2) (oi := ({ dst := some 83, op := Go.Op.move (Go.Operand.tmp 12), type := 3, pos := "more.go:108", after := #[], guard := none } : Oper)) (v := ?_) rfl (by kernel_rfl) (by kernel_rfl) (by kernel_rfl) (fun _ _ _ h => h) (Or.inl ⟨by rfl, ?_⟩) (by assumption) ?_
                  rotate_left
                  · (intro w hSw; (try dsimp only at hSw); obtain ⟨y0, y1, y2, y3, y4, y5, y6, y7, y8⟩ := (H2.out _ hSw).1.c9; obtain ⟨z0, z1, z2, z3, z4, z5, z6, z7, z8⟩ := (H2.out _ hSw).2.c9;  go_simp; try with_reducible rfl)
                  try simp only [Act.put, List.setIfInBounds_toArray, List.set_cons_zero, List.set_cons_succ]
                  refine wpAnyH_take (i := 3) (oi := ({ dst := some 84, op := Go.Op.binOp Go.BinOp.mul 3 (Go.Operand.tmp 83) (Go.Operand.const (Go.Value.int Go.IntKind.i64 64)) 3, type := 3, pos := "more.go:108", after := #[{ on := 2, ground := Go.Ground.data }], guard := none } : Oper)) (v := ?_) rfl (by kernel_rfl) (by kernel_rfl) (by kernel_rfl) (fun _ _ _ h => h) (Or.inl ⟨by rfl, ?_⟩) (by assumption) ?_
                  rotate_left
                  · (intro w hSw; (try dsimp only at hSw); obtain ⟨y0, y1, y2, y3, y4, y5, y6, y7, y8⟩ := (H2.out _ hSw).1.c9; obtain ⟨z0, z1, z2, z3, z4, z5, z6, z7, z8⟩ := (H2.out _ hSw).2.c9;  go_simp; try with_reducible rfl)
                  try simp only [Act.put, List.setIfInBounds_toArray, List.set_cons_zero, List.set_cons_succ]
                  refine wpAnyH_take (i := 5) (oi := ({ dst := some 86, op := Go.Op.load 27 (Go.Operand.tmp 7), type := 27, pos := "more.go:108", after := #[], guard := none } : Oper)) (v := ?_) rfl (by kernel_rfl) (by kernel_rfl) (by kernel_rfl) (fun _ _ _ h => h) (Or.inl ⟨by rfl, ?_⟩) (by assumption) ?_
                  rotate_left
                  · (intro w hSw; (try dsimp only at hSw); obtain ⟨y0, y1, y2, y3, y4, y5, y6, y7, y8⟩ := (H2.out _ hSw).1.c9; obtain ⟨z0, z1, z2, z3, z4, z5, z6, z7, z8⟩ := (H2.out _ hSw).2.c9;  go_simp; try with_reducible rfl)
                  try simp only [Act.put, List.setIfInBounds_toArray, List.set_cons_zero, List.set_cons_succ]
                  refine wpAnyH_take (i := 6) (oi := ({ dst := some 87, op := Go.Op.move (Go.Operand.tmp 13), type := 3, pos := "more.go:108", after := #[], guard := none } : Oper)) (v := ?_) rfl (by kernel_rfl) (by kernel_rfl) (by kernel_rfl) (fun _ _ _ h => h) (Or.inl ⟨by rfl, ?_⟩) (by assumption) ?_
                  rotate_left
                  · (intro w hSw; (try dsimp only at hSw); obtain ⟨y0, y1, y2, y3, y4, y5, y6, y7, y8⟩ := (H2.out _ hSw).1.c9; obtain ⟨z0, z1, z2, z3, z4, z5, z6, z7, z8⟩ := (H2.out _ hSw).2.c9;  go_simp; try with_reducible rfl)
                  try simp only [Act.put, List.setIfInBounds_toArray, List.set_cons_zero, List.set_cons_succ]
                  refine wpAnyH_take (i := 7) (oi := ({ dst := some 88, op := Go.Op.move (Go.Operand.tmp 12), type := 3, pos := "more.go:108", after := #[], guard := none } : Oper)) (v := ?_) rfl (by kernel_rfl) (by kernel_rfl) (by kernel_rfl) (fun _ _ _ h => h) (Or.inl ⟨by rfl, ?_⟩) (by assumption) ?_
                  rotate_left
                  · (intro w hSw; (try dsimp only at hSw); obtain ⟨y0, y1, y2, y3, y4, y5, y6, y7, y8⟩ := (H2.out _ hSw).1.c9; obtain ⟨z0, z1, z2, z3, z4, z5, z6, z7, z8⟩ := (H2.out _ hSw).2.c9;  go_simp; try with_reducible rfl)
                  try simp only [Act.put, List.setIfInBounds_toArray, List.set_cons_zero, List.set_cons_succ]
                  refine wpAnyH_take (i := 8) (oi := ({ dst := some 89, op := Go.Op.binOp Go.BinOp.mul 3 (Go.Operand.tmp 88) (Go.Operand.const (Go.Value.int Go.IntKind.i64 64)) 3, type := 3, pos := "more.go:108", after := #[{ on := 7, ground := Go.Ground.data }], guard := none } : Oper)) (v := ?_) rfl (by kernel_rfl) (by kernel_rfl) (by kernel_rfl) (fun _ _ _ h => h) (Or.inl ⟨by rfl, ?_⟩) (by assumption) ?_
                  rotate_left
                  · (intro w hSw; (try dsimp only at hSw); obtain ⟨y0, y1, y2, y3, y4, y5, y6, y7, y8⟩ := (H2.out _ hSw).1.c9; obtain ⟨z0, z1, z2, z3, z4, z5, z6, z7, z8⟩ := (H2.out _ hSw).2.c9;  go_simp; try with_reducible rfl)
                  try simp only [Act.put, List.setIfInBounds_toArray, List.set_cons_zero, List.set_cons_succ]
                  refine wpAnyH_ready (rs := [4]) (by kernel_rfl) (List.cons_ne_nil _ _) ?_
                  refine AllReadyH.cons (o := ({ dst := some 85, op := Go.Op.call { callee := Go.Callee.value (Go.Operand.func 25), args := #[Go.Operand.tmp 81, Go.Operand.tmp 82, Go.Operand.tmp 84, Go.Operand.const (Go.Value.int Go.IntKind.i64 64)], argTypes := #[27, 3, 3, 3] }, type := 4, pos := "more.go:108", after := #[{ on := 0, ground := Go.Ground.data }, { on := 1, ground := Go.Ground.data }, { on := 3, ground := Go.Ground.data }], guard := none } : Oper)) rfl (fun K hK => ?_) AllReadyH.nil
                  refine Eq.mpr (if_pos (by rfl)) ?_
                  go_simp
                  (go_at_call 25; refine (cReads i ((j : Int) * 64) 64 (cGr F P iw) _ _ (H2.out _ HR.out).2.2).mono ?_; rintro e w6 ⟨rfl, k6⟩; replace HR := Lib.hid (HR.out.trans k6); clear k6; rw [RD.out])
                  refine hK.out _ _ (HR.out) (fun hHeld => ?_)
                  clear hK K
                  try simp only [Act.put, List.setIfInBounds_toArray, List.set_cons_zero, List.set_cons_succ]
                  refine wpAnyH_ready (rs := [9]) (by kernel_rfl) (List.cons_ne_nil _ _) ?_
                  refine AllReadyH.cons (o := ({ dst := some 90, op := Go.Op.call { callee := Go.Callee.value (Go.Operand.func 25), args := #[Go.Operand.tmp 86, Go.Operand.tmp 87, Go.Operand.tmp 89, Go.Operand.const (Go.Value.int Go.IntKind.i64 64)], argTypes := #[27, 3, 3, 3] }, type := 4, pos := "more.go:108", after := #[{ on := 5, ground := Go.Ground.data }, { on := 6, ground := Go.Ground.data }, { on := 8, ground := Go.Ground.data }, { on := 4, ground := Go.Ground.chain }], guard := none } : Oper)) rfl (fun K hK => ?_) AllReadyH.nil
                  refine Eq.mpr (if_pos (by rfl)) ?_
                  go_simp
                  (go_at_call 25; refine (cReads i ((j : Int) * 64) 64 (noG cPlain) _ _ (H2.out _ HR.out).1.2).mono ?_; rintro e w6 ⟨rfl, k6⟩; replace HR := Lib.hid (HR.out.trans k6); clear k6; rw [RC.out])
                  refine hK.out _ _ (HR.out) (fun hHeld => ?_)
                  clear hK K
                  try simp only [Act.put, List.setIfInBounds_toArray, List.set_cons_zero, List.set_cons_succ]
                  refine wpAnyH_take (i := 10) (oi := ({ dst := some 91, op := Go.Op.move (Go.Operand.tmp 90), type := 4, pos := "more.go:108", after := #[{ on := 9, ground := Go.Ground.data }, { on := 9, ground := Go.Ground.chain }], guard := none } : Oper)) (v := ?_) rfl (by kernel_rfl) (by kernel_rfl) (by kernel_rfl) (fun _ _ _ h => h) (Or.inl ⟨by rfl, ?_⟩) (by assumption) ?_
                  rotate_left
                  · (intro w hSw; (try dsimp only at hSw); obtain ⟨y0, y1, y2, y3, y4, y5, y6, y7, y8⟩ := (H2.out _ hSw).1.c9; obtain ⟨z0, z1, z2, z3, z4, z5, z6, z7, z8⟩ := (H2.out _ hSw).2.c9;  go_simp; try with_reducible rfl)
                  try simp only [Act.put, List.setIfInBounds_toArray, List.set_cons_zero, List.set_cons_succ]
                  refine wpAnyH_take (i := 11) (oi := ({ dst := some 92, op := Go.Op.move (Go.Operand.tmp 14), type := 4, pos := "more.go:108", after := #[{ on := 10, ground := Go.Ground.guard }], guard := some (10, false) } : Oper)) (v := undef) rfl (by kernel_rfl) (by kernel_rfl) (by kernel_rfl) (fun _ _ _ h => h) (Or.inr ⟨by rfl, rfl⟩) (by assumption) ?_
                  try simp only [Act.put, List.setIfInBounds_toArray, List.set_cons_zero, List.set_cons_succ]
                  refine wpAnyH_take (i := 12) (oi := ({ dst := some 93, op := Go.Op.pick (Go.Operand.tmp 91) (Go.Operand.const (Go.Value.bool true)) (Go.Operand.tmp 92), type := 4, pos := "more.go:108", after := #[{ on := 10, ground := Go.Ground.data }, { on := 11, ground := Go.Ground.data }], guard := none } : Oper)) (v := ?_) rfl (by kernel_rfl) (by kernel_rfl) (by kernel_rfl) (fun _ _ _ h => h) (Or.inl ⟨by rfl, ?_⟩) (by assumption) ?_
                  rotate_left
                  · (intro w hSw; (try dsimp only at hSw); obtain ⟨y0, y1, y2, y3, y4, y5, y6, y7, y8⟩ := (H2.out _ hSw).1.c9; obtain ⟨z0, z1, z2, z3, z4, z5, z6, z7, z8⟩ := (H2.out _ hSw).2.c9;  go_simp; try with_reducible rfl)
                  try simp only [Act.put, List.setIfInBounds_toArray, List.set_cons_zero, List.set_cons_succ]
                  refine wpAnyH_take (i := 13) (oi := ({ dst := some 94, op := Go.Op.binOp Go.BinOp.neq 4 (Go.Operand.tmp 85) (Go.Operand.tmp 93) 4, type := 4, pos := "more.go:108", after := #[{ on := 4, ground := Go.Ground.data }, { on := 12, ground := Go.Ground.data }], guard := none } : Oper)) (v := ?_) rfl (by kernel_rfl) (by kernel_rfl) (by kernel_rfl) (fun _ _ _ h => h) (Or.inl ⟨by rfl, ?_⟩) (by assumption) ?_
                  rotate_left
                  · (intro w hSw; (try dsimp only at hSw); obtain ⟨y0, y1, y2, y3, y4, y5, y6, y7, y8⟩ := (H2.out _ hSw).1.c9; obtain ⟨z0, z1, z2, z3, z4, z5, z6, z7, z8⟩ := (H2.out _ hSw).2.c9;  go_simp; try with_reducible rfl)
                  try simp only [Act.put, List.setIfInBounds_toArray, List.set_cons_zero, List.set_cons_succ]
                  refine wpAnyH_take (i := 14) (oi := ({ dst := some 95, op := Go.Op.move (Go.Operand.tmp 94), type := 4, pos := "more.go:108", after := #[{ on := 13, ground := Go.Ground.data }, { on := 10, ground := Go.Ground.chain }], guard := none } : Oper)) (v := ?_) rfl (by kernel_rfl) (by kernel_rfl) (by kernel_rfl) (fun _ _ _ h => h) (Or.inl ⟨by rfl, ?_⟩) (by assumption) ?_
                  rotate_left
                  · (intro w hSw; (try dsimp only at hSw); obtain ⟨y0, y1, y2, y3, y4, y5, y6, y7, y8⟩ := (H2.out _ hSw).1.c9; obtain ⟨z0, z1, z2, z3, z4, z5, z6, z7, z8⟩ := (H2.out _ hSw).2.c9;  go_simp; try with_reducible rfl)
                  try simp only [Act.put, List.setIfInBounds_toArray, List.set_cons_zero, List.set_cons_succ]
                  refine wpAnyH_take (i := 15) (oi := ({ dst := some 96, op := Go.Op.load 27 (Go.Operand.tmp 8), type := 27, pos := "more.go:108", after := #[{ on := 14, ground := Go.Ground.guard }], guard := some (14, false) } : Oper)) (v := ?_) rfl (by kernel_rfl) (by kernel_rfl) (by kernel_rfl) (fun _ _ _ h => h) (Or.inl ⟨by rfl, ?_⟩) (by assumption) ?_
                  rotate_left
                  · (intro w hSw; (try dsimp only at hSw); obtain ⟨y0, y1, y2, y3, y4, y5, y6, y7, y8⟩ := (H2.out _ hSw).1.c9; obtain ⟨z0, z1, z2, z3, z4, z5, z6, z7, z8⟩ := (H2.out _ hSw).2.c9;  go_simp; try with_reducible rfl)
                  try simp only [Act.put, List.setIfInBounds_toArray, List.set_cons_zero, List.set_cons_succ]
                  refine wpAnyH_take (i := 16) (oi := ({ dst := some 97, op := Go.Op.move (Go.Operand.tmp 13), type := 3, pos := "more.go:108", after := #[{ on := 14, ground := Go.Ground.guard }], guard := some (14, false) } : Oper)) (v := ?_) rfl (by kernel_rfl) (by kernel_rfl) (by kernel_rfl) (fun _ _ _ h => h) (Or.inl ⟨by rfl, ?_⟩) (by assumption) ?_
                  rotate_left
                  · (intro w hSw; (try dsimp only at hSw); obtain ⟨y0, y1, y2, y3, y4, y5, y6, y7, y8⟩ := (H2.out _ hSw).1.c9; obtain ⟨z0, z1, z2, z3, z4, z5, z6, z7, z8⟩ := (H2.out _ hSw).2.c9;  go_simp; try with_reducible rfl)
                  try simp only [Act.put, List.setIfInBounds_toArray, List.set_cons_zero, List.set_cons_succ]
                  refine wpAnyH_take (i := 17) (oi := ({ dst := some 98, op := Go.Op.move (Go.Operand.tmp 12), type := 3, pos := "more.go:108", after := #[{ on := 14, ground := Go.Ground.guard }], guard := some (14, false) } : Oper)) (v := ?_) rfl (by kernel_rfl) (by kernel_rfl) (by kernel_rfl) (fun _ _ _ h => h) (Or.inl ⟨by rfl, ?_⟩) (by assumption) ?_
                  rotate_left
                  · (intro w hSw; (try dsimp only at hSw); obtain ⟨y0, y1, y2, y3, y4, y5, y6, y7, y8⟩ := (H2.out _ hSw).1.c9; obtain ⟨z0, z1, z2, z3, z4, z5, z6, z7, z8⟩ := (H2.out _ hSw).2.c9;  go_simp; try with_reducible rfl)
                  try simp only [Act.put, List.setIfInBounds_toArray, List.set_cons_zero, List.set_cons_succ]
                  refine wpAnyH_take (i := 18) (oi := ({ dst := some 99, op := Go.Op.binOp Go.BinOp.mul 3 (Go.Operand.tmp 98) (Go.Operand.const (Go.Value.int Go.IntKind.i64 64)) 3, type := 3, pos := "more.go:108", after := #[{ on := 17, ground := Go.Ground.data }, { on := 14, ground := Go.Ground.guard }], guard := some (14, false) } : Oper)) (v := ?_) rfl (by kernel_rfl) (by kernel_rfl) (by kernel_rfl) (fun _ _ _ h => h) (Or.inl ⟨by rfl, ?_⟩) (by assumption) ?_
                  rotate_left
                  · (intro w hSw; (try dsimp only at hSw); obtain ⟨y0, y1, y2, y3, y4, y5, y6, y7, y8⟩ := (H2.out _ hSw).1.c9; obtain ⟨z0, z1, z2, z3, z4, z5, z6, z7, z8⟩ := (H2.out _ hSw).2.c9;  go_simp; try with_reducible rfl)
                  try simp only [Act.put, List.setIfInBounds_toArray, List.set_cons_zero, List.set_cons_succ]
                  refine wpAnyH_take (i := 20) (oi := ({ dst := some 101, op := Go.Op.load 27 (Go.Operand.tmp 7), type := 27, pos := "more.go:108", after := #[{ on := 14, ground := Go.Ground.guard }], guard := some (14, false) } : Oper)) (v := ?_) rfl (by kernel_rfl) (by kernel_rfl) (by kernel_rfl) (fun _ _ _ h => h) (Or.inl ⟨by rfl, ?_⟩) (by assumption) ?_
                  rotate_left
                  · (intro w hSw; (try dsimp only at hSw); obtain ⟨y0, y1, y2, y3, y4, y5, y6, y7, y8⟩ := (H2.out _ hSw).1.c9; obtain ⟨z0, z1, z2, z3, z4, z5, z6, z7, z8⟩ := (H2.out _ hSw).2.c9;  go_simp; try with_reducible rfl)
                  try simp only [Act.put, List.setIfInBounds_toArray, List.set_cons_zero, List.set_cons_succ]
                  refine wpAnyH_take (i := 21) (oi := ({ dst := some 102, op := Go.Op.move (Go.Operand.tmp 13), type := 3, pos := "more.go:108", after := #[{ on := 14, ground := Go.Ground.guard }], guard := some (14, false) } : Oper)) (v := ?_) rfl (by kernel_rfl) (by kernel_rfl) (by kernel_rfl) (fun _ _ _ h => h) (Or.inl ⟨by rfl, ?_⟩) (by assumption) ?_
                  rotate_left
                  · (intro w hSw; (try dsimp only at hSw); obtain ⟨y0, y1, y2, y3, y4, y5, y6, y7, y8⟩ := (H2.out _ hSw).1.c9; obtain ⟨z0, z1, z2, z3, z4, z5, z6, z7, z8⟩ := (H2.out _ hSw).2.c9;  go_simp; try with_reducible rfl)
                  try simp only [Act.put, List.setIfInBounds_toArray, List.set_cons_zero, List.set_cons_succ]
                  refine wpAnyH_take (i := 22) (oi := ({ dst := some 103, op := Go.Op.move (Go.Operand.tmp 12), type := 3, pos := "more.go:108", after := #[{ on := 14, ground := Go.Ground.guard }], guard := some (14, false) } : Oper)) (v := ?_) rfl (by kernel_rfl) (by kernel_rfl) (by kernel_rfl) (fun _ _ _ h => h) (Or.inl ⟨by rfl, ?_⟩) (by assumption) ?_
                  rotate_left
                  · (intro w hSw; (try dsimp only at hSw); obtain ⟨y0, y1, y2, y3, y4, y5, y6, y7, y8⟩ := (H2.out _ hSw).1.c9; obtain ⟨z0, z1, z2, z3, z4, z5, z6, z7, z8⟩ := (H2.out _ hSw).2.c9;  go_simp; try with_reducible rfl)
                  try simp only [Act.put, List.setIfInBounds_toArray, List.set_cons_zero, List.set_cons_succ]
                  refine wpAnyH_take (i := 23) (oi := ({ dst := some 104, op := Go.Op.binOp Go.BinOp.mul 3 (Go.Operand.tmp 103) (Go.Operand.const (Go.Value.int Go.IntKind.i64 64)) 3, type := 3, pos := "more.go:108", after := #[{ on := 22, ground := Go.Ground.data }, { on := 14, ground := Go.Ground.guard }], guard := some (14, false) } : Oper)) (v := ?_) rfl (by kernel_rfl) (by kernel_rfl) (by kernel_rfl) (fun _ _ _ h => h) (Or.inl ⟨by rfl, ?_⟩) (by assumption) ?_
                  rotate_left
                  · (intro w hSw; (try dsimp only at hSw); obtain ⟨y0, y1, y2, y3, y4, y5, y6, y7, y8⟩ := (H2.out _ hSw).1.c9; obtain ⟨z0, z1, z2, z3, z4, z5, z6, z7, z8⟩ := (H2.out _ hSw).2.c9;  go_simp; try with_reducible rfl)
                  try simp only [Act.put, List.setIfInBounds_toArray, List.set_cons_zero, List.set_cons_succ]
                  refine wpAnyH_ready (rs := [19]) (by kernel_rfl) (List.cons_ne_nil _ _) ?_
                  refine AllReadyH.cons (o := ({ dst := some 100, op := Go.Op.call { callee := Go.Callee.value (Go.Operand.func 27), args := #[Go.Operand.tmp 96, Go.Operand.tmp 97, Go.Operand.tmp 99, Go.Operand.const (Go.Value.int Go.IntKind.i64 64)], argTypes := #[27, 3, 3, 3] }, type := 4, pos := "more.go:108", after := #[{ on := 15, ground := Go.Ground.data }, { on := 16, ground := Go.Ground.data }, { on := 18, ground := Go.Ground.data }, { on := 14, ground := Go.Ground.chain }, { on := 14, ground := Go.Ground.guard }], guard := some (14, false) } : Oper)) rfl (fun K hK => ?_) AllReadyH.nil
                  refine Eq.mpr (if_pos (by rfl)) ?_
                  go_simp
                  (go_at_call 27; refine (cWrites i ((j : Int) * 64) 64 (cGr F P iw) _ _ (H2.out _ HR.out).2.2).mono ?_; rintro e w6 ⟨rfl, k6⟩; replace HR := Lib.hid (HR.out.trans k6); clear k6; rw [WD.out])
                  refine hK.out _ _ (HR.out) (fun hHeld => ?_)
                  clear hK K
                  try simp only [Act.put, List.setIfInBounds_toArray, List.set_cons_zero, List.set_cons_succ]
                  refine wpAnyH_ready (rs := [24]) (by kernel_rfl) (List.cons_ne_nil _ _) ?_
                  refine AllReadyH.cons (o := ({ dst := some 105, op := Go.Op.call { callee := Go.Callee.value (Go.Operand.func 27), args := #[Go.Operand.tmp 101, Go.Operand.tmp 102, Go.Operand.tmp 104, Go.Operand.const (Go.Value.int Go.IntKind.i64 64)], argTypes := #[27, 3, 3, 3] }, type := 4, pos := "more.go:108", after := #[{ on := 20, ground := Go.Ground.data }, { on := 21, ground := Go.Ground.data }, { on := 23, ground := Go.Ground.data }, { on := 19, ground := Go.Ground.chain }, { on := 14, ground := Go.Ground.guard }], guard := some (14, false) } : Oper)) rfl (fun K hK => ?_) AllReadyH.nil
                  refine Eq.mpr (if_pos (by rfl)) ?_
                  go_simp
                  (go_at_call 27; refine (cWrites i ((j : Int) * 64) 64 (noG cPlain) _ _ (H2.out _ HR.out).1.2).mono ?_; rintro e w6 ⟨rfl, k6⟩; replace HR := Lib.hid (HR.out.trans k6); clear k6; rw [WC.out])
                  refine hK.out _ _ (HR.out) (fun hHeld => ?_)
                  clear hK K
                  try simp only [Act.put, List.setIfInBounds_toArray, List.set_cons_zero, List.set_cons_succ]
                  refine wpAnyH_take (i := 25) (oi := ({ dst := some 106, op := Go.Op.move (Go.Operand.tmp 105), type := 4, pos := "more.go:108", after := #[{ on := 24, ground := Go.Ground.data }, { on := 24, ground := Go.Ground.chain }, { on := 14, ground := Go.Ground.guard }], guard := some (14, false) } : Oper)) (v := ?_) rfl (by kernel_rfl) (by kernel_rfl) (by kernel_rfl) (fun _ _ _ h => h) (Or.inl ⟨by rfl, ?_⟩) (by assumption) ?_
                  rotate_left
                  · (intro w hSw; (try dsimp only at hSw); obtain ⟨y0, y1, y2, y3, y4, y5, y6, y7, y8⟩ := (H2.out _ hSw).1.c9; obtain ⟨z0, z1, z2, z3, z4, z5, z6, z7, z8⟩ := (H2.out _ hSw).2.c9;  go_simp; try with_reducible rfl)
                  try simp only [Act.put, List.setIfInBounds_toArray, List.set_cons_zero, List.set_cons_succ]
                  refine wpAnyH_take (i := 26) (oi := ({ dst := some 107, op := Go.Op.move (Go.Operand.tmp 14), type := 4, pos := "more.go:108", after := #[{ on := 25, ground := Go.Ground.guard }], guard := some (25, false) } : Oper)) (v := undef) rfl (by kernel_rfl) (by kernel_rfl) (by kernel_rfl) (fun _ _ _ h => h) (Or.inr ⟨by rfl, rfl⟩) (by assumption) ?_
                  try simp only [Act.put, List.setIfInBounds_toArray, List.set_cons_zero, List.set_cons_succ]
                  refine wpAnyH_take (i := 27) (oi := ({ dst := some 108, op := Go.Op.move (Go.Operand.tmp 107), type := 4, pos := "more.go:108", after := #[{ on := 26, ground := Go.Ground.data }, { on := 25, ground := Go.Ground.chain }, { on := 25, ground := Go.Ground.guard }], guard := some (25, false) } : Oper)) (v := undef) rfl (by kernel_rfl) (by kernel_rfl) (by kernel_rfl) (fun _ _ _ h => h) (Or.inr ⟨by rfl, rfl⟩) (by assumption) ?_
                  try simp only [Act.put, List.setIfInBounds_toArray, List.set_cons_zero, List.set_cons_succ]
                  refine wpAnyH_take (i := 28) (oi := ({ dst := some 109, op := Go.Op.move (Go.Operand.tmp 2), type := 4, pos := "more.go:108", after := #[{ on := 27, ground := Go.Ground.guard }], guard := some (27, true) } : Oper)) (v := undef) rfl (by kernel_rfl) (by kernel_rfl) (by kernel_rfl) (fun _ _ _ h => h) (Or.inr ⟨by rfl, rfl⟩) (by assumption) ?_
                  try simp only [Act.put, List.setIfInBounds_toArray, List.set_cons_zero, List.set_cons_succ]
                  refine wpAnyH_take (i := 29) (oi := ({ dst := some 110, op := Go.Op.pick (Go.Operand.tmp 108) (Go.Operand.tmp 109) (Go.Operand.const (Go.Value.bool false)), type := 4, pos := "more.go:108", after := #[{ on := 27, ground := Go.Ground.data }, { on := 28, ground := Go.Ground.data }, { on := 25, ground := Go.Ground.guard }], guard := some (25, false) } : Oper)) (v := undef) rfl (by kernel_rfl) (by kernel_rfl) (by kernel_rfl) (fun _ _ _ h => h) (Or.inr ⟨by rfl, rfl⟩) (by assumption) ?_
                  try simp only [Act.put, List.setIfInBounds_toArray, List.set_cons_zero, List.set_cons_succ]
                  refine wpAnyH_take (i := 30) (oi := ({ dst := some 111, op := Go.Op.pick (Go.Operand.tmp 106) (Go.Operand.const (Go.Value.bool true)) (Go.Operand.tmp 110), type := 4, pos := "more.go:108", after := #[{ on := 25, ground := Go.Ground.data }, { on := 29, ground := Go.Ground.data }, { on := 14, ground := Go.Ground.guard }], guard := some (14, false) } : Oper)) (v := ?_) rfl (by kernel_rfl) (by kernel_rfl) (by kernel_rfl) (fun _ _ _ h => h) (Or.inl ⟨by rfl, ?_⟩) (by assumption) ?_
                  rotate_left
                  · (intro w hSw; (try dsimp only at hSw); obtain ⟨y0, y1, y2, y3, y4, y5, y6, y7, y8⟩ := (H2.out _ hSw).1.c9; obtain ⟨z0, z1, z2, z3, z4, z5, z6, z7, z8⟩ := (H2.out _ hSw).2.c9;  go_simp; try with_reducible rfl)
                  try simp only [Act.put, List.setIfInBounds_toArray, List.set_cons_zero, List.set_cons_succ]
                  refine wpAnyH_take (i := 31) (oi := ({ dst := some 112, op := Go.Op.binOp Go.BinOp.neq 4 (Go.Operand.tmp 100) (Go.Operand.tmp 111) 4, type := 4, pos := "more.go:108", after := #[{ on := 19, ground := Go.Ground.data }, { on := 30, ground := Go.Ground.data }, { on := 14, ground := Go.Ground.guard }], guard := some (14, false) } : Oper)) (v := ?_) rfl (by kernel_rfl) (by kernel_rfl) (by kernel_rfl) (fun _ _ _ h => h) (Or.inl ⟨by rfl, ?_⟩) (by assumption) ?_
                  rotate_left
                  · (intro w hSw; (try dsimp only at hSw); obtain ⟨y0, y1, y2, y3, y4, y5, y6, y7, y8⟩ := (H2.out _ hSw).1.c9; obtain ⟨z0, z1, z2, z3, z4, z5, z6, z7, z8⟩ := (H2.out _ hSw).2.c9;  go_simp; try with_reducible rfl)
                  try simp only [Act.put, List.setIfInBounds_toArray, List.set_cons_zero, List.set_cons_succ]
                  refine wpAnyH_take (i := 32) (oi := ({ dst := some 113, op := Go.Op.pick (Go.Operand.tmp 95) (Go.Operand.const (Go.Value.bool true)) (Go.Operand.tmp 112), type := 4, pos := "more.go:108", after := #[{ on := 14, ground := Go.Ground.data }, { on := 31, ground := Go.Ground.data }], guard := none } : Oper)) (v := ?_) rfl (by kernel_rfl) (by kernel_rfl) (by kernel_rfl) (fun _ _ _ h => h) (Or.inl ⟨by rfl, ?_⟩) (by assumption) ?_
                  rotate_left
                  · (intro w hSw; (try dsimp only at hSw); obtain ⟨y0, y1, y2, y3, y4, y5, y6, y7, y8⟩ := (H2.out _ hSw).1.c9; obtain ⟨z0, z1, z2, z3, z4, z5, z6, z7, z8⟩ := (H2.out _ hSw).2.c9;  go_simp; try with_reducible rfl)
                  try simp only [Act.put, List.setIfInBounds_toArray, List.set_cons_zero, List.set_cons_succ]
                  refine wpAnyH_done (by kernel_rfl) ?_ _
                  clear hwr
                  go_wp2_with fail
                  go_roundw
                  case rel => exact ⟨i + 1, by omega, by go_num, HR.out⟩
                  case measure => simp [intOf]; omega
              · by_cases hh : (j : Int) = F ∧ (i : Int) = P
                · have hjb : ((j : Int) == F) = true := by simpa using hh.1
                  have hib : ((i : Int) == P) = true := by simpa using hh.2
                  have RC := Lib.hid ((hRC false).trans (decide_eq_false hown))
                  have WC := Lib.hid ((hRC true).trans (decide_eq_false hown))
                  have RD := Lib.hid ((hRD false).trans (decide_eq_true (.inr ⟨hh.1.symm, hh.2.symm, .inr rfl⟩)))
                  have hwd := hRD true
                  cases iw with
                  | true =>
                    have WD := Lib.hid (hwd.trans (decide_eq_true (.inr ⟨hh.1.symm, hh.2.symm, .inl rfl⟩)))
                    clear hRC hRD hown hh hwd
                    go_upto_region 20 with fail
                    have hwr : IntKind.i64.wrap ((j : Int) * 64) = (j : Int) * 64 := IntWalk.i64_in _ (by omega)
                    refine wp_region_held_drew (S := fun W => Chg (fun _ => False) wc W) (by kernel_rfl) (HR.out.drew) (fun hHeld => ?_)
                    replace HR : Hid (Chg (fun _ => False) wc _) := hHeld
                    refine wpAnyH_take (i := 0) (oi := ({ dst := some 81, op := Go.Op.load 27 (Go.Operand.tmp 8), type := 27, pos := "more.go:108", after := #[], guard := none } : Oper)) (v := ?_) rfl (by kernel_rfl) (by kernel_rfl) (by kernel_rfl) (fun _ _ _ h => h) (Or.inl ⟨by rfl, ?_⟩) (by assumption) ?_
                    rotate_left
                    · (intro w hSw; (try dsimp only at hSw); obtain ⟨y0, y1, y2, y3, y4, y5, y6, y7, y8⟩ := (H2.out _ hSw).1.c9; obtain ⟨z0, z1, z2, z3, z4, z5, z6, z7, z8⟩ := (H2.out _ hSw).2.c9;  go_simp; try with_reducible rfl)
                    try simp only [Act.put, List.setIfInBounds_toArray, List.set_cons_zero, List.set_cons_succ]
                    refine wpAnyH_take (i := 1) (oi := ({ dst := some 82, op := Go.Op.move (Go.Operand.tmp 13), type := 3, pos := "more.go:108", after := #[], guard := none } : Oper)) (v := ?_) rfl (by kernel_rfl) (by kernel_rfl) (by kernel_rfl) (fun _ _ _ h => h) (Or.inl ⟨by rfl, ?_⟩) (by assumption) ?_
                    rotate_left
                    · (intro w hSw; (try dsimp only at hSw); obtain ⟨y0, y1, y2, y3, y4, y5, y6, y7, y8⟩ := (H2.out _ hSw).1.c9; obtain ⟨z0, z1, z2, z3, z4, z5, z6, z7, z8⟩ := (H2.out _ hSw).2.c9;  go_simp; try with_reducible rfl)
                    try simp only [Act.put, List.setIfInBounds_toArray, List.set_cons_zero, List.set_cons_succ]
                    refine wpAnyH_take (i := 2) (oi := ({ dst := some 83, op := Go.Op.move (Go.Operand.tmp 12), type := 3, pos := "more.go:108", after := #[], guard := none } : Oper)) (v := ?_) rfl (by kernel_rfl) (by kernel_rfl) (by kernel_rfl) (fun _ _ _ h => h) (Or.inl ⟨by rfl, ?_⟩) (by assumption) ?_
                    rotate_left
                    · (intro w hSw; (try dsimp only at hSw); obtain ⟨y0, y1, y2, y3, y4, y5, y6, y7, y8⟩ := (H2.out _ hSw).1.c9; obtain ⟨z0, z1, z2, z3, z4, z5, z6, z7, z8⟩ := (H2.out _ hSw).2.c9;  go_simp; try with_reducible rfl)
                    try simp only [Act.put, List.setIfInBounds_toArray, List.set_cons_zero, List.set_cons_succ]
                    refine wpAnyH_take (i := 3) (oi := ({ dst := some 84, op := Go.Op.binOp Go.BinOp.mul 3 (Go.Operand.tmp 83) (Go.Operand.const (Go.Value.int Go.IntKind.i64 64)) 3, type := 3, pos := "more.go:108", after := #[{ on := 2, ground := Go.Ground.data }], guard := none } : Oper)) (v := ?_) rfl (by kernel_rfl) (by kernel_rfl) (by kernel_rfl) (fun _ _ _ h => h) (Or.inl ⟨by rfl, ?_⟩) (by assumption) ?_
                    rotate_left
                    · (intro w hSw; (try dsimp only at hSw); obtain ⟨y0, y1, y2, y3, y4, y5, y6, y7, y8⟩ := (H2.out _ hSw).1.c9; obtain ⟨z0, z1, z2, z3, z4, z5, z6, z7, z8⟩ := (H2.out _ hSw).2.c9;  go_simp; try with_reducible rfl)
                    try simp only [Act.put, List.setIfInBounds_toArray, List.set_cons_zero, List.set_cons_succ]
                    refine wpAnyH_take (i := 5) (oi := ({ dst := some 86, op := Go.Op.load 27 (Go.Operand.tmp 7), type := 27, pos := "more.go:108", after := #[], guard := none } : Oper)) (v := ?_) rfl (by kernel_rfl) (by kernel_rfl) (by kernel_rfl) (fun _ _ _ h => h) (Or.inl ⟨by rfl, ?_⟩) (by assumption) ?_
                    rotate_left
                    · (intro w hSw; (try dsimp only at hSw); obtain ⟨y0, y1, y2, y3, y4, y5, y6, y7, y8⟩ := (H2.out _ hSw).1.c9; obtain ⟨z0, z1, z2, z3, z4, z5, z6, z7, z8⟩ := (H2.out _ hSw).2.c9;  go_simp; try with_reducible rfl)
                    try simp only [Act.put, List.setIfInBounds_toArray, List.set_cons_zero, List.set_cons_succ]
                    refine wpAnyH_take (i := 6) (oi := ({ dst := some 87, op := Go.Op.move (Go.Operand.tmp 13), type := 3, pos := "more.go:108", after := #[], guard := none } : Oper)) (v := ?_) rfl (by kernel_rfl) (by kernel_rfl) (by kernel_rfl) (fun _ _ _ h => h) (Or.inl ⟨by rfl, ?_⟩) (by assumption) ?_
                    rotate_left
                    · (intro w hSw; (try dsimp only at hSw); obtain ⟨y0, y1, y2, y3, y4, y5, y6, y7, y8⟩ := (H2.out _ hSw).1.c9; obtain ⟨z0, z1, z2, z3, z4, z5, z6, z7, z8⟩ := (H2.out _ hSw).2.c9;  go_simp; try with_reducible rfl)
                    try simp only [Act.put, List.setIfInBounds_toArray, List.set_cons_zero, List.set_cons_succ]
                    refine wpAnyH_take (i := 7) (oi := ({ dst := some 88, op := Go.Op.move (Go.Operand.tmp 12), type := 3, pos := "more.go:108", after := #[], guard := none } : Oper)) (v := ?_) rfl (by kernel_rfl) (by kernel_rfl) (by kernel_rfl) (fun _ _ _ h => h) (Or.inl ⟨by rfl, ?_⟩) (by assumption) ?_
                    rotate_left
                    · (intro w hSw; (try dsimp only at hSw); obtain ⟨y0, y1, y2, y3, y4, y5, y6, y7, y8⟩ := (H2.out _ hSw).1.c9; obtain ⟨z0, z1, z2, z3, z4, z5, z6, z7, z8⟩ := (H2.out _ hSw).2.c9;  go_simp; try with_reducible rfl)
                    try simp only [Act.put, List.setIfInBounds_toArray, List.set_cons_zero, List.set_cons_succ]
                    refine wpAnyH_take (i := 8) (oi := ({ dst := some 89, op := Go.Op.binOp Go.BinOp.mul 3 (Go.Operand.tmp 88) (Go.Operand.const (Go.Value.int Go.IntKind.i64 64)) 3, type := 3, pos := "more.go:108", after := #[{ on := 7, ground := Go.Ground.data }], guard := none } : Oper)) (v := ?_) rfl (by kernel_rfl) (by kernel_rfl) (by kernel_rfl) (fun _ _ _ h => h) (Or.inl ⟨by rfl, ?_⟩) (by assumption) ?_
                    rotate_left
                    · (intro w hSw; (try dsimp only at hSw); obtain ⟨y0, y1, y2, y3, y4, y5, y6, y7, y8⟩ := (H2.out _ hSw).1.c9; obtain ⟨z0, z1, z2, z3, z4, z5, z6, z7, z8⟩ := (H2.out _ hSw).2.c9;  go_simp; try with_reducible rfl)
                    try simp only [Act.put, List.setIfInBounds_toArray, List.set_cons_zero, List.set_cons_succ]
                    refine wpAnyH_ready (rs := [4]) (by kernel_rfl) (List.cons_ne_nil _ _) ?_
                    refine AllReadyH.cons (o := ({ dst := some 85, op := Go.Op.call { callee := Go.Callee.value (Go.Operand.func 25), args := #[Go.Operand.tmp 81, Go.Operand.tmp 82, Go.Operand.tmp 84, Go.Operand.const (Go.Value.int Go.IntKind.i64 64)], argTypes := #[27, 3, 3, 3] }, type := 4, pos := "more.go:108", after := #[{ on := 0, ground := Go.Ground.data }, { on := 1, ground := Go.Ground.data }, { on := 3, ground := Go.Ground.data }], guard := none } : Oper)) rfl (fun K hK => ?_) AllReadyH.nil
                    refine Eq.mpr (if_pos (by rfl)) ?_
                    go_simp
                    (go_at_call 25; refine (cReads i ((j : Int) * 64) 64 (cGr F P true) _ _ (H2.out _ HR.out).2.2).mono ?_; rintro e w6 ⟨rfl, k6⟩; replace HR := Lib.hid (HR.out.trans k6); clear k6; rw [RD.out])
                    refine hK.out _ _ (HR.out) (fun hHeld => ?_)
                    clear hK K
                    try simp only [Act.put, List.setIfInBounds_toArray, List.set_cons_zero, List.set_cons_succ]
                    refine wpAnyH_ready (rs := [9]) (by kernel_rfl) (List.cons_ne_nil _ _) ?_
                    refine AllReadyH.cons (o := ({ dst := some 90, op := Go.Op.call { callee := Go.Callee.value (Go.Operand.func 25), args := #[Go.Operand.tmp 86, Go.Operand.tmp 87, Go.Operand.tmp 89, Go.Operand.const (Go.Value.int Go.IntKind.i64 64)], argTypes := #[27, 3, 3, 3] }, type := 4, pos := "more.go:108", after := #[{ on := 5, ground := Go.Ground.data }, { on := 6, ground := Go.Ground.data }, { on := 8, ground := Go.Ground.data }, { on := 4, ground := Go.Ground.chain }], guard := none } : Oper)) rfl (fun K hK => ?_) AllReadyH.nil
                    refine Eq.mpr (if_pos (by rfl)) ?_
                    go_simp
                    (go_at_call 25; refine (cReads i ((j : Int) * 64) 64 (noG cPlain) _ _ (H2.out _ HR.out).1.2).mono ?_; rintro e w6 ⟨rfl, k6⟩; replace HR := Lib.hid (HR.out.trans k6); clear k6; rw [RC.out])
                    refine hK.out _ _ (HR.out) (fun hHeld => ?_)
                    clear hK K
                    try simp only [Act.put, List.setIfInBounds_toArray, List.set_cons_zero, List.set_cons_succ]
                    refine wpAnyH_take (i := 10) (oi := ({ dst := some 91, op := Go.Op.move (Go.Operand.tmp 90), type := 4, pos := "more.go:108", after := #[{ on := 9, ground := Go.Ground.data }, { on := 9, ground := Go.Ground.chain }], guard := none } : Oper)) (v := ?_) rfl (by kernel_rfl) (by kernel_rfl) (by kernel_rfl) (fun _ _ _ h => h) (Or.inl ⟨by rfl, ?_⟩) (by assumption) ?_
                    rotate_left
                    · (intro w hSw; (try dsimp only at hSw); obtain ⟨y0, y1, y2, y3, y4, y5, y6, y7, y8⟩ := (H2.out _ hSw).1.c9; obtain ⟨z0, z1, z2, z3, z4, z5, z6, z7, z8⟩ := (H2.out _ hSw).2.c9;  go_simp; try with_reducible rfl)
                    try simp only [Act.put, List.setIfInBounds_toArray, List.set_cons_zero, List.set_cons_succ]
                    refine wpAnyH_take (i := 11) (oi := ({ dst := some 92, op := Go.Op.move (Go.Operand.tmp 14), type := 4, pos := "more.go:108", after := #[{ on := 10, ground := Go.Ground.guard }], guard := some (10, false) } : Oper)) (v := ?_) rfl (by kernel_rfl) (by kernel_rfl) (by kernel_rfl) (fun _ _ _ h => h) (Or.inl ⟨by rfl, ?_⟩) (by assumption) ?_
                    rotate_left
                    · (intro w hSw; (try dsimp only at hSw); obtain ⟨y0, y1, y2, y3, y4, y5, y6, y7, y8⟩ := (H2.out _ hSw).1.c9; obtain ⟨z0, z1, z2, z3, z4, z5, z6, z7, z8⟩ := (H2.out _ hSw).2.c9;  go_simp; try with_reducible rfl)
                    try simp only [Act.put, List.setIfInBounds_toArray, List.set_cons_zero, List.set_cons_succ]
                    refine wpAnyH_take (i := 12) (oi := ({ dst := some 93, op := Go.Op.pick (Go.Operand.tmp 91) (Go.Operand.const (Go.Value.bool true)) (Go.Operand.tmp 92), type := 4, pos := "more.go:108", after := #[{ on := 10, ground := Go.Ground.data }, { on := 11, ground := Go.Ground.data }], guard := none } : Oper)) (v := ?_) rfl (by kernel_rfl) (by kernel_rfl) (by kernel_rfl) (fun _ _ _ h => h) (Or.inl ⟨by rfl, ?_⟩) (by assumption) ?_
                    rotate_left
                    · (intro w hSw; (try dsimp only at hSw); obtain ⟨y0, y1, y2, y3, y4, y5, y6, y7, y8⟩ := (H2.out _ hSw).1.c9; obtain ⟨z0, z1, z2, z3, z4, z5, z6, z7, z8⟩ := (H2.out _ hSw).2.c9;  go_simp; try with_reducible rfl)
                    try simp only [Act.put, List.setIfInBounds_toArray, List.set_cons_zero, List.set_cons_succ]
                    refine wpAnyH_take (i := 13) (oi := ({ dst := some 94, op := Go.Op.binOp Go.BinOp.neq 4 (Go.Operand.tmp 85) (Go.Operand.tmp 93) 4, type := 4, pos := "more.go:108", after := #[{ on := 4, ground := Go.Ground.data }, { on := 12, ground := Go.Ground.data }], guard := none } : Oper)) (v := ?_) rfl (by kernel_rfl) (by kernel_rfl) (by kernel_rfl) (fun _ _ _ h => h) (Or.inl ⟨by rfl, ?_⟩) (by assumption) ?_
                    rotate_left
                    · (intro w hSw; (try dsimp only at hSw); obtain ⟨y0, y1, y2, y3, y4, y5, y6, y7, y8⟩ := (H2.out _ hSw).1.c9; obtain ⟨z0, z1, z2, z3, z4, z5, z6, z7, z8⟩ := (H2.out _ hSw).2.c9;  go_simp; try with_reducible rfl)
                    try simp only [Act.put, List.setIfInBounds_toArray, List.set_cons_zero, List.set_cons_succ]
                    refine wpAnyH_take (i := 14) (oi := ({ dst := some 95, op := Go.Op.move (Go.Operand.tmp 94), type := 4, pos := "more.go:108", after := #[{ on := 13, ground := Go.Ground.data }, { on := 10, ground := Go.Ground.chain }], guard := none } : Oper)) (v := ?_) rfl (by kernel_rfl) (by kernel_rfl) (by kernel_rfl) (fun _ _ _ h => h) (Or.inl ⟨by rfl, ?_⟩) (by assumption) ?_
                    rotate_left
                    · (intro w hSw; (try dsimp only at hSw); obtain ⟨y0, y1, y2, y3, y4, y5, y6, y7, y8⟩ := (H2.out _ hSw).1.c9; obtain ⟨z0, z1, z2, z3, z4, z5, z6, z7, z8⟩ := (H2.out _ hSw).2.c9;  go_simp; try with_reducible rfl)
                    try simp only [Act.put, List.setIfInBounds_toArray, List.set_cons_zero, List.set_cons_succ]
                    refine wpAnyH_take (i := 15) (oi := ({ dst := some 96, op := Go.Op.load 27 (Go.Operand.tmp 8), type := 27, pos := "more.go:108", after := #[{ on := 14, ground := Go.Ground.guard }], guard := some (14, false) } : Oper)) (v := ?_) rfl (by kernel_rfl) (by kernel_rfl) (by kernel_rfl) (fun _ _ _ h => h) (Or.inl ⟨by rfl, ?_⟩) (by assumption) ?_
                    rotate_left
                    · (intro w hSw; (try dsimp only at hSw); obtain ⟨y0, y1, y2, y3, y4, y5, y6, y7, y8⟩ := (H2.out _ hSw).1.c9; obtain ⟨z0, z1, z2, z3, z4, z5, z6, z7, z8⟩ := (H2.out _ hSw).2.c9;  go_simp; try with_reducible rfl)
                    try simp only [Act.put, List.setIfInBounds_toArray, List.set_cons_zero, List.set_cons_succ]
                    refine wpAnyH_take (i := 16) (oi := ({ dst := some 97, op := Go.Op.move (Go.Operand.tmp 13), type := 3, pos := "more.go:108", after := #[{ on := 14, ground := Go.Ground.guard }], guard := some (14, false) } : Oper)) (v := ?_) rfl (by kernel_rfl) (by kernel_rfl) (by kernel_rfl) (fun _ _ _ h => h) (Or.inl ⟨by rfl, ?_⟩) (by assumption) ?_
                    rotate_left
                    · (intro w hSw; (try dsimp only at hSw); obtain ⟨y0, y1, y2, y3, y4, y5, y6, y7, y8⟩ := (H2.out _ hSw).1.c9; obtain ⟨z0, z1, z2, z3, z4, z5, z6, z7, z8⟩ := (H2.out _ hSw).2.c9;  go_simp; try with_reducible rfl)
                    try simp only [Act.put, List.setIfInBounds_toArray, List.set_cons_zero, List.set_cons_succ]
                    refine wpAnyH_take (i := 17) (oi := ({ dst := some 98, op := Go.Op.move (Go.Operand.tmp 12), type := 3, pos := "more.go:108", after := #[{ on := 14, ground := Go.Ground.guard }], guard := some (14, false) } : Oper)) (v := ?_) rfl (by kernel_rfl) (by kernel_rfl) (by kernel_rfl) (fun _ _ _ h => h) (Or.inl ⟨by rfl, ?_⟩) (by assumption) ?_
                    rotate_left
                    · (intro w hSw; (try dsimp only at hSw); obtain ⟨y0, y1, y2, y3, y4, y5, y6, y7, y8⟩ := (H2.out _ hSw).1.c9; obtain ⟨z0, z1, z2, z3, z4, z5, z6, z7, z8⟩ := (H2.out _ hSw).2.c9;  go_simp; try with_reducible rfl)
                    try simp only [Act.put, List.setIfInBounds_toArray, List.set_cons_zero, List.set_cons_succ]
                    refine wpAnyH_take (i := 18) (oi := ({ dst := some 99, op := Go.Op.binOp Go.BinOp.mul 3 (Go.Operand.tmp 98) (Go.Operand.const (Go.Value.int Go.IntKind.i64 64)) 3, type := 3, pos := "more.go:108", after := #[{ on := 17, ground := Go.Ground.data }, { on := 14, ground := Go.Ground.guard }], guard := some (14, false) } : Oper)) (v := ?_) rfl (by kernel_rfl) (by kernel_rfl) (by kernel_rfl) (fun _ _ _ h => h) (Or.inl ⟨by rfl, ?_⟩) (by assumption) ?_
                    rotate_left
                    · (intro w hSw; (try dsimp only at hSw); obtain ⟨y0, y1, y2, y3, y4, y5, y6, y7, y8⟩ := (H2.out _ hSw).1.c9; obtain ⟨z0, z1, z2, z3, z4, z5, z6, z7, z8⟩ := (H2.out _ hSw).2.c9;  go_simp; try with_reducible rfl)
                    try simp only [Act.put, List.setIfInBounds_toArray, List.set_cons_zero, List.set_cons_succ]
                    refine wpAnyH_take (i := 20) (oi := ({ dst := some 101, op := Go.Op.load 27 (Go.Operand.tmp 7), type := 27, pos := "more.go:108", after := #[{ on := 14, ground := Go.Ground.guard }], guard := some (14, false) } : Oper)) (v := ?_) rfl (by kernel_rfl) (by kernel_rfl) (by kernel_rfl) (fun _ _ _ h => h) (Or.inl ⟨by rfl, ?_⟩) (by assumption) ?_
                    rotate_left
                    · (intro w hSw; (try dsimp only at hSw); obtain ⟨y0, y1, y2, y3, y4, y5, y6, y7, y8⟩ := (H2.out _ hSw).1.c9; obtain ⟨z0, z1, z2, z3, z4, z5, z6, z7, z8⟩ := (H2.out _ hSw).2.c9;  go_simp; try with_reducible rfl)
                    try simp only [Act.put, List.setIfInBounds_toArray, List.set_cons_zero, List.set_cons_succ]
                    refine wpAnyH_take (i := 21) (oi := ({ dst := some 102, op := Go.Op.move (Go.Operand.tmp 13), type := 3, pos := "more.go:108", after := #[{ on := 14, ground := Go.Ground.guard }], guard := some (14, false) } : Oper)) (v := ?_) rfl (by kernel_rfl) (by kernel_rfl) (by kernel_rfl) (fun _ _ _ h => h) (Or.inl ⟨by rfl, ?_⟩) (by assumption) ?_
                    rotate_left
                    · (intro w hSw; (try dsimp only at hSw); obtain ⟨y0, y1, y2, y3, y4, y5, y6, y7, y8⟩ := (H2.out _ hSw).1.c9; obtain ⟨z0, z1, z2, z3, z4, z5, z6, z7, z8⟩ := (H2.out _ hSw).2.c9;  go_simp; try with_reducible rfl)
                    try simp only [Act.put, List.setIfInBounds_toArray, List.set_cons_zero, List.set_cons_succ]
                    refine wpAnyH_take (i := 22) (oi := ({ dst := some 103, op := Go.Op.move (Go.Operand.tmp 12), type := 3, pos := "more.go:108", after := #[{ on := 14, ground := Go.Ground.guard }], guard := some (14, false) } : Oper)) (v := ?_) rfl (by kernel_rfl) (by kernel_rfl) (by kernel_rfl) (fun _ _ _ h => h) (Or.inl ⟨by rfl, ?_⟩) (by assumption) ?_
                    rotate_left
                    · (intro w hSw; (try dsimp only at hSw); obtain ⟨y0, y1, y2, y3, y4, y5, y6, y7, y8⟩ := (H2.out _ hSw).1.c9; obtain ⟨z0, z1, z2, z3, z4, z5, z6, z7, z8⟩ := (H2.out _ hSw).2.c9;  go_simp; try with_reducible rfl)
                    try simp only [Act.put, List.setIfInBounds_toArray, List.set_cons_zero, List.set_cons_succ]
                    refine wpAnyH_take (i := 23) (oi := ({ dst := some 104, op := Go.Op.binOp Go.BinOp.mul 3 (Go.Operand.tmp 103) (Go.Operand.const (Go.Value.int Go.IntKind.i64 64)) 3, type := 3, pos := "more.go:108", after := #[{ on := 22, ground := Go.Ground.data }, { on := 14, ground := Go.Ground.guard }], guard := some (14, false) } : Oper)) (v := ?_) rfl (by kernel_rfl) (by kernel_rfl) (by kernel_rfl) (fun _ _ _ h => h) (Or.inl ⟨by rfl, ?_⟩) (by assumption) ?_
                    rotate_left
                    · (intro w hSw; (try dsimp only at hSw); obtain ⟨y0, y1, y2, y3, y4, y5, y6, y7, y8⟩ := (H2.out _ hSw).1.c9; obtain ⟨z0, z1, z2, z3, z4, z5, z6, z7, z8⟩ := (H2.out _ hSw).2.c9;  go_simp; try with_reducible rfl)
                    try simp only [Act.put, List.setIfInBounds_toArray, List.set_cons_zero, List.set_cons_succ]
                    refine wpAnyH_ready (rs := [19]) (by kernel_rfl) (List.cons_ne_nil _ _) ?_
                    refine AllReadyH.cons (o := ({ dst := some 100, op := Go.Op.call { callee := Go.Callee.value (Go.Operand.func 27), args := #[Go.Operand.tmp 96, Go.Operand.tmp 97, Go.Operand.tmp 99, Go.Operand.const (Go.Value.int Go.IntKind.i64 64)], argTypes := #[27, 3, 3, 3] }, type := 4, pos := "more.go:108", after := #[{ on := 15, ground := Go.Ground.data }, { on := 16, ground := Go.Ground.data }, { on := 18, ground := Go.Ground.data }, { on := 14, ground := Go.Ground.chain }, { on := 14, ground := Go.Ground.guard }], guard := some (14, false) } : Oper)) rfl (fun K hK => ?_) AllReadyH.nil
                    refine Eq.mpr (if_pos (by rfl)) ?_
                    go_simp
                    (go_at_call 27; refine (cWrites i ((j : Int) * 64) 64 (cGr F P true) _ _ (H2.out _ HR.out).2.2).mono ?_; rintro e w6 ⟨rfl, k6⟩; replace HR := Lib.hid (HR.out.trans k6); clear k6; rw [WD.out])
                    refine hK.out _ _ (HR.out) (fun hHeld => ?_)
                    clear hK K
                    try simp only [Act.put, List.setIfInBounds_toArray, List.set_cons_zero, List.set_cons_succ]
                    refine wpAnyH_ready (rs := [24]) (by kernel_rfl) (List.cons_ne_nil _ _) ?_
                    refine AllReadyH.cons (o := ({ dst := some 105, op := Go.Op.call { callee := Go.Callee.value (Go.Operand.func 27), args := #[Go.Operand.tmp 101, Go.Operand.tmp 102, Go.Operand.tmp 104, Go.Operand.const (Go.Value.int Go.IntKind.i64 64)], argTypes := #[27, 3, 3, 3] }, type := 4, pos := "more.go:108", after := #[{ on := 20, ground := Go.Ground.data }, { on := 21, ground := Go.Ground.data }, { on := 23, ground := Go.Ground.data }, { on := 19, ground := Go.Ground.chain }, { on := 14, ground := Go.Ground.guard }], guard := some (14, false) } : Oper)) rfl (fun K hK => ?_) AllReadyH.nil
                    refine Eq.mpr (if_pos (by rfl)) ?_
                    go_simp
                    (go_at_call 27; refine (cWrites i ((j : Int) * 64) 64 (noG cPlain) _ _ (H2.out _ HR.out).1.2).mono ?_; rintro e w6 ⟨rfl, k6⟩; replace HR := Lib.hid (HR.out.trans k6); clear k6; rw [WC.out])
                    refine hK.out _ _ (HR.out) (fun hHeld => ?_)
                    clear hK K
                    try simp only [Act.put, List.setIfInBounds_toArray, List.set_cons_zero, List.set_cons_succ]
                    refine wpAnyH_take (i := 25) (oi := ({ dst := some 106, op := Go.Op.move (Go.Operand.tmp 105), type := 4, pos := "more.go:108", after := #[{ on := 24, ground := Go.Ground.data }, { on := 24, ground := Go.Ground.chain }, { on := 14, ground := Go.Ground.guard }], guard := some (14, false) } : Oper)) (v := ?_) rfl (by kernel_rfl) (by kernel_rfl) (by kernel_rfl) (fun _ _ _ h => h) (Or.inl ⟨by rfl, ?_⟩) (by assumption) ?_
                    rotate_left
                    · (intro w hSw; (try dsimp only at hSw); obtain ⟨y0, y1, y2, y3, y4, y5, y6, y7, y8⟩ := (H2.out _ hSw).1.c9; obtain ⟨z0, z1, z2, z3, z4, z5, z6, z7, z8⟩ := (H2.out _ hSw).2.c9;  go_simp; try with_reducible rfl)
                    try simp only [Act.put, List.setIfInBounds_toArray, List.set_cons_zero, List.set_cons_succ]
                    refine wpAnyH_take (i := 26) (oi := ({ dst := some 107, op := Go.Op.move (Go.Operand.tmp 14), type := 4, pos := "more.go:108", after := #[{ on := 25, ground := Go.Ground.guard }], guard := some (25, false) } : Oper)) (v := ?_) rfl (by kernel_rfl) (by kernel_rfl) (by kernel_rfl) (fun _ _ _ h => h) (Or.inl ⟨by rfl, ?_⟩) (by assumption) ?_
                    rotate_left
                    · (intro w hSw; (try dsimp only at hSw); obtain ⟨y0, y1, y2, y3, y4, y5, y6, y7, y8⟩ := (H2.out _ hSw).1.c9; obtain ⟨z0, z1, z2, z3, z4, z5, z6, z7, z8⟩ := (H2.out _ hSw).2.c9;  go_simp; try with_reducible rfl)
                    try simp only [Act.put, List.setIfInBounds_toArray, List.set_cons_zero, List.set_cons_succ]
                    refine wpAnyH_take (i := 27) (oi := ({ dst := some 108, op := Go.Op.move (Go.Operand.tmp 107), type := 4, pos := "more.go:108", after := #[{ on := 26, ground := Go.Ground.data }, { on := 25, ground := Go.Ground.chain }, { on := 25, ground := Go.Ground.guard }], guard := some (25, false) } : Oper)) (v := ?_) rfl (by kernel_rfl) (by kernel_rfl) (by kernel_rfl) (fun _ _ _ h => h) (Or.inl ⟨by rfl, ?_⟩) (by assumption) ?_
                    rotate_left
                    · (intro w hSw; (try dsimp only at hSw); obtain ⟨y0, y1, y2, y3, y4, y5, y6, y7, y8⟩ := (H2.out _ hSw).1.c9; obtain ⟨z0, z1, z2, z3, z4, z5, z6, z7, z8⟩ := (H2.out _ hSw).2.c9;  go_simp; try with_reducible rfl)
                    try simp only [Act.put, List.setIfInBounds_toArray, List.set_cons_zero, List.set_cons_succ]
                    refine wpAnyH_take (i := 28) (oi := ({ dst := some 109, op := Go.Op.move (Go.Operand.tmp 2), type := 4, pos := "more.go:108", after := #[{ on := 27, ground := Go.Ground.guard }], guard := some (27, true) } : Oper)) (v := ?_) rfl (by kernel_rfl) (by kernel_rfl) (by kernel_rfl) (fun _ _ _ h => h) (Or.inl ⟨by rfl, ?_⟩) (by assumption) ?_
                    rotate_left
                    · (intro w hSw; (try dsimp only at hSw); obtain ⟨y0, y1, y2, y3, y4, y5, y6, y7, y8⟩ := (H2.out _ hSw).1.c9; obtain ⟨z0, z1, z2, z3, z4, z5, z6, z7, z8⟩ := (H2.out _ hSw).2.c9;  go_simp; try with_reducible rfl)
                    try simp only [Act.put, List.setIfInBounds_toArray, List.set_cons_zero, List.set_cons_succ]
                    refine wpAnyH_take (i := 29) (oi := ({ dst := some 110, op := Go.Op.pick (Go.Operand.tmp 108) (Go.Operand.tmp 109) (Go.Operand.const (Go.Value.bool false)), type := 4, pos := "more.go:108", after := #[{ on := 27, ground := Go.Ground.data }, { on := 28, ground := Go.Ground.data }, { on := 25, ground := Go.Ground.guard }], guard := some (25, false) } : Oper)) (v := ?_) rfl (by kernel_rfl) (by kernel_rfl) (by kernel_rfl) (fun _ _ _ h => h) (Or.inl ⟨by rfl, ?_⟩) (by assumption) ?_
                    rotate_left
                    · (intro w hSw; (try dsimp only at hSw); obtain ⟨y0, y1, y2, y3, y4, y5, y6, y7, y8⟩ := (H2.out _ hSw).1.c9; obtain ⟨z0, z1, z2, z3, z4, z5, z6, z7, z8⟩ := (H2.out _ hSw).2.c9;  go_simp; try with_reducible rfl)
                    try simp only [Act.put, List.setIfInBounds_toArray, List.set_cons_zero, List.set_cons_succ]
                    refine wpAnyH_take (i := 30) (oi := ({ dst := some 111, op := Go.Op.pick (Go.Operand.tmp 106) (Go.Operand.const (Go.Value.bool true)) (Go.Operand.tmp 110), type := 4, pos := "more.go:108", after := #[{ on := 25, ground := Go.Ground.data }, { on := 29, ground := Go.Ground.data }, { on := 14, ground := Go.Ground.guard }], guard := some (14, false) } : Oper)) (v := ?_) rfl (by kernel_rfl) (by kernel_rfl) (by kernel_rfl) (fun _ _ _ h => h) (Or.inl ⟨by rfl, ?_⟩) (by assumption) ?_
                    rotate_left
                    · (intro w hSw; (try dsimp only at hSw); obtain ⟨y0, y1, y2, y3, y4, y5, y6, y7, y8⟩ := (H2.out _ hSw).1.c9; obtain ⟨z0, z1, z2, z3, z4, z5, z6, z7, z8⟩ := (H2.out _ hSw).2.c9;  go_simp; try with_reducible rfl)
                    try simp only [Act.put, List.setIfInBounds_toArray, List.set_cons_zero, List.set_cons_succ]
                    refine wpAnyH_take (i := 31) (oi := ({ dst := some 112, op := Go.Op.binOp Go.BinOp.neq 4 (Go.Operand.tmp 100) (Go.Operand.tmp 111) 4, type := 4, pos := "more.go:108", after := #[{ on := 19, ground := Go.Ground.data }, { on := 30, ground := Go.Ground.data }, { on := 14, ground := Go.Ground.guard }], guard := some (14, false) } : Oper)) (v := ?_) rfl (by kernel_rfl) (by kernel_rfl) (by kernel_rfl) (fun _ _ _ h => h) (Or.inl ⟨by rfl, ?_⟩) (by assumption) ?_
                    rotate_left
                    · (intro w hSw; (try dsimp only at hSw); obtain ⟨y0, y1, y2, y3, y4, y5, y6, y7, y8⟩ := (H2.out _ hSw).1.c9; obtain ⟨z0, z1, z2, z3, z4, z5, z6, z7, z8⟩ := (H2.out _ hSw).2.c9;  go_simp; try with_reducible rfl)
                    try simp only [Act.put, List.setIfInBounds_toArray, List.set_cons_zero, List.set_cons_succ]
                    refine wpAnyH_take (i := 32) (oi := ({ dst := some 113, op := Go.Op.pick (Go.Operand.tmp 95) (Go.Operand.const (Go.Value.bool true)) (Go.Operand.tmp 112), type := 4, pos := "more.go:108", after := #[{ on := 14, ground := Go.Ground.data }, { on := 31, ground := Go.Ground.data }], guard := none } : Oper)) (v := ?_) rfl (by kernel_rfl) (by kernel_rfl) (by kernel_rfl) (fun _ _ _ h => h) (Or.inl ⟨by rfl, ?_⟩) (by assumption) ?_
                    rotate_left
                    · (intro w hSw; (try dsimp only at hSw); obtain ⟨y0, y1, y2, y3, y4, y5, y6, y7, y8⟩ := (H2.out _ hSw).1.c9; obtain ⟨z0, z1, z2, z3, z4, z5, z6, z7, z8⟩ := (H2.out _ hSw).2.c9;  go_simp; try with_reducible rfl)
                    try simp only [Act.put, List.setIfInBounds_toArray, List.set_cons_zero, List.set_cons_succ]
                    refine wpAnyH_done (by kernel_rfl) ?_ _
                    clear hwr
                    go_wp2_with fail
                    go_roundw
                    case rel => exact ⟨i + 1, by omega, by go_num, HR.out⟩
                    case measure => simp [intOf]; omega
                  | false =>
                    have WD := Lib.hid (hwd.trans (decide_eq_false (fun h => by rcases h with h | ⟨_, _, h | h⟩; exact hown h; cases h; cases h)))
                    clear hRC hRD hown hh hwd
                    go_upto_region 20 with fail
                    have hwr : IntKind.i64.wrap ((j : Int) * 64) = (j : Int) * 64 := IntWalk.i64_in _ (by omega)
                    refine wp_region_held_drew (S := fun W => Chg (fun _ => False) wc W) (by kernel_rfl) (HR.out.drew) (fun hHeld => ?_)
                    replace HR : Hid (Chg (fun _ => False) wc _) := hHeld
                    refine wpAnyH_take (i := 0) (oi := ({ dst := some 81, op := Go.Op.load 27 (Go.Operand.tmp 8), type := 27, pos := "more.go:108", after := #[], guard := none } : Oper)) (v := ?_) rfl (by kernel_rfl) (by kernel_rfl) (by kernel_rfl) (fun _ _ _ h => h) (Or.inl ⟨by rfl, ?_⟩) (by assumption) ?_
                    rotate_left
                    · (intro w hSw; (try dsimp only at hSw); obtain ⟨y0, y1, y2, y3, y4, y5, y6, y7, y8⟩ := (H2.out _ hSw).1.c9; obtain ⟨z0, z1, z2, z3, z4, z5, z6, z7, z8⟩ := (H2.out _ hSw).2.c9;  go_simp; try with_reducible rfl)
                    try simp only [Act.put, List.setIfInBounds_toArray, List.set_cons_zero, List.set_cons_succ]
                    refine wpAnyH_take (i := 1) (oi := ({ dst := some 82, op := Go.Op.move (Go.Operand.tmp 13), type := 3, pos := "more.go:108", after := #[], guard := none } : Oper)) (v := ?_) rfl (by kernel_rfl) (by kernel_rfl) (by kernel_rfl) (fun _ _ _ h => h) (Or.inl ⟨by rfl, ?_⟩) (by assumption) ?_
                    rotate_left
                    · (intro w hSw; (try dsimp only at hSw); obtain ⟨y0, y1, y2, y3, y4, y5, y6, y7, y8⟩ := (H2.out _ hSw).1.c9; obtain ⟨z0, z1, z2, z3, z4, z5, z6, z7, z8⟩ := (H2.out _ hSw).2.c9;  go_simp; try with_reducible rfl)
                    try simp only [Act.put, List.setIfInBounds_toArray, List.set_cons_zero, List.set_cons_succ]
                    refine wpAnyH_take (i := 2) (oi := ({ dst := some 83, op := Go.Op.move (Go.Operand.tmp 12), type := 3, pos := "more.go:108", after := #[], guard := none } : Oper)) (v := ?_) rfl (by kernel_rfl) (by kernel_rfl) (by kernel_rfl) (fun _ _ _ h => h) (Or.inl ⟨by rfl, ?_⟩) (by assumption) ?_
                    rotate_left
                    · (intro w hSw; (try dsimp only at hSw); obtain ⟨y0, y1, y2, y3, y4, y5, y6, y7, y8⟩ := (H2.out _ hSw).1.c9; obtain ⟨z0, z1, z2, z3, z4, z5, z6, z7, z8⟩ := (H2.out _ hSw).2.c9;  go_simp; try with_reducible rfl)
                    try simp only [Act.put, List.setIfInBounds_toArray, List.set_cons_zero, List.set_cons_succ]
                    refine wpAnyH_take (i := 3) (oi := ({ dst := some 84, op := Go.Op.binOp Go.BinOp.mul 3 (Go.Operand.tmp 83) (Go.Operand.const (Go.Value.int Go.IntKind.i64 64)) 3, type := 3, pos := "more.go:108", after := #[{ on := 2, ground := Go.Ground.data }], guard := none } : Oper)) (v := ?_) rfl (by kernel_rfl) (by kernel_rfl) (by kernel_rfl) (fun _ _ _ h => h) (Or.inl ⟨by rfl, ?_⟩) (by assumption) ?_
                    rotate_left
                    · (intro w hSw; (try dsimp only at hSw); obtain ⟨y0, y1, y2, y3, y4, y5, y6, y7, y8⟩ := (H2.out _ hSw).1.c9; obtain ⟨z0, z1, z2, z3, z4, z5, z6, z7, z8⟩ := (H2.out _ hSw).2.c9;  go_simp; try with_reducible rfl)
                    try simp only [Act.put, List.setIfInBounds_toArray, List.set_cons_zero, List.set_cons_succ]
                    refine wpAnyH_take (i := 5) (oi := ({ dst := some 86, op := Go.Op.load 27 (Go.Operand.tmp 7), type := 27, pos := "more.go:108", after := #[], guard := none } : Oper)) (v := ?_) rfl (by kernel_rfl) (by kernel_rfl) (by kernel_rfl) (fun _ _ _ h => h) (Or.inl ⟨by rfl, ?_⟩) (by assumption) ?_
                    rotate_left
                    · (intro w hSw; (try dsimp only at hSw); obtain ⟨y0, y1, y2, y3, y4, y5, y6, y7, y8⟩ := (H2.out _ hSw).1.c9; obtain ⟨z0, z1, z2, z3, z4, z5, z6, z7, z8⟩ := (H2.out _ hSw).2.c9;  go_simp; try with_reducible rfl)
                    try simp only [Act.put, List.setIfInBounds_toArray, List.set_cons_zero, List.set_cons_succ]
                    refine wpAnyH_take (i := 6) (oi := ({ dst := some 87, op := Go.Op.move (Go.Operand.tmp 13), type := 3, pos := "more.go:108", after := #[], guard := none } : Oper)) (v := ?_) rfl (by kernel_rfl) (by kernel_rfl) (by kernel_rfl) (fun _ _ _ h => h) (Or.inl ⟨by rfl, ?_⟩) (by assumption) ?_
                    rotate_left
                    · (intro w hSw; (try dsimp only at hSw); obtain ⟨y0, y1, y2, y3, y4, y5, y6, y7, y8⟩ := (H2.out _ hSw).1.c9; obtain ⟨z0, z1, z2, z3, z4, z5, z6, z7, z8⟩ := (H2.out _ hSw).2.c9;  go_simp; try with_reducible rfl)
                    try simp only [Act.put, List.setIfInBounds_toArray, List.set_cons_zero, List.set_cons_succ]
                    refine wpAnyH_take (i := 7) (oi := ({ dst := some 88, op := Go.Op.move (Go.Operand.tmp 12), type := 3, pos := "more.go:108", after := #[], guard := none } : Oper)) (v := ?_) rfl (by kernel_rfl) (by kernel_rfl) (by kernel_rfl) (fun _ _ _ h => h) (Or.inl ⟨by rfl, ?_⟩) (by assumption) ?_
                    rotate_left
                    · (intro w hSw; (try dsimp only at hSw); obtain ⟨y0, y1, y2, y3, y4, y5, y6, y7, y8⟩ := (H2.out _ hSw).1.c9; obtain ⟨z0, z1, z2, z3, z4, z5, z6, z7, z8⟩ := (H2.out _ hSw).2.c9;  go_simp; try with_reducible rfl)
                    try simp only [Act.put, List.setIfInBounds_toArray, List.set_cons_zero, List.set_cons_succ]
                    refine wpAnyH_take (i := 8) (oi := ({ dst := some 89, op := Go.Op.binOp Go.BinOp.mul 3 (Go.Operand.tmp 88) (Go.Operand.const (Go.Value.int Go.IntKind.i64 64)) 3, type := 3, pos := "more.go:108", after := #[{ on := 7, ground := Go.Ground.data }], guard := none } : Oper)) (v := ?_) rfl (by kernel_rfl) (by kernel_rfl) (by kernel_rfl) (fun _ _ _ h => h) (Or.inl ⟨by rfl, ?_⟩) (by assumption) ?_
                    rotate_left
                    · (intro w hSw; (try dsimp only at hSw); obtain ⟨y0, y1, y2, y3, y4, y5, y6, y7, y8⟩ := (H2.out _ hSw).1.c9; obtain ⟨z0, z1, z2, z3, z4, z5, z6, z7, z8⟩ := (H2.out _ hSw).2.c9;  go_simp; try with_reducible rfl)
                    try simp only [Act.put, List.setIfInBounds_toArray, List.set_cons_zero, List.set_cons_succ]
                    refine wpAnyH_ready (rs := [4]) (by kernel_rfl) (List.cons_ne_nil _ _) ?_
                    refine AllReadyH.cons (o := ({ dst := some 85, op := Go.Op.call { callee := Go.Callee.value (Go.Operand.func 25), args := #[Go.Operand.tmp 81, Go.Operand.tmp 82, Go.Operand.tmp 84, Go.Operand.const (Go.Value.int Go.IntKind.i64 64)], argTypes := #[27, 3, 3, 3] }, type := 4, pos := "more.go:108", after := #[{ on := 0, ground := Go.Ground.data }, { on := 1, ground := Go.Ground.data }, { on := 3, ground := Go.Ground.data }], guard := none } : Oper)) rfl (fun K hK => ?_) AllReadyH.nil
                    refine Eq.mpr (if_pos (by rfl)) ?_
                    go_simp
                    (go_at_call 25; refine (cReads i ((j : Int) * 64) 64 (cGr F P false) _ _ (H2.out _ HR.out).2.2).mono ?_; rintro e w6 ⟨rfl, k6⟩; replace HR := Lib.hid (HR.out.trans k6); clear k6; rw [RD.out])
                    refine hK.out _ _ (HR.out) (fun hHeld => ?_)
                    clear hK K
                    try simp only [Act.put, List.setIfInBounds_toArray, List.set_cons_zero, List.set_cons_succ]
                    refine wpAnyH_ready (rs := [9]) (by kernel_rfl) (List.cons_ne_nil _ _) ?_
                    refine AllReadyH.cons (o := ({ dst := some 90, op := Go.Op.call { callee := Go.Callee.value (Go.Operand.func 25), args := #[Go.Operand.tmp 86, Go.Operand.tmp 87, Go.Operand.tmp 89, Go.Operand.const (Go.Value.int Go.IntKind.i64 64)], argTypes := #[27, 3, 3, 3] }, type := 4, pos := "more.go:108", after := #[{ on := 5, ground := Go.Ground.data }, { on := 6, ground := Go.Ground.data }, { on := 8, ground := Go.Ground.data }, { on := 4, ground := Go.Ground.chain }], guard := none } : Oper)) rfl (fun K hK => ?_) AllReadyH.nil
                    refine Eq.mpr (if_pos (by rfl)) ?_
                    go_simp
                    (go_at_call 25; refine (cReads i ((j : Int) * 64) 64 (noG cPlain) _ _ (H2.out _ HR.out).1.2).mono ?_; rintro e w6 ⟨rfl, k6⟩; replace HR := Lib.hid (HR.out.trans k6); clear k6; rw [RC.out])
                    refine hK.out _ _ (HR.out) (fun hHeld => ?_)
                    clear hK K
                    try simp only [Act.put, List.setIfInBounds_toArray, List.set_cons_zero, List.set_cons_succ]
                    refine wpAnyH_take (i := 10) (oi := ({ dst := some 91, op := Go.Op.move (Go.Operand.tmp 90), type := 4, pos := "more.go:108", after := #[{ on := 9, ground := Go.Ground.data }, { on := 9, ground := Go.Ground.chain }], guard := none } : Oper)) (v := ?_) rfl (by kernel_rfl) (by kernel_rfl) (by kernel_rfl) (fun _ _ _ h => h) (Or.inl ⟨by rfl, ?_⟩) (by assumption) ?_
                    rotate_left
                    · (intro w hSw; (try dsimp only at hSw); obtain ⟨y0, y1, y2, y3, y4, y5, y6, y7, y8⟩ := (H2.out _ hSw).1.c9; obtain ⟨z0, z1, z2, z3, z4, z5, z6, z7, z8⟩ := (H2.out _ hSw).2.c9;  go_simp; try with_reducible rfl)
                    try simp only [Act.put, List.setIfInBounds_toArray, List.set_cons_zero, List.set_cons_succ]
                    refine wpAnyH_take (i := 11) (oi := ({ dst := some 92, op := Go.Op.move (Go.Operand.tmp 14), type := 4, pos := "more.go:108", after := #[{ on := 10, ground := Go.Ground.guard }], guard := some (10, false) } : Oper)) (v := ?_) rfl (by kernel_rfl) (by kernel_rfl) (by kernel_rfl) (fun _ _ _ h => h) (Or.inl ⟨by rfl, ?_⟩) (by assumption) ?_
                    rotate_left
                    · (intro w hSw; (try dsimp only at hSw); obtain ⟨y0, y1, y2, y3, y4, y5, y6, y7, y8⟩ := (H2.out _ hSw).1.c9; obtain ⟨z0, z1, z2, z3, z4, z5, z6, z7, z8⟩ := (H2.out _ hSw).2.c9;  go_simp; try with_reducible rfl)
                    try simp only [Act.put, List.setIfInBounds_toArray, List.set_cons_zero, List.set_cons_succ]
                    refine wpAnyH_take (i := 12) (oi := ({ dst := some 93, op := Go.Op.pick (Go.Operand.tmp 91) (Go.Operand.const (Go.Value.bool true)) (Go.Operand.tmp 92), type := 4, pos := "more.go:108", after := #[{ on := 10, ground := Go.Ground.data }, { on := 11, ground := Go.Ground.data }], guard := none } : Oper)) (v := ?_) rfl (by kernel_rfl) (by kernel_rfl) (by kernel_rfl) (fun _ _ _ h => h) (Or.inl ⟨by rfl, ?_⟩) (by assumption) ?_
                    rotate_left
                    · (intro w hSw; (try dsimp only at hSw); obtain ⟨y0, y1, y2, y3, y4, y5, y6, y7, y8⟩ := (H2.out _ hSw).1.c9; obtain ⟨z0, z1, z2, z3, z4, z5, z6, z7, z8⟩ := (H2.out _ hSw).2.c9;  go_simp; try with_reducible rfl)
                    try simp only [Act.put, List.setIfInBounds_toArray, List.set_cons_zero, List.set_cons_succ]
                    refine wpAnyH_take (i := 13) (oi := ({ dst := some 94, op := Go.Op.binOp Go.BinOp.neq 4 (Go.Operand.tmp 85) (Go.Operand.tmp 93) 4, type := 4, pos := "more.go:108", after := #[{ on := 4, ground := Go.Ground.data }, { on := 12, ground := Go.Ground.data }], guard := none } : Oper)) (v := ?_) rfl (by kernel_rfl) (by kernel_rfl) (by kernel_rfl) (fun _ _ _ h => h) (Or.inl ⟨by rfl, ?_⟩) (by assumption) ?_
                    rotate_left
                    · (intro w hSw; (try dsimp only at hSw); obtain ⟨y0, y1, y2, y3, y4, y5, y6, y7, y8⟩ := (H2.out _ hSw).1.c9; obtain ⟨z0, z1, z2, z3, z4, z5, z6, z7, z8⟩ := (H2.out _ hSw).2.c9;  go_simp; try with_reducible rfl)
                    try simp only [Act.put, List.setIfInBounds_toArray, List.set_cons_zero, List.set_cons_succ]
                    refine wpAnyH_take (i := 14) (oi := ({ dst := some 95, op := Go.Op.move (Go.Operand.tmp 94), type := 4, pos := "more.go:108", after := #[{ on := 13, ground := Go.Ground.data }, { on := 10, ground := Go.Ground.chain }], guard := none } : Oper)) (v := ?_) rfl (by kernel_rfl) (by kernel_rfl) (by kernel_rfl) (fun _ _ _ h => h) (Or.inl ⟨by rfl, ?_⟩) (by assumption) ?_
                    rotate_left
                    · (intro w hSw; (try dsimp only at hSw); obtain ⟨y0, y1, y2, y3, y4, y5, y6, y7, y8⟩ := (H2.out _ hSw).1.c9; obtain ⟨z0, z1, z2, z3, z4, z5, z6, z7, z8⟩ := (H2.out _ hSw).2.c9;  go_simp; try with_reducible rfl)
                    try simp only [Act.put, List.setIfInBounds_toArray, List.set_cons_zero, List.set_cons_succ]
                    refine wpAnyH_take (i := 15) (oi := ({ dst := some 96, op := Go.Op.load 27 (Go.Operand.tmp 8), type := 27, pos := "more.go:108", after := #[{ on := 14, ground := Go.Ground.guard }], guard := some (14, false) } : Oper)) (v := ?_) rfl (by kernel_rfl) (by kernel_rfl) (by kernel_rfl) (fun _ _ _ h => h) (Or.inl ⟨by rfl, ?_⟩) (by assumption) ?_
                    rotate_left
                    · (intro w hSw; (try dsimp only at hSw); obtain ⟨y0, y1, y2, y3, y4, y5, y6, y7, y8⟩ := (H2.out _ hSw).1.c9; obtain ⟨z0, z1, z2, z3, z4, z5, z6, z7, z8⟩ := (H2.out _ hSw).2.c9;  go_simp; try with_reducible rfl)
                    try simp only [Act.put, List.setIfInBounds_toArray, List.set_cons_zero, List.set_cons_succ]
                    refine wpAnyH_take (i := 16) (oi := ({ dst := some 97, op := Go.Op.move (Go.Operand.tmp 13), type := 3, pos := "more.go:108", after := #[{ on := 14, ground := Go.Ground.guard }], guard := some (14, false) } : Oper)) (v := ?_) rfl (by kernel_rfl) (by kernel_rfl) (by kernel_rfl) (fun _ _ _ h => h) (Or.inl ⟨by rfl, ?_⟩) (by assumption) ?_
                    rotate_left
                    · (intro w hSw; (try dsimp only at hSw); obtain ⟨y0, y1, y2, y3, y4, y5, y6, y7, y8⟩ := (H2.out _ hSw).1.c9; obtain ⟨z0, z1, z2, z3, z4, z5, z6, z7, z8⟩ := (H2.out _ hSw).2.c9;  go_simp; try with_reducible rfl)
                    try simp only [Act.put, List.setIfInBounds_toArray, List.set_cons_zero, List.set_cons_succ]
                    refine wpAnyH_take (i := 17) (oi := ({ dst := some 98, op := Go.Op.move (Go.Operand.tmp 12), type := 3, pos := "more.go:108", after := #[{ on := 14, ground := Go.Ground.guard }], guard := some (14, false) } : Oper)) (v := ?_) rfl (by kernel_rfl) (by kernel_rfl) (by kernel_rfl) (fun _ _ _ h => h) (Or.inl ⟨by rfl, ?_⟩) (by assumption) ?_
                    rotate_left
                    · (intro w hSw; (try dsimp only at hSw); obtain ⟨y0, y1, y2, y3, y4, y5, y6, y7, y8⟩ := (H2.out _ hSw).1.c9; obtain ⟨z0, z1, z2, z3, z4, z5, z6, z7, z8⟩ := (H2.out _ hSw).2.c9;  go_simp; try with_reducible rfl)
                    try simp only [Act.put, List.setIfInBounds_toArray, List.set_cons_zero, List.set_cons_succ]
                    refine wpAnyH_take (i := 18) (oi := ({ dst := some 99, op := Go.Op.binOp Go.BinOp.mul 3 (Go.Operand.tmp 98) (Go.Operand.const (Go.Value.int Go.IntKind.i64 64)) 3, type := 3, pos := "more.go:108", after := #[{ on := 17, ground := Go.Ground.data }, { on := 14, ground := Go.Ground.guard }], guard := some (14, false) } : Oper)) (v := ?_) rfl (by kernel_rfl) (by kernel_rfl) (by kernel_rfl) (fun _ _ _ h => h) (Or.inl ⟨by rfl, ?_⟩) (by assumption) ?_
                    rotate_left
                    · (intro w hSw; (try dsimp only at hSw); obtain ⟨y0, y1, y2, y3, y4, y5, y6, y7, y8⟩ := (H2.out _ hSw).1.c9; obtain ⟨z0, z1, z2, z3, z4, z5, z6, z7, z8⟩ := (H2.out _ hSw).2.c9;  go_simp; try with_reducible rfl)
                    try simp only [Act.put, List.setIfInBounds_toArray, List.set_cons_zero, List.set_cons_succ]
                    refine wpAnyH_take (i := 20) (oi := ({ dst := some 101, op := Go.Op.load 27 (Go.Operand.tmp 7), type := 27, pos := "more.go:108", after := #[{ on := 14, ground := Go.Ground.guard }], guard := some (14, false) } : Oper)) (v := ?_) rfl (by kernel_rfl) (by kernel_rfl) (by kernel_rfl) (fun _ _ _ h => h) (Or.inl ⟨by rfl, ?_⟩) (by assumption) ?_
                    rotate_left
                    · (intro w hSw; (try dsimp only at hSw); obtain ⟨y0, y1, y2, y3, y4, y5, y6, y7, y8⟩ := (H2.out _ hSw).1.c9; obtain ⟨z0, z1, z2, z3, z4, z5, z6, z7, z8⟩ := (H2.out _ hSw).2.c9;  go_simp; try with_reducible rfl)
                    try simp only [Act.put, List.setIfInBounds_toArray, List.set_cons_zero, List.set_cons_succ]
                    refine wpAnyH_take (i := 21) (oi := ({ dst := some 102, op := Go.Op.move (Go.Operand.tmp 13), type := 3, pos := "more.go:108", after := #[{ on := 14, ground := Go.Ground.guard }], guard := some (14, false) } : Oper)) (v := ?_) rfl (by kernel_rfl) (by kernel_rfl) (by kernel_rfl) (fun _ _ _ h => h) (Or.inl ⟨by rfl, ?_⟩) (by assumption) ?_
                    rotate_left
                    · (intro w hSw; (try dsimp only at hSw); obtain ⟨y0, y1, y2, y3, y4, y5, y6, y7, y8⟩ := (H2.out _ hSw).1.c9; obtain ⟨z0, z1, z2, z3, z4, z5, z6, z7, z8⟩ := (H2.out _ hSw).2.c9;  go_simp; try with_reducible rfl)
                    try simp only [Act.put, List.setIfInBounds_toArray, List.set_cons_zero, List.set_cons_succ]
                    refine wpAnyH_take (i := 22) (oi := ({ dst := some 103, op := Go.Op.move (Go.Operand.tmp 12), type := 3, pos := "more.go:108", after := #[{ on := 14, ground := Go.Ground.guard }], guard := some (14, false) } : Oper)) (v := ?_) rfl (by kernel_rfl) (by kernel_rfl) (by kernel_rfl) (fun _ _ _ h => h) (Or.inl ⟨by rfl, ?_⟩) (by assumption) ?_
                    rotate_left
                    · (intro w hSw; (try dsimp only at hSw); obtain ⟨y0, y1, y2, y3, y4, y5, y6, y7, y8⟩ := (H2.out _ hSw).1.c9; obtain ⟨z0, z1, z2, z3, z4, z5, z6, z7, z8⟩ := (H2.out _ hSw).2.c9;  go_simp; try with_reducible rfl)
                    try simp only [Act.put, List.setIfInBounds_toArray, List.set_cons_zero, List.set_cons_succ]
                    refine wpAnyH_take (i := 23) (oi := ({ dst := some 104, op := Go.Op.binOp Go.BinOp.mul 3 (Go.Operand.tmp 103) (Go.Operand.const (Go.Value.int Go.IntKind.i64 64)) 3, type := 3, pos := "more.go:108", after := #[{ on := 22, ground := Go.Ground.data }, { on := 14, ground := Go.Ground.guard }], guard := some (14, false) } : Oper)) (v := ?_) rfl (by kernel_rfl) (by kernel_rfl) (by kernel_rfl) (fun _ _ _ h => h) (Or.inl ⟨by rfl, ?_⟩) (by assumption) ?_
                    rotate_left
                    · (intro w hSw; (try dsimp only at hSw); obtain ⟨y0, y1, y2, y3, y4, y5, y6, y7, y8⟩ := (H2.out _ hSw).1.c9; obtain ⟨z0, z1, z2, z3, z4, z5, z6, z7, z8⟩ := (H2.out _ hSw).2.c9;  go_simp; try with_reducible rfl)
                    try simp only [Act.put, List.setIfInBounds_toArray, List.set_cons_zero, List.set_cons_succ]
                    refine wpAnyH_ready (rs := [19]) (by kernel_rfl) (List.cons_ne_nil _ _) ?_
                    refine AllReadyH.cons (o := ({ dst := some 100, op := Go.Op.call { callee := Go.Callee.value (Go.Operand.func 27), args := #[Go.Operand.tmp 96, Go.Operand.tmp 97, Go.Operand.tmp 99, Go.Operand.const (Go.Value.int Go.IntKind.i64 64)], argTypes := #[27, 3, 3, 3] }, type := 4, pos := "more.go:108", after := #[{ on := 15, ground := Go.Ground.data }, { on := 16, ground := Go.Ground.data }, { on := 18, ground := Go.Ground.data }, { on := 14, ground := Go.Ground.chain }, { on := 14, ground := Go.Ground.guard }], guard := some (14, false) } : Oper)) rfl (fun K hK => ?_) AllReadyH.nil
                    refine Eq.mpr (if_pos (by rfl)) ?_
                    go_simp
                    (go_at_call 27; refine (cWrites i ((j : Int) * 64) 64 (cGr F P false) _ _ (H2.out _ HR.out).2.2).mono ?_; rintro e w6 ⟨rfl, k6⟩; replace HR := Lib.hid (HR.out.trans k6); clear k6; rw [WD.out])
                    refine hK.out _ _ (HR.out) (fun hHeld => ?_)
                    clear hK K
                    try simp only [Act.put, List.setIfInBounds_toArray, List.set_cons_zero, List.set_cons_succ]
                    refine wpAnyH_ready (rs := [24]) (by kernel_rfl) (List.cons_ne_nil _ _) ?_
                    refine AllReadyH.cons (o := ({ dst := some 105, op := Go.Op.call { callee := Go.Callee.value (Go.Operand.func 27), args := #[Go.Operand.tmp 101, Go.Operand.tmp 102, Go.Operand.tmp 104, Go.Operand.const (Go.Value.int Go.IntKind.i64 64)], argTypes := #[27, 3, 3, 3] }, type := 4, pos := "more.go:108", after := #[{ on := 20, ground := Go.Ground.data }, { on := 21, ground := Go.Ground.data }, { on := 23, ground := Go.Ground.data }, { on := 19, ground := Go.Ground.chain }, { on := 14, ground := Go.Ground.guard }], guard := some (14, false) } : Oper)) rfl (fun K hK => ?_) AllReadyH.nil
                    refine Eq.mpr (if_pos (by rfl)) ?_
                    go_simp
                    (go_at_call 27; refine (cWrites i ((j : Int) * 64) 64 (noG cPlain) _ _ (H2.out _ HR.out).1.2).mono ?_; rintro e w6 ⟨rfl, k6⟩; replace HR := Lib.hid (HR.out.trans k6); clear k6; rw [WC.out])
                    refine hK.out _ _ (HR.out) (fun hHeld => ?_)
                    clear hK K
                    try simp only [Act.put, List.setIfInBounds_toArray, List.set_cons_zero, List.set_cons_succ]
                    refine wpAnyH_take (i := 25) (oi := ({ dst := some 106, op := Go.Op.move (Go.Operand.tmp 105), type := 4, pos := "more.go:108", after := #[{ on := 24, ground := Go.Ground.data }, { on := 24, ground := Go.Ground.chain }, { on := 14, ground := Go.Ground.guard }], guard := some (14, false) } : Oper)) (v := ?_) rfl (by kernel_rfl) (by kernel_rfl) (by kernel_rfl) (fun _ _ _ h => h) (Or.inl ⟨by rfl, ?_⟩) (by assumption) ?_
                    rotate_left
                    · (intro w hSw; (try dsimp only at hSw); obtain ⟨y0, y1, y2, y3, y4, y5, y6, y7, y8⟩ := (H2.out _ hSw).1.c9; obtain ⟨z0, z1, z2, z3, z4, z5, z6, z7, z8⟩ := (H2.out _ hSw).2.c9;  go_simp; try with_reducible rfl)
                    try simp only [Act.put, List.setIfInBounds_toArray, List.set_cons_zero, List.set_cons_succ]
                    refine wpAnyH_take (i := 26) (oi := ({ dst := some 107, op := Go.Op.move (Go.Operand.tmp 14), type := 4, pos := "more.go:108", after := #[{ on := 25, ground := Go.Ground.guard }], guard := some (25, false) } : Oper)) (v := ?_) rfl (by kernel_rfl) (by kernel_rfl) (by kernel_rfl) (fun _ _ _ h => h) (Or.inl ⟨by rfl, ?_⟩) (by assumption) ?_
                    rotate_left
                    · (intro w hSw; (try dsimp only at hSw); obtain ⟨y0, y1, y2, y3, y4, y5, y6, y7, y8⟩ := (H2.out _ hSw).1.c9; obtain ⟨z0, z1, z2, z3, z4, z5, z6, z7, z8⟩ := (H2.out _ hSw).2.c9;  go_simp; try with_reducible rfl)
                    try simp only [Act.put, List.setIfInBounds_toArray, List.set_cons_zero, List.set_cons_succ]
                    refine wpAnyH_take (i := 27) (oi := ({ dst := some 108, op := Go.Op.move (Go.Operand.tmp 107), type := 4, pos := "more.go:108", after := #[{ on := 26, ground := Go.Ground.data }, { on := 25, ground := Go.Ground.chain }, { on := 25, ground := Go.Ground.guard }], guard := some (25, false) } : Oper)) (v := ?_) rfl (by kernel_rfl) (by kernel_rfl) (by kernel_rfl) (fun _ _ _ h => h) (Or.inl ⟨by rfl, ?_⟩) (by assumption) ?_
                    rotate_left
                    · (intro w hSw; (try dsimp only at hSw); obtain ⟨y0, y1, y2, y3, y4, y5, y6, y7, y8⟩ := (H2.out _ hSw).1.c9; obtain ⟨z0, z1, z2, z3, z4, z5, z6, z7, z8⟩ := (H2.out _ hSw).2.c9;  go_simp; try with_reducible rfl)
                    try simp only [Act.put, List.setIfInBounds_toArray, List.set_cons_zero, List.set_cons_succ]
                    refine wpAnyH_take (i := 28) (oi := ({ dst := some 109, op := Go.Op.move (Go.Operand.tmp 2), type := 4, pos := "more.go:108", after := #[{ on := 27, ground := Go.Ground.guard }], guard := some (27, true) } : Oper)) (v := ?_) rfl (by kernel_rfl) (by kernel_rfl) (by kernel_rfl) (fun _ _ _ h => h) (Or.inl ⟨by rfl, ?_⟩) (by assumption) ?_
                    rotate_left
                    · (intro w hSw; (try dsimp only at hSw); obtain ⟨y0, y1, y2, y3, y4, y5, y6, y7, y8⟩ := (H2.out _ hSw).1.c9; obtain ⟨z0, z1, z2, z3, z4, z5, z6, z7, z8⟩ := (H2.out _ hSw).2.c9;  go_simp; try with_reducible rfl)
                    try simp only [Act.put, List.setIfInBounds_toArray, List.set_cons_zero, List.set_cons_succ]
                    refine wpAnyH_take (i := 29) (oi := ({ dst := some 110, op := Go.Op.pick (Go.Operand.tmp 108) (Go.Operand.tmp 109) (Go.Operand.const (Go.Value.bool false)), type := 4, pos := "more.go:108", after := #[{ on := 27, ground := Go.Ground.data }, { on := 28, ground := Go.Ground.data }, { on := 25, ground := Go.Ground.guard }], guard := some (25, false) } : Oper)) (v := ?_) rfl (by kernel_rfl) (by kernel_rfl) (by kernel_rfl) (fun _ _ _ h => h) (Or.inl ⟨by rfl, ?_⟩) (by assumption) ?_
                    rotate_left
                    · (intro w hSw; (try dsimp only at hSw); obtain ⟨y0, y1, y2, y3, y4, y5, y6, y7, y8⟩ := (H2.out _ hSw).1.c9; obtain ⟨z0, z1, z2, z3, z4, z5, z6, z7, z8⟩ := (H2.out _ hSw).2.c9;  go_simp; try with_reducible rfl)
                    try simp only [Act.put, List.setIfInBounds_toArray, List.set_cons_zero, List.set_cons_succ]
                    refine wpAnyH_take (i := 30) (oi := ({ dst := some 111, op := Go.Op.pick (Go.Operand.tmp 106) (Go.Operand.const (Go.Value.bool true)) (Go.Operand.tmp 110), type := 4, pos := "more.go:108", after := #[{ on := 25, ground := Go.Ground.data }, { on := 29, ground := Go.Ground.data }, { on := 14, ground := Go.Ground.guard }], guard := some (14, false) } : Oper)) (v := ?_) rfl (by kernel_rfl) (by kernel_rfl) (by kernel_rfl) (fun _ _ _ h => h) (Or.inl ⟨by rfl, ?_⟩) (by assumption) ?_
                    rotate_left
                    · (intro w hSw; (try dsimp only at hSw); obtain ⟨y0, y1, y2, y3, y4, y5, y6, y7, y8⟩ := (H2.out _ hSw).1.c9; obtain ⟨z0, z1, z2, z3, z4, z5, z6, z7, z8⟩ := (H2.out _ hSw).2.c9;  go_simp; try with_reducible rfl)
                    try simp only [Act.put, List.setIfInBounds_toArray, List.set_cons_zero, List.set_cons_succ]
                    refine wpAnyH_take (i := 31) (oi := ({ dst := some 112, op := Go.Op.binOp Go.BinOp.neq 4 (Go.Operand.tmp 100) (Go.Operand.tmp 111) 4, type := 4, pos := "more.go:108", after := #[{ on := 19, ground := Go.Ground.data }, { on := 30, ground := Go.Ground.data }, { on := 14, ground := Go.Ground.guard }], guard := some (14, false) } : Oper)) (v := ?_) rfl (by kernel_rfl) (by kernel_rfl) (by kernel_rfl) (fun _ _ _ h => h) (Or.inl ⟨by rfl, ?_⟩) (by assumption) ?_
                    rotate_left
                    · (intro w hSw; (try dsimp only at hSw); obtain ⟨y0, y1, y2, y3, y4, y5, y6, y7, y8⟩ := (H2.out _ hSw).1.c9; obtain ⟨z0, z1, z2, z3, z4, z5, z6, z7, z8⟩ := (H2.out _ hSw).2.c9;  go_simp; try with_reducible rfl)
                    try simp only [Act.put, List.setIfInBounds_toArray, List.set_cons_zero, List.set_cons_succ]
                    refine wpAnyH_take (i := 32) (oi := ({ dst := some 113, op := Go.Op.pick (Go.Operand.tmp 95) (Go.Operand.const (Go.Value.bool true)) (Go.Operand.tmp 112), type := 4, pos := "more.go:108", after := #[{ on := 14, ground := Go.Ground.data }, { on := 31, ground := Go.Ground.data }], guard := none } : Oper)) (v := ?_) rfl (by kernel_rfl) (by kernel_rfl) (by kernel_rfl) (fun _ _ _ h => h) (Or.inl ⟨by rfl, ?_⟩) (by assumption) ?_
                    rotate_left
                    · (intro w hSw; (try dsimp only at hSw); obtain ⟨y0, y1, y2, y3, y4, y5, y6, y7, y8⟩ := (H2.out _ hSw).1.c9; obtain ⟨z0, z1, z2, z3, z4, z5, z6, z7, z8⟩ := (H2.out _ hSw).2.c9;  go_simp; try with_reducible rfl)
                    try simp only [Act.put, List.setIfInBounds_toArray, List.set_cons_zero, List.set_cons_succ]
                    refine wpAnyH_done (by kernel_rfl) ?_ _
                    clear hwr
                    go_wp2_with fail
                    go_roundw
                    case rel => exact ⟨i + 1, by omega, by go_num, HR.out⟩
                    case measure => simp [intOf]; omega
                · have RC := Lib.hid ((hRC false).trans (decide_eq_false hown))
                  have WC := Lib.hid ((hRC true).trans (decide_eq_false hown))
                  have hnd : ∀ x, ¬ (cPlain.own j = i ∨ (F = j ∧ P = i ∧ (iw = true ∨ x = false))) := fun x h => by
                    rcases h with h | h
                    · exact hown h
                    · exact hh ⟨h.1.symm, h.2.1.symm⟩
                  have RD := Lib.hid ((hRD false).trans (decide_eq_false (hnd false)))
                  have WD := Lib.hid ((hRD true).trans (decide_eq_false (hnd true)))
                  clear hRC hRD hown hnd
                  by_cases hjf : (j : Int) = F
                  · have hjb : ((j : Int) == F) = true := by simpa using hjf
                    have hib : ((i : Int) == P) = false := by simp; exact fun h => hh ⟨hjf, h⟩
                    clear hh hjf
                    go_upto_region 20 with fail
                    have hwr : IntKind.i64.wrap ((j : Int) * 64) = (j : Int) * 64 := IntWalk.i64_in _ (by omega)
                    refine wp_region_held_drew (S := fun W => Chg (fun _ => False) wc W) (by kernel_rfl) (HR.out.drew) (fun hHeld => ?_)
                    replace HR : Hid (Chg (fun _ => False) wc _) := hHeld
                    refine wpAnyH_take (i := 0) (oi := ({ dst := some 81, op := Go.Op.load 27 (Go.Operand.tmp 8), type := 27, pos := "more.go:108", after := #[], guard := none } : Oper)) (v := ?_) rfl (by kernel_rfl) (by kernel_rfl) (by kernel_rfl) (fun _ _ _ h => h) (Or.inl ⟨by rfl, ?_⟩) (by assumption) ?_
                    rotate_left
                    · (intro w hSw; (try dsimp only at hSw); obtain ⟨y0, y1, y2, y3, y4, y5, y6, y7, y8⟩ := (H2.out _ hSw).1.c9; obtain ⟨z0, z1, z2, z3, z4, z5, z6, z7, z8⟩ := (H2.out _ hSw).2.c9;  go_simp; try with_reducible rfl)
                    try simp only [Act.put, List.setIfInBounds_toArray, List.set_cons_zero, List.set_cons_succ]
                    refine wpAnyH_take (i := 1) (oi := ({ dst := some 82, op := Go.Op.move (Go.Operand.tmp 13), type := 3, pos := "more.go:108", after := #[], guard := none } : Oper)) (v := ?_) rfl (by kernel_rfl) (by kernel_rfl) (by kernel_rfl) (fun _ _ _ h => h) (Or.inl ⟨by rfl, ?_⟩) (by assumption) ?_
                    rotate_left
                    · (intro w hSw; (try dsimp only at hSw); obtain ⟨y0, y1, y2, y3, y4, y5, y6, y7, y8⟩ := (H2.out _ hSw).1.c9; obtain ⟨z0, z1, z2, z3, z4, z5, z6, z7, z8⟩ := (H2.out _ hSw).2.c9;  go_simp; try with_reducible rfl)
                    try simp only [Act.put, List.setIfInBounds_toArray, List.set_cons_zero, List.set_cons_succ]
                    refine wpAnyH_take (i := 2) (oi := ({ dst := some 83, op := Go.Op.move (Go.Operand.tmp 12), type := 3, pos := "more.go:108", after := #[], guard := none } : Oper)) (v := ?_) rfl (by kernel_rfl) (by kernel_rfl) (by kernel_rfl) (fun _ _ _ h => h) (Or.inl ⟨by rfl, ?_⟩) (by assumption) ?_
                    rotate_left
                    · (intro w hSw; (try dsimp only at hSw); obtain ⟨y0, y1, y2, y3, y4, y5, y6, y7, y8⟩ := (H2.out _ hSw).1.c9; obtain ⟨z0, z1, z2, z3, z4, z5, z6, z7, z8⟩ := (H2.out _ hSw).2.c9;  go_simp; try with_reducible rfl)
                    try simp only [Act.put, List.setIfInBounds_toArray, List.set_cons_zero, List.set_cons_succ]
                    refine wpAnyH_take (i := 3) (oi := ({ dst := some 84, op := Go.Op.binOp Go.BinOp.mul 3 (Go.Operand.tmp 83) (Go.Operand.const (Go.Value.int Go.IntKind.i64 64)) 3, type := 3, pos := "more.go:108", after := #[{ on := 2, ground := Go.Ground.data }], guard := none } : Oper)) (v := ?_) rfl (by kernel_rfl) (by kernel_rfl) (by kernel_rfl) (fun _ _ _ h => h) (Or.inl ⟨by rfl, ?_⟩) (by assumption) ?_
                    rotate_left
                    · (intro w hSw; (try dsimp only at hSw); obtain ⟨y0, y1, y2, y3, y4, y5, y6, y7, y8⟩ := (H2.out _ hSw).1.c9; obtain ⟨z0, z1, z2, z3, z4, z5, z6, z7, z8⟩ := (H2.out _ hSw).2.c9;  go_simp; try with_reducible rfl)
                    try simp only [Act.put, List.setIfInBounds_toArray, List.set_cons_zero, List.set_cons_succ]
                    refine wpAnyH_take (i := 5) (oi := ({ dst := some 86, op := Go.Op.load 27 (Go.Operand.tmp 7), type := 27, pos := "more.go:108", after := #[], guard := none } : Oper)) (v := ?_) rfl (by kernel_rfl) (by kernel_rfl) (by kernel_rfl) (fun _ _ _ h => h) (Or.inl ⟨by rfl, ?_⟩) (by assumption) ?_
                    rotate_left
                    · (intro w hSw; (try dsimp only at hSw); obtain ⟨y0, y1, y2, y3, y4, y5, y6, y7, y8⟩ := (H2.out _ hSw).1.c9; obtain ⟨z0, z1, z2, z3, z4, z5, z6, z7, z8⟩ := (H2.out _ hSw).2.c9;  go_simp; try with_reducible rfl)
                    try simp only [Act.put, List.setIfInBounds_toArray, List.set_cons_zero, List.set_cons_succ]
                    refine wpAnyH_take (i := 6) (oi := ({ dst := some 87, op := Go.Op.move (Go.Operand.tmp 13), type := 3, pos := "more.go:108", after := #[], guard := none } : Oper)) (v := ?_) rfl (by kernel_rfl) (by kernel_rfl) (by kernel_rfl) (fun _ _ _ h => h) (Or.inl ⟨by rfl, ?_⟩) (by assumption) ?_
                    rotate_left
                    · (intro w hSw; (try dsimp only at hSw); obtain ⟨y0, y1, y2, y3, y4, y5, y6, y7, y8⟩ := (H2.out _ hSw).1.c9; obtain ⟨z0, z1, z2, z3, z4, z5, z6, z7, z8⟩ := (H2.out _ hSw).2.c9;  go_simp; try with_reducible rfl)
                    try simp only [Act.put, List.setIfInBounds_toArray, List.set_cons_zero, List.set_cons_succ]
                    refine wpAnyH_take (i := 7) (oi := ({ dst := some 88, op := Go.Op.move (Go.Operand.tmp 12), type := 3, pos := "more.go:108", after := #[], guard := none } : Oper)) (v := ?_) rfl (by kernel_rfl) (by kernel_rfl) (by kernel_rfl) (fun _ _ _ h => h) (Or.inl ⟨by rfl, ?_⟩) (by assumption) ?_
                    rotate_left
                    · (intro w hSw; (try dsimp only at hSw); obtain ⟨y0, y1, y2, y3, y4, y5, y6, y7, y8⟩ := (H2.out _ hSw).1.c9; obtain ⟨z0, z1, z2, z3, z4, z5, z6, z7, z8⟩ := (H2.out _ hSw).2.c9;  go_simp; try with_reducible rfl)
                    try simp only [Act.put, List.setIfInBounds_toArray, List.set_cons_zero, List.set_cons_succ]
                    refine wpAnyH_take (i := 8) (oi := ({ dst := some 89, op := Go.Op.binOp Go.BinOp.mul 3 (Go.Operand.tmp 88) (Go.Operand.const (Go.Value.int Go.IntKind.i64 64)) 3, type := 3, pos := "more.go:108", after := #[{ on := 7, ground := Go.Ground.data }], guard := none } : Oper)) (v := ?_) rfl (by kernel_rfl) (by kernel_rfl) (by kernel_rfl) (fun _ _ _ h => h) (Or.inl ⟨by rfl, ?_⟩) (by assumption) ?_
                    rotate_left
                    · (intro w hSw; (try dsimp only at hSw); obtain ⟨y0, y1, y2, y3, y4, y5, y6, y7, y8⟩ := (H2.out _ hSw).1.c9; obtain ⟨z0, z1, z2, z3, z4, z5, z6, z7, z8⟩ := (H2.out _ hSw).2.c9;  go_simp; try with_reducible rfl)
                    try simp only [Act.put, List.setIfInBounds_toArray, List.set_cons_zero, List.set_cons_succ]
                    refine wpAnyH_ready (rs := [4]) (by kernel_rfl) (List.cons_ne_nil _ _) ?_
                    refine AllReadyH.cons (o := ({ dst := some 85, op := Go.Op.call { callee := Go.Callee.value (Go.Operand.func 25), args := #[Go.Operand.tmp 81, Go.Operand.tmp 82, Go.Operand.tmp 84, Go.Operand.const (Go.Value.int Go.IntKind.i64 64)], argTypes := #[27, 3, 3, 3] }, type := 4, pos := "more.go:108", after := #[{ on := 0, ground := Go.Ground.data }, { on := 1, ground := Go.Ground.data }, { on := 3, ground := Go.Ground.data }], guard := none } : Oper)) rfl (fun K hK => ?_) AllReadyH.nil
                    refine Eq.mpr (if_pos (by rfl)) ?_
                    go_simp
                    (go_at_call 25; refine (cReads i ((j : Int) * 64) 64 (cGr F P iw) _ _ (H2.out _ HR.out).2.2).mono ?_; rintro e w6 ⟨rfl, k6⟩; replace HR := Lib.hid (HR.out.trans k6); clear k6; rw [RD.out])
                    refine hK.out _ _ (HR.out) (fun hHeld => ?_)
                    clear hK K
                    try simp only [Act.put, List.setIfInBounds_toArray, List.set_cons_zero, List.set_cons_succ]
                    refine wpAnyH_ready (rs := [9]) (by kernel_rfl) (List.cons_ne_nil _ _) ?_
                    refine AllReadyH.cons (o := ({ dst := some 90, op := Go.Op.call { callee := Go.Callee.value (Go.Operand.func 25), args := #[Go.Operand.tmp 86, Go.Operand.tmp 87, Go.Operand.tmp 89, Go.Operand.const (Go.Value.int Go.IntKind.i64 64)], argTypes := #[27, 3, 3, 3] }, type := 4, pos := "more.go:108", after := #[{ on := 5, ground := Go.Ground.data }, { on := 6, ground := Go.Ground.data }, { on := 8, ground := Go.Ground.data }, { on := 4, ground := Go.Ground.chain }], guard := none } : Oper)) rfl (fun K hK => ?_) AllReadyH.nil
                    refine Eq.mpr (if_pos (by rfl)) ?_
                    go_simp
                    (go_at_call 25; refine (cReads i ((j : Int) * 64) 64 (noG cPlain) _ _ (H2.out _ HR.out).1.2).mono ?_; rintro e w6 ⟨rfl, k6⟩; replace HR := Lib.hid (HR.out.trans k6); clear k6; rw [RC.out])
                    refine hK.out _ _ (HR.out) (fun hHeld => ?_)
                    clear hK K
                    try simp only [Act.put, List.setIfInBounds_toArray, List.set_cons_zero, List.set_cons_succ]
                    refine wpAnyH_take (i := 10) (oi := ({ dst := some 91, op := Go.Op.move (Go.Operand.tmp 90), type := 4, pos := "more.go:108", after := #[{ on := 9, ground := Go.Ground.data }, { on := 9, ground := Go.Ground.chain }], guard := none } : Oper)) (v := ?_) rfl (by kernel_rfl) (by kernel_rfl) (by kernel_rfl) (fun _ _ _ h => h) (Or.inl ⟨by rfl, ?_⟩) (by assumption) ?_
                    rotate_left
                    · (intro w hSw; (try dsimp only at hSw); obtain ⟨y0, y1, y2, y3, y4, y5, y6, y7, y8⟩ := (H2.out _ hSw).1.c9; obtain ⟨z0, z1, z2, z3, z4, z5, z6, z7, z8⟩ := (H2.out _ hSw).2.c9;  go_simp; try with_reducible rfl)
                    try simp only [Act.put, List.setIfInBounds_toArray, List.set_cons_zero, List.set_cons_succ]
                    refine wpAnyH_take (i := 11) (oi := ({ dst := some 92, op := Go.Op.move (Go.Operand.tmp 14), type := 4, pos := "more.go:108", after := #[{ on := 10, ground := Go.Ground.guard }], guard := some (10, false) } : Oper)) (v := ?_) rfl (by kernel_rfl) (by kernel_rfl) (by kernel_rfl) (fun _ _ _ h => h) (Or.inl ⟨by rfl, ?_⟩) (by assumption) ?_
                    rotate_left
                    · (intro w hSw; (try dsimp only at hSw); obtain ⟨y0, y1, y2, y3, y4, y5, y6, y7, y8⟩ := (H2.out _ hSw).1.c9; obtain ⟨z0, z1, z2, z3, z4, z5, z6, z7, z8⟩ := (H2.out _ hSw).2.c9;  go_simp; try with_reducible rfl)
                    try simp only [Act.put, List.setIfInBounds_toArray, List.set_cons_zero, List.set_cons_succ]
                    refine wpAnyH_take (i := 12) (oi := ({ dst := some 93, op := Go.Op.pick (Go.Operand.tmp 91) (Go.Operand.const (Go.Value.bool true)) (Go.Operand.tmp 92), type := 4, pos := "more.go:108", after := #[{ on := 10, ground := Go.Ground.data }, { on := 11, ground := Go.Ground.data }], guard := none } : Oper)) (v := ?_) rfl (by kernel_rfl) (by kernel_rfl) (by kernel_rfl) (fun _ _ _ h => h) (Or.inl ⟨by rfl, ?_⟩) (by assumption) ?_
                    rotate_left
                    · (intro w hSw; (try dsimp only at hSw); obtain ⟨y0, y1, y2, y3, y4, y5, y6, y7, y8⟩ := (H2.out _ hSw).1.c9; obtain ⟨z0, z1, z2, z3, z4, z5, z6, z7, z8⟩ := (H2.out _ hSw).2.c9;  go_simp; try with_reducible rfl)
                    try simp only [Act.put, List.setIfInBounds_toArray, List.set_cons_zero, List.set_cons_succ]
                    refine wpAnyH_take (i := 13) (oi := ({ dst := some 94, op := Go.Op.binOp Go.BinOp.neq 4 (Go.Operand.tmp 85) (Go.Operand.tmp 93) 4, type := 4, pos := "more.go:108", after := #[{ on := 4, ground := Go.Ground.data }, { on := 12, ground := Go.Ground.data }], guard := none } : Oper)) (v := ?_) rfl (by kernel_rfl) (by kernel_rfl) (by kernel_rfl) (fun _ _ _ h => h) (Or.inl ⟨by rfl, ?_⟩) (by assumption) ?_
                    rotate_left
                    · (intro w hSw; (try dsimp only at hSw); obtain ⟨y0, y1, y2, y3, y4, y5, y6, y7, y8⟩ := (H2.out _ hSw).1.c9; obtain ⟨z0, z1, z2, z3, z4, z5, z6, z7, z8⟩ := (H2.out _ hSw).2.c9;  go_simp; try with_reducible rfl)
                    try simp only [Act.put, List.setIfInBounds_toArray, List.set_cons_zero, List.set_cons_succ]
                    refine wpAnyH_take (i := 14) (oi := ({ dst := some 95, op := Go.Op.move (Go.Operand.tmp 94), type := 4, pos := "more.go:108", after := #[{ on := 13, ground := Go.Ground.data }, { on := 10, ground := Go.Ground.chain }], guard := none } : Oper)) (v := ?_) rfl (by kernel_rfl) (by kernel_rfl) (by kernel_rfl) (fun _ _ _ h => h) (Or.inl ⟨by rfl, ?_⟩) (by assumption) ?_
                    rotate_left
                    · (intro w hSw; (try dsimp only at hSw); obtain ⟨y0, y1, y2, y3, y4, y5, y6, y7, y8⟩ := (H2.out _ hSw).1.c9; obtain ⟨z0, z1, z2, z3, z4, z5, z6, z7, z8⟩ := (H2.out _ hSw).2.c9;  go_simp; try with_reducible rfl)
                    try simp only [Act.put, List.setIfInBounds_toArray, List.set_cons_zero, List.set_cons_succ]
                    refine wpAnyH_take (i := 15) (oi := ({ dst := some 96, op := Go.Op.load 27 (Go.Operand.tmp 8), type := 27, pos := "more.go:108", after := #[{ on := 14, ground := Go.Ground.guard }], guard := some (14, false) } : Oper)) (v := ?_) rfl (by kernel_rfl) (by kernel_rfl) (by kernel_rfl) (fun _ _ _ h => h) (Or.inl ⟨by rfl, ?_⟩) (by assumption) ?_
                    rotate_left
                    · (intro w hSw; (try dsimp only at hSw); obtain ⟨y0, y1, y2, y3, y4, y5, y6, y7, y8⟩ := (H2.out _ hSw).1.c9; obtain ⟨z0, z1, z2, z3, z4, z5, z6, z7, z8⟩ := (H2.out _ hSw).2.c9;  go_simp; try with_reducible rfl)
                    try simp only [Act.put, List.setIfInBounds_toArray, List.set_cons_zero, List.set_cons_succ]
                    refine wpAnyH_take (i := 16) (oi := ({ dst := some 97, op := Go.Op.move (Go.Operand.tmp 13), type := 3, pos := "more.go:108", after := #[{ on := 14, ground := Go.Ground.guard }], guard := some (14, false) } : Oper)) (v := ?_) rfl (by kernel_rfl) (by kernel_rfl) (by kernel_rfl) (fun _ _ _ h => h) (Or.inl ⟨by rfl, ?_⟩) (by assumption) ?_
                    rotate_left
                    · (intro w hSw; (try dsimp only at hSw); obtain ⟨y0, y1, y2, y3, y4, y5, y6, y7, y8⟩ := (H2.out _ hSw).1.c9; obtain ⟨z0, z1, z2, z3, z4, z5, z6, z7, z8⟩ := (H2.out _ hSw).2.c9;  go_simp; try with_reducible rfl)
                    try simp only [Act.put, List.setIfInBounds_toArray, List.set_cons_zero, List.set_cons_succ]
                    refine wpAnyH_take (i := 17) (oi := ({ dst := some 98, op := Go.Op.move (Go.Operand.tmp 12), type := 3, pos := "more.go:108", after := #[{ on := 14, ground := Go.Ground.guard }], guard := some (14, false) } : Oper)) (v := ?_) rfl (by kernel_rfl) (by kernel_rfl) (by kernel_rfl) (fun _ _ _ h => h) (Or.inl ⟨by rfl, ?_⟩) (by assumption) ?_
                    rotate_left
                    · (intro w hSw; (try dsimp only at hSw); obtain ⟨y0, y1, y2, y3, y4, y5, y6, y7, y8⟩ := (H2.out _ hSw).1.c9; obtain ⟨z0, z1, z2, z3, z4, z5, z6, z7, z8⟩ := (H2.out _ hSw).2.c9;  go_simp; try with_reducible rfl)
                    try simp only [Act.put, List.setIfInBounds_toArray, List.set_cons_zero, List.set_cons_succ]
                    refine wpAnyH_take (i := 18) (oi := ({ dst := some 99, op := Go.Op.binOp Go.BinOp.mul 3 (Go.Operand.tmp 98) (Go.Operand.const (Go.Value.int Go.IntKind.i64 64)) 3, type := 3, pos := "more.go:108", after := #[{ on := 17, ground := Go.Ground.data }, { on := 14, ground := Go.Ground.guard }], guard := some (14, false) } : Oper)) (v := ?_) rfl (by kernel_rfl) (by kernel_rfl) (by kernel_rfl) (fun _ _ _ h => h) (Or.inl ⟨by rfl, ?_⟩) (by assumption) ?_
                    rotate_left
                    · (intro w hSw; (try dsimp only at hSw); obtain ⟨y0, y1, y2, y3, y4, y5, y6, y7, y8⟩ := (H2.out _ hSw).1.c9; obtain ⟨z0, z1, z2, z3, z4, z5, z6, z7, z8⟩ := (H2.out _ hSw).2.c9;  go_simp; try with_reducible rfl)
                    try simp only [Act.put, List.setIfInBounds_toArray, List.set_cons_zero, List.set_cons_succ]
                    refine wpAnyH_take (i := 20) (oi := ({ dst := some 101, op := Go.Op.load 27 (Go.Operand.tmp 7), type := 27, pos := "more.go:108", after := #[{ on := 14, ground := Go.Ground.guard }], guard := some (14, false) } : Oper)) (v := ?_) rfl (by kernel_rfl) (by kernel_rfl) (by kernel_rfl) (fun _ _ _ h => h) (Or.inl ⟨by rfl, ?_⟩) (by assumption) ?_
                    rotate_left
                    · (intro w hSw; (try dsimp only at hSw); obtain ⟨y0, y1, y2, y3, y4, y5, y6, y7, y8⟩ := (H2.out _ hSw).1.c9; obtain ⟨z0, z1, z2, z3, z4, z5, z6, z7, z8⟩ := (H2.out _ hSw).2.c9;  go_simp; try with_reducible rfl)
                    try simp only [Act.put, List.setIfInBounds_toArray, List.set_cons_zero, List.set_cons_succ]
                    refine wpAnyH_take (i := 21) (oi := ({ dst := some 102, op := Go.Op.move (Go.Operand.tmp 13), type := 3, pos := "more.go:108", after := #[{ on := 14, ground := Go.Ground.guard }], guard := some (14, false) } : Oper)) (v := ?_) rfl (by kernel_rfl) (by kernel_rfl) (by kernel_rfl) (fun _ _ _ h => h) (Or.inl ⟨by rfl, ?_⟩) (by assumption) ?_
                    rotate_left
                    · (intro w hSw; (try dsimp only at hSw); obtain ⟨y0, y1, y2, y3, y4, y5, y6, y7, y8⟩ := (H2.out _ hSw).1.c9; obtain ⟨z0, z1, z2, z3, z4, z5, z6, z7, z8⟩ := (H2.out _ hSw).2.c9;  go_simp; try with_reducible rfl)
                    try simp only [Act.put, List.setIfInBounds_toArray, List.set_cons_zero, List.set_cons_succ]
                    refine wpAnyH_take (i := 22) (oi := ({ dst := some 103, op := Go.Op.move (Go.Operand.tmp 12), type := 3, pos := "more.go:108", after := #[{ on := 14, ground := Go.Ground.guard }], guard := some (14, false) } : Oper)) (v := ?_) rfl (by kernel_rfl) (by kernel_rfl) (by kernel_rfl) (fun _ _ _ h => h) (Or.inl ⟨by rfl, ?_⟩) (by assumption) ?_
                    rotate_left
                    · (intro w hSw; (try dsimp only at hSw); obtain ⟨y0, y1, y2, y3, y4, y5, y6, y7, y8⟩ := (H2.out _ hSw).1.c9; obtain ⟨z0, z1, z2, z3, z4, z5, z6, z7, z8⟩ := (H2.out _ hSw).2.c9;  go_simp; try with_reducible rfl)
                    try simp only [Act.put, List.setIfInBounds_toArray, List.set_cons_zero, List.set_cons_succ]
                    refine wpAnyH_take (i := 23) (oi := ({ dst := some 104, op := Go.Op.binOp Go.BinOp.mul 3 (Go.Operand.tmp 103) (Go.Operand.const (Go.Value.int Go.IntKind.i64 64)) 3, type := 3, pos := "more.go:108", after := #[{ on := 22, ground := Go.Ground.data }, { on := 14, ground := Go.Ground.guard }], guard := some (14, false) } : Oper)) (v := ?_) rfl (by kernel_rfl) (by kernel_rfl) (by kernel_rfl) (fun _ _ _ h => h) (Or.inl ⟨by rfl, ?_⟩) (by assumption) ?_
                    rotate_left
                    · (intro w hSw; (try dsimp only at hSw); obtain ⟨y0, y1, y2, y3, y4, y5, y6, y7, y8⟩ := (H2.out _ hSw).1.c9; obtain ⟨z0, z1, z2, z3, z4, z5, z6, z7, z8⟩ := (H2.out _ hSw).2.c9;  go_simp; try with_reducible rfl)
                    try simp only [Act.put, List.setIfInBounds_toArray, List.set_cons_zero, List.set_cons_succ]
                    refine wpAnyH_ready (rs := [19]) (by kernel_rfl) (List.cons_ne_nil _ _) ?_
                    refine AllReadyH.cons (o := ({ dst := some 100, op := Go.Op.call { callee := Go.Callee.value (Go.Operand.func 27), args := #[Go.Operand.tmp 96, Go.Operand.tmp 97, Go.Operand.tmp 99, Go.Operand.const (Go.Value.int Go.IntKind.i64 64)], argTypes := #[27, 3, 3, 3] }, type := 4, pos := "more.go:108", after := #[{ on := 15, ground := Go.Ground.data }, { on := 16, ground := Go.Ground.data }, { on := 18, ground := Go.Ground.data }, { on := 14, ground := Go.Ground.chain }, { on := 14, ground := Go.Ground.guard }], guard := some (14, false) } : Oper)) rfl (fun K hK => ?_) AllReadyH.nil
                    refine Eq.mpr (if_pos (by rfl)) ?_
                    go_simp
                    (go_at_call 27; refine (cWrites i ((j : Int) * 64) 64 (cGr F P iw) _ _ (H2.out _ HR.out).2.2).mono ?_; rintro e w6 ⟨rfl, k6⟩; replace HR := Lib.hid (HR.out.trans k6); clear k6; rw [WD.out])
                    refine hK.out _ _ (HR.out) (fun hHeld => ?_)
                    clear hK K
                    try simp only [Act.put, List.setIfInBounds_toArray, List.set_cons_zero, List.set_cons_succ]
                    refine wpAnyH_ready (rs := [24]) (by kernel_rfl) (List.cons_ne_nil _ _) ?_
                    refine AllReadyH.cons (o := ({ dst := some 105, op := Go.Op.call { callee := Go.Callee.value (Go.Operand.func 27), args := #[Go.Operand.tmp 101, Go.Operand.tmp 102, Go.Operand.tmp 104, Go.Operand.const (Go.Value.int Go.IntKind.i64 64)], argTypes := #[27, 3, 3, 3] }, type := 4, pos := "more.go:108", after := #[{ on := 20, ground := Go.Ground.data }, { on := 21, ground := Go.Ground.data }, { on := 23, ground := Go.Ground.data }, { on := 19, ground := Go.Ground.chain }, { on := 14, ground := Go.Ground.guard }], guard := some (14, false) } : Oper)) rfl (fun K hK => ?_) AllReadyH.nil
                    refine Eq.mpr (if_pos (by rfl)) ?_
                    go_simp
                    (go_at_call 27; refine (cWrites i ((j : Int) * 64) 64 (noG cPlain) _ _ (H2.out _ HR.out).1.2).mono ?_; rintro e w6 ⟨rfl, k6⟩; replace HR := Lib.hid (HR.out.trans k6); clear k6; rw [WC.out])
                    refine hK.out _ _ (HR.out) (fun hHeld => ?_)
                    clear hK K
                    try simp only [Act.put, List.setIfInBounds_toArray, List.set_cons_zero, List.set_cons_succ]
                    refine wpAnyH_take (i := 25) (oi := ({ dst := some 106, op := Go.Op.move (Go.Operand.tmp 105), type := 4, pos := "more.go:108", after := #[{ on := 24, ground := Go.Ground.data }, { on := 24, ground := Go.Ground.chain }, { on := 14, ground := Go.Ground.guard }], guard := some (14, false) } : Oper)) (v := ?_) rfl (by kernel_rfl) (by kernel_rfl) (by kernel_rfl) (fun _ _ _ h => h) (Or.inl ⟨by rfl, ?_⟩) (by assumption) ?_
                    rotate_left
                    · (intro w hSw; (try dsimp only at hSw); obtain ⟨y0, y1, y2, y3, y4, y5, y6, y7, y8⟩ := (H2.out _ hSw).1.c9; obtain ⟨z0, z1, z2, z3, z4, z5, z6, z7, z8⟩ := (H2.out _ hSw).2.c9;  go_simp; try with_reducible rfl)
                    try simp only [Act.put, List.setIfInBounds_toArray, List.set_cons_zero, List.set_cons_succ]
                    refine wpAnyH_take (i := 26) (oi := ({ dst := some 107, op := Go.Op.move (Go.Operand.tmp 14), type := 4, pos := "more.go:108", after := #[{ on := 25, ground := Go.Ground.guard }], guard := some (25, false) } : Oper)) (v := ?_) rfl (by kernel_rfl) (by kernel_rfl) (by kernel_rfl) (fun _ _ _ h => h) (Or.inl ⟨by rfl, ?_⟩) (by assumption) ?_
                    rotate_left
                    · (intro w hSw; (try dsimp only at hSw); obtain ⟨y0, y1, y2, y3, y4, y5, y6, y7, y8⟩ := (H2.out _ hSw).1.c9; obtain ⟨z0, z1, z2, z3, z4, z5, z6, z7, z8⟩ := (H2.out _ hSw).2.c9;  go_simp; try with_reducible rfl)
                    try simp only [Act.put, List.setIfInBounds_toArray, List.set_cons_zero, List.set_cons_succ]
                    refine wpAnyH_take (i := 27) (oi := ({ dst := some 108, op := Go.Op.move (Go.Operand.tmp 107), type := 4, pos := "more.go:108", after := #[{ on := 26, ground := Go.Ground.data }, { on := 25, ground := Go.Ground.chain }, { on := 25, ground := Go.Ground.guard }], guard := some (25, false) } : Oper)) (v := ?_) rfl (by kernel_rfl) (by kernel_rfl) (by kernel_rfl) (fun _ _ _ h => h) (Or.inl ⟨by rfl, ?_⟩) (by assumption) ?_
                    rotate_left
                    · (intro w hSw; (try dsimp only at hSw); obtain ⟨y0, y1, y2, y3, y4, y5, y6, y7, y8⟩ := (H2.out _ hSw).1.c9; obtain ⟨z0, z1, z2, z3, z4, z5, z6, z7, z8⟩ := (H2.out _ hSw).2.c9;  go_simp; try with_reducible rfl)
                    try simp only [Act.put, List.setIfInBounds_toArray, List.set_cons_zero, List.set_cons_succ]
                    refine wpAnyH_take (i := 28) (oi := ({ dst := some 109, op := Go.Op.move (Go.Operand.tmp 2), type := 4, pos := "more.go:108", after := #[{ on := 27, ground := Go.Ground.guard }], guard := some (27, true) } : Oper)) (v := undef) rfl (by kernel_rfl) (by kernel_rfl) (by kernel_rfl) (fun _ _ _ h => h) (Or.inr ⟨by rfl, rfl⟩) (by assumption) ?_
                    try simp only [Act.put, List.setIfInBounds_toArray, List.set_cons_zero, List.set_cons_succ]
                    refine wpAnyH_take (i := 29) (oi := ({ dst := some 110, op := Go.Op.pick (Go.Operand.tmp 108) (Go.Operand.tmp 109) (Go.Operand.const (Go.Value.bool false)), type := 4, pos := "more.go:108", after := #[{ on := 27, ground := Go.Ground.data }, { on := 28, ground := Go.Ground.data }, { on := 25, ground := Go.Ground.guard }], guard := some (25, false) } : Oper)) (v := ?_) rfl (by kernel_rfl) (by kernel_rfl) (by kernel_rfl) (fun _ _ _ h => h) (Or.inl ⟨by rfl, ?_⟩) (by assumption) ?_
                    rotate_left
                    · (intro w hSw; (try dsimp only at hSw); obtain ⟨y0, y1, y2, y3, y4, y5, y6, y7, y8⟩ := (H2.out _ hSw).1.c9; obtain ⟨z0, z1, z2, z3, z4, z5, z6, z7, z8⟩ := (H2.out _ hSw).2.c9;  go_simp; try with_reducible rfl)
                    try simp only [Act.put, List.setIfInBounds_toArray, List.set_cons_zero, List.set_cons_succ]
                    refine wpAnyH_take (i := 30) (oi := ({ dst := some 111, op := Go.Op.pick (Go.Operand.tmp 106) (Go.Operand.const (Go.Value.bool true)) (Go.Operand.tmp 110), type := 4, pos := "more.go:108", after := #[{ on := 25, ground := Go.Ground.data }, { on := 29, ground := Go.Ground.data }, { on := 14, ground := Go.Ground.guard }], guard := some (14, false) } : Oper)) (v := ?_) rfl (by kernel_rfl) (by kernel_rfl) (by kernel_rfl) (fun _ _ _ h => h) (Or.inl ⟨by rfl, ?_⟩) (by assumption) ?_
                    rotate_left
                    · (intro w hSw; (try dsimp only at hSw); obtain ⟨y0, y1, y2, y3, y4, y5, y6, y7, y8⟩ := (H2.out _ hSw).1.c9; obtain ⟨z0, z1, z2, z3, z4, z5, z6, z7, z8⟩ := (H2.out _ hSw).2.c9;  go_simp; try with_reducible rfl)
                    try simp only [Act.put, List.setIfInBounds_toArray, List.set_cons_zero, List.set_cons_succ]
                    refine wpAnyH_take (i := 31) (oi := ({ dst := some 112, op := Go.Op.binOp Go.BinOp.neq 4 (Go.Operand.tmp 100) (Go.Operand.tmp 111) 4, type := 4, pos := "more.go:108", after := #[{ on := 19, ground := Go.Ground.data }, { on := 30, ground := Go.Ground.data }, { on := 14, ground := Go.Ground.guard }], guard := some (14, false) } : Oper)) (v := ?_) rfl (by kernel_rfl) (by kernel_rfl) (by kernel_rfl) (fun _ _ _ h => h) (Or.inl ⟨by rfl, ?_⟩) (by assumption) ?_
                    rotate_left
                    · (intro w hSw; (try dsimp only at hSw); obtain ⟨y0, y1, y2, y3, y4, y5, y6, y7, y8⟩ := (H2.out _ hSw).1.c9; obtain ⟨z0, z1, z2, z3, z4, z5, z6, z7, z8⟩ := (H2.out _ hSw).2.c9;  go_simp; try with_reducible rfl)
                    try simp only [Act.put, List.setIfInBounds_toArray, List.set_cons_zero, List.set_cons_succ]
                    refine wpAnyH_take (i := 32) (oi := ({ dst := some 113, op := Go.Op.pick (Go.Operand.tmp 95) (Go.Operand.const (Go.Value.bool true)) (Go.Operand.tmp 112), type := 4, pos := "more.go:108", after := #[{ on := 14, ground := Go.Ground.data }, { on := 31, ground := Go.Ground.data }], guard := none } : Oper)) (v := ?_) rfl (by kernel_rfl) (by kernel_rfl) (by kernel_rfl) (fun _ _ _ h => h) (Or.inl ⟨by rfl, ?_⟩) (by assumption) ?_
                    rotate_left
                    · (intro w hSw; (try dsimp only at hSw); obtain ⟨y0, y1, y2, y3, y4, y5, y6, y7, y8⟩ := (H2.out _ hSw).1.c9; obtain ⟨z0, z1, z2, z3, z4, z5, z6, z7, z8⟩ := (H2.out _ hSw).2.c9;  go_simp; try with_reducible rfl)
                    try simp only [Act.put, List.setIfInBounds_toArray, List.set_cons_zero, List.set_cons_succ]
                    refine wpAnyH_done (by kernel_rfl) ?_ _
                    clear hwr
                    go_wp2_with fail
                    go_roundw
                    case rel => exact ⟨i + 1, by omega, by go_num, HR.out⟩
                    case measure => simp [intOf]; omega
                  · have hjb : ((j : Int) == F) = false := by simpa using hjf
                    clear hh hjf
                    go_upto_region 20 with fail
                    have hwr : IntKind.i64.wrap ((j : Int) * 64) = (j : Int) * 64 := IntWalk.i64_in _ (by omega)
                    refine wp_region_held_drew (S := fun W => Chg (fun _ => False) wc W) (by kernel_rfl) (HR.out.drew) (fun hHeld => ?_)
                    replace HR : Hid (Chg (fun _ => False) wc _) := hHeld
                    refine wpAnyH_take (i := 0) (oi := ({ dst := some 81, op := Go.Op.load 27 (Go.Operand.tmp 8), type := 27, pos := "more.go:108", after := #[], guard := none } : Oper)) (v := ?_) rfl (by kernel_rfl) (by kernel_rfl) (by kernel_rfl) (fun _ _ _ h => h) (Or.inl ⟨by rfl, ?_⟩) (by assumption) ?_
                    rotate_left
                    · (intro w hSw; (try dsimp only at hSw); obtain ⟨y0, y1, y2, y3, y4, y5, y6, y7, y8⟩ := (H2.out _ hSw).1.c9; obtain ⟨z0, z1, z2, z3, z4, z5, z6, z7, z8⟩ := (H2.out _ hSw).2.c9;  go_simp; try with_reducible rfl)
                    try simp only [Act.put, List.setIfInBounds_toArray, List.set_cons_zero, List.set_cons_succ]
                    refine wpAnyH_take (i := 1) (oi := ({ dst := some 82, op := Go.Op.move (Go.Operand.tmp 13), type := 3, pos := "more.go:108", after := #[], guard := none } : Oper)) (v := ?_) rfl (by kernel_rfl) (by kernel_rfl) (by kernel_rfl) (fun _ _ _ h => h) (Or.inl ⟨by rfl, ?_⟩) (by assumption) ?_
                    rotate_left
                    · (intro w hSw; (try dsimp only at hSw); obtain ⟨y0, y1, y2, y3, y4, y5, y6, y7, y8⟩ := (H2.out _ hSw).1.c9; obtain ⟨z0, z1, z2, z3, z4, z5, z6, z7, z8⟩ := (H2.out _ hSw).2.c9;  go_simp; try with_reducible rfl)
                    try simp only [Act.put, List.setIfInBounds_toArray, List.set_cons_zero, List.set_cons_succ]
                    refine wpAnyH_take (i := 2) (oi := ({ dst := some 83, op := Go.Op.move (Go.Operand.tmp 12), type := 3, pos := "more.go:108", after := #[], guard := none } : Oper)) (v := ?_) rfl (by kernel_rfl) (by kernel_rfl) (by kernel_rfl) (fun _ _ _ h => h) (Or.inl ⟨by rfl, ?_⟩) (by assumption) ?_
                    rotate_left
                    · (intro w hSw; (try dsimp only at hSw); obtain ⟨y0, y1, y2, y3, y4, y5, y6, y7, y8⟩ := (H2.out _ hSw).1.c9; obtain ⟨z0, z1, z2, z3, z4, z5, z6, z7, z8⟩ := (H2.out _ hSw).2.c9;  go_simp; try with_reducible rfl)
                    try simp only [Act.put, List.setIfInBounds_toArray, List.set_cons_zero, List.set_cons_succ]
                    refine wpAnyH_take (i := 3) (oi := ({ dst := some 84, op := Go.Op.binOp Go.BinOp.mul 3 (Go.Operand.tmp 83) (Go.Operand.const (Go.Value.int Go.IntKind.i64 64)) 3, type := 3, pos := "more.go:108", after := #[{ on := 2, ground := Go.Ground.data }], guard := none } : Oper)) (v := ?_) rfl (by kernel_rfl) (by kernel_rfl) (by kernel_rfl) (fun _ _ _ h => h) (Or.inl ⟨by rfl, ?_⟩) (by assumption) ?_
                    rotate_left
                    · (intro w hSw; (try dsimp only at hSw); obtain ⟨y0, y1, y2, y3, y4, y5, y6, y7, y8⟩ := (H2.out _ hSw).1.c9; obtain ⟨z0, z1, z2, z3, z4, z5, z6, z7, z8⟩ := (H2.out _ hSw).2.c9;  go_simp; try with_reducible rfl)
                    try simp only [Act.put, List.setIfInBounds_toArray, List.set_cons_zero, List.set_cons_succ]
                    refine wpAnyH_take (i := 5) (oi := ({ dst := some 86, op := Go.Op.load 27 (Go.Operand.tmp 7), type := 27, pos := "more.go:108", after := #[], guard := none } : Oper)) (v := ?_) rfl (by kernel_rfl) (by kernel_rfl) (by kernel_rfl) (fun _ _ _ h => h) (Or.inl ⟨by rfl, ?_⟩) (by assumption) ?_
                    rotate_left
                    · (intro w hSw; (try dsimp only at hSw); obtain ⟨y0, y1, y2, y3, y4, y5, y6, y7, y8⟩ := (H2.out _ hSw).1.c9; obtain ⟨z0, z1, z2, z3, z4, z5, z6, z7, z8⟩ := (H2.out _ hSw).2.c9;  go_simp; try with_reducible rfl)
                    try simp only [Act.put, List.setIfInBounds_toArray, List.set_cons_zero, List.set_cons_succ]
                    refine wpAnyH_take (i := 6) (oi := ({ dst := some 87, op := Go.Op.move (Go.Operand.tmp 13), type := 3, pos := "more.go:108", after := #[], guard := none } : Oper)) (v := ?_) rfl (by kernel_rfl) (by kernel_rfl) (by kernel_rfl) (fun _ _ _ h => h) (Or.inl ⟨by rfl, ?_⟩) (by assumption) ?_
                    rotate_left
                    · (intro w hSw; (try dsimp only at hSw); obtain ⟨y0, y1, y2, y3, y4, y5, y6, y7, y8⟩ := (H2.out _ hSw).1.c9; obtain ⟨z0, z1, z2, z3, z4, z5, z6, z7, z8⟩ := (H2.out _ hSw).2.c9;  go_simp; try with_reducible rfl)
                    try simp only [Act.put, List.setIfInBounds_toArray, List.set_cons_zero, List.set_cons_succ]
                    refine wpAnyH_take (i := 7) (oi := ({ dst := some 88, op := Go.Op.move (Go.Operand.tmp 12), type := 3, pos := "more.go:108", after := #[], guard := none } : Oper)) (v := ?_) rfl (by kernel_rfl) (by kernel_rfl) (by kernel_rfl) (fun _ _ _ h => h) (Or.inl ⟨by rfl, ?_⟩) (by assumption) ?_
                    rotate_left
                    · (intro w hSw; (try dsimp only at hSw); obtain ⟨y0, y1, y2, y3, y4, y5, y6, y7, y8⟩ := (H2.out _ hSw).1.c9; obtain ⟨z0, z1, z2, z3, z4, z5, z6, z7, z8⟩ := (H2.out _ hSw).2.c9;  go_simp; try with_reducible rfl)
                    try simp only [Act.put, List.setIfInBounds_toArray, List.set_cons_zero, List.set_cons_succ]
                    refine wpAnyH_take (i := 8) (oi := ({ dst := some 89, op := Go.Op.binOp Go.BinOp.mul 3 (Go.Operand.tmp 88) (Go.Operand.const (Go.Value.int Go.IntKind.i64 64)) 3, type := 3, pos := "more.go:108", after := #[{ on := 7, ground := Go.Ground.data }], guard := none } : Oper)) (v := ?_) rfl (by kernel_rfl) (by kernel_rfl) (by kernel_rfl) (fun _ _ _ h => h) (Or.inl ⟨by rfl, ?_⟩) (by assumption) ?_
                    rotate_left
                    · (intro w hSw; (try dsimp only at hSw); obtain ⟨y0, y1, y2, y3, y4, y5, y6, y7, y8⟩ := (H2.out _ hSw).1.c9; obtain ⟨z0, z1, z2, z3, z4, z5, z6, z7, z8⟩ := (H2.out _ hSw).2.c9;  go_simp; try with_reducible rfl)
                    try simp only [Act.put, List.setIfInBounds_toArray, List.set_cons_zero, List.set_cons_succ]
                    refine wpAnyH_ready (rs := [4]) (by kernel_rfl) (List.cons_ne_nil _ _) ?_
                    refine AllReadyH.cons (o := ({ dst := some 85, op := Go.Op.call { callee := Go.Callee.value (Go.Operand.func 25), args := #[Go.Operand.tmp 81, Go.Operand.tmp 82, Go.Operand.tmp 84, Go.Operand.const (Go.Value.int Go.IntKind.i64 64)], argTypes := #[27, 3, 3, 3] }, type := 4, pos := "more.go:108", after := #[{ on := 0, ground := Go.Ground.data }, { on := 1, ground := Go.Ground.data }, { on := 3, ground := Go.Ground.data }], guard := none } : Oper)) rfl (fun K hK => ?_) AllReadyH.nil
                    refine Eq.mpr (if_pos (by rfl)) ?_
                    go_simp
                    (go_at_call 25; refine (cReads i ((j : Int) * 64) 64 (cGr F P iw) _ _ (H2.out _ HR.out).2.2).mono ?_; rintro e w6 ⟨rfl, k6⟩; replace HR := Lib.hid (HR.out.trans k6); clear k6; rw [RD.out])
                    refine hK.out _ _ (HR.out) (fun hHeld => ?_)
                    clear hK K
                    try simp only [Act.put, List.setIfInBounds_toArray, List.set_cons_zero, List.set_cons_succ]
                    refine wpAnyH_ready (rs := [9]) (by kernel_rfl) (List.cons_ne_nil _ _) ?_
                    refine AllReadyH.cons (o := ({ dst := some 90, op := Go.Op.call { callee := Go.Callee.value (Go.Operand.func 25), args := #[Go.Operand.tmp 86, Go.Operand.tmp 87, Go.Operand.tmp 89, Go.Operand.const (Go.Value.int Go.IntKind.i64 64)], argTypes := #[27, 3, 3, 3] }, type := 4, pos := "more.go:108", after := #[{ on := 5, ground := Go.Ground.data }, { on := 6, ground := Go.Ground.data }, { on := 8, ground := Go.Ground.data }, { on := 4, ground := Go.Ground.chain }], guard := none } : Oper)) rfl (fun K hK => ?_) AllReadyH.nil
                    refine Eq.mpr (if_pos (by rfl)) ?_
                    go_simp
                    (go_at_call 25; refine (cReads i ((j : Int) * 64) 64 (noG cPlain) _ _ (H2.out _ HR.out).1.2).mono ?_; rintro e w6 ⟨rfl, k6⟩; replace HR := Lib.hid (HR.out.trans k6); clear k6; rw [RC.out])
                    refine hK.out _ _ (HR.out) (fun hHeld => ?_)
                    clear hK K
                    try simp only [Act.put, List.setIfInBounds_toArray, List.set_cons_zero, List.set_cons_succ]
                    refine wpAnyH_take (i := 10) (oi := ({ dst := some 91, op := Go.Op.move (Go.Operand.tmp 90), type := 4, pos := "more.go:108", after := #[{ on := 9, ground := Go.Ground.data }, { on := 9, ground := Go.Ground.chain }], guard := none } : Oper)) (v := ?_) rfl (by kernel_rfl) (by kernel_rfl) (by kernel_rfl) (fun _ _ _ h => h) (Or.inl ⟨by rfl, ?_⟩) (by assumption) ?_
                    rotate_left
                    · (intro w hSw; (try dsimp only at hSw); obtain ⟨y0, y1, y2, y3, y4, y5, y6, y7, y8⟩ := (H2.out _ hSw).1.c9; obtain ⟨z0, z1, z2, z3, z4, z5, z6, z7, z8⟩ := (H2.out _ hSw).2.c9;  go_simp; try with_reducible rfl)
                    try simp only [Act.put, List.setIfInBounds_toArray, List.set_cons_zero, List.set_cons_succ]
                    refine wpAnyH_take (i := 11) (oi := ({ dst := some 92, op := Go.Op.move (Go.Operand.tmp 14), type := 4, pos := "more.go:108", after := #[{ on := 10, ground := Go.Ground.guard }], guard := some (10, false) } : Oper)) (v := ?_) rfl (by kernel_rfl) (by kernel_rfl) (by kernel_rfl) (fun _ _ _ h => h) (Or.inl ⟨by rfl, ?_⟩) (by assumption) ?_
                    rotate_left
                    · (intro w hSw; (try dsimp only at hSw); obtain ⟨y0, y1, y2, y3, y4, y5, y6, y7, y8⟩ := (H2.out _ hSw).1.c9; obtain ⟨z0, z1, z2, z3, z4, z5, z6, z7, z8⟩ := (H2.out _ hSw).2.c9;  go_simp; try with_reducible rfl)
                    try simp only [Act.put, List.setIfInBounds_toArray, List.set_cons_zero, List.set_cons_succ]
                    refine wpAnyH_take (i := 12) (oi := ({ dst := some 93, op := Go.Op.pick (Go.Operand.tmp 91) (Go.Operand.const (Go.Value.bool true)) (Go.Operand.tmp 92), type := 4, pos := "more.go:108", after := #[{ on := 10, ground := Go.Ground.data }, { on := 11, ground := Go.Ground.data }], guard := none } : Oper)) (v := ?_) rfl (by kernel_rfl) (by kernel_rfl) (by kernel_rfl) (fun _ _ _ h => h) (Or.inl ⟨by rfl, ?_⟩) (by assumption) ?_
                    rotate_left
                    · (intro w hSw; (try dsimp only at hSw); obtain ⟨y0, y1, y2, y3, y4, y5, y6, y7, y8⟩ := (H2.out _ hSw).1.c9; obtain ⟨z0, z1, z2, z3, z4, z5, z6, z7, z8⟩ := (H2.out _ hSw).2.c9;  go_simp; try with_reducible rfl)
                    try simp only [Act.put, List.setIfInBounds_toArray, List.set_cons_zero, List.set_cons_succ]
                    refine wpAnyH_take (i := 13) (oi := ({ dst := some 94, op := Go.Op.binOp Go.BinOp.neq 4 (Go.Operand.tmp 85) (Go.Operand.tmp 93) 4, type := 4, pos := "more.go:108", after := #[{ on := 4, ground := Go.Ground.data }, { on := 12, ground := Go.Ground.data }], guard := none } : Oper)) (v := ?_) rfl (by kernel_rfl) (by kernel_rfl) (by kernel_rfl) (fun _ _ _ h => h) (Or.inl ⟨by rfl, ?_⟩) (by assumption) ?_
                    rotate_left
                    · (intro w hSw; (try dsimp only at hSw); obtain ⟨y0, y1, y2, y3, y4, y5, y6, y7, y8⟩ := (H2.out _ hSw).1.c9; obtain ⟨z0, z1, z2, z3, z4, z5, z6, z7, z8⟩ := (H2.out _ hSw).2.c9;  go_simp; try with_reducible rfl)
                    try simp only [Act.put, List.setIfInBounds_toArray, List.set_cons_zero, List.set_cons_succ]
                    refine wpAnyH_take (i := 14) (oi := ({ dst := some 95, op := Go.Op.move (Go.Operand.tmp 94), type := 4, pos := "more.go:108", after := #[{ on := 13, ground := Go.Ground.data }, { on := 10, ground := Go.Ground.chain }], guard := none } : Oper)) (v := ?_) rfl (by kernel_rfl) (by kernel_rfl) (by kernel_rfl) (fun _ _ _ h => h) (Or.inl ⟨by rfl, ?_⟩) (by assumption) ?_
                    rotate_left
                    · (intro w hSw; (try dsimp only at hSw); obtain ⟨y0, y1, y2, y3, y4, y5, y6, y7, y8⟩ := (H2.out _ hSw).1.c9; obtain ⟨z0, z1, z2, z3, z4, z5, z6, z7, z8⟩ := (H2.out _ hSw).2.c9;  go_simp; try with_reducible rfl)
                    try simp only [Act.put, List.setIfInBounds_toArray, List.set_cons_zero, List.set_cons_succ]
                    refine wpAnyH_take (i := 15) (oi := ({ dst := some 96, op := Go.Op.load 27 (Go.Operand.tmp 8), type := 27, pos := "more.go:108", after := #[{ on := 14, ground := Go.Ground.guard }], guard := some (14, false) } : Oper)) (v := ?_) rfl (by kernel_rfl) (by kernel_rfl) (by kernel_rfl) (fun _ _ _ h => h) (Or.inl ⟨by rfl, ?_⟩) (by assumption) ?_
                    rotate_left
                    · (intro w hSw; (try dsimp only at hSw); obtain ⟨y0, y1, y2, y3, y4, y5, y6, y7, y8⟩ := (H2.out _ hSw).1.c9; obtain ⟨z0, z1, z2, z3, z4, z5, z6, z7, z8⟩ := (H2.out _ hSw).2.c9;  go_simp; try with_reducible rfl)
                    try simp only [Act.put, List.setIfInBounds_toArray, List.set_cons_zero, List.set_cons_succ]
                    refine wpAnyH_take (i := 16) (oi := ({ dst := some 97, op := Go.Op.move (Go.Operand.tmp 13), type := 3, pos := "more.go:108", after := #[{ on := 14, ground := Go.Ground.guard }], guard := some (14, false) } : Oper)) (v := ?_) rfl (by kernel_rfl) (by kernel_rfl) (by kernel_rfl) (fun _ _ _ h => h) (Or.inl ⟨by rfl, ?_⟩) (by assumption) ?_
                    rotate_left
                    · (intro w hSw; (try dsimp only at hSw); obtain ⟨y0, y1, y2, y3, y4, y5, y6, y7, y8⟩ := (H2.out _ hSw).1.c9; obtain ⟨z0, z1, z2, z3, z4, z5, z6, z7, z8⟩ := (H2.out _ hSw).2.c9;  go_simp; try with_reducible rfl)
                    try simp only [Act.put, List.setIfInBounds_toArray, List.set_cons_zero, List.set_cons_succ]
                    refine wpAnyH_take (i := 17) (oi := ({ dst := some 98, op := Go.Op.move (Go.Operand.tmp 12), type := 3, pos := "more.go:108", after := #[{ on := 14, ground := Go.Ground.guard }], guard := some (14, false) } : Oper)) (v := ?_) rfl (by kernel_rfl) (by kernel_rfl) (by kernel_rfl) (fun _ _ _ h => h) (Or.inl ⟨by rfl, ?_⟩) (by assumption) ?_
                    rotate_left
                    · (intro w hSw; (try dsimp only at hSw); obtain ⟨y0, y1, y2, y3, y4, y5, y6, y7, y8⟩ := (H2.out _ hSw).1.c9; obtain ⟨z0, z1, z2, z3, z4, z5, z6, z7, z8⟩ := (H2.out _ hSw).2.c9;  go_simp; try with_reducible rfl)
                    try simp only [Act.put, List.setIfInBounds_toArray, List.set_cons_zero, List.set_cons_succ]
                    refine wpAnyH_take (i := 18) (oi := ({ dst := some 99, op := Go.Op.binOp Go.BinOp.mul 3 (Go.Operand.tmp 98) (Go.Operand.const (Go.Value.int Go.IntKind.i64 64)) 3, type := 3, pos := "more.go:108", after := #[{ on := 17, ground := Go.Ground.data }, { on := 14, ground := Go.Ground.guard }], guard := some (14, false) } : Oper)) (v := ?_) rfl (by kernel_rfl) (by kernel_rfl) (by kernel_rfl) (fun _ _ _ h => h) (Or.inl ⟨by rfl, ?_⟩) (by assumption) ?_
                    rotate_left
                    · (intro w hSw; (try dsimp only at hSw); obtain ⟨y0, y1, y2, y3, y4, y5, y6, y7, y8⟩ := (H2.out _ hSw).1.c9; obtain ⟨z0, z1, z2, z3, z4, z5, z6, z7, z8⟩ := (H2.out _ hSw).2.c9;  go_simp; try with_reducible rfl)
                    try simp only [Act.put, List.setIfInBounds_toArray, List.set_cons_zero, List.set_cons_succ]
                    refine wpAnyH_take (i := 20) (oi := ({ dst := some 101, op := Go.Op.load 27 (Go.Operand.tmp 7), type := 27, pos := "more.go:108", after := #[{ on := 14, ground := Go.Ground.guard }], guard := some (14, false) } : Oper)) (v := ?_) rfl (by kernel_rfl) (by kernel_rfl) (by kernel_rfl) (fun _ _ _ h => h) (Or.inl ⟨by rfl, ?_⟩) (by assumption) ?_
                    rotate_left
                    · (intro w hSw; (try dsimp only at hSw); obtain ⟨y0, y1, y2, y3, y4, y5, y6, y7, y8⟩ := (H2.out _ hSw).1.c9; obtain ⟨z0, z1, z2, z3, z4, z5, z6, z7, z8⟩ := (H2.out _ hSw).2.c9;  go_simp; try with_reducible rfl)
                    try simp only [Act.put, List.setIfInBounds_toArray, List.set_cons_zero, List.set_cons_succ]
                    refine wpAnyH_take (i := 21) (oi := ({ dst := some 102, op := Go.Op.move (Go.Operand.tmp 13), type := 3, pos := "more.go:108", after := #[{ on := 14, ground := Go.Ground.guard }], guard := some (14, false) } : Oper)) (v := ?_) rfl (by kernel_rfl) (by kernel_rfl) (by kernel_rfl) (fun _ _ _ h => h) (Or.inl ⟨by rfl, ?_⟩) (by assumption) ?_
                    rotate_left
                    · (intro w hSw; (try dsimp only at hSw); obtain ⟨y0, y1, y2, y3, y4, y5, y6, y7, y8⟩ := (H2.out _ hSw).1.c9; obtain ⟨z0, z1, z2, z3, z4, z5, z6, z7, z8⟩ := (H2.out _ hSw).2.c9;  go_simp; try with_reducible rfl)
                    try simp only [Act.put, List.setIfInBounds_toArray, List.set_cons_zero, List.set_cons_succ]
                    refine wpAnyH_take (i := 22) (oi := ({ dst := some 103, op := Go.Op.move (Go.Operand.tmp 12), type := 3, pos := "more.go:108", after := #[{ on := 14, ground := Go.Ground.guard }], guard := some (14, false) } : Oper)) (v := ?_) rfl (by kernel_rfl) (by kernel_rfl) (by kernel_rfl) (fun _ _ _ h => h) (Or.inl ⟨by rfl, ?_⟩) (by assumption) ?_
                    rotate_left
                    · (intro w hSw; (try dsimp only at hSw); obtain ⟨y0, y1, y2, y3, y4, y5, y6, y7, y8⟩ := (H2.out _ hSw).1.c9; obtain ⟨z0, z1, z2, z3, z4, z5, z6, z7, z8⟩ := (H2.out _ hSw).2.c9;  go_simp; try with_reducible rfl)
                    try simp only [Act.put, List.setIfInBounds_toArray, List.set_cons_zero, List.set_cons_succ]
                    refine wpAnyH_take (i := 23) (oi := ({ dst := some 104, op := Go.Op.binOp Go.BinOp.mul 3 (Go.Operand.tmp 103) (Go.Operand.const (Go.Value.int Go.IntKind.i64 64)) 3, type := 3, pos := "more.go:108", after := #[{ on := 22, ground := Go.Ground.data }, { on := 14, ground := Go.Ground.guard }], guard := some (14, false) } : Oper)) (v := ?_) rfl (by kernel_rfl) (by kernel_rfl) (by kernel_rfl) (fun _ _ _ h => h) (Or.inl ⟨by rfl, ?_⟩) (by assumption) ?_
                    rotate_left
                    · (intro w hSw; (try dsimp only at hSw); obtain ⟨y0, y1, y2, y3, y4, y5, y6, y7, y8⟩ := (H2.out _ hSw).1.c9; obtain ⟨z0, z1, z2, z3, z4, z5, z6, z7, z8⟩ := (H2.out _ hSw).2.c9;  go_simp; try with_reducible rfl)
                    try simp only [Act.put, List.setIfInBounds_toArray, List.set_cons_zero, List.set_cons_succ]
                    refine wpAnyH_ready (rs := [19]) (by kernel_rfl) (List.cons_ne_nil _ _) ?_
                    refine AllReadyH.cons (o := ({ dst := some 100, op := Go.Op.call { callee := Go.Callee.value (Go.Operand.func 27), args := #[Go.Operand.tmp 96, Go.Operand.tmp 97, Go.Operand.tmp 99, Go.Operand.const (Go.Value.int Go.IntKind.i64 64)], argTypes := #[27, 3, 3, 3] }, type := 4, pos := "more.go:108", after := #[{ on := 15, ground := Go.Ground.data }, { on := 16, ground := Go.Ground.data }, { on := 18, ground := Go.Ground.data }, { on := 14, ground := Go.Ground.chain }, { on := 14, ground := Go.Ground.guard }], guard := some (14, false) } : Oper)) rfl (fun K hK => ?_) AllReadyH.nil
                    refine Eq.mpr (if_pos (by rfl)) ?_
                    go_simp
                    (go_at_call 27; refine (cWrites i ((j : Int) * 64) 64 (cGr F P iw) _ _ (H2.out _ HR.out).2.2).mono ?_; rintro e w6 ⟨rfl, k6⟩; replace HR := Lib.hid (HR.out.trans k6); clear k6; rw [WD.out])
                    refine hK.out _ _ (HR.out) (fun hHeld => ?_)
                    clear hK K
                    try simp only [Act.put, List.setIfInBounds_toArray, List.set_cons_zero, List.set_cons_succ]
                    refine wpAnyH_ready (rs := [24]) (by kernel_rfl) (List.cons_ne_nil _ _) ?_
                    refine AllReadyH.cons (o := ({ dst := some 105, op := Go.Op.call { callee := Go.Callee.value (Go.Operand.func 27), args := #[Go.Operand.tmp 101, Go.Operand.tmp 102, Go.Operand.tmp 104, Go.Operand.const (Go.Value.int Go.IntKind.i64 64)], argTypes := #[27, 3, 3, 3] }, type := 4, pos := "more.go:108", after := #[{ on := 20, ground := Go.Ground.data }, { on := 21, ground := Go.Ground.data }, { on := 23, ground := Go.Ground.data }, { on := 19, ground := Go.Ground.chain }, { on := 14, ground := Go.Ground.guard }], guard := some (14, false) } : Oper)) rfl (fun K hK => ?_) AllReadyH.nil
                    refine Eq.mpr (if_pos (by rfl)) ?_
                    go_simp
                    (go_at_call 27; refine (cWrites i ((j : Int) * 64) 64 (noG cPlain) _ _ (H2.out _ HR.out).1.2).mono ?_; rintro e w6 ⟨rfl, k6⟩; replace HR := Lib.hid (HR.out.trans k6); clear k6; rw [WC.out])
                    refine hK.out _ _ (HR.out) (fun hHeld => ?_)
                    clear hK K
                    try simp only [Act.put, List.setIfInBounds_toArray, List.set_cons_zero, List.set_cons_succ]
                    refine wpAnyH_take (i := 25) (oi := ({ dst := some 106, op := Go.Op.move (Go.Operand.tmp 105), type := 4, pos := "more.go:108", after := #[{ on := 24, ground := Go.Ground.data }, { on := 24, ground := Go.Ground.chain }, { on := 14, ground := Go.Ground.guard }], guard := some (14, false) } : Oper)) (v := ?_) rfl (by kernel_rfl) (by kernel_rfl) (by kernel_rfl) (fun _ _ _ h => h) (Or.inl ⟨by rfl, ?_⟩) (by assumption) ?_
                    rotate_left
                    · (intro w hSw; (try dsimp only at hSw); obtain ⟨y0, y1, y2, y3, y4, y5, y6, y7, y8⟩ := (H2.out _ hSw).1.c9; obtain ⟨z0, z1, z2, z3, z4, z5, z6, z7, z8⟩ := (H2.out _ hSw).2.c9;  go_simp; try with_reducible rfl)
                    try simp only [Act.put, List.setIfInBounds_toArray, List.set_cons_zero, List.set_cons_succ]
                    refine wpAnyH_take (i := 26) (oi := ({ dst := some 107, op := Go.Op.move (Go.Operand.tmp 14), type := 4, pos := "more.go:108", after := #[{ on := 25, ground := Go.Ground.guard }], guard := some (25, false) } : Oper)) (v := ?_) rfl (by kernel_rfl) (by kernel_rfl) (by kernel_rfl) (fun _ _ _ h => h) (Or.inl ⟨by rfl, ?_⟩) (by assumption) ?_
                    rotate_left
                    · (intro w hSw; (try dsimp only at hSw); obtain ⟨y0, y1, y2, y3, y4, y5, y6, y7, y8⟩ := (H2.out _ hSw).1.c9; obtain ⟨z0, z1, z2, z3, z4, z5, z6, z7, z8⟩ := (H2.out _ hSw).2.c9;  go_simp; try with_reducible rfl)
                    try simp only [Act.put, List.setIfInBounds_toArray, List.set_cons_zero, List.set_cons_succ]
                    refine wpAnyH_take (i := 27) (oi := ({ dst := some 108, op := Go.Op.move (Go.Operand.tmp 107), type := 4, pos := "more.go:108", after := #[{ on := 26, ground := Go.Ground.data }, { on := 25, ground := Go.Ground.chain }, { on := 25, ground := Go.Ground.guard }], guard := some (25, false) } : Oper)) (v := ?_) rfl (by kernel_rfl) (by kernel_rfl) (by kernel_rfl) (fun _ _ _ h => h) (Or.inl ⟨by rfl, ?_⟩) (by assumption) ?_
                    rotate_left
                    · (intro w hSw; (try dsimp only at hSw); obtain ⟨y0, y1, y2, y3, y4, y5, y6, y7, y8⟩ := (H2.out _ hSw).1.c9; obtain ⟨z0, z1, z2, z3, z4, z5, z6, z7, z8⟩ := (H2.out _ hSw).2.c9;  go_simp; try with_reducible rfl)
                    try simp only [Act.put, List.setIfInBounds_toArray, List.set_cons_zero, List.set_cons_succ]
                    refine wpAnyH_take (i := 28) (oi := ({ dst := some 109, op := Go.Op.move (Go.Operand.tmp 2), type := 4, pos := "more.go:108", after := #[{ on := 27, ground := Go.Ground.guard }], guard := some (27, true) } : Oper)) (v := undef) rfl (by kernel_rfl) (by kernel_rfl) (by kernel_rfl) (fun _ _ _ h => h) (Or.inr ⟨by rfl, rfl⟩) (by assumption) ?_
                    try simp only [Act.put, List.setIfInBounds_toArray, List.set_cons_zero, List.set_cons_succ]
                    refine wpAnyH_take (i := 29) (oi := ({ dst := some 110, op := Go.Op.pick (Go.Operand.tmp 108) (Go.Operand.tmp 109) (Go.Operand.const (Go.Value.bool false)), type := 4, pos := "more.go:108", after := #[{ on := 27, ground := Go.Ground.data }, { on := 28, ground := Go.Ground.data }, { on := 25, ground := Go.Ground.guard }], guard := some (25, false) } : Oper)) (v := ?_) rfl (by kernel_rfl) (by kernel_rfl) (by kernel_rfl) (fun _ _ _ h => h) (Or.inl ⟨by rfl, ?_⟩) (by assumption) ?_
                    rotate_left
                    · (intro w hSw; (try dsimp only at hSw); obtain ⟨y0, y1, y2, y3, y4, y5, y6, y7, y8⟩ := (H2.out _ hSw).1.c9; obtain ⟨z0, z1, z2, z3, z4, z5, z6, z7, z8⟩ := (H2.out _ hSw).2.c9;  go_simp; try with_reducible rfl)
                    try simp only [Act.put, List.setIfInBounds_toArray, List.set_cons_zero, List.set_cons_succ]
                    refine wpAnyH_take (i := 30) (oi := ({ dst := some 111, op := Go.Op.pick (Go.Operand.tmp 106) (Go.Operand.const (Go.Value.bool true)) (Go.Operand.tmp 110), type := 4, pos := "more.go:108", after := #[{ on := 25, ground := Go.Ground.data }, { on := 29, ground := Go.Ground.data }, { on := 14, ground := Go.Ground.guard }], guard := some (14, false) } : Oper)) (v := ?_) rfl (by kernel_rfl) (by kernel_rfl) (by kernel_rfl) (fun _ _ _ h => h) (Or.inl ⟨by rfl, ?_⟩) (by assumption) ?_
                    rotate_left
                    · (intro w hSw; (try dsimp only at hSw); obtain ⟨y0, y1, y2, y3, y4, y5, y6, y7, y8⟩ := (H2.out _ hSw).1.c9; obtain ⟨z0, z1, z2, z3, z4, z5, z6, z7, z8⟩ := (H2.out _ hSw).2.c9;  go_simp; try with_reducible rfl)
                    try simp only [Act.put, List.setIfInBounds_toArray, List.set_cons_zero, List.set_cons_succ]
                    refine wpAnyH_take (i := 31) (oi := ({ dst := some 112, op := Go.Op.binOp Go.BinOp.neq 4 (Go.Operand.tmp 100) (Go.Operand.tmp 111) 4, type := 4, pos := "more.go:108", after := #[{ on := 19, ground := Go.Ground.data }, { on := 30, ground := Go.Ground.data }, { on := 14, ground := Go.Ground.guard }], guard := some (14, false) } : Oper)) (v := ?_) rfl (by kernel_rfl) (by kernel_rfl) (by kernel_rfl) (fun _ _ _ h => h) (Or.inl ⟨by rfl, ?_⟩) (by assumption) ?_
                    rotate_left
                    · (intro w hSw; (try dsimp only at hSw); obtain ⟨y0, y1, y2, y3, y4, y5, y6, y7, y8⟩ := (H2.out _ hSw).1.c9; obtain ⟨z0, z1, z2, z3, z4, z5, z6, z7, z8⟩ := (H2.out _ hSw).2.c9;  go_simp; try with_reducible rfl)
                    try simp only [Act.put, List.setIfInBounds_toArray, List.set_cons_zero, List.set_cons_succ]
                    refine wpAnyH_take (i := 32) (oi := ({ dst := some 113, op := Go.Op.pick (Go.Operand.tmp 95) (Go.Operand.const (Go.Value.bool true)) (Go.Operand.tmp 112), type := 4, pos := "more.go:108", after := #[{ on := 14, ground := Go.Ground.data }, { on := 31, ground := Go.Ground.data }], guard := none } : Oper)) (v := ?_) rfl (by kernel_rfl) (by kernel_rfl) (by kernel_rfl) (fun _ _ _ h => h) (Or.inl ⟨by rfl, ?_⟩) (by assumption) ?_
                    rotate_left
                    · (intro w hSw; (try dsimp only at hSw); obtain ⟨y0, y1, y2, y3, y4, y5, y6, y7, y8⟩ := (H2.out _ hSw).1.c9; obtain ⟨z0, z1, z2, z3, z4, z5, z6, z7, z8⟩ := (H2.out _ hSw).2.c9;  go_simp; try with_reducible rfl)
                    try simp only [Act.put, List.setIfInBounds_toArray, List.set_cons_zero, List.set_cons_succ]
                    refine wpAnyH_done (by kernel_rfl) ?_ _
                    clear hwr
                    go_wp2_with fail
                    go_roundw
                    case rel => exact ⟨i + 1, by omega, by go_num, HR.out⟩
                    case measure => simp [intOf]; omega
            · obtain rfl : i = 3 := by omega
              go_wp2_with fail
              go_roundw
              case rel => exact ⟨j + 1, by omega, by go_num, HR.out⟩
              case measure => simp [intOf]; omega
        · obtain rfl : j = 16 := by omega
          go_wp2_with fail
          go_ret
          exact ⟨rfl, HW0.out.trans HR.out⟩
theorem configGrants_walk (w : World) (a b : Int) (iw : Bool) : Calls Try.prog 7 #[.int .i64 a, .int .i64 b, .bool iw] w fun e w' => e = .returned (.bool true) ∧ Below w.heap.size w w' :=
  (configGrants_c a b iw w).mono fun e w' ⟨h1, h2⟩ => ⟨h1, h2.below (Nat.le_refl _) (fun _ h => h.elim)⟩
end Go.Proofs.Ytncbcjjdnlmjbaa
