/- The law PurgeCalls: the walk. Printed by mkpcalls.py. -/
import Derived.Test.YtncbcjjdnlmjbaaPurgLaw
import Derived.Test.YtncbcjjdnlmjbaaFlowOrder
set_option linter.unusedSimpArgs false
set_option linter.unusedVariables false
namespace Go.Proofs.Ytncbcjjdnlmjbaa
open Go.RowKit

/-- A call in a purge of the plain config's. -/
theorem purge_call {p : Nat} (hp : p < 3) {L : List St} {j : Nat} (hj : j < L.length) (hc : callP L[j].kind) : (purgeC cPlain p L)[j]'(by rw [purgeC_len]; exact hj) = if (0 ≤ L[j].part ∧ L[j].part < 3) ∧ (L[j].part = p ∨ L[j].part = 0) then L[j] else St.zero := by
  rw [purgeC_at cPlain p L j hj]
  unfold keepP
  rw [if_pos hc, ← flow_pfl cPlain p may_plainP ((there_plain p).2 ⟨by omega, by omega⟩)]
  show (if flowB cPlain L[j].part p = true then L[j] else St.zero) = _
  rw [flow_plain]
  by_cases h : (0 ≤ L[j].part ∧ L[j].part < 3) ∧ (L[j].part = p ∨ L[j].part = 0)
  · rw [if_pos h, decide_eq_true (show (0 ≤ L[j].part ∧ L[j].part < 3) ∧ (0 ≤ (p : Int) ∧ (p : Int) < 3) ∧ (L[j].part = p ∨ L[j].part = 0) from ⟨h.1, ⟨by omega, by omega⟩, h.2⟩)]; rfl
  · rw [if_neg h, decide_eq_false (show ¬ ((0 ≤ L[j].part ∧ L[j].part < 3) ∧ (0 ≤ (p : Int) ∧ (p : Int) < 3) ∧ (L[j].part = p ∨ L[j].part = 0)) from fun e => h ⟨e.1, e.2.2⟩)]; rfl
set_option maxRecDepth 100000 in
set_option maxHeartbeats 8000000 in
theorem purgeCalls_c (A : Option Addr) (c : Nat) (L : List St) (part : Int) (w : World) (hm : L.length ≤ maxLen) (hl : L.length * 64 ≤ 140737488351232) (hr : RowC w A (L.flatMap stcell)) :
    Calls Try.prog 12 #[.slice A L.length c, .int .i64 part] w fun e w' => e = .returned (.bool true) ∧ Chg (fun _ => False) w w' := by
  have HS : Hid (∀ W, Chg (fun _ => False) w W → RdS W (.slice A L.length c) L) := fun W hW => (RdS.ofRow hr hm).keepN hW
  have HM := Lib.hid hm
  have HL1 : Hid (L.length * 64 ≤ 140737488355328) := by unfold Hid; omega
  have l0 : (L.length : Int) ≤ 9223372036854775807 := by omega
  have ux := uidxL part 3 (by omega) (by omega)
  clear hr hm hl
  go_enter Try.func12, Try.ntmps12
  go_wp2_with fail
  refine (awake23 _).mono ?_
  rintro e w0 ⟨rfl, k0⟩
  have HR0 := Lib.hid k0; clear k0
  go_wp2_with fail
  refine (plain23 _).mono ?_
  rintro e w1 ⟨rfl, hp1, k1, s1⟩
  have HP1 : Hid (∀ W, Chg (fun _ => False) w1 W → (sPlain w0.heap.size).R W cPlain) := fun W hW => (hp1.keepN hW).R
  have HR1 := Lib.hid (HR0.out.trans k1); clear k1 hp1 s1 HR0
  generalize w0.heap.size = B at *
  simp only [cfc, cPlain, sPlain]
  obtain ⟨cb, hcb⟩ : ∃ cb, cb = w1.heap.size := ⟨_, rfl⟩
  obtain ⟨W1, hW1⟩ : ∃ W, W = w1.alloc (.cells (cfc cPlain (sPlain B)) 27) := ⟨_, rfl⟩
  have q0 := blk_new w1 (.cells (cfc cPlain (sPlain B)) 27)
  have kA : Chg (fun _ => False) w1 W1 := by rw [hW1]; exact (Chg.refl _ _).alloc _
  rw [← hW1, ← hcb] at q0
  have y0 : W1.cell? ⟨cb, 0, none⟩ = some (.int .i64 16) := blk_cell q0 0
  have y1 : W1.cell? ⟨cb, 1, none⟩ = some (.slice (some ⟨B + 4, 0, none⟩) 3 3) := blk_cell q0 1
  have y2 : W1.cell? ⟨cb, 2, none⟩ = some (.slice (some ⟨B + 7, 0, none⟩) 2 2) := blk_cell q0 2
  have y3 : W1.cell? ⟨cb, 3, none⟩ = some (.int .i64 6) := blk_cell q0 3
  have y4 : W1.cell? ⟨cb, 4, none⟩ = some (.slice (some ⟨B + 8, 0, none⟩) 3 3) := blk_cell q0 4
  have y5 : W1.cell? ⟨cb, 5, none⟩ = some (.slice (some ⟨B + 9, 0, none⟩) 1 1) := blk_cell q0 5
  have y6 : W1.cell? ⟨cb, 6, none⟩ = some (.int .i64 10) := blk_cell q0 6
  have y7 : W1.cell? ⟨cb, 7, none⟩ = some (.int .i64 6) := blk_cell q0 7
  have y8 : W1.cell? ⟨cb, 8, none⟩ = some (.int .i64 2) := blk_cell q0 8
  have R1 : Hid ((sPlain B).R W1 cPlain) := HP1.out W1 kA
  have HR : Hid (Chg (fun _ => False) w W1) := HR1.out.trans kA
  clear HP1 HR1 q0 kA
  simp only [cfc, cPlain, sPlain] at hW1
  go_upto_region 4 with fail
  rw [← hW1]
  clear hW1
  rw [← hcb]
  clear hcb
  go_upto_region 5 with fail
  generalize wrap64 ((IntKind.u64.wrap part).tmod 3) = K at *
  obtain ⟨pn, rfl⟩ := Int.eq_ofNat_of_zero_le ux.1
  have hpn : pn < 3 := by have := ux.2; omega
  have u0 : (0 : Int) ≤ pn := by omega
  have u1 : (pn : Int) < 3 := by omega
  clear ux
  go_wp2_with fail
  refine (vPurge pn cPlain (sPlain B) _ L _ R1.out (HS.out _ HR.out) HL1.out).mono ?_
  rintro e w2 hpost
  clear y0 y1 y2 y3 y4 y5 y6 y7 y8
  obtain ⟨v, rfl, ho, k2⟩ := hpost.yes may_plainP ((there_plain pn).2 ⟨u0, u1⟩)
  rw [show (pn : Int).toNat = pn from rfl] at ho
  have HAT := Lib.hid (fun j (hj : j < L.length) => purge_call hpn hj)
  replace HR := Lib.hid (HR.out.trans k2)
  have hpl := purgeC_len cPlain pn L
  have hra := rdStepsOf ho (by rw [hpl]; exact HM.out)
  obtain ⟨_, AA, ac, rfl⟩ := hra.len
  rw [hpl] at hra
  rw [hpl]
  have HRA : Hid (∀ W, Chg (fun _ => False) w2 W → RdS W (.slice AA L.length ac) (purgeC cPlain pn L)) := fun W hW => hra.keepN hW
  have HPL := Lib.hid hpl
  clear hra ho hpl k2 hpost R1
  go_wp2_with fail
  refine (num16 _ _).mono ?_
  rintro e x9 ⟨rfl, rfl⟩
  go_wp2_with fail
  go_loopw [9] (fun s9 wr => ∃ j : Nat, j ≤ L.length ∧ s9 = .int .i64 j ∧ Chg (fun _ => False) w2 wr) (fun s9 _ => L.length - (intOf s9).toNat)
  case atStart => exact ⟨0, by omega, rfl, Chg.refl _ _⟩
  case round =>
    obtain ⟨j, hj, rfl, hC⟩ := hrel
    have j0 : (0 : Int) ≤ j := by omega
    by_cases hlt : j < L.length
    · have j1 : (j : Int) < L.length := by omega
      have hpj : j < (purgeC cPlain pn L).length := by rw [HPL.out]; exact hlt
      obtain ⟨g', o', rfl, b0, b1, b2, b3, b4, b5, b6⟩ := (HS.out _ (HR.out.trans hC)).at7 hlt
      have hat := HAT.out j hlt
      have hra := HRA.out wr hC
      generalize hY : (purgeC cPlain pn L)[j] = Y at *
      generalize L[j] = X at *
      obtain ⟨sb, hsb⟩ : ∃ sb, sb = wr.heap.size := ⟨_, rfl⟩
      obtain ⟨W1, hW1⟩ : ∃ W, W = wr.alloc (.cells #[.int .i64 X.kind, .int .i64 X.part, .int .i64 X.dev, .int .i64 X.a, .int .i64 X.b, .int .i64 X.c, .string X.data] 59) := ⟨_, rfl⟩
      have hA : Chg (fun _ => False) wr W1 := by rw [hW1]; exact (Chg.refl _ _).alloc _
      have hB1 : W1.heap[sb]? = some (.cells (stcell X).toArray 59 (0, 0)) := by rw [hW1, hsb]; exact blk_new wr _
      have HC1 := Lib.hid (hC.trans hA)
      obtain ⟨g, o, rfl, a0, a1, a2, a3, a4, a5, a6⟩ := (HRA.out W1 HC1.out).at7 hpj
      simp only [hY] at a0 a1 a2 a3 a4 a5 a6
      have HZ : Hid (∀ W, Chg (fun _ => False) W1 W → W.cell? ⟨sb, 0, none⟩ = some (.int .i64 X.kind) ∧ W.cell? ⟨sb, 1, none⟩ = some (.int .i64 X.part) ∧ W.cell? ⟨sb, 2, none⟩ = some (.int .i64 X.dev) ∧ W.cell? ⟨sb, 3, none⟩ = some (.int .i64 X.a) ∧ W.cell? ⟨sb, 4, none⟩ = some (.int .i64 X.b) ∧ W.cell? ⟨sb, 5, none⟩ = some (.int .i64 X.c) ∧ W.cell? ⟨sb, 6, none⟩ = some (.string X.data)) := fun W hW => by
        have h := hW.at hB1 id
        exact ⟨blk_cell h 0, blk_cell h 1, blk_cell h 2, blk_cell h 3, blk_cell h 4, blk_cell h 5, blk_cell h 6⟩
      clear hC hA hB1 hpj hra hY
      obtain ⟨x0, x1, x2, x3, x4, x5, x6⟩ := X
      dsimp only at *
      by_cases t1 : 5 ≤ x0
      · have d1 : decide (x0 < 5) = false := decide_eq_false (by omega)
        by_cases t2 : x0 ≤ 16
        · have d2 : decide (16 < x0) = false := decide_eq_false (by omega)
          replace hat := hat ⟨t1, t2⟩
          clear t1 t2
          by_cases t3 : 0 ≤ x1
          · have d3 : decide (0 ≤ x1) = true := decide_eq_true t3
            by_cases t4 : x1 < 3
            · have d4 : decide (x1 < 3) = true := decide_eq_true t4
              by_cases t5 : x1 = pn
              · have d5 : (x1 == (pn : Int)) = true := by simpa using t5
                rw [if_pos ⟨⟨t3, t4⟩, .inl t5⟩] at hat
                subst hat
                dsimp only at a0 a1 a2 a3 a4 a5 a6
                clear t3 t4 t5
                go_upto_region 12 with fail
                rw [← hW1]
                try rw [← hsb]
                clear hW1 hsb b0 b1 b2 b3 b4 b5 b6
                obtain ⟨z0, z1, z2, z3, z4, z5, z6⟩ := HZ.out _ (Chg.refl _ _)
                go_upto_region 15 with fail
                go_quiet (fail)
                rename_i nq
                go_wp2_with fail
                go_roundw
                case rel => exact ⟨j + 1, by omega, by go_num, HC1.out.drewN nq⟩
                case measure => simp [intOf]; omega
              · have d5 : (x1 == (pn : Int)) = false := by simpa using t5
                by_cases t6 : x1 = 0
                · have d6 : (x1 == 0) = true := by simpa using t6
                  rw [if_pos ⟨⟨t3, t4⟩, .inr t6⟩] at hat
                  subst hat
                  dsimp only at a0 a1 a2 a3 a4 a5 a6
                  clear t3 t4 t5 t6
                  go_upto_region 12 with fail
                  rw [← hW1]
                  try rw [← hsb]
                  clear hW1 hsb b0 b1 b2 b3 b4 b5 b6
                  obtain ⟨z0, z1, z2, z3, z4, z5, z6⟩ := HZ.out _ (Chg.refl _ _)
                  go_upto_region 15 with fail
                  go_quiet (fail)
                  rename_i nq
                  go_wp2_with fail
                  go_roundw
                  case rel => exact ⟨j + 1, by omega, by go_num, HC1.out.drewN nq⟩
                  case measure => simp [intOf]; omega
                · have d6 : (x1 == 0) = false := by simpa using t6
                  rw [if_neg (fun h => by rcases h.2 with h | h <;> contradiction)] at hat
                  subst hat
                  simp only [St.zero] at a0 a1 a2 a3 a4 a5 a6
                  clear t3 t4 t5 t6
                  go_upto_region 12 with fail
                  rw [← hW1]
                  try rw [← hsb]
                  clear hW1 hsb b0 b1 b2 b3 b4 b5 b6
                  obtain ⟨z0, z1, z2, z3, z4, z5, z6⟩ := HZ.out _ (Chg.refl _ _)
                  go_upto_region 15 with fail
                  go_quiet (fail)
                  rename_i nq
                  go_wp2_with fail
                  go_roundw
                  case rel => exact ⟨j + 1, by omega, by go_num, HC1.out.drewN nq⟩
                  case measure => simp [intOf]; omega
            · have d4 : decide (x1 < 3) = false := decide_eq_false t4
              rw [if_neg (fun h => t4 h.1.2)] at hat
              subst hat
              simp only [St.zero] at a0 a1 a2 a3 a4 a5 a6
              clear t3 t4
              go_upto_region 12 with fail
              rw [← hW1]
              try rw [← hsb]
              clear hW1 hsb b0 b1 b2 b3 b4 b5 b6
              obtain ⟨z0, z1, z2, z3, z4, z5, z6⟩ := HZ.out _ (Chg.refl _ _)
              go_upto_region 15 with fail
              go_quiet (fail)
              rename_i nq
              go_wp2_with fail
              go_roundw
              case rel => exact ⟨j + 1, by omega, by go_num, HC1.out.drewN nq⟩
              case measure => simp [intOf]; omega
          · have d3 : decide (0 ≤ x1) = false := decide_eq_false t3
            rw [if_neg (fun h => t3 h.1.1)] at hat
            subst hat
            simp only [St.zero] at a0 a1 a2 a3 a4 a5 a6
            clear t3
            go_upto_region 12 with fail
            rw [← hW1]
            try rw [← hsb]
            clear hW1 hsb b0 b1 b2 b3 b4 b5 b6
            obtain ⟨z0, z1, z2, z3, z4, z5, z6⟩ := HZ.out _ (Chg.refl _ _)
            go_upto_region 15 with fail
            go_quiet (fail)
            rename_i nq
            go_wp2_with fail
            go_roundw
            case rel => exact ⟨j + 1, by omega, by go_num, HC1.out.drewN nq⟩
            case measure => simp [intOf]; omega
        · have d2 : decide (16 < x0) = true := decide_eq_true (by omega)
          clear t1 t2 hat
          go_upto_region 12 with fail
          rw [← hW1]
          try rw [← hsb]
          clear hW1 hsb b0 b1 b2 b3 b4 b5 b6
          obtain ⟨z0, z1, z2, z3, z4, z5, z6⟩ := HZ.out _ (Chg.refl _ _)
          clear a0 a1 a2 a3 a4 a5 a6
          go_wp2_with fail
          go_roundw
          case rel => exact ⟨j + 1, by omega, by go_num, HC1.out⟩
          case measure => simp [intOf]; omega
      · have d1 : decide (x0 < 5) = true := decide_eq_true (by omega)
        clear t1 hat
        go_upto_region 12 with fail
        rw [← hW1]
        try rw [← hsb]
        clear hW1 hsb b0 b1 b2 b3 b4 b5 b6
        obtain ⟨z0, z1, z2, z3, z4, z5, z6⟩ := HZ.out _ (Chg.refl _ _)
        clear a0 a1 a2 a3 a4 a5 a6
        go_wp2_with fail
        go_roundw
        case rel => exact ⟨j + 1, by omega, by go_num, HC1.out⟩
        case measure => simp [intOf]; omega
    · obtain rfl : j = L.length := by omega
      have HC := Lib.hid hC; clear hC
      go_wp2_with fail
      go_ret
      exact ⟨rfl, HR.out.trans HC.out⟩
theorem purgeCalls_walk (w : World) (A : Option Addr) (c : Nat) (L : List St) (hm : L.length ≤ maxLen) (hl : L.length * Try.prog.bytesOf 59 ≤ reachBytes) (hr : RowC w A (L.flatMap stcell)) (_ : ∀ x ∈ L, x.data.size ≤ maxLen) (part : Int) :
    Calls Try.prog 12 #[.slice A L.length c, .int .i64 part] w fun e w' => e = .returned (.bool true) ∧ Below w.heap.size w w' :=
  (purgeCalls_c A c L part w hm (by rw [bytesStep] at hl; exact hl) hr).mono fun e w' ⟨h1, h2⟩ => ⟨h1, h2.below (Nat.le_refl _) (fun _ h => h.elim)⟩
end Go.Proofs.Ytncbcjjdnlmjbaa
