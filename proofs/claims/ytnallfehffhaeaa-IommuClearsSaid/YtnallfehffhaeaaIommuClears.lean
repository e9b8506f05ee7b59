/- The law IommuClears: the walk. -/
import Derived.Test.YtnallfehffhaeaaAwake7
import Derived.Test.YtnallfehffhaeaaMemForms
import Derived.Deep.DeepCutAuto
import Derived.Deep.CutBlock
set_option linter.unusedSimpArgs false
set_option linter.unusedVariables false
namespace Go.Proofs.Ytnallfehffhaeaa
open Go.RowKit
attribute [local go_sem] i64_and255

theorem zeroB_get {bs : List UInt8} {f : Nat} (h : frameP bs f) (i : Nat) : (zeroB bs f)[i]? = if f * 64 ≤ i ∧ i < f * 64 + 64 then some 0 else bs[i]? := by
  have hf := h
  unfold frameP at hf
  unfold zeroB
  rw [if_pos h, Int.toNat_natCast, splice_get _ _ _ (by rw [List.length_replicate]; omega), List.length_replicate]
  by_cases c : f * 64 ≤ i ∧ i < f * 64 + 64
  · rw [if_pos c, if_pos c, List.getElem?_replicate, if_pos (by omega)]
  · rw [if_neg c, if_neg c]
theorem clear_zero {bs : List UInt8} (h : bs.length = 1024) : ((clearB bs [0, 1, 2, 3]).drop 0).take 256 = List.replicate 256 0 := by
  have hl : ∀ {b : List UInt8}, b.length = 1024 → ∀ f : Nat, f < 4 → frameP b f := by intro b hb f hf; unfold frameP; rw [hb]; omega
  have z0 : (zeroB bs 0).length = 1024 := (zeroB_len _ _).trans h
  have z1 : (zeroB (zeroB bs 0) 1).length = 1024 := (zeroB_len _ _).trans z0
  have z2 : (zeroB (zeroB (zeroB bs 0) 1) 2).length = 1024 := (zeroB_len _ _).trans z1
  apply List.ext_getElem?
  intro i
  rw [List.drop_zero, List.getElem?_take, List.getElem?_replicate]
  by_cases hi : i < 256
  · rw [if_pos hi, if_pos hi]
    show (zeroB (zeroB (zeroB (zeroB bs 0) 1) 2) 3)[i]? = some 0
    have e3 := zeroB_get (hl z2 3 (by omega)) i
    have e2 := zeroB_get (hl z1 2 (by omega)) i
    have e1 := zeroB_get (hl z0 1 (by omega)) i
    have e0 := zeroB_get (hl h 0 (by omega)) i
    rw [show ((3 : Nat) : Int) = 3 from rfl] at e3
    rw [show ((2 : Nat) : Int) = 2 from rfl] at e2
    rw [show ((1 : Nat) : Int) = 1 from rfl] at e1
    rw [show ((0 : Nat) : Int) = 0 from rfl] at e0
    by_cases c3 : 3 * 64 ≤ i
    · exact e3.trans (if_pos (by omega))
    · refine (e3.trans (if_neg (by omega))).trans ?_
      by_cases c2 : 2 * 64 ≤ i
      · exact e2.trans (if_pos (by omega))
      · refine (e2.trans (if_neg (by omega))).trans ?_
        by_cases c1 : 1 * 64 ≤ i
        · exact e1.trans (if_pos (by omega))
        · exact (e1.trans (if_neg (by omega))).trans (e0.trans (if_pos (by omega)))
  · rw [if_neg hi, if_neg hi]
theorem D7.mapAny {bs : List UInt8} {S0 S1 : List Nat} {E0 E1 : Nat → Int × Int} (h : D7 bs S0 E0 S1 E1) {p : Nat} (hp : p < 256) : ∃ c b S' E', (if MapP PL7 bs 0 p 8 3 then (mapM bs (poolOf PL7 0) p 8 3).1 else 700) = c ∧ (if MapP PL7 bs 0 p 8 3 then (mapM bs (poolOf PL7 0) p 8 3).2 else bs) = b ∧ D7 b S' E' S1 E1 := by
  have := h.map0 hp (f := 8) (q := 3) (by decide) (by decide) (by decide) (by decide)
  cases hs : slotS S0 3 p with
  | none => rw [hs] at this; exact ⟨_, _, S0, E0, this.1, this.2, h⟩
  | some S' => rw [hs] at this; exact ⟨_, _, S', _, this.1, rfl, this.2⟩
def S77 : List Nat := [12, 11, 10]
theorem slot77 : ∀ k, k < 3 → slotS (S77.take k) 3 (200 - 16 * k) = some (S77.take (k + 1)) := by decide
set_option maxRecDepth 100000 in
set_option maxHeartbeats 8000000 in
theorem iommuClears_main (A : Option Addr) (ca : Nat) (xs : List Int) (w0 : World) (hx : xs.length ≤ 9223372036854775807) (rx : RowC w0 A (xs.flatMap icell)) :
    Calls Try.prog 7 #[.slice A xs.length ca] w0 fun e w' => e = .returned (.bool true) ∧ Chg (fun _ => False) w0 w' := by
  have HRX := Lib.hid rx; clear rx
  obtain ⟨Z, hZ⟩ : ∃ Z, Z = str (List.replicate 256 0) := ⟨_, rfl⟩
  have mk : ∀ W : World, (Instr.makeSlice 52 (.int .i64 256) (.int .i64 256)).run Try.prog W = .ok (.slice (some ⟨W.heap.size, 0, none⟩) 256 256) (W.alloc (.cells ((List.replicate 256 (0 : UInt8)).map bv).toArray 5)) := make77 256 (by omega)
  have cv : ∀ (W : World) (c : Nat), (convert 52 9 (.slice (some ⟨W.heap.size, 0, none⟩) 256 c)).run Try.prog (W.alloc (.cells ((List.replicate 256 (0 : UInt8)).map bv).toArray 5)) = .ok (.string Z) (W.alloc (.cells ((List.replicate 256 (0 : UInt8)).map bv).toArray 5)) := by rw [hZ]; exact conv77 256
  generalize ((List.replicate 256 (0 : UInt8)).map bv).toArray = ZC at mk cv
  have HZ := Lib.hid hZ; clear hZ
  obtain ⟨E1, hE1⟩ : ∃ E : Nat → Int × Int, E = upd E00 77 (9, 3) := ⟨_, rfl⟩
  have HE1 := Lib.hid hE1; clear hE1
  go_enter Try.func7, Try.ntmps7
  go_wp2_with fail
  refine (awake7 _).mono ?_
  rintro e w ⟨rfl, hC0⟩
  have HC0 := Lib.hid hC0; clear hC0
  go_wp2_with fail
  refine (set7 w).mono ?_
  rintro e w1 ⟨x, p, bs, F, rfl, hI, hD, hF, hC1⟩
  have HF := Lib.hid (fun k hk => Nat.le_trans HC0.out.size (hF k hk))
  have HC := Lib.hid (HC0.out.trans hC1)
  have hm := hD.map1 (p := 77) (f := 9) (q := 3) (by decide) (by decide) (by decide) (by decide) (by decide)
  rw [show slotS [] 2 77 = some [4] from rfl] at hm
  simp only at hm
  have hc := ioMap hI 1 ((77 : Nat) : Int) 9 3
  rw [hm.1] at hc
  obtain ⟨b1, hb1⟩ : ∃ b, b = (if MapP PL7 bs 1 ((77 : Nat) : Int) 9 3 then (mapM bs (poolOf PL7 1) ((77 : Nat) : Int) 9 3).2 else bs) := ⟨_, rfl⟩
  rw [← hb1] at hm hc
  rw [← HE1.out] at hm
  have HD := Lib.hid hm.2; have HCM := Lib.hid hc
  clear hI hD hF hC1 HC0 hm hc hb1
  go_wp2_with fail
  refine HCM.out.mono ?_
  rintro e w2 ⟨rfl, F1, hI, hF, hC⟩
  have hq := io_next HC.out HF.out hF hC
  replace HC := Lib.hid hq.1; replace HF := Lib.hid hq.2; have HI := Lib.hid hI
  clear hI hF hC hq HCM
  go_wp2_with fail
  go_loopw [6] (fun s wr => ∃ (i : Nat) (b : List UInt8) (S : List Nat) (E : Nat → Int × Int) (F : Nat → Prop), i ≤ min xs.length 30 ∧ s = .int .i64 i ∧ IoM wr x p PL7 b F ∧ D7 b S E [4] E1 ∧ (∀ k, F k → w0.heap.size ≤ k) ∧ Chg (fun _ => False) w0 wr) (fun s _ => min xs.length 30 - (intOf s).toNat)
  case atStart => exact ⟨0, _, _, _, _, by omega, rfl, HI.out, HD.out, HF.out, HC.out⟩
  case round =>
    clear HI HD HF HC
    obtain ⟨i, b, S, E, F2, hi, rfl, hI, hD, hF, hC⟩ := hrel
    have i0 : (0 : Int) ≤ i := by omega
    go_upto_region 8 with fail
    go_cut [36] (fun s wx => s = .bool (decide (i < xs.length ∧ i < 30)) ∧ wx = wr)
    case first =>
      by_cases h1 : i < xs.length
      · have i1 : (i : Int) < xs.length := by omega
        by_cases h2 : i < 30
        · have i2 : (i : Int) < 30 := by omega
          have EN := Lib.hid (decide_eq_true (show i < xs.length ∧ i < 30 from ⟨h1, h2⟩))
          go_wp2_with fail
          go_meet
          exact ⟨by rw [EN.out], rfl⟩
        · have i2 : decide ((i : Int) < 30) = false := decide_eq_false (by omega)
          have EN := Lib.hid (decide_eq_false (show ¬ (i < xs.length ∧ i < 30) from fun h => h2 h.2))
          go_wp2_with fail
          go_meet
          exact ⟨by rw [EN.out], rfl⟩
      · have i1 : decide ((i : Int) < xs.length) = false := decide_eq_false (by omega)
        have EN := Lib.hid (decide_eq_false (show ¬ (i < xs.length ∧ i < 30) from fun h => h1 h.1))
        go_wp2_with fail
        go_meet
        exact ⟨by rw [EN.out], rfl⟩
    case rest =>
    obtain ⟨rfl, rfl⟩ := hcut
    by_cases hlt : i < xs.length ∧ i < 30
    · rw [decide_eq_true hlt]
      obtain ⟨h1, h2⟩ := hlt
      have i1 : (i : Int) < xs.length := by omega
      have i2 : (i : Int) < 30 := by omega
      have HIM := Lib.hid (show i < min xs.length 30 by omega); clear hi
      obtain ⟨bb, o, rfl, c0w⟩ := intAt HRX.out i h1
      have c0 := hC.cell c0w id
      clear c0w
      generalize xs[i] = y at *
      obtain ⟨j, hj, hj256⟩ : ∃ j : Nat, y % 256 = j ∧ j < 256 := ⟨(y % 256).toNat, by omega, by omega⟩
      obtain ⟨c, b', S', E', hc, hb, hD'⟩ := hD.mapAny hj256
      have hm := ioMap hI 0 (j : Int) 8 3
      rw [hc, hb] at hm
      have HM := Lib.hid hm; have HD' := Lib.hid hD'; have HF := Lib.hid hF; have HC := Lib.hid hC; have HJ := Lib.hid hj
      clear hm hD' hF hC hj hI hD hc hb
      go_wp2_with fail
      rw [HJ.out]
      refine HM.out.mono ?_
      rintro e w3 ⟨rfl, F3, hI, hF, hC⟩
      have hq := io_next HC.out HF.out hF hC
      have HC3 := Lib.hid hq.1; have HF3 := Lib.hid hq.2; have HI3 := Lib.hid hI
      clear hI hF hC hq HM c0
      go_wp2_with fail
      go_roundw
      case rel => exact ⟨i + 1, _, _, _, _, by have := HIM.out; omega, by go_num, HI3.out, HD'.out, HF3.out, HC3.out⟩
      case measure => have := HIM.out; simp [intOf]; omega
    · rw [decide_eq_false hlt]
      have hcl := ioClear hI 0
      have hD2 := hD.clear0
      have hz := clear_zero hD.len
      rw [if_pos (by decide), if_pos (by decide)] at hcl
      rw [if_pos (by decide)] at hD2
      change D7 (clearB b [0, 1, 2, 3]) [] E00 [4] E1 at hD2
      change Calls _ _ _ _ (IoPost x p PL7 F2 _ (.int .i64 0) (clearB b [0, 1, 2, 3])) at hcl
      generalize clearB b [0, 1, 2, 3] = b2 at *
      have HCL := Lib.hid hcl; have HD2 := Lib.hid hD2; have HF := Lib.hid hF; have HC := Lib.hid hC; have HZ2 := Lib.hid hz
      clear hcl hD2 hF hC hz hI hD hlt hi
      go_wp2_with fail
      refine HCL.out.mono ?_
      rintro e w3 ⟨rfl, F3, hI, hF, hC⟩
      have hq := io_next HC.out HF.out hF hC
      have HC3 := Lib.hid hq.1; have HF3 := Lib.hid hq.2; have HI3 := Lib.hid hI
      clear hI hF hC hq HCL HC HF
      go_wp2_with fail
      go_loopw [8] (fun s wr => ∃ (k : Nat) (F : Nat → Prop), k ≤ 256 ∧ s = .int .i64 k ∧ IoM wr x p PL7 b2 F ∧ (∀ k, F k → w0.heap.size ≤ k) ∧ Chg (fun _ => False) w0 wr) (fun s _ => 256 - (intOf s).toNat)
      case atStart => exact ⟨0, _, by omega, rfl, HI3.out, HF3.out, HC3.out⟩
      case round =>
        clear HI3 HF3 HC3
        obtain ⟨k, F4, hk, rfl, hI, hF, hC⟩ := hrel
        have k0 : (0 : Int) ≤ k := by omega
        by_cases hlt : k < 256
        · have k1 : (k : Int) < 256 := by omega
          have ht := HD2.out.a.trans1 (L := PL7) (d := 0) (b := (k : Int) * 64) (n := 1) (wri := false) rfl ⟨by decide, by omega, by omega, by omega, by omega⟩ (by omega)
          rw [if_pos rfl] at ht
          have hm := ioTrans hI 0 ((k : Int) * 64) 1 false
          rw [ht] at hm
          have HM := Lib.hid hm; have HF := Lib.hid hF; have HC := Lib.hid hC
          clear hm ht hI hF hC
          go_wp2_with fail
          refine HM.out.mono ?_
          rintro e w4 ⟨o, rfl, hO, F5, hI, hF, _, hC⟩
          have hq := io_next HC.out HF.out hF hC
          have HC4 := Lib.hid hq.1; have HF4 := Lib.hid hq.2; have HI4 := Lib.hid hI
          obtain ⟨A4, c4, hv⟩ := hO.slice
          subst hv
          clear hI hF hC hq hO HM HC HF
          go_wp2_with ((refine (num16q _ _).mono ?_; rintro e w6 ⟨rfl, rfl⟩))
          go_roundw
          case rel => exact ⟨k + 1, _, by omega, by go_num, HI4.out, HF4.out, HC4.out⟩
          case measure => simp [intOf]; omega
        · obtain rfl : k = 256 := by omega
          obtain ⟨r, hMm, hl⟩ := hI.mem
          have hrd := read47 p r b2 0 256 _ hMm hl
          rw [show readS b2 0 256 = Z by unfold readS; rw [if_pos (by have := HD2.out.len; unfold mayP; omega), HZ.out]; exact congrArg str HZ2.out, show errC b2 0 256 = 0 by unfold errC; rw [if_pos (by have := HD2.out.len; unfold mayP; omega)]] at hrd
          have ht := HD2.out.b.trans1 (L := PL7) (d := 1) (b := 4928) (n := 1) (wri := true) rfl (by decide) (by decide)
          rw [HE1.out, if_neg (by decide), if_neg (by decide)] at ht
          change transQ b2 PL7 1 4928 1 true = ([(9, 0, 1)], 0) at ht
          have hm := ioTrans hI 1 4928 1 true
          rw [ht] at hm
          have HM := Lib.hid hm; have HF := Lib.hid hF; have HC := Lib.hid hC; have HRD := Lib.hid hrd
          clear hm ht hF hC hrd hI hMm hl
          go_wp2_with fail
          refine HRD.out.mono ?_
          rintro e w4 ⟨rfl, rfl⟩
          go_wp2_with fail
          refine HM.out.mono ?_
          rintro e w4 ⟨o, rfl, hO, F5, hI, hF, hN, hC⟩
          have hq := io_next HC.out HF.out hF hC
          have HC4 := Lib.hid hq.1; have HF4 := Lib.hid hq.2; have HI4 := Lib.hid hI; have HR4 := Lib.hid (io_rowN hO hI hN)
          obtain ⟨A4, c4, hv⟩ := hO.slice
          subst hv
          clear hI hF hC hq hO hN HM HC HF HRD
          go_wp2_with fail
          go_loopw [15] (fun s wr => ∃ (k : Nat) (b : List UInt8) (E : Nat → Int × Int) (F : Nat → Prop), k ≤ 3 ∧ s = .int .i64 k ∧ IoM wr x p PL7 b F ∧ D7 b (S77.take k) E [4] E1 ∧ PcR wr F (.slice A4 1 c4) [(9, 0, 1)] ∧ (∀ k, F k → w0.heap.size ≤ k) ∧ Chg (fun _ => False) w0 wr) (fun s _ => 3 - (intOf s).toNat)
          case atStart => exact ⟨0, _, _, _, by omega, rfl, HI4.out, HD2.out, HR4.out, HF4.out, HC4.out⟩
          case round =>
            clear HI4 HF4 HC4 HR4 HD2 HZ2
            obtain ⟨k, b3, E3, F6, hk, rfl, hI, hD, hR, hF, hC⟩ := hrel
            have k0 : (0 : Int) ≤ k := by omega
            by_cases hlt : k < 3
            · have k1 : (k : Int) < 3 := by omega
              have hu := hD.map0 (p := 200 - 16 * k) (f := 8) (q := 3) (by omega) (by decide) (by decide) (by decide) (by decide)
              rw [slot77 k hlt] at hu
              simp only at hu
              have hm := ioMap hI 0 ((200 - 16 * k : Nat) : Int) 8 3
              rw [hu.1] at hm
              have hD' := hu.2
              generalize (if MapP PL7 b3 0 ((200 - 16 * k : Nat) : Int) 8 3 then (mapM b3 (poolOf PL7 0) ((200 - 16 * k : Nat) : Int) 8 3).2 else b3) = b4 at *
              rw [show ((200 - 16 * k : Nat) : Int) = 200 - 16 * (k : Int) by omega] at hm
              have HM := Lib.hid hm; have HF := Lib.hid hF; have HC := Lib.hid hC; have HD4 := Lib.hid hD'; have HR := Lib.hid hR
              clear hm hF hC hu hI hD hD' hR
              go_wp2_with fail
              refine HM.out.mono ?_
              rintro e w5 ⟨rfl, F7, hI, hF, hC⟩
              have hq := io_next HC.out HF.out hF hC
              have HC5 := Lib.hid hq.1; have HF5 := Lib.hid hq.2; have HI5 := Lib.hid hI; have HR5 := Lib.hid (io_row HR.out hF hC)
              clear hI hF hC hq HM HC HF HR
              go_wp2_with ((refine (num16q _ _).mono ?_; rintro e w6 ⟨rfl, rfl⟩))
              go_roundw
              case rel => exact ⟨k + 1, _, _, _, by omega, by go_num, HI5.out, HD4.out, HR5.out, HF5.out, HC5.out⟩
              case measure => simp [intOf]; omega
            · obtain rfl : k = 3 := by omega
              have hu := hD.map0 (p := 5) (f := 8) (q := 3) (by omega) (by decide) (by decide) (by decide) (by decide)
              rw [show slotS (S77.take 3) 3 5 = none from rfl] at hu
              simp only at hu
              have hm := ioMap hI 0 ((5 : Nat) : Int) 8 3
              rw [hu.1, hu.2] at hm
              have HM := Lib.hid hm; have HF := Lib.hid hF; have HC := Lib.hid hC; have HR := Lib.hid hR
              clear hm hF hC hu hI hD hR
              go_wp2_with fail
              refine HM.out.mono ?_
              rintro e w5 ⟨rfl, F7, hI, hF, hC⟩
              have hq := io_next HC.out HF.out hF hC
              have HC5 := Lib.hid hq.1; have HR5 := Lib.hid (io_row HR.out hF hC).1
              clear hI hF hC hq HM HC HF HR
              go_wp2_with ((refine (num16q _ _).mono ?_; rintro e w6 ⟨rfl, rfl⟩))
              refine (samePc _ _ [(9, 0, 1)] _ (HR5.out.keep (X := fun _ => False) (((Chg.refl _ _).alloc _).alloc _) (fun _ _ => id)) ⟨_, _, rfl, rowc_blk (blk_new2 _ _ _)⟩ (show 1 ≤ 9223372036854775807 by decide)).mono ?_
              rintro e w7 ⟨rfl, hC7⟩
              have HC7 := Lib.hid ((HC5.out.trans (((Chg.refl (fun _ => False) _).alloc _).alloc _)).trans hC7)
              clear hC7
              go_wp2_with ((refine (num16q _ _).mono ?_; rintro e w6 ⟨rfl, rfl⟩))
              go_ret
              exact ⟨rfl, HC7.out⟩
theorem iommuClears_walk (w : World) (A : Option Addr) (ca : Nat) (xs : List Int) (hmx : xs.length ≤ maxLen) (rx : RowC w A (xs.flatMap icell)) (_hw : ∀ x ∈ xs, True) :
    Calls Try.prog 7 #[.slice A xs.length ca] w fun e w' => e = .returned (.bool true) ∧ Below w.heap.size w w' := by
  unfold maxLen at hmx
  exact (iommuClears_main A ca xs w (by omega) rx).mono fun e w' ⟨h1, h2⟩ => ⟨h1, h2.below (Nat.le_refl _) (fun _ h => h.elim)⟩
end Go.Proofs.Ytnallfehffhaeaa
