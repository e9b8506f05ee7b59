/- The law IommuRuns: the walk. -/
import Derived.Test.YtnallfehffhaeaaAwake7
import Derived.Deep.DeepCutAuto
import Derived.Deep.CutBlock
set_option linter.unusedSimpArgs false
set_option linter.unusedVariables false
namespace Go.Proofs.Ytnallfehffhaeaa
open Go.RowKit
attribute [local go_sem] i64_and255 i64_and3

/-- What a page answers. -/
def okPg (h : Nat → Int) (nd : Int) (i : Nat) : Int := if h i = 0 then 702 else if bits .and .i64 (h i) nd = 0 then 703 else 0
def EH (k : Nat) (h : Nat → Int) (q : Nat) : Int × Int := if q < k ∧ h q ≠ 0 then (8 + q, h q) else (0, 0)
def pcsL : Nat → Int → Int → List (Int × Int × Int)
  | 0, _, _ => []
  | f + 1, b, m => if 0 < m then (8 + b / 64, b % 64, min m (64 - b % 64)) :: pcsL f (b + min m (64 - b % 64)) (m - min m (64 - b % 64)) else []
theorem EH_set {k : Nat} {h : Nat → Int} {p : Int} : upd (EH k h) k (if p = 0 then (0, 0) else (8 + (k : Int), p)) = EH (k + 1) (upd h k p) := by
  funext q
  by_cases e : q = k
  · subst e
    rw [upd_same]
    unfold EH
    rw [upd_same]
    by_cases hp : p = 0
    · rw [if_pos hp, if_neg (fun h => h.2 hp)]
    · rw [if_neg hp, if_pos ⟨by omega, hp⟩]
  · rw [upd_ne _ _ e]
    unfold EH
    rw [upd_ne _ _ e]
    by_cases h1 : q < k
    · by_cases h2 : h q = 0
      · rw [if_neg (fun c => c.2 h2), if_neg (fun c => c.2 h2)]
      · rw [if_pos ⟨h1, h2⟩, if_pos ⟨by omega, h2⟩]
    · rw [if_neg (fun c => h1 c.1), if_neg (fun c => by have := c.1; omega)]
section
variable {bs : List UInt8} {S : List Nat} {h : Nat → Int} {nd : Int}
theorem walkH (hD : D7 bs S (EH 8 h) [] E00) {p : Nat} (hp : p < 8) : walkE bs 0 p = if h p = 0 then ((0, 0), 501) else ((8 + (p : Int), h p), 0) := by
  rw [hD.a.walk (by omega)]
  by_cases h0 : h p = 0
  · have e : EH 8 h p = (0, 0) := by unfold EH; exact if_neg (fun c => c.2 h0)
    rw [e, if_pos h0]; exact if_pos rfl
  · have e : EH 8 h p = (8 + (p : Int), h p) := by unfold EH; exact if_pos ⟨hp, h0⟩
    rw [e, if_neg h0]
theorem transH (hD : D7 bs S (EH 8 h) [] E00) (f : Nat) (b m : Int) (acc) (hb : 0 ≤ b) (hm : b + m ≤ 512) (h0 : 0 < m) :
    transM bs 0 nd (f + 1) b m acc = if okPg h nd (b / 64).toNat ≠ 0 then ([], okPg h nd (b / 64).toNat) else transM bs 0 nd f (b + min m (64 - b % 64)) (m - min m (64 - b % 64)) (acc ++ [(8 + b / 64, b % 64, min m (64 - b % 64))]) := by
  have hw := walkH hD (p := (b / 64).toNat) (by omega)
  rw [show (((b / 64).toNat : Nat) : Int) = b / 64 by omega] at hw
  show (if 0 < m then _ else _) = _
  rw [if_pos h0, hw]
  unfold okPg
  by_cases c : h (b / 64).toNat = 0
  · simp only [if_pos c]; rfl
  · simp only [if_neg c, ne_eq, not_true_eq_false, if_false]
    by_cases c2 : bits .and .i64 (h (b / 64).toNat) nd = 0
    · simp only [if_pos c2]; rfl
    · simp only [if_neg c2, not_true_eq_false, if_false]
theorem T_ok (hD : D7 bs S (EH 8 h) [] E00) : ∀ (f : Nat) (b m : Int) (acc), 0 ≤ b → b + m ≤ 512 → m ≤ f → (∀ j : Nat, b / 64 ≤ j → (j : Int) ≤ (b + m - 1) / 64 → okPg h nd j = 0) → transM bs 0 nd f b m acc = (acc ++ pcsL f b m, 0)
  | 0, b, m, acc, _, _, hf, _ => by simp [transM, pcsL]
  | f + 1, b, m, acc, hb, hm, hf, hok => by
    by_cases h0 : 0 < m
    · rw [transH hD f b m acc hb hm h0, if_neg (fun c => c (hok _ (by omega) (by omega))), T_ok hD f _ _ _ (by omega) (by omega) (by omega) (fun j h1 h2 => hok j (by omega) (by omega))]
      have e : pcsL (f + 1) b m = (8 + b / 64, b % 64, min m (64 - b % 64)) :: pcsL f (b + min m (64 - b % 64)) (m - min m (64 - b % 64)) := if_pos h0
      rw [e, List.append_assoc]; rfl
    · rw [transM_end _ _ _ _ _ _ _ (by omega)]
      unfold pcsL
      rw [if_neg h0, List.append_nil]
theorem T_bad (hD : D7 bs S (EH 8 h) [] E00) : ∀ (f : Nat) (b m : Int) (acc) (j : Nat), 0 ≤ b → b + m ≤ 512 → m ≤ f → b / 64 ≤ j → (j : Int) ≤ (b + m - 1) / 64 → okPg h nd j ≠ 0 → (∀ i : Nat, b / 64 ≤ i → i < j → okPg h nd i = 0) → 0 < m → transM bs 0 nd f b m acc = ([], okPg h nd j)
  | 0, b, m, acc, j, _, _, hf, _, _, _, _, h0 => by omega
  | f + 1, b, m, acc, j, hb, hm, hf, h1, h2, hj, hok, h0 => by
    rw [transH hD f b m acc hb hm h0]
    by_cases e : (b / 64).toNat = j
    · rw [e, if_pos hj]
    · rw [if_neg (fun c => c (hok _ (by omega) (by omega))), T_bad hD f _ _ _ j (by omega) (by omega) (by omega) (by omega) (by omega) hj (fun i h3 h4 => hok i (by omega) h4) (by omega)]
end
/-- What the first loop keeps. -/
structure R7 (w0 w : World) (x p q : Nat) (k : Nat) (h : Nat → Int) (F : Nat → Prop) : Prop where
  ex : ∃ bs S, IoM w x p PL7 bs F ∧ D7 bs S (EH k h) [] E00 ∧ (S = [] ∨ S = [0])
  new : ∀ k, F k → w0.heap.size ≤ k ∧ k ≠ q
  arr : ArrC icell 1 w q 43 8 h
  q0 : w0.heap.size ≤ q
  chg : Chg (fun _ => False) w0 w
section
variable {w0 w w1 : World} {x p q k : Nat} {h : Nat → Int} {F : Nat → Prop}
/-- A page that stays nothing's. -/
theorem R7.zero (r : R7 w0 w x p q k h F) (hc : Chg (fun i => i = q) w w1) (ha : ArrC icell 1 w1 q 43 8 (upd h k 0)) : R7 w0 w1 x p q (k + 1) (upd h k 0) F := by
  obtain ⟨bs, S, h1, h2, h3⟩ := r.ex
  have e : EH (k + 1) (upd h k 0) = EH k h := by
    rw [← EH_set, if_pos rfl]
    funext q
    by_cases e : q = k
    · subst e; rw [upd_same]; unfold EH; rw [if_neg (by omega)]
    · exact upd_ne _ _ e
  exact ⟨⟨bs, S, h1.keep hc (fun i hi => (r.new i hi).2), e ▸ h2, h3⟩, r.new, ha, r.q0, r.chg.trans' hc (fun i hi e => by have := r.q0; omega)⟩
theorem R7.map (r : R7 w0 w x p q k h F) (hk : k < 8) {v : Int} (v0 : 1 ≤ v) (v1 : v ≤ 3) (hc : Chg (fun i => i = q) w w1) (ha : ArrC icell 1 w1 q 43 8 (upd h k v)) :
    Calls Try.prog 13 #[.pointer (some ⟨x, 0, none⟩), .int .i64 0, .int .i64 k, .agg #[.int .i64 (8 + k), .int .i64 v]] w1 fun e w' => e = .returned (.int .i64 0) ∧ ∃ F', R7 w0 w' x p q (k + 1) (upd h k v) F' := by
  obtain ⟨bs, S, h1, h2, h3⟩ := r.ex
  have h1' := h1.keep hc (fun i hi => (r.new i hi).2)
  have hu := h2.map0 (p := k) (f := 8 + k) (q := v) (by omega) v0 v1 (by omega) (by omega)
  have hs : slotS S 3 k = some [0] := by
    unfold slotS
    rw [show k / 16 = 0 by omega]
    rcases h3 with rfl | rfl <;> rfl
  rw [hs] at hu
  simp only at hu
  have hm := ioMap h1' 0 (k : Int) (8 + k) v
  rw [hu.1] at hm
  refine hm.mono ?_
  rintro e w' ⟨rfl, F', hI, hF, hC⟩
  have hs1 := hc.size
  have e : EH (k + 1) (upd h k v) = upd (EH k h) k (8 + (k : Int), v) := by rw [← EH_set, if_neg (by omega)]
  exact ⟨rfl, F', ⟨_, [0], hI, e ▸ hu.2, .inr rfl⟩, fun i hi => (hF i hi).elim (r.new i) (fun h' => ⟨Nat.le_trans r.chg.size (Nat.le_trans hs1 h'), fun e => by have := r.arr.lt; omega⟩), ha.keep hC (fun c => (r.new q c).2 rfl), r.q0, (r.chg.trans' hc (fun i hi e => by have := r.q0; omega)).trans' hC (fun i hi c => absurd (r.new i c).1 (by omega))⟩
end
set_option maxRecDepth 100000 in
set_option maxHeartbeats 8000000 in
theorem iommuRuns_main (A : Option Addr) (ca : Nat) (xs : List Int) (at0 k0 : Int) (wri : Bool) (w0 : World) (hx : xs.length ≤ 9223372036854775807) (rx : RowC w0 A (xs.flatMap icell)) :
    Calls Try.prog 4 #[.slice A xs.length ca, .int .i64 at0, .int .i64 k0, .bool wri] w0 fun e w' => e = .returned (.bool true) ∧ Chg (fun _ => False) w0 w' := by
  have HRX := Lib.hid rx; clear rx
  go_enter Try.func4, Try.ntmps4
  go_wp2_with fail
  refine (awake7 _).mono ?_
  rintro e w ⟨rfl, hC0⟩
  have HC0 := Lib.hid hC0; clear hC0
  go_wp2_with fail
  refine (set7 w).mono ?_
  rintro e w1 ⟨x, p, bs, F, rfl, hI, hD, hF, hC1⟩
  go_wp2_with fail
  obtain ⟨q, hq⟩ : ∃ q, q = w1.heap.size := ⟨_, rfl⟩
  obtain ⟨W, hW⟩ : ∃ W, W = w1.alloc (.cells #[.int .i64 0, .int .i64 0, .int .i64 0, .int .i64 0, .int .i64 0, .int .i64 0, .int .i64 0, .int .i64 0] 43) := ⟨_, rfl⟩
  have hM : R7 w0 W x p q 0 (fun _ => 0) F := by
    have hc : Chg (fun _ => False) w1 W := by rw [hW]; exact (Chg.refl _ _).alloc _
    refine ⟨⟨bs, [], hI.keepN hc, hD, .inl rfl⟩, fun k hk => ⟨Nat.le_trans HC0.out.size (hF k hk), fun e => by have := hI.lt k hk; omega⟩, ?_, ?_, (HC0.out.trans hC1).trans hc⟩
    · exact ArrC.zero (z := .int .i64 0) (by rw [hW, hq]; exact blk_new _ _) (fun j hj => by match j, hj with | 0, _ => rfl)
    · rw [hq]; exact (HC0.out.trans hC1).size
  have HM := Lib.hid hM
  rw [← hq]
  try rw [show w1.alloc _ = W from hW.symm]
  clear hI hD hF hC1 hM HC0 hW hq
  go_loopw [12] (fun s wr => ∃ (i : Nat) (h : Nat → Int) (F : Nat → Prop), i ≤ 8 ∧ s = .int .i64 i ∧ R7 w0 wr x p q i h F) (fun s _ => 8 - (intOf s).toNat)
  case atStart => exact ⟨0, _, _, by omega, rfl, HM.out⟩
  case round =>
    clear HM
    obtain ⟨i, h, F1, hi, rfl, hM⟩ := hrel
    have i0 : (0 : Int) ≤ i := by omega
    by_cases hlt : i < 8
    · have i1 : (i : Int) < 8 := by omega
      have HM := Lib.hid hM
      have HF := Lib.hid hM.arr.free
      have HA := Lib.hid hM.arr
      have hql := hM.arr.lt
      have hdef := hM.arr.cell hlt (show 0 < 1 by omega)
      simp only [Nat.mul_one, Nat.add_zero] at hdef
      unfold icell at hdef
      simp only [List.getElem?_cons_zero] at hdef
      have hfr := HF.out i
      have hA := Lib.hid (fun (v : Int) => (show ArrC icell 1 (wr.setCell ⟨q, i, none⟩ (.int .i64 v)) q 43 8 (upd h i v) from by have := HA.out.set (k := i) hlt v rfl; rwa [Nat.mul_one] at this))
      have hCQ := Lib.hid (fun (v : Int) => (show Chg (fun k => k = q) wr (wr.setCell ⟨q, i, none⟩ (.int .i64 v)) from (Chg.refl _ _).set1 _))
      clear hM
      by_cases hl : i < xs.length
      · have i2 : (i : Int) < xs.length := by omega
        obtain ⟨b, o, rfl, c0w⟩ := intAt HRX.out i hl
        have c0 := HM.out.chg.cell c0w id
        clear c0w
        generalize xs[i] = y at *
        obtain ⟨v, hv, v0, v3⟩ : ∃ v : Int, y % 4 = v ∧ 0 ≤ v ∧ v ≤ 3 := ⟨_, rfl, by omega, by omega⟩
        have HV := Lib.hid hv; clear hv
        go_upto_region 13 with fail
        rw [HV.out]
        clear HV c0
        by_cases hy : v = 0
        · subst hy
          go_wp2_with fail
          go_roundw
          case rel => exact ⟨i + 1, _, _, by omega, by go_num, HM.out.zero (hCQ.out 0) (hA.out 0)⟩
          case measure => simp [intOf]; omega
        · have y1 : 0 < v := by omega
          have HMP := Lib.hid (HM.out.map hlt (v := v) (by omega) (by omega) (hCQ.out _) (hA.out _))
          clear hy
          go_wp2_with fail
          refine HMP.out.mono ?_
          rintro e w2 ⟨rfl, F2, hN⟩
          have HN := Lib.hid hN
          clear hN HMP hdef hfr
          go_wp2_with ((refine (num16q _ _).mono ?_; rintro e w6 ⟨rfl, rfl⟩))
          go_roundw
          case rel => exact ⟨i + 1, _, _, by omega, by go_num, HN.out⟩
          case measure => simp [intOf]; omega
      · have i2 : decide ((i : Int) < xs.length) = false := decide_eq_false (by omega)
        have HMP := Lib.hid (HM.out.map hlt (v := 3) (by omega) (by omega) (hCQ.out _) (hA.out _))
        go_wp2_with fail
        refine HMP.out.mono ?_
        rintro e w2 ⟨rfl, F2, hN⟩
        have HN := Lib.hid hN
        clear hN HMP hdef hfr
        go_wp2_with ((refine (num16q _ _).mono ?_; rintro e w6 ⟨rfl, rfl⟩))
        go_roundw
        case rel => exact ⟨i + 1, _, _, by omega, by go_num, HN.out⟩
        case measure => simp [intOf]; omega
    · obtain rfl : i = 8 := by omega
      obtain ⟨bs, S, hI, hD, _⟩ := hM.ex
      obtain ⟨a, ha, a0, a1⟩ : ∃ a : Int, at0 % 256 = a ∧ 0 ≤ a ∧ a ≤ 255 := ⟨_, rfl, by omega, by omega⟩
      obtain ⟨m, hm, m0, m1⟩ : ∃ m : Int, 1 + k0 % 256 = m ∧ 1 ≤ m ∧ m ≤ 256 := ⟨_, rfl, by omega, by omega⟩
      obtain ⟨nd, hnd⟩ : ∃ nd : Int, nd = if wri then 2 else 1 := ⟨_, rfl⟩
      have ht := ioTrans hI 0 a m wri
      unfold transQ at ht
      rw [if_pos ⟨by decide, by omega, by omega, by omega, by omega⟩, ← hnd] at ht
      change Calls _ _ _ _ (IoTrans x p PL7 bs F1 wr (transM bs 0 nd 256 a m [])) at ht
      obtain ⟨tr, htr⟩ : ∃ t, t = transM bs 0 nd 256 a m [] := ⟨_, rfl⟩
      rw [← htr] at ht
      have HTR := Lib.hid htr; clear htr
      have HT := Lib.hid ht
      have HD := Lib.hid hD
      have HND := Lib.hid hnd
      have HCW := Lib.hid hM.chg
      have HFW := Lib.hid (fun k hk => (hM.new k hk).1)
      have HAR := Lib.hid hM.arr
      have HNQ := Lib.hid (fun hk => (hM.new q hk).2)
      have HA := Lib.hid ha; have HB := Lib.hid hm
      clear ht hD hnd hI hM ha hm
      go_wp2_with fail
      rw [HA.out, HB.out]
      refine HT.out.mono ?_
      rintro e w2 ⟨o, rfl, hO, F2, hI, hF, hN, hC⟩
      have hq := io_next HCW.out HFW.out hF hC
      have HC2 := Lib.hid hq.1
      have HAR2 := Lib.hid (HAR.out.keep hC (fun c => HNQ.out c rfl))
      have HR2 := Lib.hid (RdC.own hO pcI_len)
      have HLL : Hid (tr.1.length ≤ 9223372036854775807) := by
        show tr.1.length ≤ 9223372036854775807
        by_cases h0 : 0 < tr.1.length
        · obtain ⟨_, cap, _, _, _, h1, h2⟩ := hO.form h0
          unfold maxLen at h2; omega
        · omega
      obtain ⟨A2, c2, hv⟩ := hO.slice
      subst hv
      clear hI hF hC hq hO hN HT HCW HAR HNQ HFW
      go_upto_if 73 with fail
      go_cut [19] (fun s wx => s = .int .i64 nd ∧ wx = w2)
      case first =>
        cases wri with
        | true => go_wp2_with fail; go_meet; exact ⟨by rw [HND.out]; rfl, rfl⟩
        | false => go_wp2_with fail; go_meet; exact ⟨by rw [HND.out]; rfl, rfl⟩
      case rest =>
      obtain ⟨rfl, rfl⟩ := hcut
      have hhi : (a + m - 1) / 64 ≤ 7 := by omega
      go_wp2_with fail
      go_loopw [20, 21] (fun s t wr => ∃ (i : Nat) (c : Int), s = .int .i64 c ∧ t = .int .i64 i ∧ a / 64 ≤ i ∧ (i : Int) ≤ (a + m - 1) / 64 + 1 ∧ wc = wr ∧ ((c = 0 ∧ ∀ j : Nat, a / 64 ≤ j → j < i → okPg h nd j = 0) ∨ (c ≠ 0 ∧ ∃ j : Nat, a / 64 ≤ j ∧ (j : Int) ≤ (a + m - 1) / 64 ∧ okPg h nd j = c ∧ ∀ j' : Nat, a / 64 ≤ j' → j' < j → okPg h nd j' = 0))) (fun _ t _ => 10 - (intOf t).toNat)
      case atStart => exact ⟨(a / 64).toNat, 0, rfl, by go_num, by omega, by omega, rfl, .inl ⟨rfl, fun j h1 h2 => by omega⟩⟩
      case round =>
        obtain ⟨i, c, rfl, rfl, hi1, hi2, rfl, hc⟩ := hrel
        have i0 : (0 : Int) ≤ i := by omega
        have fin : c ≠ 0 → tr = ([], c) := fun hn => by
          rcases hc with ⟨h0, _⟩ | ⟨_, j, h1, h2, h3, h4⟩
          · exact absurd h0 hn
          · rw [HTR.out, T_bad HD.out 256 a m [] j (by omega) (by omega) (by omega) h1 h2 (by rw [h3]; exact hn) h4 (by omega), h3]
        by_cases h0 : c = 0
        · by_cases hle : (i : Int) ≤ (a + m - 1) / 64
          · have hok : ∀ j : Nat, a / 64 ≤ j → j < i → okPg h nd j = 0 := by
              rcases hc with ⟨_, h⟩ | ⟨hn, _⟩
              · exact h
              · exact absurd h0 hn
            have i8 : i < 8 := by omega
            have i1 : (i : Int) < 8 := by omega
            have hcell := HAR2.out.cell i8 (show 0 < 1 by omega)
            simp only [Nat.mul_one, Nat.add_zero] at hcell
            unfold icell at hcell
            simp only [List.getElem?_cons_zero] at hcell
            have HOK := Lib.hid hok
            subst h0
            have bl : decide ((i : Int) ≤ (a + m - 1) / 64) = true := decide_eq_true hle
            clear hc fin hok
            by_cases e1 : h i = 0
            · have EN : Hid (okPg h nd i = 702) := if_pos e1
              have b1 : (h i == 0) = true := by simpa using e1
              clear e1
              go_wp2_with fail
              go_roundw
              case rel => exact ⟨i + 1, 702, rfl, by go_num, by omega, by omega, by first | trivial | rfl, .inr ⟨by decide, i, hi1, hle, EN.out, HOK.out⟩⟩
              case measure => simp [intOf]; omega
            · have b1 : (h i == 0) = false := by simpa using e1
              by_cases e2 : bits .and .i64 (h i) nd = 0
              · have EN : Hid (okPg h nd i = 703) := by show okPg h nd i = 703; unfold okPg; rw [if_neg e1, if_pos e2]
                have b2 : (bits .and .i64 (h i) nd == 0) = true := by simpa using e2
                clear e1 e2
                go_wp2_with fail
                go_roundw
                case rel => exact ⟨i + 1, 703, rfl, by go_num, by omega, by omega, by first | trivial | rfl, .inr ⟨by decide, i, hi1, hle, EN.out, HOK.out⟩⟩
                case measure => simp [intOf]; omega
              · have EN : Hid (okPg h nd i = 0) := by show okPg h nd i = 0; unfold okPg; rw [if_neg e1, if_neg e2]
                have b2 : (bits .and .i64 (h i) nd == 0) = false := by simpa using e2
                clear e1 e2
                go_wp2_with fail
                go_roundw
                case rel => exact ⟨i + 1, 0, rfl, by go_num, by omega, by omega, by first | trivial | rfl, .inl ⟨rfl, fun j h1 h2 => by
                  by_cases e : j = i
                  · rw [e]; exact EN.out
                  · exact HOK.out j h1 (by omega)⟩⟩
                case measure => simp [intOf]; omega
          · have hok : ∀ j : Nat, a / 64 ≤ j → (j : Int) ≤ (a + m - 1) / 64 → okPg h nd j = 0 := by
              rcases hc with ⟨_, h⟩ | ⟨hn, _⟩
              · exact fun j h1 h2 => h j h1 (by omega)
              · exact absurd h0 hn
            have ht := HTR.out
            rw [T_ok HD.out 256 a m [] (by omega) (by omega) (by omega) hok, List.nil_append] at ht
            have HPL := Lib.hid (show ∃ f : Nat, a + m - a ≤ f ∧ (pcsL 256 a m).drop 0 = pcsL f a (a + m - a) from ⟨256, by omega, by rw [List.drop_zero, show a + m - a = m by omega]⟩)
            generalize pcsL 256 a m = L at *
            subst ht h0
            have hLL : L.length ≤ 9223372036854775807 := HLL.out
            have bl : decide ((i : Int) ≤ (a + m - 1) / 64) = false := decide_eq_false hle
            clear hc fin hok
            go_wp2_with fail
            go_loopw [22, 23] (fun s t wr => ∃ (j : Nat) (nx : Int), s = .int .i64 nx ∧ t = .int .i64 j ∧ j ≤ L.length ∧ a ≤ nx ∧ nx ≤ a + m ∧ (∃ f : Nat, a + m - nx ≤ f ∧ L.drop j = pcsL f nx (a + m - nx)) ∧ wc = wr) (fun _ t _ => L.length - (intOf t).toNat)
            case atStart => exact ⟨0, a, rfl, rfl, by omega, by omega, by omega, HPL.out, rfl⟩
            case round =>
              clear HPL
              obtain ⟨j, nx, rfl, rfl, hj, hn1, hn2, ⟨f, hf, hd⟩, rfl⟩ := hrel
              have j0 : (0 : Int) ≤ j := by omega
              by_cases hlt2 : j < L.length
              · have j1 : (j : Int) < L.length := by omega
                have hne : L.drop j ≠ [] := fun e => by have := congrArg List.length e; simp at this; omega
                obtain ⟨f', rfl⟩ : ∃ f', f = f' + 1 := by
                  cases f with
                  | zero => exact absurd (hd.trans rfl) hne
                  | succ f' => exact ⟨f', rfl⟩
                have hrem : 0 < a + m - nx := by
                  refine Int.not_le.1 (fun hle2 => hne (hd.trans ?_))
                  exact if_neg (by omega)
                have hd2 : L.drop j = (8 + nx / 64, nx % 64, min (a + m - nx) (64 - nx % 64)) :: pcsL f' (nx + min (a + m - nx) (64 - nx % 64)) (a + m - nx - min (a + m - nx) (64 - nx % 64)) := hd.trans (if_pos hrem)
                have hLj : L[j] = (8 + nx / 64, nx % 64, min (a + m - nx) (64 - nx % 64)) := by
                  rw [List.drop_eq_getElem_cons hlt2] at hd2
                  injection hd2
                have htl : L.drop (j + 1) = pcsL f' (nx + min (a + m - nx) (64 - nx % 64)) (a + m - (nx + min (a + m - nx) (64 - nx % 64))) := by
                  rw [List.drop_eq_getElem_cons hlt2] at hd2
                  injection hd2 with _ h2
                  rw [h2, show a + m - nx - min (a + m - nx) (64 - nx % 64) = a + m - (nx + min (a + m - nx) (64 - nx % 64)) by omega]
                obtain ⟨g, o, rfl, hcl⟩ := HR2.out.cell pcI_len hlt2 (by decide)
                rw [hLj] at hcl
                obtain ⟨ln, hln, l0, l1⟩ : ∃ ln : Int, min (a + m - nx) (64 - nx % 64) = ln ∧ 1 ≤ ln ∧ nx + ln ≤ a + m := ⟨_, rfl, by omega, by omega⟩
                rw [hln] at hcl htl
                have C0 := hcl 0 (by decide)
                have C1 := hcl 1 (by decide)
                have C2 := hcl 2 (by decide)
                unfold pcI at C0 C1 C2
                simp only [Nat.add_zero, List.getElem?_cons_zero, List.getElem?_cons_succ, ← Nat.add_assoc] at C0 C1 C2
                have HTL := Lib.hid htl
                have HFU := Lib.hid (show a + m - (nx + ln) ≤ f' by omega)
                have n0 : 0 ≤ nx := by omega
                clear hd hd2 hne hLj htl hln hrem hcl hf
                go_wp2_with fail
                go_roundw
                case rel => exact ⟨j + 1, nx + ln, by go_num, by go_num, by omega, by omega, by omega, ⟨f', HFU.out, HTL.out⟩, by first | trivial | rfl⟩
                case measure => simp [intOf]; omega
              · obtain rfl : j = L.length := by omega
                have hnx : nx = a + m := by
                  rw [List.drop_length] at hd
                  cases f with
                  | zero => omega
                  | succ f' =>
                    by_cases hp : 0 < a + m - nx
                    · rw [show pcsL (f' + 1) nx (a + m - nx) = _ from if_pos hp] at hd; cases hd
                    · omega
                subst hnx
                clear hd hf
                go_wp2_with ((refine (num16q _ _).mono ?_; rintro e w6 ⟨rfl, rfl⟩))
                go_ret
                exact ⟨rfl, HC2.out⟩
        · have ht := fin h0
          have b0 : (c == 0) = false := by simpa using h0
          have b1 : (c != 0) = true := by simpa using h0
          clear hc fin
          subst ht
          clear h0
          by_cases hle : (i : Int) ≤ (a + m - 1) / 64
          · have bl : decide ((i : Int) ≤ (a + m - 1) / 64) = true := decide_eq_true hle
            go_wp2_with ((refine (num16q _ _).mono ?_; rintro e w6 ⟨rfl, rfl⟩))
            go_ret
            exact ⟨rfl, HC2.out⟩
          · have bl : decide ((i : Int) ≤ (a + m - 1) / 64) = false := decide_eq_false hle
            go_wp2_with ((refine (num16q _ _).mono ?_; rintro e w6 ⟨rfl, rfl⟩))
            go_ret
            exact ⟨rfl, HC2.out⟩
theorem iommuRuns_walk (w : World) (A : Option Addr) (ca : Nat) (xs : List Int) (hmx : xs.length ≤ maxLen) (rx : RowC w A (xs.flatMap icell)) (_hw : ∀ x ∈ xs, True) (at0 k0 : Int) (wri : Bool) :
    Calls Try.prog 4 #[.slice A xs.length ca, .int .i64 at0, .int .i64 k0, .bool wri] w fun e w' => e = .returned (.bool true) ∧ Below w.heap.size w w' := by
  unfold maxLen at hmx
  exact (iommuRuns_main A ca xs at0 k0 wri w (by omega) rx).mono fun e w' ⟨h1, h2⟩ => ⟨h1, h2.below (Nat.le_refl _) (fun _ h => h.elim)⟩
end Go.Proofs.Ytnallfehffhaeaa
