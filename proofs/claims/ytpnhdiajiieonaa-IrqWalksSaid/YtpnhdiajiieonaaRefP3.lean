/- Chapter 12: the document's sets: drop, Clear. -/
import Derived.Test.YtpnhdiajiieonaaRefP2
set_option linter.unusedSimpArgs false
set_option linter.unusedVariables false
namespace Go.Proofs.Ytpnhdiajiieonaa
open Go.RowKit

def cnt1 (S : Nat → Nat → Bool) (k : Nat) : Nat → Nat
  | 0 => 0
  | a + 1 => cnt1 S k a + (if S a k = true then 1 else 0)
theorem cnt1_le (S : Nat → Nat → Bool) (k : Nat) : ∀ a, cnt1 S k a ≤ a
  | 0 => Nat.le_refl _
  | a + 1 => by have := cnt1_le S k a; simp only [cnt1]; split <;> omega
theorem cnt1_cong {S T : Nat → Nat → Bool} {k : Nat} : ∀ n, (∀ a, a < n → S a k = T a k) → cnt1 S k n = cnt1 T k n
  | 0, _ => rfl
  | n + 1, h => by simp only [cnt1]; rw [cnt1_cong n (fun a ha => h a (by omega)), h n (by omega)]
def sum1 (S : Nat → Nat → Bool) (D n : Nat) : Nat → Nat
  | 0 => 0
  | v + 1 => sum1 S D n v + cnt1 S (D * 8 + v) n
theorem sum1_le (S : Nat → Nat → Bool) (D n : Nat) : ∀ v, sum1 S D n v ≤ v * n
  | 0 => by simp [sum1]
  | v + 1 => by have := sum1_le S D n v; have := cnt1_le S (D * 8 + v) n; simp only [sum1]; rw [Nat.add_mul]; omega
def sumI (S : Nat → Nat → Bool) (D n : Nat) : Nat → Nat
  | 0 => 0
  | v + 1 => sumI S D n v + (if S n (D * 8 + v) = true then 1 else 0)
theorem sum1_succ (S : Nat → Nat → Bool) (D n : Nat) : ∀ v, sum1 S D (n + 1) v = sum1 S D n v + sumI S D n v
  | 0 => rfl
  | v + 1 => by simp only [sum1, sumI, cnt1, sum1_succ S D n v]; omega
theorem row_sum (S : Nat → Nat → Bool) (D n : Nat) : ∀ m, ((List.range m).filter fun k => S n k && isDev D k).length = sumI S D n (min 8 (m - D * 8))
  | 0 => by simp [sumI]
  | m + 1 => by
    rw [List.range_succ, List.filter_append, List.length_append, row_sum S D n m]
    by_cases h : D * 8 ≤ m ∧ m < D * 8 + 8
    · have h1 : min 8 (m + 1 - D * 8) = min 8 (m - D * 8) + 1 := by omega
      have h2 : D * 8 + min 8 (m - D * 8) = m := by omega
      have h3 : isDev D m = true := decide_eq_true (by omega)
      rw [h1, sumI, h2]
      cases hs : S n m <;> simp [hs, h3]
    · have h1 : min 8 (m + 1 - D * 8) = min 8 (m - D * 8) := by omega
      have h3 : isDev D m = false := decide_eq_false (by omega)
      rw [h1]
      simp [h3]
theorem sum1_cnt (S : Nat → Nat → Bool) (D : Nat) (hD : D < 4) : ∀ n, sum1 S D n 8 = cntTo S (isDev D) n
  | 0 => by simp [sum1, cnt1, cntTo]
  | n + 1 => by
    rw [sum1_succ, sum1_cnt S D hD n, cntTo]
    unfold cntRow
    rw [row_sum, show min 8 (32 - D * 8) = 8 from by omega]
def dropT (S : Nat → Nat → Bool) (k c : Nat) : Nat → Nat → Bool := fun a b => S a b && !(decide (b = k) && decide (a < c))
theorem dropT_zero (S : Nat → Nat → Bool) (k : Nat) : dropT S k 0 = S := by funext a b; unfold dropT; simp
theorem dropT_next (S : Nat → Nat → Bool) (k c a b : Nat) : (if a = c ∧ b = k then false else dropT S k c a b) = dropT S k (c + 1) a b := by
  unfold dropT
  by_cases e : a = c ∧ b = k
  · rw [if_pos e, e.1, e.2]; simp
  · rw [if_neg e]
    by_cases e2 : b = k
    · have : decide (a < c) = decide (a < c + 1) := decide_eq_decide.2 (by omega)
      rw [this]
    · simp [e2]
def RDropPost (p R n k : Nat) (S : Nat → Nat → Bool) (w : World) (e : Ending) (w' : World) : Prop :=
  e = .returned (.int .i64 (cnt1 S k n)) ∧ RefAt w' p R n (fun a b => S a b && !decide (b = k)) ∧ Chg (fun k => k = R) w w'
set_option maxRecDepth 100000 in
set_option maxHeartbeats 1000000 in
theorem rDrop (p R n d v : Nat) (S : Nat → Nat → Bool) (w : World) (h : RefAt w p R n S) (hn : n ≤ 4) (hd : d < 4) (hv : v < 8) :
    Calls Try.prog 101 #[.pointer (some ⟨p, 0, none⟩), .int .i64 d, .int .i64 v] w (RDropPost p R n (d * 8 + v) S w) := by
  have d0 : (0 : Int) ≤ d := by omega
  have d1 : (d : Int) < 4 := by omega
  have v0 : (0 : Int) ≤ v := by omega
  have v1 : (v : Int) < 8 := by omega
  have hn0 : (0 : Int) ≤ n := by omega
  have hn1 : (n : Int) ≤ 4 := by omega
  have hk32 : d * 8 + v < 32 := by omega
  have H := Lib.hid h; clear h
  go_enter Try.func101, Try.ntmps101
  go_wp2_with fail
  go_loopw [8, 7] (fun s8 s7 w2 => ∃ a : Nat, a ≤ n ∧ s8 = .int .i64 a ∧ s7 = .int .i64 (cnt1 S (d * 8 + v) a) ∧ RefAt w2 p R n (dropT S (d * 8 + v) a) ∧ Chg (fun k => k = R) w w2) (fun s _ _ => n - (intOf s).toNat)
  case atStart => exact ⟨0, by omega, rfl, rfl, by rw [dropT_zero]; exact H.out, Chg.refl _ _⟩
  case round =>
    clear H
    obtain ⟨a, ha, rfl, rfl, hr, hC⟩ := hrel
    have a0 : (0 : Int) ≤ a := by omega
    have c0 := blk_cell hr.hp 0
    by_cases hlt : a < n
    · have a1 : (a : Int) < n := by omega
      have c1 := hr.up.cell hlt hk32
      have f1 := hr.up.free (a * 32 + (d * 8 + v))
      have ht : dropT S (d * 8 + v) a a (d * 8 + v) = S a (d * 8 + v) := by unfold dropT; simp
      rw [ht] at c1
      rw [← Nat.add_assoc] at c1 f1
      have hnx : RefAt (wr.setCell ⟨R, a * 32 + d * 8 + v, none⟩ (.bool false)) p R n (dropT S (d * 8 + v) (a + 1)) ∧ Chg (fun k => k = R) w (wr.setCell ⟨R, a * 32 + d * 8 + v, none⟩ (.bool false)) := by
        rw [Nat.add_assoc]
        exact ⟨(hr.put hlt hk32 false).cong (fun b c _ _ => dropT_next S _ a b c), hC.trans (hr.chg _ _)⟩
      have hcl := cnt1_le S (d * 8 + v) a
      have hb1 : (0 : Int) ≤ (cnt1 S (d * 8 + v) a : Int) := by omega
      have hb2 : (cnt1 S (d * 8 + v) a : Int) ≤ 4 := by omega
      have hsc : cnt1 S (d * 8 + v) (a + 1) = cnt1 S (d * 8 + v) a + (if S a (d * 8 + v) = true then 1 else 0) := rfl
      have HSC := Lib.hid hsc; clear hsc
      have HN := Lib.hid hnx; clear hnx hr hC ht hcl
      generalize cnt1 S (d * 8 + v) a = q at *
      cases hS : S a (d * 8 + v) with
      | true =>
        rw [hS] at c1 HSC
        rw [if_pos rfl] at HSC
        go_wp2_with fail
        go_roundw
        case rel => exact ⟨a + 1, by omega, by go_num, by rw [HSC.out]; go_num, HN.out⟩
        case measure => simp [intOf]; omega
      | false =>
        rw [hS] at c1 HSC
        rw [if_neg (by decide)] at HSC
        go_wp2_with fail
        go_roundw
        case rel => exact ⟨a + 1, by omega, by go_num, by rw [HSC.out]; go_num, HN.out⟩
        case measure => simp [intOf]; omega
    · obtain rfl : a = n := by omega
      have hfin : RefAt wr p R a (fun x b => S x b && !decide (b = d * 8 + v)) ∧ Chg (fun k => k = R) w wr := ⟨hr.cong (fun x b hx _ => by unfold dropT; simp [hx]), hC⟩
      have HF := Lib.hid hfin; clear hfin hr hC hlt ha
      go_wp2_with fail
      go_ret
      exact ⟨rfl, HF.out⟩
def clrT (S : Nat → Nat → Bool) (D c : Nat) : Nat → Nat → Bool := fun a b => S a b && !(decide (D * 8 ≤ b) && decide (b < D * 8 + c))
theorem clrT_zero (S : Nat → Nat → Bool) (D : Nat) : clrT S D 0 = S := by
  funext a b; unfold clrT
  by_cases h : D * 8 ≤ b
  · have : decide (b < D * 8 + 0) = false := decide_eq_false (by omega)
    rw [this]; simp
  · simp [h]
theorem clrT_next (S : Nat → Nat → Bool) (D c a b : Nat) : (clrT S D c a b && !decide (b = D * 8 + c)) = clrT S D (c + 1) a b := by
  unfold clrT
  by_cases e : b = D * 8 + c
  · subst e
    have h1 : decide (D * 8 + c < D * 8 + (c + 1)) = true := decide_eq_true (by omega)
    have h2 : decide (D * 8 ≤ D * 8 + c) = true := decide_eq_true (by omega)
    rw [h1, h2]; simp
  · have h1 : decide (b < D * 8 + c) = decide (b < D * 8 + (c + 1)) := decide_eq_decide.2 (by omega)
    rw [h1]; simp [e]
theorem clrT_end (S : Nat → Nat → Bool) (D a b : Nat) : clrT S D 8 a b = (S a b && !isDev D b) := by
  unfold clrT isDev
  congr 2
  rw [← Bool.decide_and, decide_eq_decide]
  omega
def RClearPost (p R n : Nat) (d : Int) (S : Nat → Nat → Bool) (w : World) (e : Ending) (w' : World) : Prop :=
  e = .returned (.int .i64 (cntTo S (isDev d) n)) ∧ RefAt w' p R n (fun a b => S a b && !isDev d b) ∧ Chg (fun k => k = R) w w'
set_option maxRecDepth 100000 in
set_option maxHeartbeats 1000000 in
theorem rClear_in (p R n d : Nat) (S : Nat → Nat → Bool) (w : World) (h : RefAt w p R n S) (hn : n ≤ 4) (hd : d < 4) :
    Calls Try.prog 57 #[.pointer (some ⟨p, 0, none⟩), .int .i64 d] w (RClearPost p R n d S w) := by
  have d0 : (0 : Int) ≤ d := by omega
  have d1 : (d : Int) < 4 := by omega
  have H := Lib.hid h; clear h
  go_enter Try.func57, Try.ntmps57
  go_wp2_with fail
  go_loopw [6, 5] (fun s6 s5 w2 => ∃ v : Nat, v ≤ 8 ∧ s6 = .int .i64 v ∧ s5 = .int .i64 (sum1 S d n v) ∧ RefAt w2 p R n (clrT S d v) ∧ Chg (fun k => k = R) w w2) (fun s _ _ => 8 - (intOf s).toNat)
  case atStart => exact ⟨0, by omega, rfl, rfl, by rw [clrT_zero]; exact H.out, Chg.refl _ _⟩
  case round =>
    clear H
    obtain ⟨v, hv, rfl, rfl, hr, hC⟩ := hrel
    have v0 : (0 : Int) ≤ v := by omega
    by_cases hlt : v < 8
    · have v1 : (v : Int) < 8 := by omega
      have hdr := rDrop p R n d v (clrT S d v) wr hr hn hd hlt
      have hcc : cnt1 (clrT S d v) (d * 8 + v) n = cnt1 S (d * 8 + v) n := cnt1_cong n (fun a _ => by
        unfold clrT
        have : decide (d * 8 + v < d * 8 + v) = false := decide_eq_false (by omega)
        rw [this]; simp)
      have hsl := sum1_le S d n v
      have hcl := cnt1_le S (d * 8 + v) n
      have hvn : v * n ≤ 8 * 4 := Nat.mul_le_mul (by omega) hn
      have hb1 : (0 : Int) ≤ (sum1 S d n v : Int) := by omega
      have hb2 : (sum1 S d n v : Int) ≤ 32 := by omega
      have hb3 : (0 : Int) ≤ (cnt1 S (d * 8 + v) n : Int) := by omega
      have hb4 : (cnt1 S (d * 8 + v) n : Int) ≤ 4 := by omega
      have hsc : sum1 S d n (v + 1) = sum1 S d n v + cnt1 S (d * 8 + v) n := rfl
      have HSC := Lib.hid hsc; clear hsc
      have HCC := Lib.hid hcc; clear hcc
      have HDR := Lib.hid hdr; clear hdr
      have HC := Lib.hid hC; clear hC
      clear hsl hcl hvn hr
      generalize sum1 S d n v = q at *
      go_wp2_with fail
      refine HDR.out.mono ?_
      rintro e w3 ⟨rfl, hr3, hC3⟩
      rw [HCC.out]
      have hnx : RefAt w3 p R n (clrT S d (v + 1)) ∧ Chg (fun k => k = R) w w3 := ⟨hr3.cong (fun a b _ _ => clrT_next S d v a b), HC.out.trans hC3⟩
      have HN := Lib.hid hnx; clear hnx hr3 hC3 HCC HDR
      generalize cnt1 S (d * 8 + v) n = r at *
      go_wp2_with fail
      go_roundw
      case rel => exact ⟨v + 1, by omega, by go_num, by rw [HSC.out]; go_num, HN.out⟩
      case measure => simp [intOf]; omega
    · obtain rfl : v = 8 := by omega
      have hfin : RefAt wr p R n (fun x b => S x b && !isDev d b) ∧ Chg (fun k => k = R) w wr := ⟨hr.cong (fun x b _ _ => clrT_end S d x b), hC⟩
      have HF := Lib.hid hfin; clear hfin hr hC hlt hv
      have hs := sum1_cnt S d hd n
      have HS := Lib.hid hs; clear hs
      go_wp2_with fail
      go_ret
      exact ⟨by rw [← HS.out]; rfl, HF.out⟩
theorem rClear (p R n : Nat) (d : Int) (S : Nat → Nat → Bool) (w : World) (h : RefAt w p R n S) (hn : n ≤ 4) :
    Calls Try.prog 57 #[.pointer (some ⟨p, 0, none⟩), .int .i64 d] w (RClearPost p R n d S w) := by
  by_cases hd : 0 ≤ d ∧ d < 4
  · obtain ⟨k, rfl⟩ := Int.eq_ofNat_of_zero_le hd.1
    exact rClear_in p R n k S w h hn (by omega)
  · have hz : ∀ k, k < 32 → isDev d k = false := fun k hk => by unfold isDev; simp; omega
    have hfin : RefAt w p R n (fun a b => S a b && !isDev d b) := h.cong (fun a b _ hb => by rw [hz b hb]; simp)
    unfold RClearPost
    rw [cntTo_zero S hz n]
    have HF := Lib.hid hfin; clear hfin h hz
    by_cases h0 : 0 ≤ d
    · have h1 : decide (d < 4) = false := decide_eq_false (by omega)
      have h2 : 4 ≤ d := by omega
      clear hd
      go_enter Try.func57, Try.ntmps57
      go_wp2_with fail
      go_loop [6, 5] (fun s t => s = .int .i64 0 ∧ t = .int .i64 0) (fun _ _ => 0)
      case atStart => exact ⟨rfl, rfl⟩
      case round =>
        obtain ⟨rfl, rfl⟩ := hrel
        go_wp2_with fail
        go_ret
        exact ⟨rfl, HF.out, Chg.refl _ _⟩
    · have h1 : decide (0 ≤ d) = false := decide_eq_false (by omega)
      have h2 : d < 0 := by omega
      clear hd
      go_enter Try.func57, Try.ntmps57
      go_wp2_with fail
      go_loop [6, 5] (fun s t => s = .int .i64 0 ∧ t = .int .i64 0) (fun _ _ => 0)
      case atStart => exact ⟨rfl, rfl⟩
      case round =>
        obtain ⟨rfl, rfl⟩ := hrel
        go_wp2_with fail
        go_ret
        exact ⟨rfl, HF.out, Chg.refl _ _⟩
end Go.Proofs.Ytpnhdiajiieonaa
