/- The laws of chapter 5: memories filled with words; what every program answers. -/
import Derived.Test.YtpnhdiajiieonaaWalkW2
import Derived.Test.YtpnhdiajiieonaaInts
import Derived.Test.YtpnhdiajiieonaaMemForms
import Derived.BigQuiet
set_option linter.unusedSimpArgs false
set_option linter.unusedVariables false
namespace Go.Proofs.Ytpnhdiajiieonaa
open Go.RowKit

theorem wrap64_in (x : Int) (h1 : -1000000000000 ≤ x) (h2 : x ≤ 1000000000000) : wrap64 x = x := by unfold wrap64; omega
/-- Where the i-th word goes. -/
def kAt (n : Nat) (a : Int) : Int := (IntKind.u64.wrap a).tmod (n * 16) * 4
theorem kAt_le (n : Nat) (a : Int) (h1 : 1 ≤ n) (h2 : n ≤ 64) : ∃ q : Nat, (IntKind.u64.wrap a).tmod (n * 16) = q ∧ q < n * 16 ∧ kAt n a = q * 4 := by
  have h0 : 0 ≤ IntKind.u64.wrap a := wrap_u64_nonneg a
  unfold kAt
  generalize IntKind.u64.wrap a = z at *
  rw [Int.tmod_eq_emod_of_nonneg h0]
  have h3 := Int.emod_nonneg z (show (n : Int) * 16 ≠ 0 by omega)
  have h4 := Int.emod_lt_of_pos z (show 0 < (n : Int) * 16 by omega)
  generalize z % ((n : Int) * 16) = q at *
  exact ⟨q.toNat, by omega, by omega, by omega⟩
def fillB (n : Nat) (ps : List (Int × Int)) (bs : List UInt8) : List UInt8 := ps.foldl (fun b p => putB b (kAt n p.1) p.2) bs
theorem fillB_len (n : Nat) : ∀ (ps : List (Int × Int)) (bs : List UInt8), (fillB n ps bs).length = bs.length
  | [], _ => rfl
  | p :: ps, bs => by
    show (fillB n ps (putB bs (kAt n p.1) p.2)).length = _
    rw [fillB_len n ps, putB_len]
def zipT (at_ ws : List Int) (k : Nat) : List (Int × Int) := (at_.zip ws).take k
theorem zipT_succ (at_ ws : List Int) (k : Nat) (h1 : k < at_.length) (h2 : k < ws.length) : zipT at_ ws (k + 1) = zipT at_ ws k ++ [(at_[k], ws[k])] := by
  unfold zipT
  rw [List.take_succ_eq_append_getElem (by simp; omega)]
  simp
theorem fillB_succ (n : Nat) (at_ ws : List Int) (k : Nat) (bs : List UInt8) (h1 : k < at_.length) (h2 : k < ws.length) : fillB n (zipT at_ ws (k + 1)) bs = putB (fillB n (zipT at_ ws k) bs) (kAt n at_[k]) ws[k] := by
  rw [zipT_succ _ _ _ h1 h2]; unfold fillB; rw [List.foldl_append]; rfl
theorem fillB_zero (n : Nat) (at_ ws : List Int) (bs : List UInt8) : fillB n (zipT at_ ws 0) bs = bs := by unfold zipT fillB; rw [List.take_zero]; rfl
/-- How many words are put. -/
def nPut (at_ ws : List Int) : Nat := min (min at_.length ws.length) 40

set_option maxRecDepth 100000 in
set_option maxHeartbeats 4000000 in
theorem filled_at (n H : Nat) (bs : List UInt8) (A B : Option Addr) (ca cb : Nat) (xs ys : List Int) (w : World) (h1 : 1 ≤ n) (h2 : n ≤ 64) (hx : xs.length ≤ 9223372036854775807) (hy : ys.length ≤ 9223372036854775807) (rx : RowC w A (xs.flatMap icell)) (ry : RowC w B (ys.flatMap icell)) (hH : w.heap.size = H) (hbs : List.replicate (n * 64) 0 = bs) :
    Calls Try.prog 43 #[.int .i64 n, .slice A xs.length ca, .slice B ys.length cb] w fun e w' => e = .returned (.tuple #[.pointer (some ⟨H + 1, 0, none⟩), .pointer (some ⟨H + 2 + 1, 0, none⟩)]) ∧
      MemAt w' 141 (H + 1) H (fillB n (zipT xs ys (nPut xs ys)) bs) ∧ MemAt w' 35 (H + 2 + 1) (H + 2) (fillB n (zipT xs ys (nPut xs ys)) bs) ∧ Chg (fun _ => False) w w' := by
  have hbl : bs.length = n * 64 := by rw [← hbs]; exact List.length_replicate
  have hbk : ∀ k, (fillB n (zipT xs ys k) bs).length = n * 64 := fun k => by rw [fillB_len, hbl]
  have HBS := Lib.hid hbs; clear hbs
  have HH := Lib.hid hH; clear hH
  have HBL := Lib.hid hbl
  have HBK := Lib.hid hbk
  clear hbl hbk
  go_enter Try.func43, Try.ntmps43
  go_wp2_with fail
  refine (mnew37_ok n w h1 h2).mono ?_
  rintro e w1 ⟨rfl, m1, hs, hC⟩
  go_wp2_with fail
  refine (mnew38_ok n w1 h1 h2).mono ?_
  rintro e w2 ⟨rfl, m2, hs2, hC2⟩
  replace m1 := m1.keep hC2 id id
  replace hC := hC.trans hC2
  clear hC2
  rw [hs] at m2 hs2 ⊢
  rw [HH.out, HBS.out] at m1 m2
  rw [HH.out]
  have hw0 : H + 3 < w2.heap.size := by have := HH.out; omega
  have hBw : w.heap.size ≤ H := by have := HH.out; omega
  clear hs hs2 HBS
  have HBB := Lib.hid hBw
  clear hBw
  go_wp2_with fail
  refine (num16 _ _).mono ?_
  rintro e w4 ⟨rfl, rfl⟩
  go_wp2_with fail
  go_loopw [12, 13] (fun i kk wr => ∃ k : Nat, k ≤ nPut xs ys ∧ i = .int .i64 k ∧ MemAt wr 141 (H + 1) H (fillB n (zipT xs ys k) bs) ∧ MemAt wr 35 (H + 2 + 1) (H + 2) (fillB n (zipT xs ys k) bs) ∧ Chg (fun _ => False) w wr) (fun i _ _ => nPut xs ys - (intOf i).toNat)
  case atStart => exact ⟨0, by omega, rfl, by rw [fillB_zero]; exact m1, by rw [fillB_zero]; exact m2, hC⟩
  case round =>
    clear m1 m2 hC
    obtain ⟨k, hk, rfl, m1, m2, hC⟩ := hrel
    by_cases hlt : k < nPut xs ys
    · obtain ⟨l1, l2, l3⟩ : k < xs.length ∧ k < ys.length ∧ k < 40 := by unfold nPut at hlt; omega
      have hsucc := fillB_succ n xs ys k bs l1 l2
      obtain ⟨b, o, rfl, c0w⟩ := intAt rx k l1
      obtain ⟨b', o', rfl, c1w⟩ := intAt ry k l2
      have c0 := hC.cell c0w id
      have c1 := hC.cell c1w id
      have hk0 : (0 : Int) ≤ k := by omega
      have hk1 : (k : Int) < xs.length := by omega
      have hk2 : (k : Int) < ys.length := by omega
      have hk3 : (k : Int) < 40 := by omega
      have d1 := m2.hdr
      have hL : (fillB n (zipT xs ys k) bs).length = n * 64 := HBK.out k
      obtain ⟨q, e1, e2, e3⟩ := kAt_le n xs[k] h1 h2
      rw [hL] at d1
      have hq : wrap64 (wrap64 ((IntKind.u64.wrap xs[k]).tmod ((n : Int) * 64 / 4)) * 4) = kAt n xs[k] := by
        rw [show (n : Int) * 64 / 4 = n * 16 from by omega, e1, e3, wrap64_in (q : Int) (by omega) (by omega), wrap64_in ((q : Int) * 4) (by omega) (by omega)]
      have HQ := Lib.hid hq; clear hq
      have HS := Lib.hid hsucc; clear hsucc
      have HLT := Lib.hid hlt; clear hlt
      have HL := Lib.hid hL; clear hL
      clear e1 e2 e3
      go_wp2_with fail
      go_quiet (fail)
      rename_i nq
      go_wp2_with fail
      rw [HQ.out]
      replace m1 := m1.keep (S := fun _ => False) ((Chg.refl _ _).drewN nq) id id
      replace m2 := m2.keep (S := fun _ => False) ((Chg.refl _ _).drewN nq) id id
      replace hC := hC.drewN nq
      have C1 := Lib.hid c1w
      clear c0 c1 d1 c0w c1w
      generalize kAt n xs[k] = ka at *
      generalize ys[k] = y at *
      refine (put43 _ _ _ ka y _ m1 (by rw [HL.out]; omega)).mono ?_
      rintro e w4 ⟨rfl, g1, hD⟩
      have HBW := HBB.out
      replace m2 := m2.keep hD (by omega) (by omega)
      replace hC := hC.trans' hD (fun i hi h => by omega)
      have c1 := hC.cell C1.out id
      clear m1 hD HBW
      have G1 := Lib.hid g1; clear g1
      have M2 := Lib.hid m2; clear m2
      have HC := Lib.hid hC; clear hC
      as_aux_lemma =>
        go_wp2_with fail
        refine (put44 _ _ _ ka y _ M2.out (by rw [HL.out]; omega)).mono ?_
        rintro e w5 ⟨rfl, g2, hD⟩
        have g1 := G1.out.keep hD (by omega) (by omega)
        have hC := HC.out.trans' hD (fun i hi h => by have := HBB.out; omega)
        clear c1 hD G1 M2 HC
        rw [← HS.out] at g1 g2
        go_wp2
        go_roundw
        case rel => exact ⟨k + 1, by have := HLT.out; omega, by go_num, g1, g2, hC⟩
        case measure => have := HLT.out; simp [intOf]; omega
    · obtain rfl : k = nPut xs ys := by omega
      have HM1 := Lib.hid m1; clear m1
      have HM2 := Lib.hid m2; clear m2
      have HC := Lib.hid hC; clear hC
      have hmin : min (min xs.length ys.length) 40 = nPut xs ys := rfl
      generalize hK : nPut xs ys = K at *
      have HK := Lib.hid hK
      clear hK hlt hk
      by_cases l1 : K < xs.length
      · by_cases l2 : K < ys.length
        · have l3 : ¬ K < 40 := by omega
          have l1' : (K : Int) < xs.length := by omega
          have l2' : (K : Int) < ys.length := by omega
          have l3' : ¬ (K : Int) < 40 := by omega
          have l4' : (40 : Int) ≤ K := by omega
          clear hmin
          as_aux_lemma =>
            go_wp2
            go_ret2
            exact ⟨rfl, by rw [HK.out]; exact HM1.out, by rw [HK.out]; exact HM2.out, HC.out⟩
        · have l1' : (K : Int) < xs.length := by omega
          have l2' : decide ((K : Int) < ys.length) = false := by simp; omega
          have l3' : (ys.length : Int) ≤ K := by omega
          clear hmin
          as_aux_lemma =>
            go_wp2
            go_ret2
            exact ⟨rfl, by rw [HK.out]; exact HM1.out, by rw [HK.out]; exact HM2.out, HC.out⟩
      · have l1' : decide ((K : Int) < xs.length) = false := by simp; omega
        have l3' : (xs.length : Int) ≤ K := by omega
        clear hmin
        as_aux_lemma =>
          go_wp2
          go_ret2
          exact ⟨rfl, by rw [HK.out]; exact HM1.out, by rw [HK.out]; exact HM2.out, HC.out⟩

theorem filled_ok (n : Nat) (A B : Option Addr) (ca cb : Nat) (xs ys : List Int) (w : World) (h1 : 1 ≤ n) (h2 : n ≤ 64) (hx : xs.length ≤ 9223372036854775807) (hy : ys.length ≤ 9223372036854775807) (rx : RowC w A (xs.flatMap icell)) (ry : RowC w B (ys.flatMap icell)) :
    Calls Try.prog 43 #[.int .i64 n, .slice A xs.length ca, .slice B ys.length cb] w fun e w' => e = .returned (.tuple #[.pointer (some ⟨w.heap.size + 1, 0, none⟩), .pointer (some ⟨w.heap.size + 2 + 1, 0, none⟩)]) ∧
      MemAt w' 141 (w.heap.size + 1) w.heap.size (fillB n (zipT xs ys (nPut xs ys)) (List.replicate (n * 64) 0)) ∧ MemAt w' 35 (w.heap.size + 2 + 1) (w.heap.size + 2) (fillB n (zipT xs ys (nPut xs ys)) (List.replicate (n * 64) 0)) ∧ Chg (fun _ => False) w w' :=
  filled_at n w.heap.size _ A B ca cb xs ys w h1 h2 hx hy rx ry rfl rfl
set_option maxRecDepth 100000 in
theorem filled_no (n : Int) (a b : Value) (w : World) (h : ¬ (1 ≤ n ∧ n ≤ 64)) :
    Calls Try.prog 43 #[.int .i64 n, a, b] w fun e w' => e = .returned (.tuple #[.pointer none, .pointer none]) ∧ w = w' := by
  go_enter Try.func43, Try.ntmps43
  go_wp2_with fail
  refine (mnew37_no n w h).mono ?_
  rintro e w1 ⟨rfl, rfl⟩
  go_wp2_with fail
  refine (mnew38_no n w h).mono ?_
  rintro e w1 ⟨rfl, rfl⟩
  go_wp2_with fail
  refine (num16 _ _).mono ?_
  rintro e w4 ⟨rfl, rfl⟩
  go_wp2
  go_ret2
  exact ⟨rfl, rfl⟩

/-- The memory of the wakening. -/
def bs5 : List UInt8 := fillB 4 [(16, 8199), (34, 12293), (35, 2), (17, 0)] (List.replicate 256 0)
set_option maxRecDepth 100000 in
theorem w5a : walkE bs5 1 2 = ((3, 2), 0) := by decide +kernel
set_option maxRecDepth 100000 in
theorem w5b : walkE bs5 1 3 = ((0, 0), 502) := by decide +kernel
set_option maxRecDepth 100000 in
theorem w5c : walkE bs5 1 16 = ((0, 0), 501) := by decide +kernel
set_option maxRecDepth 100000 in
theorem w5d : walkE bs5 4 0 = ((0, 0), 500) := by decide +kernel
theorem bs5_len : bs5.length ≤ 4096 := by rw [bs5, fillB_len, List.length_replicate]; decide
set_option maxRecDepth 100000 in
set_option maxHeartbeats 2000000 in
theorem awake5 (w : World) : Calls Try.prog 40 #[] w fun e w' => e = .returned (.bool true) ∧ Chg (fun _ => False) w w' := by
  go_enter Try.func40, Try.ntmps40
  go_wp2_with fail
  refine calls_abs (fun W => RowC W (some ⟨w.heap.size, 0, none⟩) ([16, 34, 35, 17].flatMap icell) ∧ RowC W (some ⟨w.heap.size + 1, 0, none⟩) ([8199, 12293, 2, 0].flatMap icell) ∧ Chg (fun _ => False) w W) ⟨rowc_blk (blk_alloc (blk_new w (.cells #[.int .i64 16, .int .i64 34, .int .i64 35, .int .i64 17] 3)) _), rowc_blk (blk_new2 w _ (.cells #[.int .i64 8199, .int .i64 12293, .int .i64 2, .int .i64 0] 3)), ((Chg.refl _ _).alloc _).alloc _⟩ ?_
  rintro W ⟨rx, ry, hC⟩
  refine (filled_ok 4 _ _ 4 4 [16, 34, 35, 17] [8199, 12293, 2, 0] W (by omega) (by omega) (by decide) (by decide) rx ry).mono ?_
  rintro e w1 ⟨rfl, m1, m2, hD⟩
  have hz : zipT [16, 34, 35, 17] [8199, 12293, 2, 0] (nPut [16, 34, 35, 17] [8199, 12293, 2, 0]) = [(16, 8199), (34, 12293), (35, 2), (17, 0)] := by decide
  rw [hz, show 4 * 64 = 256 from rfl] at m1
  change MemAt w1 _ _ _ bs5 at m1
  replace hC := hC.trans hD
  clear m2 hz hD rx ry
  generalize W.heap.size = H at *
  go_wp2_with fail
  refine (wWalk _ _ bs5 1 2 _ m1 bs5_len).mono ?_
  rintro e v ⟨rfl, hD⟩
  rw [w5a]
  go_wp2_with fail
  refine calls_abs (fun W => MemAt W 141 (H + 1) H bs5 ∧ W.heap[v.heap.size]? = some (.cells #[.int .i64 3, .int .i64 2] 57 (0, 0)) ∧ Chg (fun _ => False) w W) ⟨(m1.keep hD id id).keep (S := fun _ => False) ((Chg.refl _ _).alloc _) id id, blk_new _ _, (hC.trans hD).alloc _⟩ ?_
  clear m1 hD hC
  generalize v.heap.size = q at *
  rintro W ⟨m1, hA, hC⟩
  refine (wWalk _ _ bs5 1 3 _ m1 bs5_len).mono ?_
  rintro e v ⟨rfl, hD⟩
  rw [w5b]
  go_wp2_with fail
  refine calls_abs (fun W => MemAt W 141 (H + 1) H bs5 ∧ W.heap[q]? = some (.cells #[.int .i64 3, .int .i64 2] 57 (0, 0)) ∧ Chg (fun _ => False) w W) ⟨(m1.keep hD id id).keep (S := fun _ => False) ((Chg.refl _ _).alloc _) id id, blk_alloc (hD.at hA id) _, (hC.trans hD).alloc _⟩ ?_
  clear m1 hD hC hA
  rintro W ⟨m1, hA, hC⟩
  refine (wWalk _ _ bs5 1 16 _ m1 bs5_len).mono ?_
  rintro e v ⟨rfl, hD⟩
  rw [w5c]
  go_wp2_with fail
  refine calls_abs (fun W => MemAt W 141 (H + 1) H bs5 ∧ W.heap[q]? = some (.cells #[.int .i64 3, .int .i64 2] 57 (0, 0)) ∧ Chg (fun _ => False) w W) ⟨(m1.keep hD id id).keep (S := fun _ => False) ((Chg.refl _ _).alloc _) id id, blk_alloc (hD.at hA id) _, (hC.trans hD).alloc _⟩ ?_
  clear m1 hD hC hA
  rintro W ⟨m1, hA, hC⟩
  refine (wWalk _ _ bs5 4 0 _ m1 bs5_len).mono ?_
  rintro e v ⟨rfl, hD⟩
  rw [w5d]
  go_wp2_with fail
  refine calls_abs (fun W => MemAt W 141 (H + 1) H bs5 ∧ W.heap[q]? = some (.cells #[.int .i64 3, .int .i64 2] 57 (0, 0)) ∧ Chg (fun _ => False) w W) ⟨(m1.keep hD id id).keep (S := fun _ => False) ((Chg.refl _ _).alloc _) id id, blk_alloc (hD.at hA id) _, (hC.trans hD).alloc _⟩ ?_
  clear m1 hD hC hA
  rintro W ⟨m1, hA, hC⟩
  refine (wWalk_nil 0 0 _).mono ?_
  rintro e v ⟨rfl, hD⟩
  replace hA := hD.at hA id
  have a0 := blk_cell hA 0
  have a1 := blk_cell hA 1
  have hlt := lt_of_heap hA
  replace hC := hC.trans hD
  clear hD m1 hA
  go_wp2_with ((refine (num16 _ _).mono ?_; rintro e w6 ⟨rfl, rfl⟩))
  go_ret
  exact ⟨rfl, hC.alloc _⟩
end Go.Proofs.Ytpnhdiajiieonaa
