/- The law IommuMaps: the walk. Printed by mkimaps.py. -/
import Derived.Test.YtnallfehffhaeaaAwake7
import Derived.Test.YtnallfehffhaeaaCfgT
import Derived.Deep.DeepCutAuto
import Derived.Deep.CutBlock
set_option linter.unusedSimpArgs false
set_option linter.unusedVariables false
namespace Go.Proofs.Ytnallfehffhaeaa
open Go.RowKit
attribute [local go_sem] i64_and63 i64_and7 i64_and3 i64_and1

theorem andp (k : Int) (h : 0 ≤ k ∧ k ≤ 3) : bits .and .i64 k 2 = if 2 ≤ k then 2 else 0 := by
  have : k = 0 ∨ k = 1 ∨ k = 2 ∨ k = 3 := by omega
  rcases this with rfl | rfl | rfl | rfl <;> decide
/-- At most three of the root's words have a leaf. -/
theorem slots3 {S : List Nat} (hn : S.Nodup) (h3 : ∀ i ∈ S, i < 3) {k : Nat} (hk : k < 3) (hm : k ∉ S) : S.length < 3 := by
  have h1 : ((k :: S).map (fun i : Nat => (i : Int))).Nodup := by
    rw [List.nodup_iff_pairwise_ne, List.pairwise_map]
    exact (List.nodup_cons.2 ⟨hm, hn⟩).imp (fun h e => h (by omega))
  have h2 := nodup_len 3 _ h1 (fun f hf => by
    obtain ⟨i, hi, rfl⟩ := List.mem_map.1 hf
    rcases List.mem_cons.1 hi with rfl | hi
    · omega
    · have := h3 i hi; omega)
  simp at h2
  omega
/-- What the law keeps. -/
structure M7 (w0 w : World) (x p q : Nat) (E : Nat → Int × Int) (F : Nat → Prop) : Prop where
  ex : ∃ bs S, IoM w x p PL7 bs F ∧ D7 bs S E [] E00 ∧ (∀ i ∈ S, i < 3) ∧ (∀ k, F k → w0.heap.size ≤ k ∧ k ≠ q)
  arr : ArrC ecell 2 w q 30 48 E
  q0 : w0.heap.size ≤ q
  chg : Chg (fun _ => False) w0 w
section
variable {w0 w w' : World} {x p q : Nat} {E : Nat → Int × Int} {F : Nat → Prop}
theorem M7.keepN (h : M7 w0 w x p q E F) (hC : Chg (fun _ => False) w w') : M7 w0 w' x p q E F := by
  obtain ⟨bs, S, h1, h2, h3, h4⟩ := h.ex
  exact ⟨⟨bs, S, h1.keepN hC, h2, h3, h4⟩, h.arr.keep hC id, h.q0, h.chg.trans hC⟩
theorem M7.next {bs : List UInt8} {S : List Nat} {F' : Nat → Prop} (h : M7 w0 w x p q E F) (h1 : IoM w' x p PL7 bs F') (h2 : D7 bs S E [] E00) (h3 : ∀ i ∈ S, i < 3) (h4 : ∀ k, F k → w0.heap.size ≤ k ∧ k ≠ q) (hF : ∀ k, F' k → F k ∨ w.heap.size ≤ k) (hC : Chg F w w') (E' : Nat → Int × Int) (he : ∀ j, j < 48 → E' j = E j) : M7 w0 w' x p q E F' :=
  ⟨⟨bs, S, h1, h2, h3, fun k hk => (hF k hk).elim (h4 k) (fun h' => ⟨Nat.le_trans h.chg.size h', fun e => by have := h.arr.lt; omega⟩)⟩, h.arr.keep hC (fun c => (h4 q c).2 rfl), h.q0, h.chg.trans' hC (fun k hk c => absurd (h4 k c).1 (by omega))⟩
theorem M7.tr (h : M7 w0 w x p q E F) (d b n : Int) (wri : Bool) (r : List (Int × Int × Int) × Int) (hr : ∀ bs S, D7 bs S E [] E00 → transQ bs PL7 d b n wri = r) :
    Calls Try.prog 14 #[.pointer (some ⟨x, 0, none⟩), .int .i64 d, .int .i64 b, .int .i64 n, .bool wri] w fun e w' => ∃ o F', e = .returned (.tuple #[o, .int .i64 r.2]) ∧ (∃ A c, o = .slice A r.1.length c) ∧ PcR w' F' o r.1 ∧ M7 w0 w' x p q E F' ∧ (∀ k, F' k → F k ∨ w.heap.size ≤ k) ∧ Chg F w w' := by
  obtain ⟨bs, S, h1, h2, h3, h4⟩ := h.ex
  have := ioTrans h1 d b n wri
  rw [hr bs S h2] at this
  refine this.mono ?_
  rintro e w' ⟨o, rfl, hO, F', hI, hF, hN, hC⟩
  exact ⟨o, F', rfl, hO.slice, io_rowN hO hI hN, h.next hI h2 h3 h4 hF hC E (fun _ _ => rfl), hF, hC⟩
theorem M7.unmap (h : M7 w0 w x p q E F) {j : Nat} (hj : j < 48) :
    Calls Try.prog 11 #[.pointer (some ⟨x, 0, none⟩), .int .i64 0, .int .i64 j] w fun e w' => e = .returned (.int .i64 (if (E j).2 = 0 then 702 else 0)) ∧ ArrC ecell 2 w' q 30 48 E ∧ ∀ w'', ArrC ecell 2 w'' q 30 48 (upd E j (0, 0)) → Chg (fun k => k = q) w' w'' → ∃ F', M7 w0 w'' x p q (upd E j (0, 0)) F' := by
  obtain ⟨bs, S, h1, h2, h3, h4⟩ := h.ex
  have hu := h2.unmap0 (p := j) (by omega)
  have fin : ∀ {w' : World} {bs' : List UInt8} {F' : Nat → Prop}, IoM w' x p PL7 bs' F' → D7 bs' S (upd E j (0, 0)) [] E00 → (∀ k, F' k → F k ∨ w.heap.size ≤ k) → Chg F w w' → ArrC ecell 2 w' q 30 48 E ∧ ∀ w'', ArrC ecell 2 w'' q 30 48 (upd E j (0, 0)) → Chg (fun k => k = q) w' w'' → ∃ F', M7 w0 w'' x p q (upd E j (0, 0)) F' := fun hI hd hF hC =>
    ⟨h.arr.keep hC (fun c => (h4 q c).2 rfl), fun w'' ha hc => by
      have hf : ∀ k, _ → w0.heap.size ≤ k ∧ k ≠ q := fun k hk => (hF k hk).elim (h4 k) (fun h' => ⟨Nat.le_trans h.chg.size h', fun e => by have := h.arr.lt; omega⟩)
      exact ⟨_, ⟨_, S, hI.keep hc (fun k hk => (hf k hk).2), hd, h3, hf⟩, ha, h.q0, (h.chg.trans' hC (fun k hk c => absurd (h4 k c).1 (by omega))).trans' hc (fun k hk e => by have := h.q0; omega)⟩⟩
  by_cases h0 : (E j).2 = 0
  · rw [if_pos h0] at hu ⊢
    have hE : upd E j (0, 0) = E := by
      funext k
      by_cases e : k = j
      · subst e; rw [upd_same]
        have := (h2.a.may k).1
        unfold mayE at this
        exact (Prod.ext (by show (E k).1 = 0; omega) h0).symm
      · exact upd_ne _ _ e
    have hm := ioUnmap h1 0 (j : Int)
    rw [hu.1, hu.2] at hm
    refine hm.mono ?_
    rintro e w' ⟨rfl, F', hI, hF, hC⟩
    exact ⟨rfl, fin hI (hE.symm ▸ h2) hF hC⟩
  · rw [if_neg h0] at hu ⊢
    have hm := ioUnmap h1 0 (j : Int)
    rw [hu.1] at hm
    refine hm.mono ?_
    rintro e w' ⟨rfl, F', hI, hF, hC⟩
    exact ⟨rfl, fin hI hu.2 hF hC⟩
theorem M7.map (h : M7 w0 w x p q E F) {j : Nat} (hj : j < 48) {f k : Int} (f0 : 0 ≤ f) (f1 : f < 16) (k0 : 1 ≤ k) (k1 : k ≤ 3) {w1 : World} (hc : Chg (fun i => i = q) w w1) (ha : ArrC ecell 2 w1 q 30 48 (upd E j (f, k))) :
    Calls Try.prog 13 #[.pointer (some ⟨x, 0, none⟩), .int .i64 0, .int .i64 j, .agg #[.int .i64 f, .int .i64 k]] w1 fun e w' => e = .returned (.int .i64 0) ∧ ∃ F', M7 w0 w' x p q (upd E j (f, k)) F' := by
  obtain ⟨bs, S, h1, h2, h3, h4⟩ := h.ex
  have h1' := h1.keep hc (fun i hi => (h4 i hi).2)
  have hu := h2.map0 (p := j) (f := f) (q := k) (by omega) k0 k1 f0 f1
  obtain ⟨S', hs, h3'⟩ : ∃ S', slotS S 3 j = some S' ∧ ∀ i ∈ S', i < 3 := by
    unfold slotS
    by_cases hm : j / 16 ∈ S
    · rw [if_pos hm]; exact ⟨S, rfl, h3⟩
    · rw [if_neg hm, if_pos (slots3 h2.a.sn h3 (show j / 16 < 3 by omega) hm)]
      refine ⟨_, rfl, fun i hi => ?_⟩
      rcases List.mem_append.1 hi with hi | hi
      · exact h3 i hi
      · simp at hi; omega
  rw [hs] at hu
  simp only at hu
  have hm := ioMap h1' 0 (j : Int) f k
  rw [hu.1] at hm
  refine hm.mono ?_
  rintro e w' ⟨rfl, F', hI, hF, hC⟩
  have hs1 := hc.size
  exact ⟨rfl, F', ⟨_, S', hI, hu.2, h3', fun i hi => (hF i hi).elim (h4 i) (fun h' => ⟨Nat.le_trans h.chg.size (Nat.le_trans hs1 h'), fun e => by have := h.arr.lt; omega⟩)⟩, ha.keep hC (fun c => (h4 q c).2 rfl), h.q0, (h.chg.trans' hc (fun i hi e => by have := h.q0; omega)).trans' hC (fun i hi c => absurd (h4 i c).1 (by omega))⟩
/-- The answers that the law asks for. -/
theorem M7.r0 {bs : List UInt8} {S : List Nat} (h : D7 bs S E [] E00) {j : Nat} (hj : j < 48) : transQ bs PL7 0 ((j : Int) * 64 + 5) 7 false = if (E j).2 = 0 then ([], 702) else if bits .and .i64 (E j).2 1 = 0 then ([], 703) else ([((E j).1, 5, 7)], 0) := by
  have := h.a.trans1 (L := PL7) (d := 0) (b := (j : Int) * 64 + 5) (n := 7) (wri := false) rfl ⟨by decide, by omega, by omega, by omega, by omega⟩ (by omega)
  rw [show (((j : Int) * 64 + 5) / 64).toNat = j by omega, show ((j : Int) * 64 + 5) % 64 = 5 by omega] at this
  exact this
theorem M7.r1 {bs : List UInt8} {S : List Nat} (h : D7 bs S E [] E00) {j : Nat} (hj : j < 48) : transQ bs PL7 1 ((j : Int) * 64) 1 false = ([], 702) := by
  have := h.b.trans1 (L := PL7) (d := 1) (b := (j : Int) * 64) (n := 1) (wri := false) rfl ⟨by decide, by omega, by omega, by omega, by omega⟩ (by omega)
  rw [this]; rfl
theorem M7.r2 {bs : List UInt8} {S : List Nat} (h : D7 bs S E [] E00) {j : Nat} (hj : j < 48) : transQ bs PL7 0 ((j : Int) * 64) 1 true = if (E j).2 = 0 then ([], 702) else if bits .and .i64 (E j).2 2 = 0 then ([], 703) else ([((E j).1, 0, 1)], 0) := by
  have := h.a.trans1 (L := PL7) (d := 0) (b := (j : Int) * 64) (n := 1) (wri := true) rfl ⟨by decide, by omega, by omega, by omega, by omega⟩ (by omega)
  rw [show ((j : Int) * 64 / 64).toNat = j by omega, show ((j : Int) * 64) % 64 = 0 by omega] at this
  exact this
end
set_option maxRecDepth 100000 in
set_option maxHeartbeats 8000000 in
theorem iommuMaps_main (A : Option Addr) (ca : Nat) (xs : List Int) (w0 : World) (hx : xs.length ≤ 9223372036854775807) (rx : RowC w0 A (xs.flatMap icell)) :
    Calls Try.prog 3 #[.slice A xs.length ca] w0 fun e w' => e = .returned (.bool true) ∧ Chg (fun _ => False) w0 w' := by
  have HRX := Lib.hid rx; clear rx
  go_enter Try.func3, Try.ntmps3
  go_wp2_with fail
  refine (awake7 _).mono ?_
  rintro e w ⟨rfl, hC0⟩
  have HC0 := Lib.hid hC0; clear hC0
  go_wp2_with fail
  refine (set7 w).mono ?_
  rintro e w1 ⟨x, p, bs, F, rfl, hI, hD, hF, hC1⟩
  go_wp2_with fail
  obtain ⟨q, hq⟩ : ∃ q, q = w1.heap.size := ⟨_, rfl⟩
  obtain ⟨W, hW⟩ : ∃ W, W = w1.alloc (.cells Try.zeroCells30 30) := ⟨_, rfl⟩
  have hM : M7 w0 W x p q E00 F := by
    have hc : Chg (fun _ => False) w1 W := by rw [hW]; exact (Chg.refl _ _).alloc _
    refine ⟨⟨bs, [], hI.keepN hc, hD, (fun i h => by cases h), fun k hk => ⟨Nat.le_trans HC0.out.size (hF k hk), fun e => by have := hI.lt k hk; omega⟩⟩, ?_, ?_, (HC0.out.trans hC1).trans hc⟩
    · exact ArrC.zero (z := .int .i64 0) (by rw [hW, hq]; exact blk_new _ _) (fun j hj => by match j, hj with | 0, _ => rfl | 1, _ => rfl)
    · rw [hq]; exact (HC0.out.trans hC1).size
  have HM := Lib.hid hM
  rw [← hq]
  try rw [show w1.alloc _ = W from hW.symm]
  clear hI hD hF hC1 hM HC0 hW hq
  go_loopw [6] (fun s wr => ∃ (i : Nat) (E : Nat → Int × Int) (F : Nat → Prop), i ≤ min xs.length 40 ∧ s = .int .i64 i ∧ M7 w0 wr x p q E F) (fun s _ => min xs.length 40 - (intOf s).toNat)
  case atStart => exact ⟨0, _, _, by omega, rfl, HM.out⟩
  case round =>
    clear HM
    obtain ⟨i, E, F1, hi, rfl, hM⟩ := hrel
    have i0 : (0 : Int) ≤ i := by omega
    by_cases hlt : i < xs.length
    · have i1 : (i : Int) < xs.length := by omega
      by_cases h40 : i < 40
      · have i2 : (i : Int) < 40 := by omega
        have HIM := Lib.hid (show i < min xs.length 40 by omega); clear hi
        obtain ⟨b, o, rfl, c0w⟩ := intAt HRX.out i hlt
        have c0 := hM.chg.cell c0w id
        clear c0w
        generalize xs[i] = y at *
        obtain ⟨j, hj, hj48⟩ : ∃ j : Nat, y % 64 % 48 = j ∧ j < 48 := ⟨(y % 64 % 48).toNat, by omega, by omega⟩
        have HJ := Lib.hid hj; clear hj
        have j0 : (0 : Int) ≤ j := by omega
        have j1 : (j : Int) < 48 := by omega
        have HM := Lib.hid hM; clear hM
        go_upto_if 49 with fail
        rw [HJ.out]
        go_cut [] (fun wx => ∃ E' F', M7 w0 wx x p q E' F')
        case first =>
          by_cases h3 : y / 64 % 4 = 3
          · have b3 : (y / 64 % 4 == 3) = true := by simpa using h3
            have HU := Lib.hid (HM.out.unmap hj48)
            clear h3
            go_wp2_with fail
            refine HU.out.mono ?_
            rintro e w2 ⟨rfl, hA, hN⟩
            have HN := Lib.hid hN
            have A1 : w2.cell? ⟨q, j * 2 + 1, none⟩ = some (.int .i64 (E j).2) := hA.cell hj48 (show 1 < 2 by omega)
            have HAA := Lib.hid hA
            clear hN HU c0 hA
            by_cases hp : (E j).2 = 0
            · have p1 : ((E j).2 != 0) = false := by simpa using hp
              rw [if_pos hp]
              clear hp
              have F0 := HAA.out.free (j * 2)
              have F1 := HAA.out.free (j * 2 + 1)
              have A0 : w2.cell? ⟨q, j * 2, none⟩ = some (.int .i64 (E j).1) := HAA.out.cell hj48 (show 0 < 2 by omega)
              have hql := HAA.out.lt
              go_wp2_with fail
              go_quiet ((go_at_call 12; exact Calls.quiet_of_same (num16q _ _)))
              rename_i nq
              go_wp2_with fail
              go_meet
              refine ⟨_, HN.out _ ?_ ?_⟩
              · exact (HAA.out.keep (S := fun _ => False) ((Chg.refl _ _).drewN nq) id).set hj48 (0, 0) rfl
              · exact ((((Chg.refl _ _).drewN nq).set1 _).set1 _)
            · have p1 : ((E j).2 != 0) = true := by simpa using hp
              rw [if_neg hp]
              clear hp
              have F0 := HAA.out.free (j * 2)
              have F1 := HAA.out.free (j * 2 + 1)
              have A0 : w2.cell? ⟨q, j * 2, none⟩ = some (.int .i64 (E j).1) := HAA.out.cell hj48 (show 0 < 2 by omega)
              have hql := HAA.out.lt
              go_wp2_with fail
              go_quiet ((go_at_call 12; exact Calls.quiet_of_same (num16q _ _)))
              rename_i nq
              go_wp2_with fail
              go_meet
              refine ⟨_, HN.out _ ?_ ?_⟩
              · exact (HAA.out.keep (S := fun _ => False) ((Chg.refl _ _).drewN nq) id).set hj48 (0, 0) rfl
              · exact ((((Chg.refl _ _).drewN nq).set1 _).set1 _)
          · have b3 : (y / 64 % 4 == 3) = false := by simpa using h3
            clear h3
            have hA := HM.out.arr
            have A0 : wr.cell? ⟨q, j * 2, none⟩ = some (.int .i64 (E j).1) := hA.cell hj48 (show 0 < 2 by omega)
            have A1 : wr.cell? ⟨q, j * 2 + 1, none⟩ = some (.int .i64 (E j).2) := hA.cell hj48 (show 1 < 2 by omega)
            have F0 := hA.free (j * 2)
            have F1 := hA.free (j * 2 + 1)
            have hql := hA.lt
            have HAA := Lib.hid hA; clear hA
            go_wp2_with fail
            go_region
            have hA2 : ArrC ecell 2 (((wr.setCell ⟨q, j * 2, none⟩ (.int .i64 (7 + y / 256 % 8))).setCell ⟨q, j * 2 + 1, none⟩ (.int .i64 (1 + y / 2048 % 4 % 3))).drew) q 30 48 (upd E j (7 + y / 256 % 8, 1 + y / 2048 % 4 % 3)) :=
              (HAA.out.set hj48 (7 + y / 256 % 8, 1 + y / 2048 % 4 % 3) rfl).keep (S := fun _ => False) ((Chg.refl _ _).drew) id
            have hCq : Chg (fun k => k = q) wr (((wr.setCell ⟨q, j * 2, none⟩ (.int .i64 (7 + y / 256 % 8))).setCell ⟨q, j * 2 + 1, none⟩ (.int .i64 (1 + y / 2048 % 4 % 3))).drew) := (((Chg.refl _ _).set1 _).set1 _).drew
            obtain ⟨e0, e1⟩ : (0 ≤ 7 + y / 256 % 8 ∧ 7 + y / 256 % 8 < 16) ∧ (1 ≤ 1 + y / 2048 % 4 % 3 ∧ 1 + y / 2048 % 4 % 3 ≤ 3) := by omega
            clear A0 A1 F0 F1 c0
            generalize 7 + y / 256 % 8 = ef at *
            generalize 1 + y / 2048 % 4 % 3 = ep at *
            generalize ((wr.setCell ⟨q, j * 2, none⟩ (.int .i64 ef)).setCell ⟨q, j * 2 + 1, none⟩ (.int .i64 ep)).drew = W2 at *
            have A0 : W2.cell? ⟨q, j * 2, none⟩ = some (.int .i64 ef) := by have := hA2.cell hj48 (show 0 < 2 by omega); rw [upd_same] at this; exact this
            have A1 : W2.cell? ⟨q, j * 2 + 1, none⟩ = some (.int .i64 ep) := by have := hA2.cell hj48 (show 1 < 2 by omega); rw [upd_same] at this; exact this
            have HMP := Lib.hid (HM.out.map hj48 e0.1 e0.2 e1.1 e1.2 hCq hA2)
            clear hA2 hCq
            go_wp2_with fail
            refine HMP.out.mono ?_
            rintro e w2 ⟨rfl, F2, hN⟩
            have HN := Lib.hid hN
            clear hN HMP A0 A1
            go_wp2_with ((refine (num16q _ _).mono ?_; rintro e w6 ⟨rfl, rfl⟩))
            go_meet
            exact ⟨_, _, HN.out⟩
        case rest =>
          obtain ⟨E2, F2, hM⟩ := hcut
          clear HM HJ c0 j0 j1 hj48
          have HM := Lib.hid hM; clear hM
          go_wp2_with fail
          go_loopw [10] (fun s wr => ∃ (k : Nat) (F : Nat → Prop), k ≤ 48 ∧ s = .int .i64 k ∧ M7 w0 wr x p q E2 F) (fun s _ => 48 - (intOf s).toNat)
          case atStart => exact ⟨0, _, by omega, rfl, HM.out⟩
          case round =>
            clear HM
            obtain ⟨k, F3, hk, rfl, hM⟩ := hrel
            have k0 : (0 : Int) ≤ k := by omega
            by_cases hlt2 : k < 48
            · have k1 : (k : Int) < 48 := by omega
              have hpm : (E2 k).2 = 0 ∨ (E2 k).2 = 1 ∨ (E2 k).2 = 2 ∨ (E2 k).2 = 3 := by
                obtain ⟨bs, S, _, h2, _⟩ := hM.ex
                have := (h2.a.may k).1
                unfold mayE at this; omega
              have A0 := Lib.hid (fun (W : World) (F : Nat → Prop) (h : M7 w0 W x p q E2 F) => (show W.cell? ⟨q, k * 2, none⟩ = some (.int .i64 (E2 k).1) from h.arr.cell hlt2 (show 0 < 2 by omega)))
              have A1 := Lib.hid (fun (W : World) (F : Nat → Prop) (h : M7 w0 W x p q E2 F) => (show W.cell? ⟨q, k * 2 + 1, none⟩ = some (.int .i64 (E2 k).2) from h.arr.cell hlt2 (show 1 < 2 by omega)))
              generalize hfe : (E2 k).1 = fe at *
              rcases hpm with hp | hp | hp | hp
              · have e0 : ∀ bs S, D7 bs S E2 [] E00 → transQ bs PL7 0 ((k : Int) * 64 + 5) 7 false = ([], 702) := fun bs S h => by rw [M7.r0 h hlt2, hp, hfe]; rfl
                have e2 : ∀ bs S, D7 bs S E2 [] E00 → transQ bs PL7 0 ((k : Int) * 64) 1 true = ([], 702) := fun bs S h => by rw [M7.r2 h hlt2, hp]; first | rfl | (rw [hfe]; rfl)
                have H1 := Lib.hid (hM.tr 0 ((k : Int) * 64 + 5) 7 false _ e0)
                have H3 := Lib.hid (fun (W : World) (F : Nat → Prop) (h : M7 w0 W x p q E2 F) => h.tr 0 ((k : Int) * 64) 1 true _ e2)
                rw [hp] at A1
                clear e0 e2 hp hfe hM
                go_wp2_with fail
                refine H1.out.mono ?_
                rintro e w2 ⟨o1, G1, rfl, ⟨B1, d1, rfl⟩, hR, hM, _, _⟩
                have HR := Lib.hid hR; have HM1 := Lib.hid hM
                clear hR hM H1
                go_wp2_with fail
                refine (HM1.out.tr 1 ((k : Int) * 64) 1 false _ (fun bs S h => M7.r1 h hlt2)).mono ?_
                rintro e w3 ⟨o2, G2, rfl, ⟨B2, d2, rfl⟩, _, hM, hF, hC⟩
                have HR2 := Lib.hid (io_row HR.out hF hC); have HM2 := Lib.hid hM
                clear hM hF hC HR HM1
                go_wp2_with fail
                refine (H3.out _ _ HM2.out).mono ?_
                rintro e w4 ⟨o3, G3, rfl, ⟨B3, d3, rfl⟩, _, hM, hF, hC⟩
                have HR3 := Lib.hid (io_row HR2.out hF hC).1; have HM3 := Lib.hid hM
                clear hM hF hC HR2 HM2 H3
                have y0 := A0.out _ _ HM3.out
                have y1 := A1.out _ _ HM3.out
                go_wp2_with ((refine (num16q _ _).mono ?_; rintro e w6 ⟨rfl, rfl⟩))
                go_roundw
                case rel => exact ⟨k + 1, _, by omega, by go_num, HM3.out⟩
                case measure => simp [intOf]; omega
              · have e0 : ∀ bs S, D7 bs S E2 [] E00 → transQ bs PL7 0 ((k : Int) * 64 + 5) 7 false = ([(fe, 5, 7)], 0) := fun bs S h => by rw [M7.r0 h hlt2, hp, hfe]; rfl
                have e2 : ∀ bs S, D7 bs S E2 [] E00 → transQ bs PL7 0 ((k : Int) * 64) 1 true = ([], 703) := fun bs S h => by rw [M7.r2 h hlt2, hp]; first | rfl | (rw [hfe]; rfl)
                have H1 := Lib.hid (hM.tr 0 ((k : Int) * 64 + 5) 7 false _ e0)
                have H3 := Lib.hid (fun (W : World) (F : Nat → Prop) (h : M7 w0 W x p q E2 F) => h.tr 0 ((k : Int) * 64) 1 true _ e2)
                rw [hp] at A1
                clear e0 e2 hp hfe hM
                go_wp2_with fail
                refine H1.out.mono ?_
                rintro e w2 ⟨o1, G1, rfl, ⟨B1, d1, rfl⟩, hR, hM, _, _⟩
                have HR := Lib.hid hR; have HM1 := Lib.hid hM
                clear hR hM H1
                go_wp2_with fail
                refine (HM1.out.tr 1 ((k : Int) * 64) 1 false _ (fun bs S h => M7.r1 h hlt2)).mono ?_
                rintro e w3 ⟨o2, G2, rfl, ⟨B2, d2, rfl⟩, _, hM, hF, hC⟩
                have HR2 := Lib.hid (io_row HR.out hF hC); have HM2 := Lib.hid hM
                clear hM hF hC HR HM1
                go_wp2_with fail
                refine (H3.out _ _ HM2.out).mono ?_
                rintro e w4 ⟨o3, G3, rfl, ⟨B3, d3, rfl⟩, _, hM, hF, hC⟩
                have HR3 := Lib.hid (io_row HR2.out hF hC).1; have HM3 := Lib.hid hM
                clear hM hF hC HR2 HM2 H3
                have y0 := A0.out _ _ HM3.out
                have y1 := A1.out _ _ HM3.out
                go_wp2_with ((refine (num16q _ _).mono ?_; rintro e w6 ⟨rfl, rfl⟩))
                refine (samePc _ _ [(fe, 5, 7)] _ (HR3.out.keep (X := fun _ => False) ((Chg.refl _ _).alloc _) (fun _ _ => id)) ⟨_, _, rfl, rowc_blk (blk_new _ _)⟩ (show 1 ≤ 9223372036854775807 by decide)).mono ?_
                rintro e w7 ⟨rfl, hC7⟩
                have HM4 := Lib.hid (HM3.out.keepN (((Chg.refl (fun _ => False) _).alloc _).trans hC7))
                clear hC7
                go_wp2_with ((refine (num16q _ _).mono ?_; rintro e w6 ⟨rfl, rfl⟩))
                go_roundw
                case rel => exact ⟨k + 1, _, by omega, by go_num, HM4.out⟩
                case measure => simp [intOf]; omega
              · have e0 : ∀ bs S, D7 bs S E2 [] E00 → transQ bs PL7 0 ((k : Int) * 64 + 5) 7 false = ([], 703) := fun bs S h => by rw [M7.r0 h hlt2, hp, hfe]; rfl
                have e2 : ∀ bs S, D7 bs S E2 [] E00 → transQ bs PL7 0 ((k : Int) * 64) 1 true = ([(fe, 0, 1)], 0) := fun bs S h => by rw [M7.r2 h hlt2, hp]; first | rfl | (rw [hfe]; rfl)
                have H1 := Lib.hid (hM.tr 0 ((k : Int) * 64 + 5) 7 false _ e0)
                have H3 := Lib.hid (fun (W : World) (F : Nat → Prop) (h : M7 w0 W x p q E2 F) => h.tr 0 ((k : Int) * 64) 1 true _ e2)
                rw [hp] at A1
                clear e0 e2 hp hfe hM
                go_wp2_with fail
                refine H1.out.mono ?_
                rintro e w2 ⟨o1, G1, rfl, ⟨B1, d1, rfl⟩, hR, hM, _, _⟩
                have HR := Lib.hid hR; have HM1 := Lib.hid hM
                clear hR hM H1
                go_wp2_with fail
                refine (HM1.out.tr 1 ((k : Int) * 64) 1 false _ (fun bs S h => M7.r1 h hlt2)).mono ?_
                rintro e w3 ⟨o2, G2, rfl, ⟨B2, d2, rfl⟩, _, hM, hF, hC⟩
                have HR2 := Lib.hid (io_row HR.out hF hC); have HM2 := Lib.hid hM
                clear hM hF hC HR HM1
                go_wp2_with fail
                refine (H3.out _ _ HM2.out).mono ?_
                rintro e w4 ⟨o3, G3, rfl, ⟨B3, d3, rfl⟩, _, hM, hF, hC⟩
                have HR3 := Lib.hid (io_row HR2.out hF hC).1; have HM3 := Lib.hid hM
                clear hM hF hC HR2 HM2 H3
                have y0 := A0.out _ _ HM3.out
                have y1 := A1.out _ _ HM3.out
                go_wp2_with ((refine (num16q _ _).mono ?_; rintro e w6 ⟨rfl, rfl⟩))
                go_roundw
                case rel => exact ⟨k + 1, _, by omega, by go_num, HM3.out⟩
                case measure => simp [intOf]; omega
              · have e0 : ∀ bs S, D7 bs S E2 [] E00 → transQ bs PL7 0 ((k : Int) * 64 + 5) 7 false = ([(fe, 5, 7)], 0) := fun bs S h => by rw [M7.r0 h hlt2, hp, hfe]; rfl
                have e2 : ∀ bs S, D7 bs S E2 [] E00 → transQ bs PL7 0 ((k : Int) * 64) 1 true = ([(fe, 0, 1)], 0) := fun bs S h => by rw [M7.r2 h hlt2, hp]; first | rfl | (rw [hfe]; rfl)
                have H1 := Lib.hid (hM.tr 0 ((k : Int) * 64 + 5) 7 false _ e0)
                have H3 := Lib.hid (fun (W : World) (F : Nat → Prop) (h : M7 w0 W x p q E2 F) => h.tr 0 ((k : Int) * 64) 1 true _ e2)
                rw [hp] at A1
                clear e0 e2 hp hfe hM
                go_wp2_with fail
                refine H1.out.mono ?_
                rintro e w2 ⟨o1, G1, rfl, ⟨B1, d1, rfl⟩, hR, hM, _, _⟩
                have HR := Lib.hid hR; have HM1 := Lib.hid hM
                clear hR hM H1
                go_wp2_with fail
                refine (HM1.out.tr 1 ((k : Int) * 64) 1 false _ (fun bs S h => M7.r1 h hlt2)).mono ?_
                rintro e w3 ⟨o2, G2, rfl, ⟨B2, d2, rfl⟩, _, hM, hF, hC⟩
                have HR2 := Lib.hid (io_row HR.out hF hC); have HM2 := Lib.hid hM
                clear hM hF hC HR HM1
                go_wp2_with fail
                refine (H3.out _ _ HM2.out).mono ?_
                rintro e w4 ⟨o3, G3, rfl, ⟨B3, d3, rfl⟩, _, hM, hF, hC⟩
                have HR3 := Lib.hid (io_row HR2.out hF hC).1; have HM3 := Lib.hid hM
                clear hM hF hC HR2 HM2 H3
                have y0 := A0.out _ _ HM3.out
                have y1 := A1.out _ _ HM3.out
                go_wp2_with ((refine (num16q _ _).mono ?_; rintro e w6 ⟨rfl, rfl⟩))
                refine (samePc _ _ [(fe, 5, 7)] _ (HR3.out.keep (X := fun _ => False) ((Chg.refl _ _).alloc _) (fun _ _ => id)) ⟨_, _, rfl, rowc_blk (blk_new _ _)⟩ (show 1 ≤ 9223372036854775807 by decide)).mono ?_
                rintro e w7 ⟨rfl, hC7⟩
                have HM4 := Lib.hid (HM3.out.keepN (((Chg.refl (fun _ => False) _).alloc _).trans hC7))
                clear hC7
                go_wp2_with ((refine (num16q _ _).mono ?_; rintro e w6 ⟨rfl, rfl⟩))
                go_roundw
                case rel => exact ⟨k + 1, _, by omega, by go_num, HM4.out⟩
                case measure => simp [intOf]; omega
            · obtain rfl : k = 48 := by omega
              have HM := Lib.hid hM; clear hM
              go_wp2_with fail
              go_roundw
              case rel => exact ⟨i + 1, _, _, by have := HIM.out; omega, by go_num, HM.out⟩
              case measure => have := HIM.out; simp [intOf]; omega
      · have i2 : ¬ (i : Int) < 40 := by omega
        have i3 : decide ((i : Int) < 40) = false := decide_eq_false i2
        have HC := Lib.hid hM.chg
        clear hM
        go_wp2_with fail
        go_ret
        exact ⟨rfl, HC.out⟩
    · have i3 : decide ((i : Int) < xs.length) = false := decide_eq_false (by omega)
      have HC := Lib.hid hM.chg
      clear hM
      go_wp2_with fail
      go_ret
      exact ⟨rfl, HC.out⟩
theorem iommuMaps_walk (w : World) (A : Option Addr) (ca : Nat) (xs : List Int) (hmx : xs.length ≤ maxLen) (rx : RowC w A (xs.flatMap icell)) (_hw : ∀ x ∈ xs, True) :
    Calls Try.prog 3 #[.slice A xs.length ca] w fun e w' => e = .returned (.bool true) ∧ Below w.heap.size w w' := by
  unfold maxLen at hmx
  exact (iommuMaps_main A ca xs w (by omega) rx).mono fun e w' ⟨h1, h2⟩ => ⟨h1, h2.below (Nat.le_refl _) (fun _ h => h.elim)⟩
end Go.Proofs.Ytnallfehffhaeaa
