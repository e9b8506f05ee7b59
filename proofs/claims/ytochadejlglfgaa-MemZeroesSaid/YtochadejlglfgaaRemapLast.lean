/- The law RemapLast. -/
import Derived.Test.YtochadejlglfgaaRemaps
import Derived.Deep.DeepCutAuto
import Derived.Deep.CutBlock
namespace Go.Proofs.Ytochadejlglfgaa
open Go.RowKit
attribute [local go_sem] i64_and7 i64_and3 i64_and1

theorem num16q (a : Int) (w : World) : Calls Try.prog 16 #[.int .i64 a] w fun e w' => e = .returned (.int .i64 a) ∧ w' = w := (num16 a w).mono fun _ _ ⟨h1, h2⟩ => ⟨h1, h2.symm⟩

/-- A row of n numbers; of n bools. -/
def ArrI (cs : Array Value) (n : Nat) (P : Nat → Int) : Prop := cs.size = n ∧ ∀ j, j < n → cs[j]? = some (.int .i64 (P j))
def ArrB (cs : Array Value) (n : Nat) (P : Nat → Bool) : Prop := cs.size = n ∧ ∀ j, j < n → cs[j]? = some (.bool (P j))
theorem arrI_set {cs : Array Value} {n : Nat} {P : Nat → Int} (h : ArrI cs n P) {k : Nat} (hk : k < n) (x : Int) : ArrI (cs.setIfInBounds k (.int .i64 x)) n (upd P k x) := by
  refine ⟨by simpa using h.1, fun j hj => ?_⟩
  unfold upd
  by_cases hjk : j = k
  · subst hjk; rw [if_pos rfl, Array.getElem?_setIfInBounds_self_of_lt (by rw [h.1]; exact hk)]
  · rw [if_neg hjk, Array.getElem?_setIfInBounds_ne (by omega)]; exact h.2 j hj
theorem arrB_set {cs : Array Value} {n : Nat} {P : Nat → Bool} (h : ArrB cs n P) {k : Nat} (hk : k < n) (x : Bool) : ArrB (cs.setIfInBounds k (.bool x)) n (upd P k x) := by
  refine ⟨by simpa using h.1, fun j hj => ?_⟩
  unfold upd
  by_cases hjk : j = k
  · subst hjk; rw [if_pos rfl, Array.getElem?_setIfInBounds_self_of_lt (by rw [h.1]; exact hk)]
  · rw [if_neg hjk, Array.getElem?_setIfInBounds_ne (by omega)]; exact h.2 j hj
def AtI (w : World) (q T n : Nat) (P : Nat → Int) : Prop := ∃ cs, w.heap[q]? = some (.cells cs T (0, 0)) ∧ ArrI cs n P
def AtB (w : World) (q T n : Nat) (P : Nat → Bool) : Prop := ∃ cs, w.heap[q]? = some (.cells cs T (0, 0)) ∧ ArrB cs n P
theorem AtI.keep {S : Nat → Prop} {w w' : World} {q T n : Nat} {P : Nat → Int} (h : AtI w q T n P) (hC : Chg S w w') (hq : ¬ S q) : AtI w' q T n P := by
  obtain ⟨cs, h1, h2⟩ := h; exact ⟨cs, hC.at h1 hq, h2⟩
theorem AtB.keep {S : Nat → Prop} {w w' : World} {q T n : Nat} {P : Nat → Bool} (h : AtB w q T n P) (hC : Chg S w w') (hq : ¬ S q) : AtB w' q T n P := by
  obtain ⟨cs, h1, h2⟩ := h; exact ⟨cs, hC.at h1 hq, h2⟩
theorem AtI.cell {w : World} {q T n : Nat} {P : Nat → Int} (h : AtI w q T n P) {k : Nat} (hk : k < n) : w.cell? ⟨q, k, none⟩ = some (.int .i64 (P k)) := by
  obtain ⟨cs, h1, h2⟩ := h; rw [blk_cell h1]; exact h2.2 k hk
theorem AtB.cell {w : World} {q T n : Nat} {P : Nat → Bool} (h : AtB w q T n P) {k : Nat} (hk : k < n) : w.cell? ⟨q, k, none⟩ = some (.bool (P k)) := by
  obtain ⟨cs, h1, h2⟩ := h; rw [blk_cell h1]; exact h2.2 k hk
theorem AtI.free {w : World} {q T n : Nat} {P : Nat → Int} (h : AtI w q T n P) (k : Nat) : w.frozen? ⟨q, k, none⟩ = false := by
  obtain ⟨cs, h1, h2⟩ := h; exact blk_free h1 k
theorem AtB.free {w : World} {q T n : Nat} {P : Nat → Bool} (h : AtB w q T n P) (k : Nat) : w.frozen? ⟨q, k, none⟩ = false := by
  obtain ⟨cs, h1, h2⟩ := h; exact blk_free h1 k
theorem AtI.set {w : World} {q T n : Nat} {P : Nat → Int} (h : AtI w q T n P) {k : Nat} (hk : k < n) (x : Int) : AtI (w.setCell ⟨q, k, none⟩ (.int .i64 x)) q T n (upd P k x) := by
  obtain ⟨cs, h1, h2⟩ := h; exact ⟨_, blk_set h1 _ _, arrI_set h2 hk x⟩
theorem AtB.set {w : World} {q T n : Nat} {P : Nat → Bool} (h : AtB w q T n P) {k : Nat} (hk : k < n) (x : Bool) : AtB (w.setCell ⟨q, k, none⟩ (.bool x)) q T n (upd P k x) := by
  obtain ⟨cs, h1, h2⟩ := h; exact ⟨_, blk_set h1 _ _, arrB_set h2 hk x⟩
theorem AtI.lt {w : World} {q T n : Nat} {P : Nat → Int} (h : AtI w q T n P) : q < w.heap.size := by obtain ⟨cs, h1, _⟩ := h; exact lt_of_heap h1
theorem AtB.lt {w : World} {q T n : Nat} {P : Nat → Bool} (h : AtB w q T n P) : q < w.heap.size := by obtain ⟨cs, h1, _⟩ := h; exact lt_of_heap h1
theorem chg_far {w : World} {q i : Nat} (u : Value) : Chg (fun k => k = q) w (w.setCell ⟨q, i, none⟩ u) := Chg.set1 (Chg.refl _ _) u
theorem AtI.cong {w : World} {q T n : Nat} {P P' : Nat → Int} (h : AtI w q T n P) (e : ∀ j, j < n → P j = P' j) : AtI w q T n P' := by
  obtain ⟨cs, h1, h2, h3⟩ := h; exact ⟨cs, h1, h2, fun j hj => by rw [← e j hj]; exact h3 j hj⟩
theorem AtB.cong {w : World} {q T n : Nat} {P P' : Nat → Bool} (h : AtB w q T n P) (e : ∀ j, j < n → P j = P' j) : AtB w q T n P' := by
  obtain ⟨cs, h1, h2, h3⟩ := h; exact ⟨cs, h1, h2, fun j hj => by rw [← e j hj]; exact h3 j hj⟩

/-- What the law keeps beside: where a vector leads, or -1; whether it is masked. -/
def pOf (f : Nat → Ent) (j : Nat) : Int := if (f j).is = true then (f j).part else -1
def mOf (f : Nat → Ent) (j : Nat) : Bool := (f j).is && (f j).masked
def Good (f : Nat → Ent) : Prop := ∀ j, 0 ≤ (f j).part
theorem good_upd {f : Nat → Ent} (h : Good f) (k : Nat) (e : Ent) (he : 0 ≤ e.part) : Good (upd f k e) := fun j => by
  unfold upd; split
  · exact he
  · exact h j
theorem pOf_upd (f : Nat → Ent) (k : Nat) (e : Ent) (j : Nat) : upd (pOf f) k (if e.is = true then e.part else -1) j = pOf (upd f k e) j := by
  unfold pOf upd; split <;> simp
theorem mOf_upd (f : Nat → Ent) (k : Nat) (e : Ent) (j : Nat) : upd (mOf f) k (e.is && e.masked) j = mOf (upd f k e) j := by
  unfold mOf upd; split <;> simp
/-- What is looked at: no entry, or the one that stands there. -/
theorem look_of (f : Nat → Ent) (hg : Good f) (j : Nat) (hj : j < 16) :
    (pOf f j < 0 ∧ entE 2 ((j : Int) / 8) ((j : Int) % 8) f = 1101) ∨ (0 ≤ pOf f j ∧ entE 2 ((j : Int) / 8) ((j : Int) % 8) f = 0 ∧ lookP 2 ((j : Int) / 8) ((j : Int) % 8) f = pOf f j ∧ lookM 2 ((j : Int) / 8) ((j : Int) % 8) f = mOf f j) := by
  have hin : inR 2 ((j : Int) / 8) ((j : Int) % 8) := by unfold inR; omega
  have hix : ix ((j : Int) / 8) ((j : Int) % 8) = j := by unfold ix; omega
  have hg' := hg j
  unfold lookP lookM entE pOf mOf
  rw [if_pos hin, hix]
  cases h : (f j).is with
  | true => exact .inr (by simp [hg'])
  | false => exact .inl (by simp)
theorem ent_of (f : Nat → Ent) (hg : Good f) (d v : Int) (k : Nat) (hin : inR 2 d v) (hix : ix d v = k) :
    (entE 2 d v f = 0 ∧ 0 ≤ pOf f k ∧ (f k).is = true) ∨ (entE 2 d v f = 1101 ∧ pOf f k < 0 ∧ (f k).is = false) := by
  have hg' := hg k
  unfold entE pOf
  rw [if_pos hin, hix]
  cases h : (f k).is with
  | true => exact .inl (by simp [hg'])
  | false => exact .inr (by simp)

set_option maxRecDepth 100000 in
set_option maxHeartbeats 8000000 in
theorem remapLast_main (w : World) (A : Option Addr) (c : Nat) (xs : List RAct) (hn : xs.length ≤ 9223372036854775807) (hr : RowC w A (xs.flatMap RAct.cells)) :
    Calls Try.prog 6 #[.slice A xs.length c] w fun e w' => e = .returned (.bool true) ∧ Chg (fun _ => False) w w' := by
  go_enter Try.func6, Try.ntmps6
  go_wp2_with fail
  refine (awake26 _).mono ?_
  rintro e w0 ⟨rfl, hC⟩
  go_wp2_with fail
  refine (new24_ok 2 w0 (by omega) (by omega)).mono ?_
  rintro e w1 ⟨rfl, h1, hs, hC1⟩
  have hB := hC.size
  replace hC := hC.trans hC1
  clear hC1
  have HS := Lib.hid hs; clear hs
  go_wp2_with fail
  refine (num16 _ _).mono ?_
  rintro e w2 ⟨rfl, rfl⟩
  go_wp2_with fail
  refine wp_abs (fun W => TabAt W 101 115 (w0.heap.size + 1) w0.heap.size 2 (fun _ => Ent.none) ∧ AtI W w1.heap.size 64 16 (fun _ => 0) ∧ AtB W (w1.heap.size + 1) 65 16 (fun _ => false) ∧ Chg (fun _ => False) w W) ?_ ?_
  · exact ⟨h1.keep (S := fun _ => False) (((Chg.refl _ _).alloc _).alloc _) id id, ⟨_, blk_alloc (blk_new _ _) _, rfl, fun j hj => by
      match j, hj with
      | 0, _ | 1, _ | 2, _ | 3, _ | 4, _ | 5, _ | 6, _ | 7, _ | 8, _ | 9, _ | 10, _ | 11, _ | 12, _ | 13, _ | 14, _ | 15, _ => rfl
      | n + 16, h => exact absurd h (by omega)⟩,
      ⟨_, by simpa using blk_new (w1.alloc _) _, rfl, fun j hj => by
      match j, hj with
      | 0, _ | 1, _ | 2, _ | 3, _ | 4, _ | 5, _ | 6, _ | 7, _ | 8, _ | 9, _ | 10, _ | 11, _ | 12, _ | 13, _ | 14, _ | 15, _ => rfl
      | n + 16, h => exact absurd h (by omega)⟩, (hC.alloc _).alloc _⟩
  clear h1 hC
  rintro W ⟨h1, hP, hM, hC⟩
  have hqB : w0.heap.size + 2 = w1.heap.size := HS.out.symm
  clear HS
  generalize w1.heap.size = q at *
  generalize w0.heap.size = B at *
  have HQB := Lib.hid hqB; clear hqB
  go_loopw [7] (fun i wr => ∃ j : Nat, j ≤ 16 ∧ i = .int .i64 j ∧ TabAt wr 101 115 (B + 1) B 2 (fun _ => Ent.none) ∧ AtI wr q 64 16 (fun t => if t < j then -1 else 0) ∧ AtB wr (q + 1) 65 16 (fun _ => false) ∧ Chg (fun _ => False) w wr) (fun i _ => 16 - (intOf i).toNat)
  case atStart => exact ⟨0, by omega, rfl, h1, hP.cong (fun j _ => by simp), hM, hC⟩
  case round =>
    clear h1 hP hM hC
    obtain ⟨j, hj, rfl, h1, hP, hM, hC⟩ := hrel
    by_cases hj16 : j < 16
    · have c0 := hP.cell hj16
      have f0 := hP.free j
      rw [if_neg (Nat.lt_irrefl j)] at c0
      have hji : (j : Int) < 16 := by omega
      go_wp2
      go_roundw
      case rel =>
        have hqB := HQB.out
        refine ⟨j + 1, by omega, by go_num, h1.keep (chg_far _) (by omega) (by omega), (hP.set hj16 _).cong (fun t ht => ?_), hM.keep (chg_far _) (by omega), hC.trans' (chg_far _) (fun i hi h => by omega)⟩
        unfold upd
        by_cases htj : t = j
        · subst htj; simp
        · rw [if_neg htj]
          show (if t < j then (-1 : Int) else 0) = _
          by_cases h : t < j
          · rw [if_pos h, if_pos (by omega)]
          · rw [if_neg h, if_neg (by omega)]
      case measure => simp [intOf]; omega
    · rw [show (j : Int) = 16 from by omega]
      obtain rfl : j = 16 := by omega
      clear hj16 hj
      replace hP : AtI wr q 64 16 (pOf (fun _ => Ent.none)) := hP.cong (fun j hj => by rw [if_pos hj]; rfl)
      replace hM : AtB wr (q + 1) 65 16 (mOf (fun _ => Ent.none)) := hM
      have hg : Good (fun _ => Ent.none) := fun _ => Int.le_refl _
      go_wp2_with fail
      go_loopw [8] (fun i wr => ∃ k : Nat, k ≤ xs.length ∧ i = .int .i64 k ∧ ∃ f, Good f ∧ TabAt wr 101 115 (B + 1) B 2 f ∧ AtI wr q 64 16 (pOf f) ∧ AtB wr (q + 1) 65 16 (mOf f) ∧ Chg (fun _ => False) w wr) (fun i _ => xs.length - (intOf i).toNat)
      case atStart => exact ⟨0, by omega, rfl, _, hg, h1, hP, hM, hC⟩
      case round =>
        clear h1 hP hM hC hg
        rename_i wq _
        obtain ⟨k, hk, rfl, f, hg, h1, hP, hM, hC⟩ := hrel
        by_cases hlt : k < xs.length
        · obtain ⟨b, o, rfl⟩ := ractAddr hr hlt
          have hf := ractCell hr k hlt
          by_cases h60 : k < 60
          · generalize xs[k] = a at hf
            have lay : ∀ {W : World}, Chg (fun _ => False) w W → W.cell? ⟨b, o + k * 5, none⟩ = some (.int .i64 a.kind) ∧ W.cell? ⟨b, o + k * 5 + 1, none⟩ = some (.int .i64 a.device) ∧ W.cell? ⟨b, o + k * 5 + 2, none⟩ = some (.int .i64 a.vector) ∧ W.cell? ⟨b, o + k * 5 + 3, none⟩ = some (.int .i64 a.part) ∧ W.cell? ⟨b, o + k * 5 + 4, none⟩ = some (.bool a.on) :=
              fun hW => ⟨hW.cell hf.1 id, hW.cell hf.2.1 id, hW.cell hf.2.2.1 id, hW.cell hf.2.2.2.1 id, hW.cell hf.2.2.2.2 id⟩
            clear hf
            have Lay := @lay; clear lay
            obtain ⟨c0, c1, c2, c3, c4⟩ := Lay hC
            have hk0 : (0 : Int) ≤ k := by omega
            have hk1 : (k : Int) < xs.length := by omega
            have HG := Lib.hid hg; clear hg
            go_wp2_with fail
            go_quiet (fail)
            rename_i nq
            generalize hdd : a.device % 2 = d
            have hd0 : 0 ≤ d ∧ d < 2 := by omega
            generalize hvv : a.vector % 8 = v
            have hv0 : 0 ≤ v ∧ v < 8 := by omega
            clear hdd hvv
            obtain ⟨kk, hkk⟩ : ∃ kk : Nat, 8 * d + v = (kk : Int) := ⟨(8 * d + v).toNat, by omega⟩
            have HKK : Hid (kk < 16) := by show kk < 16; omega
            have HIN : Hid (inR 2 d v) := by show inR 2 d v; unfold inR; omega
            have HIX : Hid (ix d v = kk) := by show ix d v = kk; unfold ix; omega
            obtain ⟨hd0, hd1⟩ := hd0
            obtain ⟨hv0, hv1⟩ := hv0
            have hkd : a.kind % 4 = 0 ∨ a.kind % 4 = 1 ∨ a.kind % 4 = 2 ∨ a.kind % 4 = 3 := by omega
            have HKD := Lib.hid hkd; clear hkd
            go_upto_block 4 with fail
            go_cut [12, 69] (fun _ _ wx => ∃ f2, Good f2 ∧ TabAt wx 101 115 (B + 1) B 2 f2 ∧ AtI wx q 64 16 (pOf f2) ∧ AtB wx (q + 1) 65 16 (mOf f2) ∧ Chg (fun _ => False) w wx)
            case first =>
              rcases HKD.out with hkd | hkd | hkd | hkd
              · go_wp2_with fail
                refine calls_abs (fun W => TabAt W 101 115 (B + 1) B 2 f ∧ AtI W q 64 16 (pOf f) ∧ AtB W (q + 1) 65 16 (mOf f) ∧ Chg (fun _ => False) w W) ⟨h1.keep (S := fun _ => False) ((Chg.refl _ _).drewN nq) id id, hP.keep (S := fun _ => False) ((Chg.refl _ _).drewN nq) id, hM.keep (S := fun _ => False) ((Chg.refl _ _).drewN nq) id, hC.drewN nq⟩ ?_
                clear h1 hP hM hC c0 c1 c2 c3 c4
                rintro W ⟨h1, hP, hM, hC⟩
                refine (set27 _ _ 2 f d v (a.part % 4) W h1).mono ?_
                rintro e w4 ⟨rfl, h4, hD⟩
                replace hP := hP.keep hD (by have := HQB.out; omega)
                replace hM := hM.keep hD (by have := HQB.out; omega)
                replace hC := hC.trans' hD (fun i hi h => by omega)
                clear h1 hD
                obtain ⟨c0, c1, c2, c3, c4⟩ := Lay hC
                have d0 := hP.cell HKK.out
                have d1 := hM.cell HKK.out
                have f0 := hP.free kk
                have f1 := hM.free kk
                have lq := hP.lt
                have lq1 := hM.lt
                have e0 : setC 2 d v (a.part % 4) = 0 := if_pos ⟨HIN.out, by omega, by omega⟩
                have e1 : setF 2 d v (a.part % 4) f = upd f kk ⟨true, a.part % 4, false⟩ := by unfold setF; rw [if_pos ⟨HIN.out, by omega, by omega⟩, HIX.out]
                rw [e1] at h4
                rw [e0]
                clear e0 e1
                go_wp2_with fail
                refine (num16 _ _).mono ?_
                rintro e w5 ⟨rfl, rfl⟩
                go_wp2_with fail
                have hfn : ∃ f2, f2 = upd f kk ⟨true, a.part % 4, false⟩ := ⟨_, rfl⟩
                obtain ⟨f2, hf2⟩ := hfn
                have HG2 : Hid (Good f2) := by rw [hf2]; exact good_upd HG.out _ _ (by simp; omega)
                have hfin : TabAt (((w4).setCell ⟨q, kk, none⟩ (.int .i64 (a.part % 4))).setCell ⟨q + 1, kk, none⟩ (.bool false)) 101 115 (B + 1) B 2 f2 ∧ AtI (((w4).setCell ⟨q, kk, none⟩ (.int .i64 (a.part % 4))).setCell ⟨q + 1, kk, none⟩ (.bool false)) q 64 16 (pOf f2) ∧ AtB (((w4).setCell ⟨q, kk, none⟩ (.int .i64 (a.part % 4))).setCell ⟨q + 1, kk, none⟩ (.bool false)) (q + 1) 65 16 (mOf f2) ∧ Chg (fun _ => False) w (((w4).setCell ⟨q, kk, none⟩ (.int .i64 (a.part % 4))).setCell ⟨q + 1, kk, none⟩ (.bool false)) := by
                  rw [hf2]
                  have hqB := HQB.out
                  have hb := hB
                  exact ⟨TabAt.keep (TabAt.keep (w := w4) h4 (chg_far _) (by omega) (by omega)) (chg_far _) (by omega) (by omega), AtI.cong (AtI.keep (AtI.set (w := w4) hP HKK.out _) (chg_far _) (by omega)) (fun j hj => by have := pOf_upd f kk ⟨true, a.part % 4, false⟩ j; simpa using this),
                    AtB.cong (AtB.set (AtB.keep (w := w4) hM (chg_far _) (by omega)) HKK.out _) (fun j hj => by have := mOf_upd f kk ⟨true, a.part % 4, false⟩ j; simpa using this), (Chg.trans' hC (chg_far _) (fun i hi h => by omega)).trans' (chg_far _) (fun i hi h => by omega)⟩
                go_meet
                exact ⟨f2, HG2.out, hfin⟩
              · go_wp2_with fail
                refine calls_abs (fun W => TabAt W 101 115 (B + 1) B 2 f ∧ AtI W q 64 16 (pOf f) ∧ AtB W (q + 1) 65 16 (mOf f) ∧ Chg (fun _ => False) w W) ⟨h1.keep (S := fun _ => False) ((Chg.refl _ _).drewN nq) id id, hP.keep (S := fun _ => False) ((Chg.refl _ _).drewN nq) id, hM.keep (S := fun _ => False) ((Chg.refl _ _).drewN nq) id, hC.drewN nq⟩ ?_
                clear h1 hP hM hC c0 c1 c2 c3 c4
                rintro W ⟨h1, hP, hM, hC⟩
                refine (set27 _ _ 2 f d v (a.part % 4) W h1).mono ?_
                rintro e w4 ⟨rfl, h4, hD⟩
                replace hP := hP.keep hD (by have := HQB.out; omega)
                replace hM := hM.keep hD (by have := HQB.out; omega)
                replace hC := hC.trans' hD (fun i hi h => by omega)
                clear h1 hD
                obtain ⟨c0, c1, c2, c3, c4⟩ := Lay hC
                have d0 := hP.cell HKK.out
                have d1 := hM.cell HKK.out
                have f0 := hP.free kk
                have f1 := hM.free kk
                have lq := hP.lt
                have lq1 := hM.lt
                have e0 : setC 2 d v (a.part % 4) = 0 := if_pos ⟨HIN.out, by omega, by omega⟩
                have e1 : setF 2 d v (a.part % 4) f = upd f kk ⟨true, a.part % 4, false⟩ := by unfold setF; rw [if_pos ⟨HIN.out, by omega, by omega⟩, HIX.out]
                rw [e1] at h4
                rw [e0]
                clear e0 e1
                go_wp2_with fail
                refine (num16 _ _).mono ?_
                rintro e w5 ⟨rfl, rfl⟩
                go_wp2_with fail
                have hfn : ∃ f2, f2 = upd f kk ⟨true, a.part % 4, false⟩ := ⟨_, rfl⟩
                obtain ⟨f2, hf2⟩ := hfn
                have HG2 : Hid (Good f2) := by rw [hf2]; exact good_upd HG.out _ _ (by simp; omega)
                have hfin : TabAt (((w4).setCell ⟨q, kk, none⟩ (.int .i64 (a.part % 4))).setCell ⟨q + 1, kk, none⟩ (.bool false)) 101 115 (B + 1) B 2 f2 ∧ AtI (((w4).setCell ⟨q, kk, none⟩ (.int .i64 (a.part % 4))).setCell ⟨q + 1, kk, none⟩ (.bool false)) q 64 16 (pOf f2) ∧ AtB (((w4).setCell ⟨q, kk, none⟩ (.int .i64 (a.part % 4))).setCell ⟨q + 1, kk, none⟩ (.bool false)) (q + 1) 65 16 (mOf f2) ∧ Chg (fun _ => False) w (((w4).setCell ⟨q, kk, none⟩ (.int .i64 (a.part % 4))).setCell ⟨q + 1, kk, none⟩ (.bool false)) := by
                  rw [hf2]
                  have hqB := HQB.out
                  have hb := hB
                  exact ⟨TabAt.keep (TabAt.keep (w := w4) h4 (chg_far _) (by omega) (by omega)) (chg_far _) (by omega) (by omega), AtI.cong (AtI.keep (AtI.set (w := w4) hP HKK.out _) (chg_far _) (by omega)) (fun j hj => by have := pOf_upd f kk ⟨true, a.part % 4, false⟩ j; simpa using this),
                    AtB.cong (AtB.set (AtB.keep (w := w4) hM (chg_far _) (by omega)) HKK.out _) (fun j hj => by have := mOf_upd f kk ⟨true, a.part % 4, false⟩ j; simpa using this), (Chg.trans' hC (chg_far _) (fun i hi h => by omega)).trans' (chg_far _) (fun i hi h => by omega)⟩
                go_meet
                exact ⟨f2, HG2.out, hfin⟩
              · go_wp2_with fail
                refine calls_abs (fun W => TabAt W 101 115 (B + 1) B 2 f ∧ AtI W q 64 16 (pOf f) ∧ AtB W (q + 1) 65 16 (mOf f) ∧ Chg (fun _ => False) w W) ⟨h1.keep (S := fun _ => False) ((Chg.refl _ _).drewN nq) id id, hP.keep (S := fun _ => False) ((Chg.refl _ _).drewN nq) id, hM.keep (S := fun _ => False) ((Chg.refl _ _).drewN nq) id, hC.drewN nq⟩ ?_
                clear h1 hP hM hC c0 c1 c2 c3 c4
                rintro W ⟨h1, hP, hM, hC⟩
                refine (unset29 _ _ 2 f d v W h1).mono ?_
                rintro e w4 ⟨rfl, h4, hD⟩
                replace hP := hP.keep hD (by have := HQB.out; omega)
                replace hM := hM.keep hD (by have := HQB.out; omega)
                replace hC := hC.trans' hD (fun i hi h => by omega)
                clear h1 hD
                obtain ⟨c0, c1, c2, c3, c4⟩ := Lay hC
                have d0 := hP.cell HKK.out
                have d1 := hM.cell HKK.out
                have f0 := hP.free kk
                have f1 := hM.free kk
                have lq := hP.lt
                have lq1 := hM.lt
                rcases ent_of f HG.out d v kk HIN.out HIX.out with ⟨e0, e1, e2⟩ | ⟨e0, e1, e2⟩
                · have e3 : unsetF 2 d v f = upd f kk Ent.none := by unfold unsetF; rw [if_pos e0, HIX.out]
                  rw [e3] at h4
                  rw [e0]
                  clear e0 e2 e3
                  generalize pOf f kk = pk at d0 e1
                  go_wp2_with fail
                  go_quiet ((go_at_call 16; exact Calls.quiet_of_same (num16q _ _)))
                  go_wp2_with fail
                  have hfn : ∃ f2, f2 = upd f kk Ent.none := ⟨_, rfl⟩
                  obtain ⟨f2, hf2⟩ := hfn
                  have HG2 : Hid (Good f2) := by rw [hf2]; exact good_upd HG.out _ _ (by simp [Ent.none])
                  have hfin : TabAt (((w4.drewN nq).setCell ⟨q, kk, none⟩ (.int .i64 (-1))).setCell ⟨q + 1, kk, none⟩ (.bool false)) 101 115 (B + 1) B 2 f2 ∧ AtI (((w4.drewN nq).setCell ⟨q, kk, none⟩ (.int .i64 (-1))).setCell ⟨q + 1, kk, none⟩ (.bool false)) q 64 16 (pOf f2) ∧ AtB (((w4.drewN nq).setCell ⟨q, kk, none⟩ (.int .i64 (-1))).setCell ⟨q + 1, kk, none⟩ (.bool false)) (q + 1) 65 16 (mOf f2) ∧ Chg (fun _ => False) w (((w4.drewN nq).setCell ⟨q, kk, none⟩ (.int .i64 (-1))).setCell ⟨q + 1, kk, none⟩ (.bool false)) := by
                    rw [hf2]
                    have hqB := HQB.out
                    have hb := hB
                    exact ⟨TabAt.keep (TabAt.keep (w := w4.drewN nq) h4 (chg_far _) (by omega) (by omega)) (chg_far _) (by omega) (by omega), AtI.cong (AtI.keep (AtI.set (w := w4.drewN nq) hP HKK.out _) (chg_far _) (by omega)) (fun j hj => by have := pOf_upd f kk Ent.none j; simpa [Ent.none] using this),
                      AtB.cong (AtB.set (AtB.keep (w := w4.drewN nq) hM (chg_far _) (by omega)) HKK.out _) (fun j hj => by have := mOf_upd f kk Ent.none j; simpa [Ent.none] using this), (Chg.trans' (hC.drewN nq) (chg_far _) (fun i hi h => by omega)).trans' (chg_far _) (fun i hi h => by omega)⟩
                  go_meet
                  exact ⟨f2, HG2.out, hfin⟩
                · have e3 : unsetF 2 d v f = f := by unfold unsetF; rw [if_neg (by rw [e0]; decide)]
                  rw [e3] at h4
                  rw [e0]
                  have E2 := Lib.hid e2; clear e2
                  clear e0 e3
                  generalize hpk : pOf f kk = pk at d0 e1
                  clear hpk
                  go_wp2_with fail
                  go_quiet ((go_at_call 16; exact Calls.quiet_of_same (num16q _ _)))
                  go_wp2_with fail
                  have hfn : ∃ f2, f2 = f := ⟨_, rfl⟩
                  obtain ⟨f2, hf2⟩ := hfn
                  have HG2 : Hid (Good f2) := by rw [hf2]; exact HG.out
                  have hfin : TabAt (((w4.drewN nq).setCell ⟨q, kk, none⟩ (.int .i64 (-1))).setCell ⟨q + 1, kk, none⟩ (.bool false)) 101 115 (B + 1) B 2 f2 ∧ AtI (((w4.drewN nq).setCell ⟨q, kk, none⟩ (.int .i64 (-1))).setCell ⟨q + 1, kk, none⟩ (.bool false)) q 64 16 (pOf f2) ∧ AtB (((w4.drewN nq).setCell ⟨q, kk, none⟩ (.int .i64 (-1))).setCell ⟨q + 1, kk, none⟩ (.bool false)) (q + 1) 65 16 (mOf f2) ∧ Chg (fun _ => False) w (((w4.drewN nq).setCell ⟨q, kk, none⟩ (.int .i64 (-1))).setCell ⟨q + 1, kk, none⟩ (.bool false)) := by
                    rw [hf2]
                    have hqB := HQB.out
                    have hb := hB
                    exact ⟨TabAt.keep (TabAt.keep (w := w4.drewN nq) h4 (chg_far _) (by omega) (by omega)) (chg_far _) (by omega) (by omega), AtI.cong (AtI.keep (AtI.set (w := w4.drewN nq) hP HKK.out _) (chg_far _) (by omega)) (fun j hj => by unfold upd; split; (rename_i hjk; subst hjk; unfold pOf; rw [E2.out]; rfl); rfl),
                      AtB.cong (AtB.set (AtB.keep (w := w4.drewN nq) hM (chg_far _) (by omega)) HKK.out _) (fun j hj => by unfold upd; split; (rename_i hjk; subst hjk; unfold mOf; rw [E2.out]; rfl); rfl), (Chg.trans' (hC.drewN nq) (chg_far _) (fun i hi h => by omega)).trans' (chg_far _) (fun i hi h => by omega)⟩
                  go_meet
                  exact ⟨f2, HG2.out, hfin⟩
              · go_wp2_with fail
                refine calls_abs (fun W => TabAt W 101 115 (B + 1) B 2 f ∧ AtI W q 64 16 (pOf f) ∧ AtB W (q + 1) 65 16 (mOf f) ∧ Chg (fun _ => False) w W) ⟨h1.keep (S := fun _ => False) ((Chg.refl _ _).drewN nq) id id, hP.keep (S := fun _ => False) ((Chg.refl _ _).drewN nq) id, hM.keep (S := fun _ => False) ((Chg.refl _ _).drewN nq) id, hC.drewN nq⟩ ?_
                clear h1 hP hM hC c0 c1 c2 c3 c4
                rintro W ⟨h1, hP, hM, hC⟩
                refine (mask31 _ _ 2 f d v a.on W h1).mono ?_
                rintro e w4 ⟨rfl, h4, hD⟩
                replace hP := hP.keep hD (by have := HQB.out; omega)
                replace hM := hM.keep hD (by have := HQB.out; omega)
                replace hC := hC.trans' hD (fun i hi h => by omega)
                clear h1 hD
                obtain ⟨c0, c1, c2, c3, c4⟩ := Lay hC
                have d0 := hP.cell HKK.out
                have d1 := hM.cell HKK.out
                have f0 := hP.free kk
                have f1 := hM.free kk
                have lq := hP.lt
                have lq1 := hM.lt
                have Lay2 : Hid (∀ {W : World}, Chg (fun _ => False) w W → W.cell? ⟨b, o + k * 5 + 4, none⟩ = some (.bool a.on)) := fun hW => (Lay hW).2.2.2.2
                rcases ent_of f HG.out d v kk HIN.out HIX.out with ⟨e0, e1, e2⟩ | ⟨e0, e1, e2⟩
                · have e3 : maskF 2 d v a.on f = upd f kk { f kk with masked := a.on } := by unfold maskF; rw [if_pos e0, HIX.out]
                  rw [e3] at h4
                  rw [e0]
                  have E2 := Lib.hid e2; clear e2
                  clear e0 e3 Lay Lay2
                  generalize hpk : pOf f kk = pk at d0 e1
                  have HPK := Lib.hid hpk; clear hpk
                  generalize a.on = on at *
                  cases on with
                  | true =>
                    go_wp2_with fail
                    go_quiet ((go_at_call 16; exact Calls.quiet_of_same (num16q _ _)))
                    go_wp2_with fail
                    have hfn : ∃ f2, f2 = upd f kk { f kk with masked := true } := ⟨_, rfl⟩
                    obtain ⟨f2, hf2⟩ := hfn
                    have HG2 : Hid (Good f2) := by rw [hf2]; exact good_upd HG.out _ _ (HG.out kk)
                    have hfin : TabAt ((w4.drewN nq).setCell ⟨q + 1, kk, none⟩ (.bool true)) 101 115 (B + 1) B 2 f2 ∧ AtI ((w4.drewN nq).setCell ⟨q + 1, kk, none⟩ (.bool true)) q 64 16 (pOf f2) ∧ AtB ((w4.drewN nq).setCell ⟨q + 1, kk, none⟩ (.bool true)) (q + 1) 65 16 (mOf f2) ∧ Chg (fun _ => False) w ((w4.drewN nq).setCell ⟨q + 1, kk, none⟩ (.bool true)) := by
                      rw [hf2]
                      have hqB := HQB.out
                      have hb := hB
                      exact ⟨TabAt.keep (w := w4.drewN nq) h4 (chg_far _) (by omega) (by omega), AtI.cong (AtI.keep (w := w4.drewN nq) hP (chg_far _) (by omega)) (fun j hj => by have := pOf_upd f kk { f kk with masked := true } j; rw [← this]; unfold upd; split; (rename_i hjk; subst hjk; unfold pOf; rfl); rfl),
                        AtB.cong (AtB.set (w := w4.drewN nq) hM HKK.out _) (fun j hj => by have := mOf_upd f kk { f kk with masked := true } j; rw [← this]; unfold upd; split; (simp [E2.out]); rfl), Chg.trans' (hC.drewN nq) (chg_far _) (fun i hi h => by omega)⟩
                    go_meet
                    exact ⟨f2, HG2.out, hfin⟩
                  | false =>
                    go_wp2_with fail
                    go_quiet ((go_at_call 16; exact Calls.quiet_of_same (num16q _ _)))
                    go_wp2_with fail
                    have hfn : ∃ f2, f2 = upd f kk { f kk with masked := false } := ⟨_, rfl⟩
                    obtain ⟨f2, hf2⟩ := hfn
                    have HG2 : Hid (Good f2) := by rw [hf2]; exact good_upd HG.out _ _ (HG.out kk)
                    have hfin : TabAt ((w4.drewN nq).setCell ⟨q + 1, kk, none⟩ (.bool false)) 101 115 (B + 1) B 2 f2 ∧ AtI ((w4.drewN nq).setCell ⟨q + 1, kk, none⟩ (.bool false)) q 64 16 (pOf f2) ∧ AtB ((w4.drewN nq).setCell ⟨q + 1, kk, none⟩ (.bool false)) (q + 1) 65 16 (mOf f2) ∧ Chg (fun _ => False) w ((w4.drewN nq).setCell ⟨q + 1, kk, none⟩ (.bool false)) := by
                      rw [hf2]
                      have hqB := HQB.out
                      have hb := hB
                      exact ⟨TabAt.keep (w := w4.drewN nq) h4 (chg_far _) (by omega) (by omega), AtI.cong (AtI.keep (w := w4.drewN nq) hP (chg_far _) (by omega)) (fun j hj => by have := pOf_upd f kk { f kk with masked := false } j; rw [← this]; unfold upd; split; (rename_i hjk; subst hjk; unfold pOf; rfl); rfl),
                        AtB.cong (AtB.set (w := w4.drewN nq) hM HKK.out _) (fun j hj => by have := mOf_upd f kk { f kk with masked := false } j; rw [← this]; unfold upd; split; (simp); rfl), Chg.trans' (hC.drewN nq) (chg_far _) (fun i hi h => by omega)⟩
                    go_meet
                    exact ⟨f2, HG2.out, hfin⟩
                · have e3 : maskF 2 d v a.on f = f := by unfold maskF; rw [if_neg (by rw [e0]; decide)]
                  rw [e3] at h4
                  rw [e0]
                  have E2 := Lib.hid e2; clear e2
                  clear e0 e3 Lay Lay2
                  generalize hpk : pOf f kk = pk at d0 e1
                  clear hpk
                  generalize a.on = on at *
                  cases on with
                  | true =>
                    have hpkb : decide (0 ≤ pk) = false := by simp; omega
                    go_wp2_with fail
                    go_quiet ((go_at_call 16; exact Calls.quiet_of_same (num16q _ _)))
                    go_wp2_with fail
                    have hfn : ∃ f2, f2 = f := ⟨_, rfl⟩
                    obtain ⟨f2, hf2⟩ := hfn
                    have HG2 : Hid (Good f2) := by rw [hf2]; exact HG.out
                    have hfin : TabAt ((w4.drewN nq).setCell ⟨q + 1, kk, none⟩ (.bool false)) 101 115 (B + 1) B 2 f2 ∧ AtI ((w4.drewN nq).setCell ⟨q + 1, kk, none⟩ (.bool false)) q 64 16 (pOf f2) ∧ AtB ((w4.drewN nq).setCell ⟨q + 1, kk, none⟩ (.bool false)) (q + 1) 65 16 (mOf f2) ∧ Chg (fun _ => False) w ((w4.drewN nq).setCell ⟨q + 1, kk, none⟩ (.bool false)) := by
                      rw [hf2]
                      have hqB := HQB.out
                      have hb := hB
                      exact ⟨TabAt.keep (w := w4.drewN nq) h4 (chg_far _) (by omega) (by omega), AtI.cong (AtI.keep (w := w4.drewN nq) hP (chg_far _) (by omega)) (fun j hj => rfl),
                        AtB.cong (AtB.set (w := w4.drewN nq) hM HKK.out _) (fun j hj => by unfold upd; split; (rename_i hjk; subst hjk; unfold mOf; rw [E2.out]; rfl); rfl), Chg.trans' (hC.drewN nq) (chg_far _) (fun i hi h => by omega)⟩
                    go_meet
                    exact ⟨f2, HG2.out, hfin⟩
                  | false =>
                    go_wp2_with fail
                    go_quiet ((go_at_call 16; exact Calls.quiet_of_same (num16q _ _)))
                    go_wp2_with fail
                    have hfn : ∃ f2, f2 = f := ⟨_, rfl⟩
                    obtain ⟨f2, hf2⟩ := hfn
                    have HG2 : Hid (Good f2) := by rw [hf2]; exact HG.out
                    have hfin : TabAt ((w4.drewN nq).setCell ⟨q + 1, kk, none⟩ (.bool false)) 101 115 (B + 1) B 2 f2 ∧ AtI ((w4.drewN nq).setCell ⟨q + 1, kk, none⟩ (.bool false)) q 64 16 (pOf f2) ∧ AtB ((w4.drewN nq).setCell ⟨q + 1, kk, none⟩ (.bool false)) (q + 1) 65 16 (mOf f2) ∧ Chg (fun _ => False) w ((w4.drewN nq).setCell ⟨q + 1, kk, none⟩ (.bool false)) := by
                      rw [hf2]
                      have hqB := HQB.out
                      have hb := hB
                      exact ⟨TabAt.keep (w := w4.drewN nq) h4 (chg_far _) (by omega) (by omega), AtI.cong (AtI.keep (w := w4.drewN nq) hP (chg_far _) (by omega)) (fun j hj => rfl),
                        AtB.cong (AtB.set (w := w4.drewN nq) hM HKK.out _) (fun j hj => by unfold upd; split; (rename_i hjk; subst hjk; unfold mOf; rw [E2.out]; rfl); rfl), Chg.trans' (hC.drewN nq) (chg_far _) (fun i hi h => by omega)⟩
                    go_meet
                    exact ⟨f2, HG2.out, hfin⟩
            case rest =>
              obtain ⟨f2, hg2, h1, hP, hM, hC⟩ := hcut
              have HG2 := Lib.hid hg2; clear hg2
              clear c0 c1 c2 c3 c4 HKD hkk
              go_wp2_with fail
              go_loopw [15] (fun i wz => ∃ j : Nat, j ≤ 16 ∧ i = .int .i64 j ∧ TabAt wz 101 115 (B + 1) B 2 f2 ∧ AtI wz q 64 16 (pOf f2) ∧ AtB wz (q + 1) 65 16 (mOf f2) ∧ Chg (fun _ => False) w wz) (fun i _ => 16 - (intOf i).toNat)
              case atStart => exact ⟨0, by omega, rfl, h1, hP, hM, hC⟩
              case round =>
                clear h1 hP hM hC
                rename_i wy _
                obtain ⟨j, hj, rfl, h1, hP, hM, hC⟩ := hrel
                by_cases hj16 : j < 16
                · have hj1 : (j : Int) < 16 := by omega
                  have hlk := look_of f2 HG2.out j hj16
                  have hj0 : (0 : Int) ≤ j := by omega
                  go_wp2_with fail
                  refine (look35c _ _ 2 f2 _ _ _ h1).mono ?_
                  rintro e w9 ⟨rfl, h9, hD⟩
                  replace hP := hP.keep hD id
                  replace hM := hM.keep hD id
                  replace hC := hC.trans hD
                  clear h1 hD
                  have c5 := hP.cell hj16
                  have c6 := hM.cell hj16
                  have HP := Lib.hid hP; clear hP
                  have HM := Lib.hid hM; clear hM
                  generalize pOf f2 j = pj at *
                  generalize mOf f2 j = mj at *
                  generalize lookP 2 ((j : Int) / 8) ((j : Int) % 8) f2 = x1 at *
                  generalize lookM 2 ((j : Int) / 8) ((j : Int) % 8) f2 = x2 at *
                  generalize entE 2 ((j : Int) / 8) ((j : Int) % 8) f2 = x3 at *
                  have H9 := Lib.hid h9; clear h9
                  have HC := Lib.hid hC; clear hC
                  rcases hlk with ⟨hp, hx3⟩ | ⟨hp, hx3, hx1, hx2⟩
                  · subst hx3
                    go_wp2_with fail
                    refine (num16 _ _).mono ?_
                    rintro e w10 ⟨rfl, rfl⟩
                    go_wp2_with fail
                    go_roundw
                    case rel => exact ⟨j + 1, by omega, by go_num, H9.out, HP.out, HM.out, HC.out⟩
                    case measure => simp [intOf]; omega
                  · subst hx3; subst hx1; subst hx2
                    go_wp2_with ((refine (num16 _ _).mono ?_; rintro e w10 ⟨rfl, rfl⟩))
                    go_roundw
                    case rel => exact ⟨j + 1, by omega, by go_num, H9.out, HP.out, HM.out, HC.out⟩
                    case measure => simp [intOf]; omega
                · have H1 := Lib.hid h1; clear h1
                  have HP := Lib.hid hP; clear hP
                  have HM := Lib.hid hM; clear hM
                  have HC := Lib.hid hC; clear hC
                  go_wp2
                  go_roundw
                  case rel => exact ⟨k + 1, by omega, by go_num, f2, HG2.out, H1.out, HP.out, HM.out, HC.out⟩
                  case measure => simp [intOf]; omega
          · go_wp2
            go_ret
            exact ⟨rfl, hC⟩
        · go_wp2
          go_ret
          exact ⟨rfl, hC⟩

theorem remapLast_walk (w : World) (A : Option Addr) (c : Nat) (xs : List RAct) (hm : xs.length ≤ maxLen) (hr : RowC w A (xs.flatMap RAct.cells)) (_hw : ∀ x ∈ xs, True) :
    Calls Try.prog 6 #[.slice A xs.length c] w fun e w' => e = .returned (.bool true) ∧ Below w.heap.size w w' :=
  (remapLast_main w A c xs (by unfold maxLen at hm; omega) hr).mono fun e w' ⟨h1, h2⟩ => ⟨h1, h2.below (Nat.le_refl _) (fun _ h => h.elim)⟩

end Go.Proofs.Ytochadejlglfgaa
