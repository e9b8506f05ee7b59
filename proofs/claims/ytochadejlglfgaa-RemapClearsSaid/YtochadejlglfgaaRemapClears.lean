/- The law RemapClears. -/
import Derived.Test.YtochadejlglfgaaRemap6
import Derived.Test.YtochadejlglfgaaOpen
namespace Go.Proofs.Ytochadejlglfgaa
open Go.RowKit Go.ChangeShapes
attribute [local go_sem] i64_and1023 i64_and7 i64_and3 i64_and1

/-- Apart from the row of d the tables are alike; in the second that row has no entry. -/
def Apart (d : Nat) (f g : Nat → Ent) : Prop := ∀ k, k < 24 → (k / 8 ≠ d → f k = g k) ∧ (k / 8 = d → (g k).is = false)
theorem apart_set {d : Nat} {f g : Nat → Ent} (h : Apart d f g) (k v q : Int) (b : Bool) (hin : inR 3 k v) (_hq : 0 ≤ q ∧ q < 4) (hk : k.toNat ≠ d) : Apart d (maskF 3 k v b (setF 3 k v q f)) (maskF 3 k v b (setF 3 k v q g)) := by
  intro j hj
  obtain ⟨h1, h2⟩ := h j hj
  have hix : ix k v / 8 ≠ d := by unfold inR at hin; unfold ix; omega
  have e2 : ∀ f : Nat → Ent, setF 3 k v q f = upd f (ix k v) ⟨true, q, false⟩ := fun f => if_pos ⟨hin, _hq⟩
  have e : ∀ f : Nat → Ent, maskF 3 k v b (setF 3 k v q f) = upd (setF 3 k v q f) (ix k v) { setF 3 k v q f (ix k v) with masked := b } := fun f => by
    have h0 : entE 3 k v (setF 3 k v q f) = 0 := by
      rw [e2]; unfold entE; rw [if_pos hin]; simp [upd]
    unfold maskF
    rw [if_pos h0]
  rw [e, e, e2, e2]
  simp only [upd]
  by_cases hji : j = ix k v
  · subst hji
    simp only [if_true]
    exact ⟨fun _ => trivial, fun h => absurd h hix⟩
  · simp only [if_neg hji]
    exact ⟨h1, h2⟩
theorem apart_own {d : Nat} {f g : Nat → Ent} (h : Apart d f g) (k v q : Int) (b : Bool) (hin : inR 3 k v) (_hq : 0 ≤ q ∧ q < 4) (hk : k.toNat = d) : Apart d (maskF 3 k v b (setF 3 k v q f)) g := by
  intro j hj
  obtain ⟨h1, h2⟩ := h j hj
  have hix : ix k v / 8 = d := by unfold inR at hin; unfold ix; omega
  have e2 : setF 3 k v q f = upd f (ix k v) ⟨true, q, false⟩ := if_pos ⟨hin, _hq⟩
  have e : maskF 3 k v b (setF 3 k v q f) = upd (setF 3 k v q f) (ix k v) { setF 3 k v q f (ix k v) with masked := b } := by
    have h0 : entE 3 k v (setF 3 k v q f) = 0 := by
      rw [e2]; unfold entE; rw [if_pos hin]; simp [upd]
    unfold maskF
    rw [if_pos h0]
  rw [e, e2]
  simp only [upd]
  refine ⟨fun hjd => ?_, h2⟩
  have hji : j ≠ ix k v := by rintro rfl; exact hjd hix
  rw [if_neg hji, if_neg hji]
  exact h1 hjd
theorem apart_look {d : Nat} {f g : Nat → Ent} (h : Apart d f g) (k v : Int) (hin : inR 3 k v) (hd : d < 3) :
    lookP 3 k v (clearF 3 d f) = lookP 3 k v g ∧ lookM 3 k v (clearF 3 d f) = lookM 3 k v g ∧ entE 3 k v (clearF 3 d f) = entE 3 k v g ∧ (k.toNat = d → entE 3 k v g = 1101) := by
  obtain ⟨h1, h2⟩ := h (ix k v) (by have := ix_lt hin; omega)
  have hix : ix k v / 8 = k.toNat := by unfold inR at hin; unfold ix; omega
  have hc : ∀ j, clearF 3 d f j = if j / 8 = d then Ent.none else f j := fun j => by
    unfold clearF; rw [if_pos (by omega)]; simp
  unfold lookP lookM entE
  rw [if_pos hin, if_pos hin]
  by_cases hkd : k.toNat = d
  · have hx : clearF 3 d f (ix k v) = Ent.none := by rw [hc, if_pos (by omega)]
    have := h2 (by omega)
    rw [hx, this]
    simp [Ent.none]
  · have hx : clearF 3 d f (ix k v) = g (ix k v) := by rw [hc, if_neg (by omega), h1 (by omega)]
    rw [hx]
    exact ⟨rfl, rfl, rfl, fun h => absurd h hkd⟩

def icells (x : Int) : List Value := [.int .i64 x]
theorem intCell {w : World} {b o : Nat} {xs : List Int} (h : RowC w (some ⟨b, o, none⟩) (xs.flatMap icells)) (k : Nat) (hk : k < xs.length) : w.cell? ⟨b, o + k, none⟩ = some (.int .i64 xs[k]) := by
  have h0 := flat_get icells 1 (fun _ => rfl) 0 (by omega) xs k
  rw [List.getElem?_eq_getElem hk, Option.bind_some] at h0
  obtain ⟨b', o', e, hc⟩ := h _ _ h0
  injection e with e; injection e with e1 e2; subst e1; subst e2
  simpa using hc
theorem intAddr {w : World} {A : Option Addr} {xs : List Int} (h : RowC w A (xs.flatMap icells)) {t : Nat} (ht : t < xs.length) : ∃ b o, A = some ⟨b, o, none⟩ := by
  have h0 := flat_get icells 1 (fun _ => rfl) 0 (by omega) xs t
  rw [List.getElem?_eq_getElem (l := xs) ht, Option.bind_some] at h0
  obtain ⟨b, o, e, _⟩ := h _ _ h0
  exact ⟨b, o, e⟩
theorem d3_of (x : Int) : ∃ k : Nat, wrap64 ((IntKind.u64.wrap x).tmod 3) = (k : Int) ∧ k < 3 := by
  have h0 : 0 ≤ IntKind.u64.wrap x := wrap_u64_nonneg x
  have h1 : (IntKind.u64.wrap x).tmod 3 = IntKind.u64.wrap x % 3 := Int.tmod_eq_emod_of_nonneg h0
  generalize IntKind.u64.wrap x = z at *
  rw [h1]
  refine ⟨(z % 3).toNat, ?_, by omega⟩
  unfold wrap64
  omega

set_option maxRecDepth 100000 in
set_option maxHeartbeats 4000000 in
theorem remapClears_main (w : World) (A : Option Addr) (c : Nat) (xs : List Int) (device : Int) (hn : xs.length ≤ 9223372036854775807) (hr : RowC w A (xs.flatMap icells)) :
    Calls Try.prog 8 #[.slice A xs.length c, .int .i64 device] w fun e w' => e = .returned (.bool true) ∧ Chg (fun _ => False) w w' := by
  obtain ⟨d, hd, hd3⟩ := d3_of device
  have Hd := Lib.hid hd; clear hd
  go_enter Try.func8, Try.ntmps8
  go_wp2_with fail
  refine (awake26 _).mono ?_
  rintro e w0 ⟨rfl, hC⟩
  go_wp2_with fail
  refine (new24_ok 3 w0 (by omega) (by omega)).mono ?_
  rintro e w1 ⟨rfl, h1, hs, hC1⟩
  have hB := hC.size
  replace hC := hC.trans hC1
  clear hC1
  go_wp2_with fail
  refine (new24_ok 3 w1 (by omega) (by omega)).mono ?_
  rintro e w2 ⟨rfl, hu, _, hC1⟩
  rw [hs] at hu ⊢
  replace hC := hC.trans hC1
  replace h1 := h1.keep hC1 id id
  clear hC1 hs
  generalize w0.heap.size = B at *
  go_wp2_with fail
  refine (num16 _ _).mono ?_
  rintro e w3 ⟨rfl, rfl⟩
  go_wp2_with fail
  refine (num16 _ _).mono ?_
  rintro e w3 ⟨rfl, rfl⟩
  go_wp2_with fail
  rw [Hd.out]
  clear Hd
  go_loopw [10] (fun i wr => ∃ k : Nat, k ≤ xs.length ∧ i = .int .i64 k ∧ ∃ f g, TabAt wr 101 115 (B + 1) B 3 f ∧ TabAt wr 101 115 (B + 2 + 1) (B + 2) 3 g ∧ Apart d f g ∧ Chg (fun _ => False) w wr) (fun i _ => xs.length - (intOf i).toNat)
  case atStart => exact ⟨0, by omega, rfl, _, _, h1, hu, fun k _ => ⟨fun _ => rfl, fun _ => rfl⟩, hC⟩
  case round =>
    clear h1 hu hC
    obtain ⟨k, hk, rfl, f, g, hl, hr', hap, hC⟩ := hrel
    by_cases hlt : k < xs.length ∧ k < 30
    · obtain ⟨hlt, h30⟩ := hlt
      obtain ⟨b, o, rfl⟩ := intAddr hr hlt
      have c0 := hC.cell (intCell hr k hlt) id
      obtain ⟨z, hz⟩ : ∃ z, z = xs[k] := ⟨_, rfl⟩
      rw [← hz] at c0
      have HZ := Lib.hid hz; clear hz
      have hk0 : (0 : Int) ≤ k := by omega
      have hk1 : (k : Int) < xs.length := by omega
      have HA := Lib.hid hap; clear hap
      go_wp2_with fail
      go_quiet (fail)
      rename_i nq
      go_wp2_with fail
      generalize hkd : z % 1024 % 3 = kd
      have hkd0 : 0 ≤ kd ∧ kd < 3 := by omega
      generalize hv : z / 4 % 8 = v
      have hv0 : 0 ≤ v ∧ v < 8 := by omega
      generalize hq : z / 32 % 4 = q
      have hq0 : 0 ≤ q ∧ q < 4 := by omega
      clear hkd hv hq
      refine calls_abs (fun W => TabAt W 101 115 (B + 1) B 3 f ∧ TabAt W 101 115 (B + 2 + 1) (B + 2) 3 g ∧ Chg (fun _ => False) w W) ⟨hl.keep (S := fun _ => False) ((Chg.refl _ _).drewN nq) id id, hr'.keep (S := fun _ => False) ((Chg.refl _ _).drewN nq) id id, hC.drewN nq⟩ ?_
      have C0 : Hid (w.cell? ⟨b, o + k, none⟩ = some (.int .i64 z)) := by have := intCell hr k hlt; rw [← HZ.out] at this; exact this
      clear hl hr' c0 hC
      rintro W ⟨hlW, hrW, hCW⟩
      have hin : inR 3 kd v := ⟨hkd0, hv0⟩
      have HIN := Lib.hid hin; clear hin
      refine (set27 _ _ 3 f kd v q W hlW).mono ?_
      rintro e w4 ⟨rfl, hlw4, hD⟩
      have hrw4 := hrW.keep hD (by omega) (by omega)
      have hCw4 : Chg (fun _ => False) w w4 := hCW.trans' hD (fun j hj h => by omega)
      clear hlW hrW hCW hD
      have c0 := hCw4.cell C0.out id
      go_wp2_with fail
      generalize hbb : (z / 128 % 2 == 1) = bb
      have HBB := Lib.hid hbb; clear hbb
      refine (mask31 _ _ 3 _ kd v bb w4 hlw4).mono ?_
      rintro e w5 ⟨rfl, hlw5, hD⟩
      have hrw5 := hrw4.keep hD (by omega) (by omega)
      have hCw5 : Chg (fun _ => False) w w5 := hCw4.trans' hD (fun j hj h => by omega)
      clear hlw4 hrw4 hCw4 hD
      have H1 := Lib.hid hlw5; clear hlw5
      have H2 := Lib.hid hrw5; clear hrw5
      by_cases hkd : kd = (d : Int)
      · have hkdb : (kd != (d : Int)) = false := by simp [hkd]
        have hap := apart_own HA.out kd v q bb HIN.out hq0 (by omega)
        have HAP := Lib.hid hap; clear hap
        have HKD := Lib.hid hkd; clear hkd
        clear c0
        go_wp2
        go_roundw
        case rel => exact ⟨k + 1, by omega, by go_num, _, _, H1.out, H2.out, HAP.out, hCw5⟩
        case measure => simp [intOf]; omega
      · have hkdb : (kd != (d : Int)) = true := by simp [hkd]
        have hap := apart_set HA.out kd v q bb HIN.out hq0 (by omega)
        have HAP := Lib.hid hap; clear hap
        have HKD := Lib.hid hkd; clear hkd
        clear c0
        go_wp2_with fail
        have hlw5 := H1.out
        have hrw5 := H2.out
        clear H1 H2
        refine (set27 _ _ 3 g kd v q w5 hrw5).mono ?_
        rintro e w6 ⟨rfl, hrw6, hD⟩
        have hlw6 := hlw5.keep hD (by omega) (by omega)
        have hCw6 : Chg (fun _ => False) w w6 := hCw5.trans' hD (fun j hj h => by omega)
        clear hrw5 hlw5 hCw5 hD
        have c0 := hCw6.cell C0.out id
        go_wp2_with fail
        generalize hbb : (z / 128 % 2 == 1) = b2
        have hb2 : b2 = bb := by rw [← hbb, HBB.out]
        subst hb2
        clear hbb HBB
        refine (mask31 _ _ 3 _ kd v b2 w6 hrw6).mono ?_
        rintro e w7 ⟨rfl, hrw7, hD⟩
        have hlw7 := hlw6.keep hD (by omega) (by omega)
        have hCw7 : Chg (fun _ => False) w w7 := hCw6.trans' hD (fun j hj h => by omega)
        clear hrw6 hlw6 hCw6 hD
        have H1 := Lib.hid hlw7; clear hlw7
        have H2 := Lib.hid hrw7; clear hrw7
        clear c0
        go_wp2
        go_roundw
        case rel => exact ⟨k + 1, by omega, by go_num, _, _, H1.out, H2.out, HAP.out, hCw7⟩
        case measure => simp [intOf]; omega
    · have hend : ¬ k < xs.length ∨ (k < xs.length ∧ ¬ k < 30) := by omega
      rcases hend with hend | ⟨hend, h30⟩
      · go_wp2_with fail
        have hap1 := hap
        clear hap
        have HA := Lib.hid hap1; clear hap1
        refine (clear33 _ _ 3 f d wr hl).mono ?_
        rintro e w4 ⟨rfl, h4, hD⟩
        have hr4 := hr'.keep hD (by omega) (by omega)
        have hC4 : Chg (fun _ => False) w w4 := hC.trans' hD (fun j hj h => by omega)
        clear hl hr' hC hD
        have e0 : clearC 3 (d : Int) = 0 := if_pos (by omega)
        rw [e0]
        clear e0
        have hlk : ∀ (kk v : Int), inR 3 kk v → lookP 3 kk v (clearF 3 d f) = lookP 3 kk v g ∧ lookM 3 kk v (clearF 3 d f) = lookM 3 kk v g ∧ entE 3 kk v (clearF 3 d f) = entE 3 kk v g ∧ (kk.toNat = d → entE 3 kk v g = 1101) := fun kk v h => apart_look HA.out kk v h hd3
        have HLK := Lib.hid hlk; clear hlk
        generalize clearF 3 (d : Int) f = f' at *
        go_wp2_with fail
        go_loopw [15] (fun i wq => ∃ kk : Nat, kk ≤ 3 ∧ i = .int .i64 kk ∧ TabAt wq 101 115 (B + 1) B 3 f' ∧ TabAt wq 101 115 (B + 2 + 1) (B + 2) 3 g ∧ Chg (fun _ => False) w wq) (fun i _ => 3 - (intOf i).toNat)
        case atStart => exact ⟨0, by omega, rfl, h4, hr4, hC4⟩
        case round =>
          clear h4 hr4 hC4
          rename_i wq _
          obtain ⟨kk, hkk, rfl, hl, hr', hC⟩ := hrel
          by_cases hk3 : kk < 3
          · have hk3b : decide ((kk : Int) < 3) = true := by simp; omega
            go_wp2_with fail
            go_loopw [16] (fun i wz => ∃ v : Nat, v ≤ 8 ∧ i = .int .i64 v ∧ TabAt wz 101 115 (B + 1) B 3 f' ∧ TabAt wz 101 115 (B + 2 + 1) (B + 2) 3 g ∧ Chg (fun _ => False) w wz) (fun i _ => 8 - (intOf i).toNat)
            case atStart => exact ⟨0, by omega, rfl, hl, hr', hC⟩
            case round =>
              clear hl hr' hC
              obtain ⟨v, hv, rfl, hl, hr', hC⟩ := hrel
              by_cases hv8 : v < 8
              · have hin : inR 3 kk v := ⟨by omega, by omega⟩
                obtain ⟨e1, e2, e3, e4⟩ := HLK.out _ _ hin
                have E4 := Lib.hid e4; clear e4 hin
                go_wp2_with fail
                refine (look35c _ _ 3 f' kk v _ hl).mono ?_
                rintro e w6 ⟨rfl, hl6, hD⟩
                have hr6 := hr'.keep hD id id
                have hC6 := hC.trans hD
                clear hl hr' hC hD
                rw [e1, e2, e3]
                clear e1 e2 e3
                go_wp2_with fail
                refine (look35c _ _ 3 g kk v _ hr6).mono ?_
                rintro e w7 ⟨rfl, hr7, hD⟩
                have hl7 := hl6.keep hD id id
                have hC7 := hC6.trans hD
                clear hl6 hr6 hC6 hD
                generalize lookP 3 (kk : Int) v g = x1 at *
                generalize lookM 3 (kk : Int) v g = x2 at *
                generalize hx3 : entE 3 (kk : Int) v g = x3 at *
                clear hx3
                by_cases hkd : kk = d
                · have ex := E4.out (by omega)
                  subst ex
                  have HKD := Lib.hid hkd; clear hkd
                  have hkb : ((kk : Int) == (d : Int)) = true := by have := HKD.out; simp [this]
                  go_wp2_with ((refine (num16 _ _).mono ?_; rintro e w8 ⟨rfl, rfl⟩))
                  go_roundw
                  case rel => exact ⟨v + 1, by omega, by go_num, hl7, hr7, hC7⟩
                  case measure => simp [intOf]; omega
                · have hkb : ((kk : Int) == (d : Int)) = false := by simp; omega
                  have HKD := Lib.hid hkd; clear hkd
                  go_wp2_with ((refine (num16 _ _).mono ?_; rintro e w8 ⟨rfl, rfl⟩))
                  go_roundw
                  case rel => exact ⟨v + 1, by omega, by go_num, hl7, hr7, hC7⟩
                  case measure => simp [intOf]; omega
              · go_wp2
                skip
                go_roundw
                case rel => exact ⟨kk + 1, by omega, by go_num, hl, hr', hC⟩
                case measure => simp [intOf]; omega
          · clear hl hr'
            go_wp2_with ((refine (num16 _ _).mono ?_; rintro e w8 ⟨rfl, rfl⟩))
            go_ret
            exact ⟨rfl, hC⟩
      · go_wp2_with fail
        have hap1 := hap
        clear hap
        have HA := Lib.hid hap1; clear hap1
        refine (clear33 _ _ 3 f d wr hl).mono ?_
        rintro e w4 ⟨rfl, h4, hD⟩
        have hr4 := hr'.keep hD (by omega) (by omega)
        have hC4 : Chg (fun _ => False) w w4 := hC.trans' hD (fun j hj h => by omega)
        clear hl hr' hC hD
        have e0 : clearC 3 (d : Int) = 0 := if_pos (by omega)
        rw [e0]
        clear e0
        have hlk : ∀ (kk v : Int), inR 3 kk v → lookP 3 kk v (clearF 3 d f) = lookP 3 kk v g ∧ lookM 3 kk v (clearF 3 d f) = lookM 3 kk v g ∧ entE 3 kk v (clearF 3 d f) = entE 3 kk v g ∧ (kk.toNat = d → entE 3 kk v g = 1101) := fun kk v h => apart_look HA.out kk v h hd3
        have HLK := Lib.hid hlk; clear hlk
        generalize clearF 3 (d : Int) f = f' at *
        go_wp2_with fail
        go_loopw [15] (fun i wq => ∃ kk : Nat, kk ≤ 3 ∧ i = .int .i64 kk ∧ TabAt wq 101 115 (B + 1) B 3 f' ∧ TabAt wq 101 115 (B + 2 + 1) (B + 2) 3 g ∧ Chg (fun _ => False) w wq) (fun i _ => 3 - (intOf i).toNat)
        case atStart => exact ⟨0, by omega, rfl, h4, hr4, hC4⟩
        case round =>
          clear h4 hr4 hC4
          rename_i wq _
          obtain ⟨kk, hkk, rfl, hl, hr', hC⟩ := hrel
          by_cases hk3 : kk < 3
          · have hk3b : decide ((kk : Int) < 3) = true := by simp; omega
            go_wp2_with fail
            go_loopw [16] (fun i wz => ∃ v : Nat, v ≤ 8 ∧ i = .int .i64 v ∧ TabAt wz 101 115 (B + 1) B 3 f' ∧ TabAt wz 101 115 (B + 2 + 1) (B + 2) 3 g ∧ Chg (fun _ => False) w wz) (fun i _ => 8 - (intOf i).toNat)
            case atStart => exact ⟨0, by omega, rfl, hl, hr', hC⟩
            case round =>
              clear hl hr' hC
              obtain ⟨v, hv, rfl, hl, hr', hC⟩ := hrel
              by_cases hv8 : v < 8
              · have hin : inR 3 kk v := ⟨by omega, by omega⟩
                obtain ⟨e1, e2, e3, e4⟩ := HLK.out _ _ hin
                have E4 := Lib.hid e4; clear e4 hin
                go_wp2_with fail
                refine (look35c _ _ 3 f' kk v _ hl).mono ?_
                rintro e w6 ⟨rfl, hl6, hD⟩
                have hr6 := hr'.keep hD id id
                have hC6 := hC.trans hD
                clear hl hr' hC hD
                rw [e1, e2, e3]
                clear e1 e2 e3
                go_wp2_with fail
                refine (look35c _ _ 3 g kk v _ hr6).mono ?_
                rintro e w7 ⟨rfl, hr7, hD⟩
                have hl7 := hl6.keep hD id id
                have hC7 := hC6.trans hD
                clear hl6 hr6 hC6 hD
                generalize lookP 3 (kk : Int) v g = x1 at *
                generalize lookM 3 (kk : Int) v g = x2 at *
                generalize hx3 : entE 3 (kk : Int) v g = x3 at *
                clear hx3
                by_cases hkd : kk = d
                · have ex := E4.out (by omega)
                  subst ex
                  have HKD := Lib.hid hkd; clear hkd
                  have hkb : ((kk : Int) == (d : Int)) = true := by have := HKD.out; simp [this]
                  go_wp2_with ((refine (num16 _ _).mono ?_; rintro e w8 ⟨rfl, rfl⟩))
                  go_roundw
                  case rel => exact ⟨v + 1, by omega, by go_num, hl7, hr7, hC7⟩
                  case measure => simp [intOf]; omega
                · have hkb : ((kk : Int) == (d : Int)) = false := by simp; omega
                  have HKD := Lib.hid hkd; clear hkd
                  go_wp2_with ((refine (num16 _ _).mono ?_; rintro e w8 ⟨rfl, rfl⟩))
                  go_roundw
                  case rel => exact ⟨v + 1, by omega, by go_num, hl7, hr7, hC7⟩
                  case measure => simp [intOf]; omega
              · go_wp2
                skip
                go_roundw
                case rel => exact ⟨kk + 1, by omega, by go_num, hl, hr', hC⟩
                case measure => simp [intOf]; omega
          · clear hl hr'
            go_wp2_with ((refine (num16 _ _).mono ?_; rintro e w8 ⟨rfl, rfl⟩))
            go_ret
            exact ⟨rfl, hC⟩

theorem trod_icell {H : Type} {enc : TypeId × Value → H} {w : World} {base : Nat} {spare : Nat → Bool} {held : Bool} {m : Nat} {cs : List Value} {y : DataW H × List MemPlace} (h : DataW.trod enc Try.prog w base spare held m 3 cs = some y) : ∃ x : Int, cs = icells x ∧ True := by
  obtain ⟨n, e, _⟩ := DataW.trod_int Try.underlying3 h
  exact ⟨n, e, trivial⟩
theorem remapClears_walk (w : World) (A : Option Addr) (c : Nat) (xs : List Int) (hm : xs.length ≤ maxLen) (hr : RowC w A (xs.flatMap icells)) (_hw : ∀ x ∈ xs, True) (device : Int) :
    Calls Try.prog 8 #[.slice A xs.length c, .int .i64 device] w fun e w' => e = .returned (.bool true) ∧ Below w.heap.size w w' :=
  (remapClears_main w A c xs device (by unfold maxLen at hm; omega) hr).mono fun e w' ⟨h1, h2⟩ => ⟨h1, h2.below (Nat.le_refl _) (fun _ h => h.elim)⟩

end Go.Proofs.Ytochadejlglfgaa
