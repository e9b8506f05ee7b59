/- Chapter 13: a unit: Unroute, Raise, what is masked, Deliver, Clear. -/
import Derived.Test.YtpnhdiajiieonaaUnit
set_option linter.unusedSimpArgs false
set_option linter.unusedVariables false
namespace Go.Proofs.Ytpnhdiajiieonaa
open Go.RowKit

def UPost (u nd np : Nat) (f' : Nat → Ent) (S' : Nat → Nat → Bool) (F : Nat → Prop) (c : Int) (w : World) (e : Ending) (w' : World) : Prop := e = .returned (.int .i64 c) ∧ ∃ F', UAt w' u nd np f' S' F' ∧ FootOf w F F' ∧ Chg F w w'
theorem footSize {w w1 : World} {F F' : Nat → Prop} (h : FootOf w1 F F') (hs : w.heap.size ≤ w1.heap.size) : FootOf w F F' := fun k hk => by
  rcases h k hk with h | h
  · exact .inl h
  · exact .inr (by omega)
theorem OwnC.baseLe {α : Type} {cells : α → List Value} {C e : Nat} {w : World} {base base' : Nat} {v : Value} {L : List α} (h : OwnC cells C e w base v L) (hb : base' ≤ base) : OwnC cells C e w base' v L :=
  ⟨h.1, h.2.imp id (fun ⟨g, cap, cur, a, b, r⟩ => ⟨g, cap, cur, a, Nat.le_trans hb b, r⟩)⟩
theorem told_zero {nd : Nat} {d v : Int} {f : Nat → Ent} : toldC (entE nd d v f) = 0 ↔ entE nd d v f = 0 := by
  unfold toldC entE
  split <;> (try split) <;> decide
set_option maxHeartbeats 1000000 in
theorem uUnroute (u nd np : Nat) (d v : Int) (f : Nat → Ent) (S : Nat → Nat → Bool) (F : Nat → Prop) (w : World) (h : UAt w u nd np f S F) (hn : np ≤ 4) :
    Calls Try.prog 65 #[.pointer (some ⟨u, 0, none⟩), .int .i64 d, .int .i64 v] w (UPost u nd np (unsetF nd d v f) (unrouteS nd d v f S) F (toldC (entE nd d v f)) w) := by
  obtain ⟨tp, r, p, Fs, h1, h2, h3, h4, h5, h6, h7⟩ := id h
  have c1 := blk_cell h1 1
  have hset := unset29 tp r nd f d v w h2
  have hfin := fun w' ht hC => h.tab (w' := w') (f' := unsetF nd d v f) h1 h2 h3 h4 h5 h6 h7 ht hC
  have HSET := Lib.hid hset; clear hset
  have HF := Lib.hid hfin; clear hfin h1 h2 h3 h4 h5 h6 h7 h
  unfold unrouteS
  have ht0 := told_zero (nd := nd) (d := d) (v := v) (f := f)
  by_cases h0 : entE nd d v f = 0
  · rw [if_pos h0]
    have e0 := ht0.2 h0
    clear h0 ht0
    rw [e0]
    have E0 := Lib.hid e0; clear e0
    go_enter Try.func65, Try.ntmps65
    go_wp2_with fail
    refine HSET.out.mono ?_
    rintro e w1 ⟨rfl, ht, hC⟩
    have hE := HF.out w1 ht hC
    have HE := Lib.hid hE; clear hE ht hC
    clear HF HSET c1
    go_wp2_with fail
    refine (told_c _ w1).mono ?_
    rintro e w2 ⟨rfl, rfl⟩
    rw [E0.out]
    obtain ⟨tp', r', p', Fs', g1, g2, g3, g4, g5, g6, g7⟩ := HE.out.1
    have c2 := blk_cell g1 2
    have hdr := pDrop p' np d v S Fs' w1 g3 hn
    have hfs := fun w' F'' k3 kf kC => HE.out.1.sets (w' := w') (Fs' := F'') (S' := fun a k => S a k && !isKey d v k) g1 g2 g4 g5 g6 g7 k3 kf kC
    have HDR := Lib.hid hdr; clear hdr
    have HFS := Lib.hid hfs; clear hfs g1 g2 g3 g4 g5 g6 g7
    go_wp2_with fail
    refine HDR.out.mono ?_
    rintro e w3 ⟨rfl, Fs2, k3, kf, kC⟩
    obtain ⟨F', m1, m2, _, m3⟩ := HFS.out w3 Fs2 k3 kf kC
    have hfin : ∃ F', UAt w3 u nd np (unsetF nd d v f) (fun a k => S a k && !isKey d v k) F' ∧ FootOf w F F' ∧ Chg F w w3 := ⟨F', m1, footSize m2 HE.out.2.size, HE.out.2.trans m3⟩
    have HFIN := Lib.hid hfin; clear hfin m1 m2 m3 k3 kf kC
    clear HDR HFS HE
    go_wp2_with fail
    go_ret
    exact ⟨rfl, HFIN.out⟩
  · rw [if_neg h0]
    have e0 : toldC (entE nd d v f) ≠ 0 := fun e => h0 (ht0.1 e)
    have b0 : (toldC (entE nd d v f) == 0) = false := by simpa using e0
    clear h0 ht0 e0
    go_enter Try.func65, Try.ntmps65
    go_wp2_with fail
    refine HSET.out.mono ?_
    rintro e w1 ⟨rfl, ht, hC⟩
    have hE := HF.out w1 ht hC
    have HE := Lib.hid hE; clear hE ht hC
    clear HF HSET c1
    go_wp2_with fail
    refine (told_c _ w1).mono ?_
    rintro e w2 ⟨rfl, rfl⟩
    go_wp2_with fail
    go_ret
    exact ⟨rfl, F, HE.out.1, fun k hk => .inl hk, HE.out.2⟩
set_option maxHeartbeats 1000000 in
theorem uClear (u nd np : Nat) (d : Int) (f : Nat → Ent) (S : Nat → Nat → Bool) (F : Nat → Prop) (w : World) (h : UAt w u nd np f S F) (hn : np ≤ 4) :
    Calls Try.prog 68 #[.pointer (some ⟨u, 0, none⟩), .int .i64 d] w (UPost u nd np (clearF nd d f) (uclearS nd d S) F (toldC (clearC nd d)) w) := by
  obtain ⟨tp, r, p, Fs, h1, h2, h3, h4, h5, h6, h7⟩ := id h
  have c1 := blk_cell h1 1
  have hset := clear33 tp r nd f d w h2
  have hfin := fun w' ht hC => h.tab (w' := w') (f' := clearF nd d f) h1 h2 h3 h4 h5 h6 h7 ht hC
  have HSET := Lib.hid hset; clear hset
  have HF := Lib.hid hfin; clear hfin h1 h2 h3 h4 h5 h6 h7 h
  unfold uclearS
  by_cases h0 : clearC nd d = 0
  · rw [if_pos h0]
    rw [h0] at HSET ⊢
    rw [show toldC 0 = 0 from rfl]
    have E0 : Hid (toldC 0 = 0) := Lib.hid rfl
    clear h0
    go_enter Try.func68, Try.ntmps68
    go_wp2_with fail
    refine HSET.out.mono ?_
    rintro e w1 ⟨rfl, ht, hC⟩
    have hE := HF.out w1 ht hC
    have HE := Lib.hid hE; clear hE ht hC
    clear HF HSET c1
    go_wp2_with fail
    refine (told_c _ w1).mono ?_
    rintro e w2 ⟨rfl, rfl⟩
    rw [E0.out]
    obtain ⟨tp', r', p', Fs', g1, g2, g3, g4, g5, g6, g7⟩ := HE.out.1
    have c2 := blk_cell g1 2
    have hdr := pClear p' np d S Fs' w1 g3 hn
    have hfs := fun w' F'' k3 kf kC => HE.out.1.sets (w' := w') (Fs' := F'') (S' := fun a k => S a k && !isDev d k) g1 g2 g4 g5 g6 g7 k3 kf kC
    have HDR := Lib.hid hdr; clear hdr
    have HFS := Lib.hid hfs; clear hfs g1 g2 g3 g4 g5 g6 g7
    go_wp2_with fail
    refine HDR.out.mono ?_
    rintro e w3 ⟨rfl, Fs2, k3, kf, kC⟩
    obtain ⟨F', m1, m2, _, m3⟩ := HFS.out w3 Fs2 k3 kf kC
    have hfin : ∃ F', UAt w3 u nd np (clearF nd d f) (fun a k => S a k && !isDev d k) F' ∧ FootOf w F F' ∧ Chg F w w3 := ⟨F', m1, footSize m2 HE.out.2.size, HE.out.2.trans m3⟩
    have HFIN := Lib.hid hfin; clear hfin m1 m2 m3 k3 kf kC
    clear HDR HFS HE
    go_wp2_with fail
    go_ret
    exact ⟨rfl, HFIN.out⟩
  · rw [if_neg h0]
    have e1 : clearC nd d = 1100 := by
      unfold clearC at h0 ⊢
      split
      · rename_i hh; rw [if_pos hh] at h0; exact absurd rfl h0
      · rfl
    rw [e1] at HSET ⊢
    rw [show toldC 1100 = 1300 from rfl]
    have E0 : Hid (toldC 1100 = 1300) := Lib.hid rfl
    clear h0 e1
    go_enter Try.func68, Try.ntmps68
    go_wp2_with fail
    refine HSET.out.mono ?_
    rintro e w1 ⟨rfl, ht, hC⟩
    have hE := HF.out w1 ht hC
    have HE := Lib.hid hE; clear hE ht hC
    clear HF HSET c1
    go_wp2_with fail
    refine (told_c _ w1).mono ?_
    rintro e w2 ⟨rfl, rfl⟩
    rw [E0.out]
    go_wp2_with fail
    go_ret
    exact ⟨rfl, F, HE.out.1, fun k hk => .inl hk, HE.out.2⟩
set_option maxHeartbeats 1000000 in
theorem uRaise (u nd np : Nat) (d v q : Int) (f : Nat → Ent) (S : Nat → Nat → Bool) (F : Nat → Prop) (w : World) (h : UAt w u nd np f S F) (hn : np ≤ 4) :
    Calls Try.prog 67 #[.pointer (some ⟨u, 0, none⟩), .int .i64 d, .int .i64 v, .int .i64 q] w (UPost u nd np f (uraiseS nd np d v q f S) F (uraiseC nd np d v q f) w) := by
  obtain ⟨tp, r, p, Fs, h1, h2, h3, h4, h5, h6, h7⟩ := id h
  have c1 := blk_cell h1 1
  have hlk := look35 tp r nd f d v w h2
  have hth : ∀ n, _ := fun n => uThere u np _ _ q (w.drewN n) h1
  have HLK := Lib.hid hlk; clear hlk
  have HTH := Lib.hid hth; clear hth
  have hc2 : ∀ n, (w.drewN n).cell? ⟨u, 2, none⟩ = some (.pointer (some ⟨p, 0, none⟩)) := fun n => blk_cell h1 2
  have HC2 := Lib.hid hc2; clear hc2
  have hrs : ∀ n, _ := fun n => pRaise p np q d v S Fs (w.drewN n) (h3.keepF ((Chg.refl _ _).drewN n)) hn
  have HRS := Lib.hid hrs; clear hrs
  have hfs := fun n w' F'' k3 kf kC => (h.keepN ((Chg.refl _ _).drewN n)).sets (w' := w') (Fs' := F'') (S' := raiseS np q d v S) h1 (h2.keep ((Chg.refl (fun _ => False) _).drewN n) id id) h4 h5 h6 h7 k3 kf kC
  have HFS := Lib.hid hfs; clear hfs
  have H := Lib.hid h; clear h h1 h2 h3 h4 h5 h6 h7
  have fin : ∀ n, ∃ F', UAt (w.drewN n) u nd np f S F' ∧ FootOf w F F' ∧ Chg F w (w.drewN n) := fun n => ⟨F, H.out.keepN ((Chg.refl _ _).drewN n), fun k hk => .inl hk, (Chg.refl _ _).drewN n⟩
  have FIN := Lib.hid fin; clear fin
  by_cases hA : entE nd d v f = 1100
  · have hc : uraiseC nd np d v q f = 1300 := by unfold uraiseC; exact if_pos (.inl hA)
    have hS : uraiseS nd np d v q f S = S := by unfold uraiseS; rw [hc]; exact if_neg (by decide)
    rw [hc, hS]
    clear hc hS
    rw [hA] at HLK
    clear hA
    generalize lookP nd d v f = x at *
    generalize lookM nd d v f = y at *
    go_enter Try.func67, Try.ntmps67
    go_wp2_with fail
    refine HLK.out.mono ?_
    rintro e w1 ⟨rfl, n, rfl⟩
    go_wp2_with fail
    go_ret
    exact ⟨rfl, FIN.out n⟩
  · have bA : (entE nd d v f == 1100) = false := by simpa using hA
    by_cases hq : inP np q
    · have h9 : ¬ (entE nd d v f = 1100 ∨ ¬ inP np q) := fun h => h.elim hA (fun h => h hq)
      rw [decide_eq_true hq] at HTH
      by_cases hz : entE nd d v f = 0
      · by_cases hl : lookP nd d v f = q
        · have hc : uraiseC nd np d v q f = 0 := by unfold uraiseC; rw [if_neg h9]; exact if_neg (fun h => h.elim (fun h => h hz) (fun h => h hl))
          have hS : uraiseS nd np d v q f S = raiseS np q d v S := by unfold uraiseS; rw [hc]; exact if_pos rfl
          rw [hc, hS]
          clear hc hS h9
          rw [hz, hl] at HLK
          clear hA bA hz hl hq
          generalize lookM nd d v f = y at *
          go_enter Try.func67, Try.ntmps67
          go_wp2_with fail
          refine HLK.out.mono ?_
          rintro e w1 ⟨rfl, n, rfl⟩
          go_wp2_with fail
          refine (HTH.out n).mono ?_
          rintro e w2 ⟨rfl, rfl⟩
          have c2 := HC2.out n
          go_wp2_with fail
          refine (HRS.out n).mono ?_
          rintro e w3 ⟨rfl, Fs2, k3, kf, kC⟩
          obtain ⟨F', m1, m2, _, m3⟩ := HFS.out n w3 Fs2 k3 kf kC
          have hfin : ∃ F', UAt w3 u nd np f (raiseS np q d v S) F' ∧ FootOf w F F' ∧ Chg F w w3 := ⟨F', m1, m2, ((Chg.refl _ _).drewN n).trans m3⟩
          have HFIN := Lib.hid hfin; clear hfin m1 m2 m3 k3 kf kC
          clear HLK HTH HC2 HRS HFS
          go_wp2_with fail
          go_ret
          exact ⟨rfl, HFIN.out⟩
        · have hc : uraiseC nd np d v q f = 1301 := by unfold uraiseC; rw [if_neg h9]; exact if_pos (.inr hl)
          have hS : uraiseS nd np d v q f S = S := by unfold uraiseS; rw [hc]; exact if_neg (by decide)
          rw [hc, hS]
          clear hc hS h9
          have bl : (lookP nd d v f != q) = true := by simpa using hl
          rw [hz] at HLK
          clear hA bA hz hl hq
          generalize lookM nd d v f = y at *
          go_enter Try.func67, Try.ntmps67
          go_wp2_with fail
          refine HLK.out.mono ?_
          rintro e w1 ⟨rfl, n, rfl⟩
          go_wp2_with fail
          refine (HTH.out n).mono ?_
          rintro e w2 ⟨rfl, rfl⟩
          go_wp2_with fail
          go_ret
          exact ⟨rfl, FIN.out n⟩
      · have hc : uraiseC nd np d v q f = 1301 := by unfold uraiseC; rw [if_neg h9]; exact if_pos (.inl hz)
        have hS : uraiseS nd np d v q f S = S := by unfold uraiseS; rw [hc]; exact if_neg (by decide)
        rw [hc, hS]
        clear hc hS h9
        have bz : (entE nd d v f != 0) = true := by simpa using hz
        clear hA hz hq
        generalize entE nd d v f = z at *
        generalize lookP nd d v f = x at *
        generalize lookM nd d v f = y at *
        go_enter Try.func67, Try.ntmps67
        go_wp2_with fail
        refine HLK.out.mono ?_
        rintro e w1 ⟨rfl, n, rfl⟩
        go_wp2_with fail
        refine (HTH.out n).mono ?_
        rintro e w2 ⟨rfl, rfl⟩
        go_wp2_with fail
        go_ret
        exact ⟨rfl, FIN.out n⟩
    · have hc : uraiseC nd np d v q f = 1300 := by unfold uraiseC; exact if_pos (.inr hq)
      have hS : uraiseS nd np d v q f S = S := by unfold uraiseS; rw [hc]; exact if_neg (by decide)
      rw [hc, hS]
      clear hc hS
      rw [decide_eq_false hq] at HTH
      clear hA hq
      generalize entE nd d v f = z at *
      generalize lookP nd d v f = x at *
      generalize lookM nd d v f = y at *
      go_enter Try.func67, Try.ntmps67
      go_wp2_with fail
      refine HLK.out.mono ?_
      rintro e w1 ⟨rfl, n, rfl⟩
      go_wp2_with fail
      refine (HTH.out n).mono ?_
      rintro e w2 ⟨rfl, rfl⟩
      go_wp2_with fail
      go_ret
      exact ⟨rfl, FIN.out n⟩
theorem maskedL_succ (nd : Nat) (f : Nat → Ent) (c : Nat) : maskedL nd f (c + 1) = maskedL nd f c ++ (if maskB nd f c = true then [toIq 0 c] else []) := by
  unfold maskedL
  rw [List.range_succ, List.filter_append, List.map_append]
  congr 1
  cases h : maskB nd f c <;> simp [h]
theorem maskedL_len (nd : Nat) (f : Nat → Ent) (c : Nat) : (maskedL nd f c).length ≤ c := by
  unfold maskedL
  rw [List.length_map]
  exact Nat.le_trans (List.length_filter_le _ _) (by rw [List.length_range]; exact Nat.le_refl _)
theorem lookM_k {nd : Nat} {f : Nat → Ent} (hM : MInv f) (k : Nat) : lookM nd ((k : Int) / 8) ((k : Int) % 8) f = maskB nd f k := by
  unfold lookM maskB entE
  have hix : ix ((k : Int) / 8) ((k : Int) % 8) = k := by unfold ix; omega
  rw [hix]
  by_cases hk : k < 8 * nd
  · rw [if_pos (show inR nd ((k : Int) / 8) ((k : Int) % 8) by unfold inR; omega), decide_eq_true hk, Bool.true_and]
    cases hi : (f k).is with
    | true => rfl
    | false =>
      cases hm : (f k).masked with
      | true => have := hM k hm; rw [hi] at this; cases this
      | false => rfl
  · rw [if_neg (show ¬ inR nd ((k : Int) / 8) ((k : Int) % 8) by unfold inR; omega), decide_eq_false hk]; rfl
def UMaskedPost (nd : Nat) (f : Nat → Ent) (w : World) (e : Ending) (w' : World) : Prop := ∃ v, e = .returned v ∧ OwnC iqc 3 92 w' w.heap.size v (maskedL nd f 32) ∧ Chg (fun _ => False) w w'
set_option maxRecDepth 100000 in
set_option maxHeartbeats 2000000 in
theorem uMasked (tp r nd : Nat) (f : Nat → Ent) (w : World) (h : TabAt w 214 229 tp r nd f) (hM : MInv f) :
    Calls Try.prog 109 #[.int .i64 4, .func (.func 110) #[.pointer (some ⟨tp, 0, none⟩)] #[]] w (UMaskedPost nd f w) := by
  have H := Lib.hid h; clear h
  have HM := Lib.hid hM; clear hM
  go_enter Try.func109, Try.ntmps109
  go_wp2_with fail
  go_loopw [12, 5] (fun s so wr => ∃ k : Nat, k ≤ 32 ∧ s = .int .i64 k ∧ OwnC iqc 3 92 wr w.heap.size so (maskedL nd f k) ∧ Chg (fun _ => False) w wr) (fun s _ _ => 32 - (intOf s).toNat)
  case atStart => exact ⟨0, by omega, rfl, OwnC.nil _ _, Chg.refl _ _⟩
  case round =>
    obtain ⟨k, hk, rfl, ho, hC⟩ := hrel
    have k0 : (0 : Int) ≤ k := by omega
    by_cases hlt : k < 32
    · have k1 : (k : Int) < 32 := by omega
      obtain ⟨w2, hw2⟩ : ∃ x, x = wr := ⟨_, rfl⟩
      subst wr
      have hlk := look35 tp r nd f ((k : Int) / 8) ((k : Int) % 8) w2 (H.out.keep hC id id)
      rw [lookM_k HM.out k] at hlk
      have hs := maskedL_succ nd f k
      have hlen := maskedL_len nd f k
      have HO := Lib.hid ho; clear ho
      have HC := Lib.hid hC; clear hC
      have HLK := Lib.hid hlk; clear hlk
      cases hm : maskB nd f k with
      | false =>
        rw [hm] at HLK hs
        have hs2 : maskedL nd f (k + 1) = maskedL nd f k := by rw [hs]; simp
        have HS := Lib.hid hs2; clear hs2 hs hm
        go_wp2_with fail
        refine HLK.out.mono ?_
        rintro e w3 ⟨rfl, n, rfl⟩
        go_wp2_with fail
        go_roundw
        case rel => exact ⟨k + 1, by omega, by go_num, by rw [HS.out]; exact HO.out.keep ((Chg.refl (fun _ => False) _).drewN n) (fun _ _ => id), HC.out.drewN n⟩
        case measure => simp [intOf]; omega
      | true =>
        rw [hm] at HLK hs
        have hs2 : maskedL nd f (k + 1) = maskedL nd f k ++ [toIq 0 k] := by rw [hs]; simp
        have HS := Lib.hid hs2; clear hs2 hs hm
        obtain ⟨q0, hi0, hz0, hz1, hz2⟩ := info_parts Try.info92
        obtain ⟨x, hx⟩ : ∃ x, x = (k : Int) / 8 := ⟨_, rfl⟩
        obtain ⟨y, hy⟩ : ∃ y, y = (k : Int) % 8 := ⟨_, rfl⟩
        have hown : ∀ n o, ((w2.drewN n).alloc o).ownsRow w.heap.size 92 3 u5 (maskedL nd f k).length ((maskedL nd f k).flatMap iqc) := fun n o => (HO.out.keep (((Chg.refl (fun _ => False) _).drewN n).alloc o) (fun _ _ => id))
        have hnews : ∀ n, RowC ((w2.drewN n).alloc (.cells #[.int .i64 0, .int .i64 x, .int .i64 y] 92)) (some ⟨w2.heap.size, 0, none⟩) [.int .i64 0, .int .i64 x, .int .i64 y] := fun n => rowc_blk (blk_new (w2.drewN n) (.cells #[.int .i64 0, .int .i64 x, .int .i64 y] 92))
        have hb2 : ∀ n o, w.heap.size ≤ ((w2.drewN n).alloc o).heap.size := fun n o => by have := HC.out.size; simp; omega
        have hiq : iqc (toIq 0 k) = [.int .i64 0, .int .i64 x, .int .i64 y] := by rw [hx, hy]; rfl
        have HOW := Lib.hid hown; clear hown
        have HN := Lib.hid hnews; clear hnews
        have HB := Lib.hid hb2; clear hb2
        have HIQ := Lib.hid hiq; clear hiq
        rw [← hx, ← hy] at HLK
        have HX := Lib.hid hx; clear hx
        have HY := Lib.hid hy; clear hy
        go_wp2_with fail
        rw [← HX.out, ← HY.out]
        refine HLK.out.mono ?_
        rintro e w3 ⟨rfl, n, rfl⟩
        have hx2 : (k : Int) / 8 = x := HX.out.symm
        have hy2 : (k : Int) % 8 = y := HY.out.symm
        go_wp2_with (at_builtin; refine wpList_append_row _ rfl _ _ 77 rfl w.heap.size 92 q0 (.agg #[.int .i64 0, .int .i64 0, .int .i64 0]) 3 24 Try.underlying77 hi0 hz0 hz1 hz2 rfl (by decide) u5 (maskedL nd f k).length ((maskedL nd f k).flatMap iqc) rfl (HOW.out n _) (some ⟨w2.heap.size, 0, none⟩) 1 1 [.int .i64 0, .int .i64 x, .int .i64 y] rfl rfl (HN.out n) (by simp [Value.oneCell']) (by unfold maxLen; omega) (by omega) (HB.out n _) ?_; intro v5 w5 hown5 hgr hat5)
        have hfin : OwnC iqc 3 92 w5 w.heap.size v5 (maskedL nd f (k + 1)) ∧ Chg (fun _ => False) w w5 := by
          refine ⟨?_, ((HC.out.drewN n).alloc _).trans' (Chg.grown (S := fun j => some j = u5.ownBlock) (Chg.refl _ _) hgr (fun j hj _ => hj.symm)) (fun j hj e => by have := (own_lt HO.out e.symm).1; omega)⟩
          rw [HS.out]
          unfold OwnC
          rw [List.length_append, List.flatMap_append, List.flatMap_cons, HIQ.out]
          simpa using hown5
        have HF := Lib.hid hfin; clear hfin hown5 hgr hat5
        go_roundw
        case rel => exact ⟨k + 1, by omega, by go_num, HF.out.1, HF.out.2⟩
        case measure => simp [intOf]; omega
    · obtain rfl : k = 32 := by omega
      have HF := Lib.hid (And.intro ho hC); clear ho hC hlt hk
      go_wp2_with fail
      go_ret
      exact ⟨_, rfl, HF.out⟩
end Go.Proofs.Ytpnhdiajiieonaa
