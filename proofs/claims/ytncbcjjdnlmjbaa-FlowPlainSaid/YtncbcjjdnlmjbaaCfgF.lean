/- Configs: are all frames there, and unlike? -/
import Derived.Test.YtncbcjjdnlmjbaaCfgE
set_option linter.unusedSimpArgs false
set_option linter.unusedVariables false
namespace Go.Proofs.Ytncbcjjdnlmjbaa
open Go.RowKit

theorem onceL_append (n : Int) : ∀ (S xs ys : List Int), onceL n S (xs ++ ys) = (onceL n S xs).bind (fun S' => onceL n S' ys)
  | S, [], ys => rfl
  | S, f :: xs, ys => by
    simp only [List.cons_append, onceL]
    split
    · exact onceL_append n _ xs ys
    · rfl
def onceP (n : Nat) (S : List Int) (f : Int) : Prop := 0 ≤ f ∧ f < n ∧ f ∉ S
instance (n : Nat) (S : List Int) (f : Int) : Decidable (onceP n S f) := by unfold onceP; infer_instance
theorem onceL_snoc (n : Nat) (S xs : List Int) (f : Int) : onceL n S (xs ++ [f]) = (onceL n S xs).bind (fun S' => if onceP n S' f then some (f :: S') else none) := by
  rw [onceL_append]
  congr 1
/-- Block r holds a bool a frame: is it seen? -/
def SeenAt (w : World) (r n : Nat) (S : List Int) : Prop := ∃ cs, w.heap[r]? = some (.cells cs 4 (0, 0)) ∧ cs.size = n ∧ ∀ k, k < n → cs[k]? = some (.bool (decide ((k : Int) ∈ S)))
/-- What the closure holds. -/
structure OnceIn (w : World) (b B0 B1 r n : Nat) (S : List Int) : Prop where
  h0 : w.cell? ⟨B0, 0, none⟩ = some (.pointer (some ⟨b, 0, none⟩))
  h1 : w.cell? ⟨B1, 0, none⟩ = some (.slice (some ⟨r, 0, none⟩) n n)
  hf : w.cell? ⟨b, 0, none⟩ = some (.int .i64 n)
  hs : SeenAt w r n S
  n0 : B0 ≠ r
  n1 : B1 ≠ r
  nb : b ≠ r
theorem OnceIn.keepN {w w' : World} {b B0 B1 r n : Nat} {S : List Int} (h : OnceIn w b B0 B1 r n S) (hC : Chg (fun _ => False) w w') : OnceIn w' b B0 B1 r n S :=
  ⟨hC.cell h.h0 id, hC.cell h.h1 id, hC.cell h.hf id, by obtain ⟨cs, h1, h2⟩ := h.hs; exact ⟨cs, hC.at h1 id, h2⟩, h.n0, h.n1, h.nb⟩
def OncePost (b B0 B1 r n : Nat) (S : List Int) (f : Int) (w : World) (e : Ending) (w' : World) : Prop := e = .returned (.bool (decide (¬ onceP n S f))) ∧ OnceIn w' b B0 B1 r n (if onceP n S f then f :: S else S) ∧ Chg (fun k => k = r) w w'
set_option maxRecDepth 100000 in
set_option maxHeartbeats 1000000 in
theorem onceClo (f : Int) (b B0 B1 r n : Nat) (S : List Int) (w : World) (h : OnceIn w b B0 B1 r n S) (hn : n ≤ 64) :
    Calls Try.prog 159 (#[.int .i64 f] ++ #[.pointer (some ⟨B0, 0, none⟩), .pointer (some ⟨B1, 0, none⟩)]) w (OncePost b B0 B1 r n S f w) := by
  have H := Lib.hid h
  obtain ⟨h0, h1, hf, ⟨cs, hb, hl, hc⟩, n0, n1, nb⟩ := h
  unfold OncePost
  by_cases f0 : 0 ≤ f
  · obtain ⟨k, rfl⟩ := Int.eq_ofNat_of_zero_le f0
    by_cases f1 : k < n
    · have f1' : (k : Int) < n := by omega
      have hk := hc k f1
      have c0 : w.cell? ⟨r, k, none⟩ = some (.bool (decide ((k : Int) ∈ S))) := by rw [blk_cell hb]; exact hk
      by_cases f2 : (k : Int) ∈ S
      · have hno : ¬ onceP n S k := fun h => h.2.2 f2
        rw [if_neg hno, decide_eq_true hno]
        rw [decide_eq_true f2] at c0
        clear hno f2 hc hk hb hl
        go_enter Try.func159, Try.ntmps159
        go_wp2_with fail
        go_ret
        exact ⟨rfl, H.out, Chg.refl _ _⟩
      · have hyes : onceP n S k := ⟨f0, f1', f2⟩
        rw [if_pos hyes, decide_eq_false (by simpa using hyes)]
        rw [decide_eq_false f2] at c0
        have hfin : OnceIn (w.setCell ⟨r, k, none⟩ (.bool true)) b B0 B1 r n ((k : Int) :: S) ∧ Chg (fun k => k = r) w (w.setCell ⟨r, k, none⟩ (.bool true)) := by
          have hC : Chg (fun k => k = r) w (w.setCell ⟨r, k, none⟩ (.bool true)) := (Chg.refl _ _).set1 _
          refine ⟨⟨hC.cell h0 n0, hC.cell h1 n1, hC.cell hf nb, ⟨cs.setIfInBounds k (.bool true), blk_set hb _ _, by simp [hl], fun i hi => ?_⟩, n0, n1, nb⟩, hC⟩
          by_cases e : i = k
          · subst e
            rw [Array.getElem?_setIfInBounds_self_of_lt (by omega)]
            simp
          · rw [Array.getElem?_setIfInBounds_ne (fun h => e h.symm), hc i hi]
            have : ¬ (i : Int) = (k : Int) := by omega
            simp [this]
        have HF := Lib.hid hfin; clear hfin
        have fr0 := blk_free hb k
        clear hyes f2 hc hk hb hl H
        go_enter Try.func159, Try.ntmps159
        go_wp2_with fail
        go_ret
        exact ⟨rfl, HF.out.1, HF.out.2⟩
    · have hno : ¬ onceP n S k := fun h => by have := h.2.1; omega
      rw [if_neg hno, decide_eq_true hno]
      have f2 : decide ((k : Int) < n) = false := decide_eq_false (by omega)
      clear hno hc hb hl
      go_enter Try.func159, Try.ntmps159
      go_wp2_with fail
      go_ret
      exact ⟨rfl, H.out, Chg.refl _ _⟩
  · have hno : ¬ onceP n S f := fun h => f0 h.1
    rw [if_neg hno, decide_eq_true hno]
    clear hno hc hb hl
    go_enter Try.func159, Try.ntmps159
    go_wp2_with fail
    go_ret
    exact ⟨rfl, H.out, Chg.refl _ _⟩
def OnceIxPost (b B0 B1 r n : Nat) (S L : List Int) (w : World) (e : Ending) (w' : World) : Prop := (∃ q : Int, e = .returned (.int .i64 q) ∧ (0 ≤ q ↔ onceL n S L = none)) ∧ (∀ S', onceL n S L = some S' → OnceIn w' b B0 B1 r n S') ∧ Chg (fun k => k = r) w w'
set_option maxRecDepth 100000 in
set_option maxHeartbeats 1000000 in
theorem onceIdx (b B0 B1 r n : Nat) (S : List Int) (v : Value) (L : List Int) (w0 w : World) (h : RdN w0 v L) (hC0 : Chg (fun _ => False) w0 w) (hr : w0.heap.size ≤ r) (hi : OnceIn w b B0 B1 r n S) (hn : n ≤ 64) :
    Calls Try.prog 176 #[v, .func (.func 159) #[] #[.pointer (some ⟨B0, 0, none⟩), .pointer (some ⟨B1, 0, none⟩)]] w (OnceIxPost b B0 B1 r n S L w) := by
  obtain ⟨hm, A, c, rfl, h⟩ := h
  have hm' : (L.length : Int) ≤ 9223372036854775807 := by unfold maxLen at hm; omega
  have HO := Lib.hid h; clear h hm
  have HI := Lib.hid hi; clear hi
  have HC0 : Hid (∀ wr, Chg (fun k => k = r) w wr → Chg (fun _ => False) w0 wr) := fun wr hC => hC0.trans' hC (fun k hk e => by omega)
  clear hC0
  go_enter Try.func176, Try.ntmps176
  go_wp2_with fail
  go_loopw [8] (fun s wr => ∃ (j : Nat) (S' : List Int), j ≤ L.length ∧ s = .int .i64 j ∧ onceL n S (L.take j) = some S' ∧ OnceIn wr b B0 B1 r n S' ∧ Chg (fun k => k = r) w wr) (fun s _ => L.length - (intOf s).toNat)
  case atStart => exact ⟨0, S, by omega, rfl, rfl, HI.out, Chg.refl _ _⟩
  case round =>
    obtain ⟨j, S', hj, rfl, hS, hin, hC⟩ := hrel
    have j0 : (0 : Int) ≤ j := by omega
    by_cases hlt : j < L.length
    · have j1 : (j : Int) < L.length := by omega
      obtain ⟨g, o, rfl, a0⟩ := HO.out j hlt
      have A0 := (HC0.out wr hC).cell a0 id
      have hcl := onceClo L[j] b B0 B1 r n S' wr hin hn
      have hst : onceL n S (L.take (j + 1)) = if onceP n S' L[j] then some (L[j] :: S') else none := by
        rw [List.take_succ_eq_append_getElem hlt, onceL_snoc, hS]; rfl
      have HCL := Lib.hid hcl; clear hcl
      have HST := Lib.hid hst; clear hst
      have HC := Lib.hid hC; clear hC hin hS a0 HI
      go_wp2_with fail
      refine HCL.out.mono ?_
      rintro e w1 ⟨rfl, hI1, hD⟩
      have H1 := Lib.hid (HC.out.trans hD); clear hD HC
      clear HCL A0
      by_cases hp : onceP n S' L[j]
      · rw [decide_eq_false (by simpa using hp)]
        rw [if_pos hp] at hI1
        have hs2 := HST.out
        rw [if_pos hp] at hs2
        have HS2 := Lib.hid hs2; clear hs2 HST hp
        have HI1 := Lib.hid hI1; clear hI1
        go_wp2_with fail
        go_roundw
        case rel => exact ⟨j + 1, _, by omega, by go_num, HS2.out, HI1.out, H1.out⟩
        case measure => simp [intOf]; omega
      · rw [decide_eq_true hp]
        have hs2 := HST.out
        rw [if_neg hp] at hs2
        have hall : onceL n S L = none := by
          rw [← List.take_append_drop (j + 1) L, onceL_append, hs2]; rfl
        have HA := Lib.hid hall; clear hall hs2 HST hp hI1
        go_wp2_with fail
        go_ret
        exact ⟨⟨_, rfl, ⟨fun _ => HA.out, fun _ => by omega⟩⟩, fun S2 h2 => (by rw [HA.out] at h2; cases h2), H1.out⟩
    · obtain rfl : j = L.length := by omega
      rw [List.take_length] at hS
      have HC := Lib.hid hC; clear hC
      have HS := Lib.hid hS; clear hS
      have HIN := Lib.hid hin; clear hin hlt hj HI
      go_wp2_with fail
      go_ret
      exact ⟨⟨_, rfl, ⟨fun h => absurd h (by decide), fun h => by rw [HS.out] at h; cases h⟩⟩, fun S2 h2 => by rw [HS.out] at h2; injection h2 with h2; rw [← h2]; exact HIN.out, HC.out⟩
def OnceHasPost (b B0 B1 r n : Nat) (S L : List Int) (w : World) (e : Ending) (w' : World) : Prop := e = .returned (.bool (onceL n S L).isNone) ∧ (∀ S', onceL n S L = some S' → OnceIn w' b B0 B1 r n S') ∧ Chg (fun k => k = r) w w'
set_option maxRecDepth 100000 in
theorem onceHas (b B0 B1 r n : Nat) (S : List Int) (v : Value) (L : List Int) (w0 w : World) (h : RdN w0 v L) (hC0 : Chg (fun _ => False) w0 w) (hr : w0.heap.size ≤ r) (hi : OnceIn w b B0 B1 r n S) (hn : n ≤ 64) :
    Calls Try.prog 160 #[v, .func (.func 159) #[] #[.pointer (some ⟨B0, 0, none⟩), .pointer (some ⟨B1, 0, none⟩)]] w (OnceHasPost b B0 B1 r n S L w) := by
  have hix := onceIdx b B0 B1 r n S v L w0 w h hC0 hr hi hn
  have HIX := Lib.hid hix; clear hix hi h hC0
  go_enter Try.func160, Try.ntmps160
  go_wp2_with fail
  refine HIX.out.mono ?_
  rintro e w1 ⟨⟨q, rfl, hq⟩, hI, hC⟩
  have hb : decide (0 ≤ q) = (onceL n S L).isNone := by
    rw [Bool.eq_iff_iff]; simp [hq]
  have HB := Lib.hid hb; clear hb hq
  have HC := Lib.hid hC; clear hC
  have HI := Lib.hid hI; clear hI
  go_wp2_with fail
  go_ret
  exact ⟨by rw [← HB.out]; exact retB (by first | rfl | simp [Bool.eq_iff_iff]), HI.out, HC.out⟩
theorem Try.info4 : (Try.prog.info? 4).map (fun i => (i.zero, i.size, i.bytes)) = some (some (.bool false), 1, 1) := by kernel_rfl
theorem makeBools (n : Nat) (h2 : n ≤ 64) (W : World) : (Instr.makeSlice 64 (.int .i64 (n : Int)) (.int .i64 (n : Int))).run Try.prog W = .ok (.slice (some ⟨W.heap.size, 0, none⟩) n n) (W.alloc (.cells (Array.replicate n (.bool false)) 4)) := by
  obtain ⟨i0, hi, hz0, hz1, hz2⟩ := info_parts Try.info4
  have := run_make (P := Try.prog) W 64 4 i0 _ Try.underlying64 hi hz0 .i64 .i64 (n : Int) (n : Int) (by omega) (by omega) (by rw [hz2]; omega) (by omega)
  rw [hz1, show (Value.bool false).cells = #[Value.bool false] from rfl, Nat.mul_one] at this
  have hm : madeCells #[Value.bool false] n = Array.replicate n (.bool false) := by
    unfold madeCells
    apply Array.ext
    · simp
    · intro i h1 h2; simp [Nat.mod_one]
  rw [Int.toNat_natCast, hm] at this
  exact this
theorem take_flat {α : Type} (fr : α → List Int) (L : List α) (j : Nat) (h : j < L.length) : (L.take (j + 1)).flatMap fr = (L.take j).flatMap fr ++ fr L[j] := by
  rw [List.take_succ_eq_append_getElem h, List.flatMap_append]; simp
theorem once_none (n : Int) (S xs ys : List Int) (h : onceL n S xs = none) : onceL n S (xs ++ ys) = none := by rw [onceL_append, h]; rfl
set_option maxRecDepth 100000 in
set_option maxHeartbeats 4000000 in
theorem cFrames (b : Nat) (C : Cf) (s : Vs) (w : World) (h : CfP w b C s) :
    Calls Try.prog 115 #[.pointer (some ⟨b, 0, none⟩)] w fun e w' => e = .returned (.bool (decide (FramesOk C))) ∧ Chg (fun _ => False) w w' := by
  have HP : Hid (∀ wr, Chg (fun _ => False) w wr → CfP wr b C s) := fun wr hC => h.keepN hC
  obtain ⟨A1, k1, A2, k2, A3, k3, A4, k4, rfl, m1, m2, m3, m4⟩ := h.open
  have hbl : b < w.heap.size := lt_of_heap h.1
  have c0 : w.cell? ⟨b, 0, none⟩ = some (.int .i64 C.frames) := h.cell 0
  have c1 : w.cell? ⟨b, 1, none⟩ = some (.slice A1 C.parts.length k1) := h.cell 1
  clear h
  by_cases h0 : 1 ≤ C.frames
  · by_cases h1 : C.frames ≤ 64
    · obtain ⟨n, hn⟩ := Int.eq_ofNat_of_zero_le (show 0 ≤ C.frames by omega)
      have hf : Hid (FramesOk C ↔ (onceL n [] (C.parts.flatMap (·.fr) ++ C.devs.flatMap (·.pool))).isSome = true) := by
        unfold FramesOk Cf.allFr
        rw [hn]
        exact ⟨fun h => h.2.2, fun h => ⟨by omega, by omega, h⟩⟩
      rw [hn] at c0
      have hn1 : (1 : Int) ≤ n := by omega
      have hn64 : n ≤ 64 := by omega
      have hn2 : (n : Int) ≤ 64 := by omega
      have hmk := makeBools n hn64
      have CA : Hid (∀ wr, Chg (fun _ => False) w wr → wr.cell? ⟨b, 0, none⟩ = some (.int .i64 n) ∧ wr.cell? ⟨b, 1, none⟩ = some (.slice A1 C.parts.length k1) ∧ wr.cell? ⟨b, 2, none⟩ = some (.slice A2 C.devs.length k2)) := fun wr hC => ⟨by rw [← hn]; exact (HP.out wr hC).cell 0, (HP.out wr hC).cell 1, (HP.out wr hC).cell 2⟩
      obtain ⟨W, hW⟩ : ∃ W, W = ((w.alloc (.cells #[.pointer (some ⟨b, 0, none⟩)] 115)).alloc (.cells (Array.replicate n (.bool false)) 4)).alloc (.cells #[.slice (some ⟨w.heap.size + 1, 0, none⟩) n n] 64) := ⟨_, rfl⟩
      have hCW : Chg (fun _ => False) w W := by rw [hW]; exact (((Chg.refl _ _).alloc _).alloc _).alloc _
      have hOn : OnceIn W b w.heap.size (w.heap.size + 1 + 1) (w.heap.size + 1) n [] := by
        rw [hW]
        have hA1 : Chg (fun _ => False) (w.alloc (.cells #[.pointer (some ⟨b, 0, none⟩)] 115)) _ := ((Chg.refl _ _).alloc (.cells (Array.replicate n (.bool false)) 4)).alloc (.cells #[.slice (some ⟨w.heap.size + 1, 0, none⟩) n n] 64)
        refine ⟨blk_cell (hA1.at (blk_new w _) id) 0, blk_cell (blk_new3 w _ _ _) 0, hA1.cell (((Chg.refl (fun _ => False) w).alloc _).cell c0 id) id, ⟨_, ((Chg.refl (fun _ => False) _).alloc _).at (blk_new2 w _ _) id, by simp, fun k hk => by simp [Array.getElem?_replicate, hk]⟩, by omega, by omega, by omega⟩
      have HON := Lib.hid hOn; clear hOn
      have HCW := Lib.hid hCW; clear hCW
      clear h0 h1 hn
      generalize hrep : Array.replicate n (Value.bool false) = vs at *
      have d1 := (CA.out W HCW.out).2.1
      rw [hW] at d1
      have hW2 := Lib.hid hW
      clear hW hrep c1
      go_enter Try.func115, Try.ntmps115
      go_wp2_with fail
      go_loopw [32] (fun s wr => ∃ (j : Nat) (S' : List Int), j ≤ C.parts.length ∧ s = .int .i64 j ∧ onceL n [] ((C.parts.take j).flatMap (·.fr)) = some S' ∧ OnceIn wr b w.heap.size (w.heap.size + 1 + 1) (w.heap.size + 1) n S' ∧ Chg (fun _ => False) w wr) (fun s _ => C.parts.length - (intOf s).toNat)
      case atStart => exact ⟨0, [], by omega, rfl, rfl, by rw [← hW2.out]; exact HON.out, by rw [← hW2.out]; exact HCW.out⟩
      case round =>
        clear d1 HON HCW hW2
        obtain ⟨j, S', hj, rfl, hS, hin, hC⟩ := hrel
        have j0 : (0 : Int) ≤ j := by omega
        by_cases hlt : j < C.parts.length
        · have j1 : (j : Int) < C.parts.length := by omega
          have hrp := (HP.out w (Chg.refl _ _)).2.1
          obtain ⟨_, A', c', hv, hel⟩ := hrp
          injection hv with e1 e2 e3
          subst e1 e3
          obtain ⟨g, o, F, rfl, a0, a1, a2, a3, a4, hF⟩ := hel j hlt
          replace a0 := hC.cell a0 id
          replace a1 := hC.cell a1 id
          replace a2 := hC.cell a2 id
          replace a3 := hC.cell a3 id
          replace a4 := hC.cell a4 id
          clear hel
          obtain ⟨hfm, FA, fc, rfl⟩ := hF.form
          have hA : Chg (fun _ => False) wr (wr.alloc (.cells #[.int .i64 C.parts[j].lv, .int .i64 C.parts[j].cats, .slice FA C.parts[j].fr.length fc, .int .i64 C.parts[j].first, .int .i64 C.parts[j].count] 40)) := (Chg.refl _ _).alloc _
          have hh := onceHas b w.heap.size (w.heap.size + 1 + 1) (w.heap.size + 1) n S' _ C.parts[j].fr w _ hF (hC.trans hA) (by omega) (hin.keepN hA) hn64
          have hst : onceL n [] ((C.parts.take (j + 1)).flatMap (·.fr)) = onceL n S' C.parts[j].fr := by
            rw [take_flat _ _ _ hlt, onceL_append, hS]; rfl
          have HH := Lib.hid hh; clear hh
          have HC := Lib.hid (hC.trans hA); clear hC hA
          have HST := Lib.hid hst; clear hst hin hS hF hfm
          go_wp2_with fail
          refine HH.out.mono ?_
          rintro e w1 ⟨rfl, hI1, hD⟩
          have HC1 : Hid (Chg (fun _ => False) w w1) := HC.out.trans' hD (fun k hk e => by omega)
          clear hD HC HH a0 a1 a2 a3 a4
          cases hon : onceL n S' C.parts[j].fr with
          | some S2 =>
            have HI1 := Lib.hid (hI1 S2 hon)
            have HS2 : Hid (onceL n [] ((C.parts.take (j + 1)).flatMap (·.fr)) = some S2) := HST.out.trans hon
            clear hI1 hon HST
            go_wp2_with fail
            go_roundw
            case rel => exact ⟨j + 1, S2, by omega, by go_num, HS2.out, HI1.out, HC1.out⟩
            case measure => simp [intOf]; omega
          | none =>
            have HNO : Hid (¬ FramesOk C) := fun h => by
              have h2 := hf.out.1 h
              rw [← List.take_append_drop (j + 1) C.parts, List.flatMap_append, List.append_assoc, once_none _ _ _ _ (HST.out.trans hon)] at h2
              cases h2
            clear hI1 hon HST
            go_wp2_with fail
            go_ret
            exact ⟨retB (decide_eq_false HNO.out).symm, HC1.out⟩
        · obtain rfl : j = C.parts.length := by omega
          rw [List.take_length] at hS
          obtain ⟨_, _, d2⟩ := CA.out wr hC
          have e0 := hin.h0
          have HON := Lib.hid hin
          have HCW := Lib.hid hC
          have HS0 := Lib.hid hS
          clear hin hC hS hlt hj
          obtain ⟨w0, hw0⟩ : ∃ x, x = wr := ⟨_, rfl⟩
          rw [← hw0] at HON HCW
          go_wp2_with fail
          go_loopw [46] (fun s w9 => ∃ (j : Nat) (S2 : List Int), j ≤ C.devs.length ∧ s = .int .i64 j ∧ onceL n S' ((C.devs.take j).flatMap (·.pool)) = some S2 ∧ OnceIn w9 b w.heap.size (w.heap.size + 1 + 1) (w.heap.size + 1) n S2 ∧ Chg (fun _ => False) w w9) (fun s _ => C.devs.length - (intOf s).toNat)
          case atStart => exact ⟨0, S', by omega, rfl, rfl, by rw [← hw0]; exact HON.out, by rw [← hw0]; exact HCW.out⟩
          case round =>
            clear d2 e0 HON HCW hw0
            obtain ⟨j, S2, hj, rfl, hS, hin, hC⟩ := hrel
            have j0 : (0 : Int) ≤ j := by omega
            by_cases hlt : j < C.devs.length
            · have j1 : (j : Int) < C.devs.length := by omega
              have hrp := (HP.out w (Chg.refl _ _)).2.2.1
              obtain ⟨_, A', c', hv, hel⟩ := hrp
              injection hv with e1 e2 e3
              subst e1 e3
              obtain ⟨g, o, F, rfl, a0, a1, hF⟩ := hel j hlt
              replace a0 := hC.cell a0 id
              replace a1 := hC.cell a1 id
              clear hel
              obtain ⟨hfm, FA, fc, rfl⟩ := hF.form
              have hA : Chg (fun _ => False) wr (wr.alloc (.cells #[.int .i64 C.devs[j].part, .slice FA C.devs[j].pool.length fc] 42)) := (Chg.refl _ _).alloc _
              have hh := onceHas b w.heap.size (w.heap.size + 1 + 1) (w.heap.size + 1) n S2 _ C.devs[j].pool w _ hF (hC.trans hA) (by omega) (hin.keepN hA) hn64
              have hst : onceL n S' ((C.devs.take (j + 1)).flatMap (·.pool)) = onceL n S2 C.devs[j].pool := by
                rw [take_flat _ _ _ hlt, onceL_append, hS]; rfl
              have HH := Lib.hid hh; clear hh
              have HC := Lib.hid (hC.trans hA); clear hC hA
              have HST := Lib.hid hst; clear hst hin hS hF hfm
              go_wp2_with fail
              refine HH.out.mono ?_
              rintro e w1 ⟨rfl, hI1, hD⟩
              have HC1 : Hid (Chg (fun _ => False) w w1) := HC.out.trans' hD (fun k hk e => by omega)
              clear hD HC HH a0 a1
              cases hon : onceL n S2 C.devs[j].pool with
              | some S3 =>
                have HI1 := Lib.hid (hI1 S3 hon)
                have HS2 : Hid (onceL n S' ((C.devs.take (j + 1)).flatMap (·.pool)) = some S3) := HST.out.trans hon
                clear hI1 hon HST
                go_wp2_with fail
                go_roundw
                case rel => exact ⟨j + 1, S3, by omega, by go_num, HS2.out, HI1.out, HC1.out⟩
                case measure => simp [intOf]; omega
              | none =>
                have HNO : Hid (¬ FramesOk C) := fun h => by
                  have h2 := hf.out.1 h
                  rw [onceL_append, HS0.out] at h2
                  simp only [Option.bind] at h2
                  rw [← List.take_append_drop (j + 1) C.devs, List.flatMap_append, once_none _ _ _ _ (HST.out.trans hon)] at h2
                  cases h2
                clear hI1 hon HST
                go_wp2_with fail
                go_ret
                exact ⟨retB (decide_eq_false HNO.out).symm, HC1.out⟩
            · obtain rfl : j = C.devs.length := by omega
              rw [List.take_length] at hS
              have HY : Hid (FramesOk C) := hf.out.2 (by rw [onceL_append, HS0.out]; simp [Option.bind, hS])
              have HC := Lib.hid hC
              clear hin hC hS hlt hj
              go_wp2_with fail
              go_ret
              exact ⟨retB (decide_eq_true HY.out).symm, HC.out⟩
    · have h2 : decide ((64 : Int) < C.frames) = true := decide_eq_true (by omega)
      have HNO : Hid (¬ FramesOk C) := fun h => h1 h.2.1
      clear HP
      go_enter Try.func115, Try.ntmps115
      go_wp2_with fail
      go_ret
      exact ⟨retB (decide_eq_false HNO.out).symm, (Chg.refl _ _).alloc _⟩
  · have HNO : Hid (¬ FramesOk C) := fun h => h0 h.1
    clear HP
    go_enter Try.func115, Try.ntmps115
    go_wp2_with fail
    go_ret
    exact ⟨retB (decide_eq_false HNO.out).symm, (Chg.refl _ _).alloc _⟩
end Go.Proofs.Ytncbcjjdnlmjbaa
