/- Those that wait, as a heap: the library's package. -/
import Derived.Test.YtpnhdiajiieonaaPendH
set_option linter.unusedSimpArgs false
set_option linter.unusedVariables false
namespace Go.Proofs.Ytpnhdiajiieonaa
open Go.RowKit

theorem mPush (a : Addr) (W : World) : (method 361 161 (.pointer (some a)) "Push").run Try.prog W = .ok (195, .pointer (some a)) W := by kernel_rfl
theorem mPop (a : Addr) (W : World) : (method 361 161 (.pointer (some a)) "Pop").run Try.prog W = .ok (194, .pointer (some a)) W := by kernel_rfl
theorem method_via {P : Program} {k : Nat} (hk : k ≠ 0) {t e : TypeId} {name : String} {i : TypeInfo} {f : FuncId} (h1 : P.info? t = some i) (h2 : (i.methods.find? (·.name == name)).map (fun m => (m.path, m.func)) = some (#[], some (f, false)))
    (hu : P.underlying t = some (.pointer e)) (a : Addr) (W : World) (v : Value) (hl : (loadVar e a).run P W = .ok v W) : (method k t (.pointer (some a)) name).run P W = .ok (f, v) W := by
  obtain ⟨n, rfl⟩ : ∃ n, k = n + 1 := ⟨k - 1, by omega⟩
  have hw : ∀ s, (Builtin.ssaWrapNilChk_ #[t] t #[.pointer (some a), strVal "", strVal s]).run P W = .ok (.pointer (some a)) W := fun s => rfl
  have ha : (asAddr (.pointer (some a))).run P W = .ok a W := rfl
  cases hm : i.methods.find? (·.name == name) with
  | none => rw [hm] at h2; cases h2
  | some m =>
    rw [hm] at h2
    simp only [Option.map_some, Option.some.injEq, Prod.mk.injEq] at h2
    unfold method
    simp [typeInfo, h1, hm, h2.1, h2.2, follow, receiverAt, run_underlying hu, Place.get, hw, hl, ha, Result.andThen]
set_option maxRecDepth 100000 in
theorem mLess (a : Addr) (W : World) (A : Option Addr) (n c : Nat) (h : W.cell? a = some (.slice A n c)) : (method 361 161 (.pointer (some a)) "Less").run Try.prog W = .ok (192, .slice A n c) W := by
  obtain ⟨i, h1, h2⟩ : ∃ i, Try.prog.info? 161 = some i ∧ (i.methods.find? (·.name == "Less")).map (fun m => (m.path, m.func)) = some (#[], some (192, false)) := by
    have h : (Try.prog.info? 161).map (fun i => (i.methods.find? (·.name == "Less")).map (fun m => (m.path, m.func))) = some (some (#[], some (192, false))) := by kernel_rfl
    exact Option.map_eq_some_iff.1 h
  exact method_via (by decide) h1 h2 Try.underlying161 a W _ (by go_simp)
set_option maxRecDepth 100000 in
theorem mLen (a : Addr) (W : World) (A : Option Addr) (n c : Nat) (h : W.cell? a = some (.slice A n c)) : (method 361 161 (.pointer (some a)) "Len").run Try.prog W = .ok (96, .slice A n c) W := by
  obtain ⟨i, h1, h2⟩ : ∃ i, Try.prog.info? 161 = some i ∧ (i.methods.find? (·.name == "Len")).map (fun m => (m.path, m.func)) = some (#[], some (96, false)) := by
    have h : (Try.prog.info? 161).map (fun i => (i.methods.find? (·.name == "Len")).map (fun m => (m.path, m.func))) = some (some (#[], some (96, false))) := by kernel_rfl
    exact Option.map_eq_some_iff.1 h
  exact method_via (by decide) h1 h2 Try.underlying161 a W _ (by go_simp)
set_option maxRecDepth 100000 in
theorem mSwap (a : Addr) (W : World) (A : Option Addr) (n c : Nat) (h : W.cell? a = some (.slice A n c)) : (method 361 161 (.pointer (some a)) "Swap").run Try.prog W = .ok (193, .slice A n c) W := by
  obtain ⟨i, h1, h2⟩ : ∃ i, Try.prog.info? 161 = some i ∧ (i.methods.find? (·.name == "Swap")).map (fun m => (m.path, m.func)) = some (#[], some (193, false)) := by
    have h : (Try.prog.info? 161).map (fun i => (i.methods.find? (·.name == "Swap")).map (fun m => (m.path, m.func))) = some (some (#[], some (193, false))) := by kernel_rfl
    exact Option.map_eq_some_iff.1 h
  exact method_via (by decide) h1 h2 Try.underlying161 a W _ (by go_simp)

/-- A row in a cell, its elements in block g. -/
structure RowAt (w : World) (base B i g n cap : Nat) (cs : Array Value) (L : List Nat) : Prop where
  blk : w.heap[B]? = some (.cells cs 157 (0, 0))
  at_ : cs[i]? = some (.slice (some ⟨g, 0, none⟩) n cap)
  own : KRow w base (.slice (some ⟨g, 0, none⟩) n cap) L
  len : L.length ≤ 1000
  key : ∀ k ∈ L, k < 32
theorem RowAt.cell {w : World} {base B i g n cap : Nat} {cs : Array Value} {L : List Nat} (h : RowAt w base B i g n cap cs L) : w.cell? ⟨B, i, none⟩ = some (.slice (some ⟨g, 0, none⟩) n cap) := (blk_cell h.blk i).trans h.at_
theorem RowAt.ne {w : World} {base B i g n cap : Nat} {cs : Array Value} {L : List Nat} (h : RowAt w base B i g n cap cs L) : g ≠ B := fun e => own_type h.own h.blk (by rw [← e]; rfl)
theorem RowAt.drewN {w : World} {base B i g n cap : Nat} {cs : Array Value} {L : List Nat} (h : RowAt w base B i g n cap cs L) (q : Nat) : RowAt (w.drewN q) base B i g n cap cs L := ⟨h.blk, h.at_, h.own.keep (S := fun _ => False) ((Chg.refl _ _).drewN q) (fun _ _ => id), h.len, h.key⟩
theorem RowAt.swap {w w' : World} {base B i g n cap : Nat} {cs : Array Value} {L : List Nat} (h : RowAt w base B i g n cap cs L) {x y : Nat} (hx : x < L.length) (hy : y < L.length) (ho : KRow w' base (.slice (some ⟨g, 0, none⟩) n cap) (swp L x y)) (hC : Chg (fun k => k = g) w w') : RowAt w' base B i g n cap cs (swp L x y) :=
  ⟨hC.at h.blk (fun e => h.ne e.symm), h.at_, ho, by rw [swp_len]; exact h.len, fun k hk => h.key k ((swp_perm hx hy).mem_iff.1 hk)⟩

set_option maxRecDepth 100000 in
set_option maxHeartbeats 2000000 in
theorem hUp (base B i g n cap j : Nat) (cs : Array Value) (L : List Nat) (w : World) (h : RowAt w base B i g n cap cs L) (hj : j < L.length) (hu : UpInv j L.length L) :
    Calls Try.prog 140 #[.iface 161 (.pointer (some ⟨B, i, none⟩)), .int .i64 j] w fun e w' => e = .returned (.tuple #[]) ∧
      ∃ L', L'.Perm L ∧ HeapFrom 0 L'.length L' ∧ RowAt w' base B i g n cap cs L' ∧ Chg (fun k => k = g) w w' := by
  have hML := mLess ⟨B, i, none⟩
  have hMS := mSwap ⟨B, i, none⟩
  have HML := Lib.hid hML; clear hML
  have HMS := Lib.hid hMS; clear hMS
  go_enter Try.func140, Try.ntmps140
  go_wp2_with fail
  go_loopw [1] (fun s wr => ∃ (j : Nat) (L' : List Nat), s = .int .i64 j ∧ j < L'.length ∧ L'.length = L.length ∧ L'.Perm L ∧ UpInv j L'.length L' ∧ RowAt wr base B i g n cap cs L' ∧ Chg (fun k => k = g) w wr) (fun s _ => (intOf s).toNat)
  case atStart => exact ⟨j, L, rfl, hj, rfl, List.Perm.refl _, hu, h, Chg.refl _ _⟩
  case round =>
    clear h hj hu
    obtain ⟨j, L', rfl, hj, hll, hp, hu, h, hC⟩ := hrel
    have hl := h.len
    by_cases h0 : j = 0
    · subst h0
      have hf := up_done hu (.inl rfl)
      have H1 := Lib.hid h; clear h
      have H2 := Lib.hid hp; clear hp
      have H3 := Lib.hid hf; clear hf hu
      have H4 := Lib.hid hC; clear hC
      go_wp2_with fail
      go_end0
      exact ⟨rfl, L', H2.out, H3.out, H1.out, H4.out⟩
    · obtain ⟨p, hpe, hpj, hplt⟩ : ∃ p : Nat, p = (j - 1) / 2 ∧ ((j : Int) - 1) / 2 = p ∧ p < j := ⟨(j - 1) / 2, rfl, by omega, by omega⟩
      have j1 : (1 : Int) ≤ j := by omega
      have jp : (0 : Int) ≤ (j : Int) - 1 := by omega
      have je : ((p : Int) == j) = false := by simp; omega
      have m1 := HML.out wr _ _ _ h.cell
      have ls := kLess g n cap base L' j p wr h.own hj (by omega) hl h.key
      have sw := fun q => kSwap g n cap base L' p j (wr.drewN q) (h.drewN q).own (by omega) hj hl
      have m2 := fun q => HMS.out (wr.drewN q) _ _ _ (h.drewN q).cell
      by_cases hlt : gk L' j < gk L' p
      · have hst : UpInv p (swp L' p j).length (swp L' p j) := by rw [hpe, swp_len]; exact up_step hu (Nat.le_refl _) hj (by omega) (by rw [← hpe]; exact hlt)
        have hpm : (swp L' p j).Perm L := (swp_perm (by omega) hj).trans hp
        rw [show decide (gk L' j < gk L' p) = true from decide_eq_true hlt] at ls
        have LS := Lib.hid ls; clear ls
        have SW := Lib.hid sw; clear sw
        have M2 := Lib.hid m2; clear m2
        have H1 := Lib.hid h; clear h
        have H2 := Lib.hid hpm; clear hpm hp
        have H3 := Lib.hid hst; clear hst hu
        have H4 := Lib.hid hC; clear hC
        have H5 := Lib.hid hll; clear hll
        clear hlt hpe
        go_wp2_with fail
        refine LS.out.mono ?_
        rintro e w1 ⟨rfl, q, rfl⟩
        have m2 := M2.out q
        go_wp2_with fail
        refine (SW.out q).mono ?_
        rintro e w2 ⟨rfl, ho, hD⟩
        have h := (H1.out.drewN q).swap (by have := H5.out; omega) hj ho hD
        replace hD := (H4.out.drewN q).trans hD
        clear ho m2 m1
        have H6 := Lib.hid h; clear h
        have H7 := Lib.hid hD; clear hD
        go_wp2_with fail
        go_roundw
        case rel => exact ⟨p, swp L' p j, rfl, by rw [swp_len]; omega, by rw [swp_len]; exact H5.out, H2.out, H3.out, H6.out, H7.out⟩
        case measure => simp [intOf]; omega
      · have hf : HeapFrom 0 L'.length L' := up_done hu (.inr (by rw [← hpe]; omega))
        rw [show decide (gk L' j < gk L' p) = false from decide_eq_false hlt] at ls
        have LS := Lib.hid ls; clear ls
        have H1 := Lib.hid h; clear h
        have H2 := Lib.hid hp; clear hp
        have H3 := Lib.hid hf; clear hf hu
        have H4 := Lib.hid hC; clear hC
        clear hlt hpe m2 sw
        go_wp2_with fail
        refine LS.out.mono ?_
        rintro e w1 ⟨rfl, q, rfl⟩
        go_wp2_with fail
        go_end0
        exact ⟨rfl, L', H2.out, H3.out, H1.out.drewN q, H4.out.drewN q⟩
/-- What down leaves. -/
def DownPost (base B i g m cap s n : Nat) (cs : Array Value) (L : List Nat) (w : World) (e : Ending) (w' : World) : Prop :=
  (∃ b, e = .returned (.bool b)) ∧ ∃ L', L'.Perm L ∧ HeapFrom s n L' ∧ (∀ k, n ≤ k → gk L' k = gk L k) ∧ RowAt w' base B i g m cap cs L' ∧ Chg (fun k => k = g) w w'
set_option maxRecDepth 100000 in
set_option maxHeartbeats 8000000 in
theorem hDown (base B i g m cap s n : Nat) (cs : Array Value) (L : List Nat) (w : World) (h : RowAt w base B i g m cap cs L) (hn : n ≤ L.length) (hu : DownInv s s n L) (hs1 : s ≤ 1000) :
    Calls Try.prog 141 #[.iface 161 (.pointer (some ⟨B, i, none⟩)), .int .i64 s, .int .i64 n] w (DownPost base B i g m cap s n cs L w) := by
  have hML := mLess ⟨B, i, none⟩
  have hMS := mSwap ⟨B, i, none⟩
  have HML := Lib.hid hML; clear hML
  have HMS := Lib.hid hMS; clear hMS
  have hL0 := h.len
  have n0 : (0 : Int) ≤ n := by omega
  have n1 : (n : Int) ≤ 1000 := by omega
  go_enter Try.func141, Try.ntmps141
  go_wp2_with fail
  go_loopw [7] (fun sl wr => ∃ (x : Nat) (L' : List Nat), sl = .int .i64 x ∧ s ≤ x ∧ (x < n ∨ x = s) ∧ L'.length = L.length ∧ L'.Perm L ∧ DownInv s x n L' ∧ (∀ k, n ≤ k → gk L' k = gk L k) ∧ RowAt wr base B i g m cap cs L' ∧ Chg (fun k => k = g) w wr) (fun sl _ => 2000 - (intOf sl).toNat)
  case atStart => exact ⟨s, L, rfl, Nat.le_refl _, .inr rfl, rfl, List.Perm.refl _, hu, fun _ _ => rfl, h, Chg.refl _ _⟩
  case round =>
    clear h hu
    obtain ⟨x, L', rfl, hsx, hxn, hll, hp, hu, ho, hR, hC⟩ := hrel
    have hl := hR.len
    have hnL : n ≤ L'.length := by omega
    have hx0 : (0 : Int) ≤ x := by omega
    have hx1 : (x : Int) ≤ 1000 := by omega
    obtain ⟨c1, hc1, hc1i⟩ : ∃ c : Nat, c = 2 * x + 1 ∧ 2 * (x : Int) + 1 = c := ⟨2 * x + 1, rfl, by omega⟩
    obtain ⟨c2, hc2, hc2i⟩ : ∃ c : Nat, c = 2 * x + 2 ∧ (c1 : Int) + 1 = c := ⟨2 * x + 2, rfl, by omega⟩
    have HC1 := Lib.hid hc1
    have HC2 := Lib.hid hc2
    have q1 : (0 : Int) ≤ c1 := by omega
    by_cases hA : n ≤ c1
    · have hf : HeapFrom s n L' := down_done hu (fun k k0 k1 k2 => by omega)
      have q2 : (n : Int) ≤ c1 := by omega
      have H1 := Lib.hid hR; clear hR
      have H2 := Lib.hid hp; clear hp
      have H3 := Lib.hid hf; clear hf hu
      have H4 := Lib.hid hC; clear hC
      have H6 := Lib.hid ho; clear ho
      clear hc1 hc2
      go_wp2_with fail
      go_ret
      exact ⟨⟨_, rfl⟩, L', H2.out, H3.out, H6.out, H1.out, H4.out⟩
    · have q2 : ¬ (n : Int) ≤ c1 := by omega
      have q3 : ¬ (c1 : Int) < 0 := by omega
      by_cases hB : c2 < n
      · have q4 : (c2 : Int) < n := by omega
        have ls1 := kLess g m cap base L' c2 c1 wr hR.own (by omega) (by omega) hl hR.key
        have mz1 := HML.out wr _ _ _ hR.cell
        by_cases hlt1 : gk L' c2 < gk L' c1
        · have hmin : ∀ k, 0 < k → k < n → (k - 1) / 2 = x → gk L' c2 ≤ gk L' k := fun k k0 k1 k2 => by
            rcases (show k = c1 ∨ k = c2 by omega) with rfl | rfl <;> omega
          rw [show decide (gk L' c2 < gk L' c1) = true from decide_eq_true hlt1] at ls1
          have LS1 := Lib.hid ls1; clear ls1
          have HR := Lib.hid hR; clear hR
          have HP := Lib.hid hp; clear hp
          have HU := Lib.hid hu; clear hu
          have HO := Lib.hid ho; clear ho
          have HC := Lib.hid hC; clear hC
          have HMI := Lib.hid hmin; clear hmin
          have HLL := Lib.hid hll; clear hll
          clear hlt1 hc1 hc2
          go_wp2_with fail
          refine LS1.out.mono ?_
          rintro e wz ⟨rfl, qz, rfl⟩
          have hR := HR.out.drewN qz
          have hp := HP.out
          have hu := HU.out
          have ho := HO.out
          have hC := HC.out.drewN qz
          have hmin := HMI.out
          have hll := HLL.out
          have hc1 := HC1.out
          have hc2 := HC2.out
          clear mz1 LS1 HR HP HU HO HC HMI HLL
          generalize wr.drewN qz = W at *
          have ls := kLess g m cap base L' c2 x W hR.own (by omega) (by omega) hl hR.key
          have sw := fun q => kSwap g m cap base L' x c2 ((W).drewN q) (hR.drewN q).own (by omega) (by omega) hl
          have mz := HML.out (W) _ _ _ hR.cell
          have ms := fun q => HMS.out ((W).drewN q) _ _ _ (hR.drewN q).cell
          by_cases hlt : gk L' c2 < gk L' x
          · have hst : DownInv s c2 n (swp L' x c2) := down_step hu hnL (by omega) (by omega) (by omega) (by omega) hlt hmin
            have hpm : (swp L' x c2).Perm L := (swp_perm (by omega) (by omega)).trans hp
            have hoth : ∀ k, n ≤ k → gk (swp L' x c2) k = gk L k := fun k hk => by rw [swp_get (by omega) (by omega), if_neg (by omega), if_neg (by omega)]; exact ho k hk
            rw [show decide (gk L' c2 < gk L' x) = true from decide_eq_true hlt] at ls
            have LS := Lib.hid ls; clear ls
            have SW := Lib.hid sw; clear sw
            have MS := Lib.hid ms; clear ms
            have H1 := Lib.hid hR; clear hR
            have H2 := Lib.hid hpm; clear hpm hp
            have H3 := Lib.hid hst; clear hst hu
            have H4 := Lib.hid hC; clear hC
            have H5 := Lib.hid hll; clear hll
            have H6 := Lib.hid hoth; clear hoth ho
            clear hlt hmin hc1 hc2
            go_wp2_with fail
            refine LS.out.mono ?_
            rintro e w1 ⟨rfl, q, rfl⟩
            have ms := MS.out q
            go_wp2_with fail
            refine (SW.out q).mono ?_
            rintro e w2 ⟨rfl, hw, hD⟩
            have h := (H1.out.drewN q).swap (by have := H5.out; have := HC1.out; have := HC2.out; omega) (by have := H5.out; have := HC1.out; have := HC2.out; omega) hw hD
            replace hD := (H4.out.drewN q).trans hD
            clear hw ms mz
            have H7 := Lib.hid h; clear h
            have H8 := Lib.hid hD; clear hD
            go_wp2_with fail
            go_roundw
            case rel => exact ⟨c2, swp L' x c2, rfl, by have := HC1.out; have := HC2.out; omega, .inl (by have := HC1.out; have := HC2.out; omega), by rw [swp_len]; exact H5.out, H2.out, H3.out, H6.out, H7.out, H8.out⟩
            case measure => have := HC1.out; have := HC2.out; simp [intOf]; omega
          · have hf : HeapFrom s n L' := down_done hu (fun k k0 k1 k2 => Nat.le_trans (by omega) (hmin k k0 k1 k2))
            rw [show decide (gk L' c2 < gk L' x) = false from decide_eq_false hlt] at ls
            have LS := Lib.hid ls; clear ls
            have H1 := Lib.hid hR; clear hR
            have H2 := Lib.hid hp; clear hp
            have H3 := Lib.hid hf; clear hf hu
            have H4 := Lib.hid hC; clear hC
            have H6 := Lib.hid ho; clear ho
            clear hlt hmin ms sw hc1 hc2
            go_wp2_with fail
            refine LS.out.mono ?_
            rintro e w1 ⟨rfl, q, rfl⟩
            go_wp2_with fail
            go_ret
            exact ⟨⟨_, rfl⟩, L', H2.out, H3.out, H6.out, H1.out.drewN q, H4.out.drewN q⟩
        · have hmin : ∀ k, 0 < k → k < n → (k - 1) / 2 = x → gk L' c1 ≤ gk L' k := fun k k0 k1 k2 => by
            rcases (show k = c1 ∨ k = c2 by omega) with rfl | rfl <;> omega
          rw [show decide (gk L' c2 < gk L' c1) = false from decide_eq_false hlt1] at ls1
          have LS1 := Lib.hid ls1; clear ls1
          have HR := Lib.hid hR; clear hR
          have HP := Lib.hid hp; clear hp
          have HU := Lib.hid hu; clear hu
          have HO := Lib.hid ho; clear ho
          have HC := Lib.hid hC; clear hC
          have HMI := Lib.hid hmin; clear hmin
          have HLL := Lib.hid hll; clear hll
          clear hlt1 hc1 hc2
          go_wp2_with fail
          refine LS1.out.mono ?_
          rintro e wz ⟨rfl, qz, rfl⟩
          have hR := HR.out.drewN qz
          have hp := HP.out
          have hu := HU.out
          have ho := HO.out
          have hC := HC.out.drewN qz
          have hmin := HMI.out
          have hll := HLL.out
          have hc1 := HC1.out
          have hc2 := HC2.out
          clear mz1 LS1 HR HP HU HO HC HMI HLL
          generalize wr.drewN qz = W at *
          have ls := kLess g m cap base L' c1 x W hR.own (by omega) (by omega) hl hR.key
          have sw := fun q => kSwap g m cap base L' x c1 ((W).drewN q) (hR.drewN q).own (by omega) (by omega) hl
          have mz := HML.out (W) _ _ _ hR.cell
          have ms := fun q => HMS.out ((W).drewN q) _ _ _ (hR.drewN q).cell
          by_cases hlt : gk L' c1 < gk L' x
          · have hst : DownInv s c1 n (swp L' x c1) := down_step hu hnL (by omega) (by omega) (by omega) (by omega) hlt hmin
            have hpm : (swp L' x c1).Perm L := (swp_perm (by omega) (by omega)).trans hp
            have hoth : ∀ k, n ≤ k → gk (swp L' x c1) k = gk L k := fun k hk => by rw [swp_get (by omega) (by omega), if_neg (by omega), if_neg (by omega)]; exact ho k hk
            rw [show decide (gk L' c1 < gk L' x) = true from decide_eq_true hlt] at ls
            have LS := Lib.hid ls; clear ls
            have SW := Lib.hid sw; clear sw
            have MS := Lib.hid ms; clear ms
            have H1 := Lib.hid hR; clear hR
            have H2 := Lib.hid hpm; clear hpm hp
            have H3 := Lib.hid hst; clear hst hu
            have H4 := Lib.hid hC; clear hC
            have H5 := Lib.hid hll; clear hll
            have H6 := Lib.hid hoth; clear hoth ho
            clear hlt hmin hc1 hc2
            go_wp2_with fail
            refine LS.out.mono ?_
            rintro e w1 ⟨rfl, q, rfl⟩
            have ms := MS.out q
            go_wp2_with fail
            refine (SW.out q).mono ?_
            rintro e w2 ⟨rfl, hw, hD⟩
            have h := (H1.out.drewN q).swap (by have := H5.out; have := HC1.out; have := HC2.out; omega) (by have := H5.out; have := HC1.out; have := HC2.out; omega) hw hD
            replace hD := (H4.out.drewN q).trans hD
            clear hw ms mz
            have H7 := Lib.hid h; clear h
            have H8 := Lib.hid hD; clear hD
            go_wp2_with fail
            go_roundw
            case rel => exact ⟨c1, swp L' x c1, rfl, by have := HC1.out; have := HC2.out; omega, .inl (by have := HC1.out; have := HC2.out; omega), by rw [swp_len]; exact H5.out, H2.out, H3.out, H6.out, H7.out, H8.out⟩
            case measure => have := HC1.out; have := HC2.out; simp [intOf]; omega
          · have hf : HeapFrom s n L' := down_done hu (fun k k0 k1 k2 => Nat.le_trans (by omega) (hmin k k0 k1 k2))
            rw [show decide (gk L' c1 < gk L' x) = false from decide_eq_false hlt] at ls
            have LS := Lib.hid ls; clear ls
            have H1 := Lib.hid hR; clear hR
            have H2 := Lib.hid hp; clear hp
            have H3 := Lib.hid hf; clear hf hu
            have H4 := Lib.hid hC; clear hC
            have H6 := Lib.hid ho; clear ho
            clear hlt hmin ms sw hc1 hc2
            go_wp2_with fail
            refine LS.out.mono ?_
            rintro e w1 ⟨rfl, q, rfl⟩
            go_wp2_with fail
            go_ret
            exact ⟨⟨_, rfl⟩, L', H2.out, H3.out, H6.out, H1.out.drewN q, H4.out.drewN q⟩
      · have q4 : decide ((c2 : Int) < n) = false := by simp; omega
        have q5 : (n : Int) ≤ c2 := by omega
        have hmin : ∀ k, 0 < k → k < n → (k - 1) / 2 = x → gk L' c1 ≤ gk L' k := fun k k0 k1 k2 => by
          obtain rfl : k = c1 := by omega
          exact Nat.le_refl _
        have ls := kLess g m cap base L' c1 x wr hR.own (by omega) (by omega) hl hR.key
        have sw := fun q => kSwap g m cap base L' x c1 ((wr).drewN q) (hR.drewN q).own (by omega) (by omega) hl
        have mz := HML.out (wr) _ _ _ hR.cell
        have ms := fun q => HMS.out ((wr).drewN q) _ _ _ (hR.drewN q).cell
        by_cases hlt : gk L' c1 < gk L' x
        · have hst : DownInv s c1 n (swp L' x c1) := down_step hu hnL (by omega) (by omega) (by omega) (by omega) hlt hmin
          have hpm : (swp L' x c1).Perm L := (swp_perm (by omega) (by omega)).trans hp
          have hoth : ∀ k, n ≤ k → gk (swp L' x c1) k = gk L k := fun k hk => by rw [swp_get (by omega) (by omega), if_neg (by omega), if_neg (by omega)]; exact ho k hk
          rw [show decide (gk L' c1 < gk L' x) = true from decide_eq_true hlt] at ls
          have LS := Lib.hid ls; clear ls
          have SW := Lib.hid sw; clear sw
          have MS := Lib.hid ms; clear ms
          have H1 := Lib.hid hR; clear hR
          have H2 := Lib.hid hpm; clear hpm hp
          have H3 := Lib.hid hst; clear hst hu
          have H4 := Lib.hid hC; clear hC
          have H5 := Lib.hid hll; clear hll
          have H6 := Lib.hid hoth; clear hoth ho
          clear hlt hmin hc1 hc2
          go_wp2_with fail
          refine LS.out.mono ?_
          rintro e w1 ⟨rfl, q, rfl⟩
          have ms := MS.out q
          go_wp2_with fail
          refine (SW.out q).mono ?_
          rintro e w2 ⟨rfl, hw, hD⟩
          have h := (H1.out.drewN q).swap (by have := H5.out; have := HC1.out; have := HC2.out; omega) (by have := H5.out; have := HC1.out; have := HC2.out; omega) hw hD
          replace hD := (H4.out.drewN q).trans hD
          clear hw ms mz
          have H7 := Lib.hid h; clear h
          have H8 := Lib.hid hD; clear hD
          go_wp2_with fail
          go_roundw
          case rel => exact ⟨c1, swp L' x c1, rfl, by have := HC1.out; have := HC2.out; omega, .inl (by have := HC1.out; have := HC2.out; omega), by rw [swp_len]; exact H5.out, H2.out, H3.out, H6.out, H7.out, H8.out⟩
          case measure => have := HC1.out; have := HC2.out; simp [intOf]; omega
        · have hf : HeapFrom s n L' := down_done hu (fun k k0 k1 k2 => Nat.le_trans (by omega) (hmin k k0 k1 k2))
          rw [show decide (gk L' c1 < gk L' x) = false from decide_eq_false hlt] at ls
          have LS := Lib.hid ls; clear ls
          have H1 := Lib.hid hR; clear hR
          have H2 := Lib.hid hp; clear hp
          have H3 := Lib.hid hf; clear hf hu
          have H4 := Lib.hid hC; clear hC
          have H6 := Lib.hid ho; clear ho
          clear hlt hmin ms sw hc1 hc2
          go_wp2_with fail
          refine LS.out.mono ?_
          rintro e w1 ⟨rfl, q, rfl⟩
          go_wp2_with fail
          go_ret
          exact ⟨⟨_, rfl⟩, L', H2.out, H3.out, H6.out, H1.out.drewN q, H4.out.drewN q⟩
end Go.Proofs.Ytpnhdiajiieonaa
