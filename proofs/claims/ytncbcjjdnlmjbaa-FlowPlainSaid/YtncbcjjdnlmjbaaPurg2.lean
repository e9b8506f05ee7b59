/- A purger: flows, stays. Printed by mkpurg2.py. -/
import Derived.Test.YtncbcjjdnlmjbaaPurg
import Derived.IntWalk
set_option linter.unusedSimpArgs false
set_option linter.unusedVariables false
namespace Go.Proofs.Ytncbcjjdnlmjbaa
open Go.RowKit

/-! ### Plain: steps, who stays -/
structure St where
  kind : Int
  part : Int
  dev : Int
  a : Int
  b : Int
  c : Int
  data : ByteArray
def stcell (x : St) : List Value := [.int .i64 x.kind, .int .i64 x.part, .int .i64 x.dev, .int .i64 x.a, .int .i64 x.b, .int .i64 x.c, .string x.data]
def St.zero : St := ⟨0, 0, 0, 0, 0, 0, ByteArray.empty⟩
def pfl (F : List Bool) (p : Int) : Bool := decide (0 ≤ p) && F.getD p.toNat false
def keepP (fl : Int → Bool) (A : AL) (x : St) : Bool := if callP x.kind then fl x.part else if x.kind = 3 ∨ x.kind = 4 then fl (ownA A x.dev) else true
def stepA (q np : Int) (A : AL) (t : Int) (x : St) : AL := if x.kind = 2 then mvA q np A x.dev x.a else if x.kind = 1 ∧ t < 1048575 then tickA A else A
def stepT (t : Int) (x : St) : Int := if x.kind = 1 ∧ t < 1048575 then t + 1 else t
theorem AOk.mv {q np : Int} {A : AL} (h : AOk A) (h0 : 0 ≤ q) (h1 : q ≤ 8) (d to_ : Int) : AOk (mvA q np A d to_) := by
  unfold mvA
  split
  · refine ⟨by rw [List.length_set]; exact h.1, fun x hx => ?_⟩
    rcases List.mem_or_eq_of_mem_set hx with hx | rfl
    · exact h.2 x hx
    · exact ⟨h0, h1⟩
  · exact h
theorem AOk.tick {A : AL} (h : AOk A) : AOk (tickA A) := by
  unfold tickA
  refine ⟨by rw [List.length_map]; exact h.1, fun x hx => ?_⟩
  obtain ⟨y, hy, rfl⟩ := List.mem_map.1 hx
  have := h.2 y hy
  unfold tickS
  split
  · exact this
  · rename_i hne
    have e1 : y.2 ≠ 0 := hne
    show 0 ≤ y.2 - 1 ∧ y.2 - 1 ≤ 8
    omega
theorem AOk.step {q np : Int} {A : AL} (h : AOk A) (h0 : 0 ≤ q) (h1 : q ≤ 8) (t : Int) (x : St) : AOk (stepA q np A t x) := by
  unfold stepA
  split
  · exact h.mv h0 h1 _ _
  · split
    · exact h.tick
    · exact h
/-! ### The purger's blocks -/
def PurAt (w : World) (base b a r : Nat) (v : Value) (F : List Bool) (q np : Int) (A : AL) (tk : Int) : Prop :=
  w.heap[b]? = some (.cells #[v, .pointer (some ⟨a, 0, none⟩), .int .i64 tk] 133 (0, 0)) ∧ OwnC bcell 1 4 w base v F ∧ AsgAt w a r q np A
section
variable {w w' : World} {base b a r : Nat} {v : Value} {F : List Bool} {q np : Int} {A : AL} {tk : Int}
theorem PurAt.keepN (h : PurAt w base b a r v F q np A tk) (hC : Chg (fun _ => False) w w') : PurAt w' base b a r v F q np A tk := ⟨hC.at h.1 id, h.2.1.keep hC (fun _ _ => id), h.2.2.keepN hC⟩
theorem PurAt.nebr (h : PurAt w base b a r v F q np A tk) : b ≠ r := by
  obtain ⟨cap, h1, h2⟩ := h.2.2
  rintro rfl
  exact own_ne h2 h.1 (by decide) rfl
theorem PurAt.neba (h : PurAt w base b a r v F q np A tk) : b ≠ a := by
  obtain ⟨cap, h1, h2⟩ := h.2.2
  rintro rfl
  have := h.1.symm.trans h1
  injection this with this
  injection this with e1 e2
  exact absurd e2 (by decide)
theorem PurAt.neb (h : PurAt w base b a r v F q np A tk) : ∀ k, v.ownBlock = some k → k ≠ b := by
  rintro k hk rfl
  exact own_ne h.2.1 h.1 (by decide) hk
theorem PurAt.ner (h : PurAt w base b a r v F q np A tk) : ∀ k, v.ownBlock = some k → k ≠ r := by
  rintro k hk rfl
  obtain ⟨cap, h1, h2⟩ := h.2.2
  rcases h2.2 with ⟨h3, _⟩ | ⟨g, cap', cur, hv, _, hg, _⟩
  · cases h3
  · injection hv with e1; injection e1 with e1; injection e1 with e1
    subst e1
    exact own_ne h.2.1 hg (by decide) hk
end
set_option maxRecDepth 100000 in
theorem vPFlows (base b a r : Nat) (v : Value) (F : List Bool) (q np : Int) (A : AL) (tk p : Int) (w : World) (h : PurAt w base b a r v F q np A tk) (hF : F.length ≤ 4) :
    Calls Try.prog 130 #[.pointer (some ⟨b, 0, none⟩), .int .i64 p] w fun e w' => e = .returned (.bool (pfl F p)) ∧ w = w' := by
  obtain ⟨hb, ho, _⟩ := h
  obtain ⟨B, k, rfl⟩ := ho.slice
  have c0 := blk_cell hb 0
  simp only [List.getElem?_toArray, List.getElem?_cons_zero] at c0
  have l4 : (F.length : Int) ≤ 4 := by omega
  by_cases h0 : 0 ≤ p
  · have d0 : decide (0 ≤ p) = true := decide_eq_true h0
    by_cases h1 : p < F.length
    · have d1 : decide (p < (F.length : Int)) = true := decide_eq_true h1
      obtain ⟨i, rfl⟩ := Int.eq_ofNat_of_zero_le h0
      have hi : i < F.length := by omega
      obtain ⟨g, cap, hv, _⟩ := ho.form (by omega)
      injection hv with e1 e2 e3
      subst e1 e3
      have y := ho.cell (fun _ => rfl) hi (j := 0) (by omega)
      rw [show bcell F[i] = [.bool F[i]] from rfl] at y
      simp only [Nat.mul_one, Nat.add_zero, List.getElem?_cons_zero] at y
      have EN : Hid (pfl F i = F[i]) := by unfold Hid pfl; rw [d0]; simp [hi]
      rw [EN.out]
      clear hb ho
      go_enter Try.func130, Try.ntmps130
      go_wp2_with fail
      go_ret
      exact ⟨rfl, rfl⟩
    · have d1 : decide (p < (F.length : Int)) = false := decide_eq_false h1
      have EN : Hid (pfl F p = false) := by unfold Hid pfl; rw [d0]; simp [List.getD, List.getElem?_eq_none (show F.length ≤ p.toNat by omega)]
      rw [EN.out]
      clear hb ho
      go_enter Try.func130, Try.ntmps130
      go_wp2_with fail
      go_ret
      exact ⟨rfl, rfl⟩
  · have d0 : decide (0 ≤ p) = false := decide_eq_false h0
    have EN : Hid (pfl F p = false) := by unfold Hid pfl; rw [d0]; rfl
    rw [EN.out]
    clear hb ho
    go_enter Try.func130, Try.ntmps130
    go_wp2_with fail
    go_ret
    exact ⟨rfl, rfl⟩
def StaysPost (base b a r : Nat) (v : Value) (F : List Bool) (q np : Int) (A : AL) (tk : Int) (x : St) (w : World) (e : Ending) (w' : World) : Prop :=
  e = .returned (.bool (keepP (pfl F) A x)) ∧ PurAt w' base b a r v F q np (stepA q np A tk x) (stepT tk x) ∧ Chg (fun k => k = b ∨ k = r) w w'
set_option maxRecDepth 100000 in
set_option maxHeartbeats 4000000 in
theorem vStays (base b a r sb : Nat) (v : Value) (F : List Bool) (q np : Int) (A : AL) (tk : Int) (x : St) (w : World) (h : PurAt w base b a r v F q np A tk) (hF : F.length ≤ 4) (hok : AOk A) (ht : 0 ≤ tk)
    (hs : w.heap[sb]? = some (.cells (stcell x).toArray 59 (0, 0))) :
    Calls Try.prog 77 #[.pointer (some ⟨b, 0, none⟩), .pointer (some ⟨sb, 0, none⟩)] w (StaysPost base b a r v F q np A tk x w) := by
  have hcall := vCall x.kind w
  have HCALL := Lib.hid hcall; clear hcall
  have HFL := Lib.hid (fun p W (hW : PurAt W base b a r v F q np A tk) => vPFlows base b a r v F q np A tk p W hW hF)
  have HH := Lib.hid h
  have c1 := blk_cell h.1 1
  have c2 := blk_cell h.1 2
  have y0 := blk_cell hs 0
  have y1 := blk_cell hs 1
  have y2 := blk_cell hs 2
  have y3 := blk_cell hs 3
  simp only [stcell, List.getElem?_toArray, List.getElem?_cons_zero, List.getElem?_cons_succ] at c1 c2 y0 y1 y2 y3
  have c2f := blk_free h.1 2
  have hbl := lt_of_heap h.1
  have HS := Lib.hid hs
  by_cases k0 : callP x.kind
  · rw [decide_eq_true k0] at HCALL
    have n2 : ¬ x.kind = 2 := by unfold callP at k0; omega
    have n1 : ¬ x.kind = 1 := by unfold callP at k0; omega
    have HF : Hid (StaysPost base b a r v F q np A tk x w (.returned (.bool (pfl F x.part))) w) := by
      refine ⟨by unfold keepP; rw [if_pos k0], ?_, Chg.refl _ _⟩
      unfold stepA stepT
      rw [if_neg n2, if_neg (fun h => n1 h.1), if_neg (fun h => n1 h.1)]; exact HH.out
    have HC := Lib.hid (HFL.out x.part w h)
    clear h hs n1 n2 k0 HFL
    go_enter Try.func77, Try.ntmps77
    go_wp2_with fail
    refine HCALL.out.mono ?_
    rintro e w1 ⟨rfl, rfl⟩
    go_wp2_with fail
    refine HC.out.mono ?_
    rintro e w1 ⟨rfl, rfl⟩
    go_wp2_with fail
    go_ret
    exact HF.out
  · rw [decide_eq_false k0] at HCALL
    by_cases k1 : x.kind = 3 ∨ x.kind = 4
    · have n2 : ¬ x.kind = 2 := by omega
      have n1 : ¬ x.kind = 1 := by omega
      have HF : Hid (∀ n, StaysPost base b a r v F q np A tk x w (.returned (.bool (pfl F (ownA A x.dev)))) (w.drewN n)) := fun n => by
        refine ⟨by unfold keepP; rw [if_neg k0, if_pos k1], ?_, (Chg.refl _ _).drewN n⟩
        unfold stepA stepT
        rw [if_neg n2, if_neg (fun h => n1 h.1), if_neg (fun h => n1 h.1)]; exact HH.out.keepN ((Chg.refl _ _).drewN n)
      have HOW : Hid (∀ n, Calls Try.prog 131 #[.pointer (some ⟨a, 0, none⟩), .int .i64 x.dev] (w.drewN n) fun e w' => e = .returned (.int .i64 (ownA A x.dev)) ∧ w' = w.drewN n) := fun n => (asgOwner a r q np A x.dev (w.drewN n) (HH.out.2.2.keepN ((Chg.refl _ _).drewN n))).mono fun _ _ ⟨h1, h2⟩ => ⟨h1, h2.symm⟩
      have HC : Hid (∀ n, Calls Try.prog 130 #[.pointer (some ⟨b, 0, none⟩), .int .i64 (ownA A x.dev)] (w.drewN n) fun e w' => e = .returned (.bool (pfl F (ownA A x.dev))) ∧ w' = w.drewN n) := fun n => (HFL.out (ownA A x.dev) (w.drewN n) (HH.out.keepN ((Chg.refl _ _).drewN n))).mono fun _ _ ⟨h1, h2⟩ => ⟨h1, h2.symm⟩
      have b3 : (x.kind == 3 || x.kind == 4) = true := by simpa using k1
      clear h hs n1 n2 HFL
      by_cases k3 : x.kind = 3
      · have e3 : (x.kind == 3) = true := by simpa using k3
        clear k0 k1 b3 k3
        go_enter Try.func77, Try.ntmps77
        go_wp2_with fail
        refine HCALL.out.mono ?_
        rintro e w1 ⟨rfl, rfl⟩
        go_wp2_with fail
        go_quiet ((first | (go_at_call 131; exact Calls.quiet_of_same (HOW.out _)) | (go_at_call 130; exact Calls.quiet_of_same (HC.out _))))
        rename_i nq
        go_wp2_with fail
        go_ret
        exact HF.out _
      · have k4 : x.kind = 4 := by omega
        have e3 : (x.kind == 3) = false := by simpa using k3
        have e4 : (x.kind == 4) = true := by simpa using k4
        clear k0 k1 b3 k3 k4
        go_enter Try.func77, Try.ntmps77
        go_wp2_with fail
        refine HCALL.out.mono ?_
        rintro e w1 ⟨rfl, rfl⟩
        go_wp2_with fail
        go_quiet ((first | (go_at_call 131; exact Calls.quiet_of_same (HOW.out _)) | (go_at_call 130; exact Calls.quiet_of_same (HC.out _))))
        rename_i nq
        go_wp2_with fail
        go_ret
        exact HF.out _
    · have e3 : (x.kind == 3) = false := by simp; omega
      have e4 : (x.kind == 4) = false := by simp; omega
      have HKP : Hid (keepP (pfl F) A x = true) := by unfold Hid keepP; rw [if_neg k0, if_neg k1]
      by_cases k2 : x.kind = 2
      · have e2 : (x.kind == 2) = true := by simpa using k2
        have HMV := Lib.hid (asgMove a r q np A x.dev x.a w.drew (h.2.2.keepN (Chg.refl _ _).drew))
        have K2 := Lib.hid k2
        clear h hs HFL k0 k1 c2f k2
        go_enter Try.func77, Try.ntmps77
        go_wp2_with fail
        refine HCALL.out.mono ?_
        rintro e w1 ⟨rfl, rfl⟩
        go_wp2_with fail
        go_still_tail 12, (by kernel_rfl)
        change wpList _ _ _ _ _ w.drew
        go_wp2_with fail
        refine HMV.out.mono ?_
        rintro e w1 ⟨rfl, hA, hC⟩
        have HF : Hid (StaysPost base b a r v F q np A tk x w (.returned (.bool true)) w1) := by
          refine ⟨by rw [HKP.out], ?_, ((Chg.refl (fun k => k = b ∨ k = r) w).drew).trans (hC.mono (fun _ _ h => .inr h))⟩
          unfold stepA stepT
          rw [if_pos K2.out, if_neg (fun h => by have := K2.out; omega)]
          have hC' := ((Chg.refl (fun k => k = r) w).drew).trans hC
          exact ⟨hC'.at HH.out.1 HH.out.nebr, HH.out.2.1.keep hC' (fun k hk => HH.out.ner k hk), hA⟩
        clear hA hC
        go_wp2_with fail
        go_ret
        exact HF.out
      · have e2 : (x.kind == 2) = false := by simpa using k2
        by_cases k5 : x.kind = 1
        · have e1 : (x.kind == 1) = true := by simpa using k5
          by_cases k6 : tk < 1048575
          · have e5 : decide (tk < 1048575) = true := decide_eq_true k6
            have hC1 : Chg (fun k => k = b) w (w.setCell ⟨b, 2, none⟩ (.int .i64 (tk + 1))) := (Chg.refl _ _).set1 _
            have hA1 := h.2.2.keep hC1 (Ne.symm h.neba) (Ne.symm h.nebr)
            have HTK := Lib.hid (asgTick a r q np A _ hA1 hok)
            have HB1 : Hid ((w.setCell ⟨b, 2, none⟩ (.int .i64 (tk + 1))).heap[b]? = some (.cells #[v, .pointer (some ⟨a, 0, none⟩), .int .i64 (tk + 1)] 133 (0, 0))) := blk_set h.1 2 _
            have HO1 : Hid (OwnC bcell 1 4 (w.setCell ⟨b, 2, none⟩ (.int .i64 (tk + 1))) base v F) := h.2.1.keep hC1 h.neb
            have HC1 := Lib.hid hC1
            have K := Lib.hid (show x.kind = 1 ∧ tk < 1048575 from ⟨k5, k6⟩)
            have hwr : wrap64 (tk + 1) = tk + 1 := by unfold wrap64; omega
            clear h hs HFL k0 k1 k5 k6 hA1 hC1 k2
            go_enter Try.func77, Try.ntmps77
            go_wp2_with fail
            refine HCALL.out.mono ?_
            rintro e w1 ⟨rfl, rfl⟩
            go_wp2_with fail
            refine HTK.out.mono ?_
            rintro e w1 ⟨tv, rfl, _, hA, hC⟩
            have HF : Hid (StaysPost base b a r v F q np A tk x w (.returned (.bool true)) w1) := by
              refine ⟨by rw [HKP.out], ?_, (HC1.out.mono (fun _ _ h => .inl h)).trans (hC.mono (fun _ _ h => .inr h))⟩
              unfold stepA stepT
              rw [if_neg (fun h => by have := K.out; omega), if_pos K.out, if_pos K.out]
              exact ⟨hC.at HB1.out HH.out.nebr, HO1.out.keep hC (fun k hk => HH.out.ner k hk), hA⟩
            clear hA hC
            go_wp2_with fail
            go_ret
            exact HF.out
          · have e5 : decide (tk < 1048575) = false := decide_eq_false k6
            have HF : Hid (StaysPost base b a r v F q np A tk x w (.returned (.bool true)) w) := by
              refine ⟨by rw [HKP.out], ?_, Chg.refl _ _⟩
              unfold stepA stepT
              rw [if_neg k2, if_neg (fun h => k6 h.2), if_neg (fun h => k6 h.2)]; exact HH.out
            clear h hs HFL k0 k1 k5 k6
            go_enter Try.func77, Try.ntmps77
            go_wp2_with fail
            refine HCALL.out.mono ?_
            rintro e w1 ⟨rfl, rfl⟩
            go_wp2_with fail
            go_ret
            exact HF.out
        · have e1 : (x.kind == 1) = false := by simpa using k5
          have HF : Hid (StaysPost base b a r v F q np A tk x w (.returned (.bool true)) w) := by
            refine ⟨by rw [HKP.out], ?_, Chg.refl _ _⟩
            unfold stepA stepT
            rw [if_neg k2, if_neg (fun h => k5 h.1), if_neg (fun h => k5 h.1)]; exact HH.out
          clear h hs HFL k0 k1
          go_enter Try.func77, Try.ntmps77
          go_wp2_with fail
          refine HCALL.out.mono ?_
          rintro e w1 ⟨rfl, rfl⟩
          go_wp2_with fail
          go_ret
          exact HF.out
end Go.Proofs.Ytncbcjjdnlmjbaa
