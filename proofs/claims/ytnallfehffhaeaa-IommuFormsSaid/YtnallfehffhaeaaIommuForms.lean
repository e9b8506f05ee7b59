/- The law IommuForms. -/
import Derived.Test.YtnallfehffhaeaaAwake7
set_option linter.unusedSimpArgs false
set_option linter.unusedVariables false
namespace Go.Proofs.Ytnallfehffhaeaa
open Go.RowKit
attribute [local go_sem] i64_and1023

section
variable {w w' : World} {x p : Nat} {bs : List UInt8} {F : Nat → Prop}
theorem badMap (hl : bs.length = 1024) {d q f k : Int} (h : ¬ (0 ≤ d ∧ d < 2 ∧ 0 ≤ q ∧ q < 256 ∧ k ≠ 0 ∧ f < 16)) : ¬ MapP PL7 bs d q f k := by
  rintro ⟨⟨a1, a2⟩, ⟨a3, a4⟩, _, a6, a7, a8⟩
  rw [hl] at a8
  have : (PL7.length : Int) = 2 := rfl
  omega
theorem ioMapBad (h : IoM w x p PL7 bs F) (hl : bs.length = 1024) (d q f k : Int) (hb : ¬ (0 ≤ d ∧ d < 2 ∧ 0 ≤ q ∧ q < 256 ∧ k ≠ 0 ∧ f < 16)) :
    Calls Try.prog 13 #[.pointer (some ⟨x, 0, none⟩), .int .i64 d, .int .i64 q, .agg #[.int .i64 f, .int .i64 k]] w (IoPost x p PL7 F w (.int .i64 700) bs) := by
  have := ioMap h d q f k
  rwa [if_neg (badMap hl hb), if_neg (badMap hl hb)] at this
theorem ioUnmapBad (h : IoM w x p PL7 bs F) (d q : Int) (hb : ¬ (0 ≤ d ∧ d < 2 ∧ 0 ≤ q ∧ q < 256)) :
    Calls Try.prog 11 #[.pointer (some ⟨x, 0, none⟩), .int .i64 d, .int .i64 q] w (IoPost x p PL7 F w (.int .i64 700) bs) := by
  have hn : ¬ (devIn PL7 d ∧ pageP q) := fun ⟨a, b⟩ => hb ⟨a.1, a.2, b.1, b.2⟩
  have := ioUnmap h d q
  rwa [if_neg hn, if_neg hn] at this
theorem ioClearBad (h : IoM w x p PL7 bs F) (d : Int) (hb : ¬ (0 ≤ d ∧ d < 2)) :
    Calls Try.prog 17 #[.pointer (some ⟨x, 0, none⟩), .int .i64 d] w (IoPost x p PL7 F w (.int .i64 700) bs) := by
  have hn : ¬ devIn PL7 d := fun a => hb ⟨a.1, a.2⟩
  have := ioClear h d
  rwa [if_neg hn, if_neg hn] at this
theorem ioTransBad (h : IoM w x p PL7 bs F) (d b n : Int) (wri : Bool) (hb : ¬ (0 ≤ d ∧ d < 2 ∧ 1 ≤ n ∧ n ≤ 256 ∧ 0 ≤ b ∧ b + n ≤ 16384)) :
    Calls Try.prog 14 #[.pointer (some ⟨x, 0, none⟩), .int .i64 d, .int .i64 b, .int .i64 n, .bool wri] w (IoTrans x p PL7 bs F w ([], 700)) := by
  have hn : ¬ TransP PL7 d b n := fun ⟨a, c⟩ => hb ⟨a.1, a.2, c⟩
  have := ioTrans h d b n wri
  unfold transQ at this
  rwa [if_neg hn] at this
theorem ioNewBad (h : IoM w x p PL7 bs F) {v : Value} {L : Pls} (h1 : RdLL w' v L) (hC : Chg (fun _ => False) w w') (hn : ¬ PoolsP bs L) :
    Calls Try.prog 16 #[.pointer (some ⟨p, 0, none⟩), v] w' fun e w2 => e = .returned (.tuple #[.pointer none, .int .i64 700]) ∧ IoM w2 x p PL7 bs F ∧ Chg (fun _ => False) w w2 := by
  obtain ⟨r, hM, hl⟩ := (h.keepN hC).mem
  exact (iNew_no p r bs v L w' hM hl h1 hn).mono fun e w2 k => ⟨k.1, (h.keepN hC).keepN k.2, hC.trans k.2⟩
theorem RdLL.mk1 {w : World} {b : Nat} {v1 : Value} {P1 : List Int} {t : TypeId} (h : w.heap[b]? = some (.cells #[v1] t (0, 0))) (h1 : RdN w v1 P1) (c : Nat) : RdLL w (.slice (some ⟨b, 0, none⟩) 1 c) [P1] := by
  refine ⟨(show 1 ≤ maxLen by decide), _, c, rfl, fun j hj => ?_⟩
  match j, hj with
  | 0, _ => exact ⟨b, 0, v1, rfl, by rw [blk_cell h]; rfl, h1⟩
theorem new0 (h : IoM w x p PL7 bs F) : Calls Try.prog 16 #[.pointer (some ⟨p, 0, none⟩), .slice none 0 0] w fun e w2 => e = .returned (.tuple #[.pointer none, .int .i64 700]) ∧ IoM w2 x p PL7 bs F ∧ Chg (fun _ => False) w w2 :=
  ioNewBad (L := []) h ⟨Nat.zero_le _, none, 0, rfl, fun j hj => absurd hj (Nat.not_lt_zero _)⟩ (Chg.refl _ _) (fun h => absurd h.2.2.1 (by decide))
theorem new1a (h : IoM w x p PL7 bs F) (hn : ¬ PoolsP bs [[0]]) :
    Calls Try.prog 16 #[.pointer (some ⟨p, 0, none⟩), .slice (some ⟨w.heap.size + 1, 0, none⟩) 1 1] ((w.alloc (.cells #[.int .i64 0] 3)).alloc (.cells #[.slice (some ⟨w.heap.size, 0, none⟩) 1 1] 22)) fun e w2 => e = .returned (.tuple #[.pointer none, .int .i64 700]) ∧ IoM w2 x p PL7 bs F ∧ Chg (fun _ => False) w w2 :=
  ioNewBad (L := [[0]]) h (RdLL.mk1 (blk_new2 _ _ _) (RdN.blk (blk_alloc (blk_new _ _) _) rfl (by decide) _) _) (((Chg.refl _ _).alloc _).alloc _) hn
theorem new1b (h : IoM w x p PL7 bs F) (hn : ¬ PoolsP bs [[0, 1, 2, 3, 4, 5]]) :
    Calls Try.prog 16 #[.pointer (some ⟨p, 0, none⟩), .slice (some ⟨w.heap.size + 1, 0, none⟩) 1 1] ((w.alloc (.cells #[.int .i64 0, .int .i64 1, .int .i64 2, .int .i64 3, .int .i64 4, .int .i64 5] 3)).alloc (.cells #[.slice (some ⟨w.heap.size, 0, none⟩) 6 6] 22)) fun e w2 => e = .returned (.tuple #[.pointer none, .int .i64 700]) ∧ IoM w2 x p PL7 bs F ∧ Chg (fun _ => False) w w2 :=
  ioNewBad (L := [[0, 1, 2, 3, 4, 5]]) h (RdLL.mk1 (blk_new2 _ _ _) (RdN.blk (blk_alloc (blk_new _ _) _) rfl (by decide) _) _) (((Chg.refl _ _).alloc _).alloc _) hn
theorem new1c (h : IoM w x p PL7 bs F) (d : Int) (hn : ¬ PoolsP bs [[0, 15 + d]]) :
    Calls Try.prog 16 #[.pointer (some ⟨p, 0, none⟩), .slice (some ⟨w.heap.size + 1, 0, none⟩) 1 1] ((w.alloc (.cells #[.int .i64 0, .int .i64 (15 + d)] 3)).alloc (.cells #[.slice (some ⟨w.heap.size, 0, none⟩) 2 2] 22)) fun e w2 => e = .returned (.tuple #[.pointer none, .int .i64 700]) ∧ IoM w2 x p PL7 bs F ∧ Chg (fun _ => False) w w2 :=
  ioNewBad (L := [[0, 15 + d]]) h (RdLL.mk1 (blk_new2 _ _ _) (RdN.blk (P := [0, 15 + d]) (blk_alloc (blk_new _ _) _) rfl (show 2 ≤ maxLen by decide) _) _) (((Chg.refl _ _).alloc _).alloc _) hn
theorem new2 (h : IoM w x p PL7 bs F) :
    Calls Try.prog 16 #[.pointer (some ⟨p, 0, none⟩), .slice (some ⟨w.heap.size + 1 + 1, 0, none⟩) 2 2] (((w.alloc (.cells #[.int .i64 0, .int .i64 1] 3)).alloc (.cells #[.int .i64 2, .int .i64 0] 3)).alloc (.cells #[.slice (some ⟨w.heap.size, 0, none⟩) 2 2, .slice (some ⟨w.heap.size + 1, 0, none⟩) 2 2] 22)) fun e w2 => e = .returned (.tuple #[.pointer none, .int .i64 700]) ∧ IoM w2 x p PL7 bs F ∧ Chg (fun _ => False) w w2 :=
  ioNewBad (L := [[0, 1], [2, 0]]) h (RdLL.mk2 (blk_new3 _ _ _ _) (RdN.blk (blk_alloc (blk_alloc (blk_new _ _) _) _) rfl (by decide) _) (RdN.blk (blk_alloc (blk_new2 _ _ _) _) rfl (by decide) _) _) ((((Chg.refl _ _).alloc _).alloc _).alloc _) (fun h => absurd h.2.1 (by decide))
end
set_option maxRecDepth 100000 in
set_option maxHeartbeats 8000000 in
theorem iommuForms_main (w0 : World) (which x0 : Int) :
    Calls Try.prog 5 #[.int .i64 which, .int .i64 x0] w0 fun e w' => e = .returned (.bool true) ∧ Chg (fun _ => False) w0 w' := by
  obtain ⟨d, hd, hd1, hd2⟩ : ∃ d : Int, 1 + x0 % 1024 = d ∧ 1 ≤ d ∧ d ≤ 1024 := ⟨1 + x0 % 1024, rfl, by omega, by omega⟩
  have Hd := Lib.hid hd; clear hd
  have hz : IntKind.i64.wrap (d.tmod 200) = d % 200 := by
    rw [Int.tmod_eq_emod_of_nonneg (by omega), IntKind.wrap_i64]; omega
  have HZ := Lib.hid hz; clear hz
  go_enter Try.func5, Try.ntmps5
  go_wp2_with fail
  refine (awake7 _).mono ?_
  rintro e w ⟨rfl, hC0⟩
  have HC0 := Lib.hid hC0; clear hC0
  go_wp2_with fail
  rw [Hd.out]
  clear Hd
  refine (set7 w).mono ?_
  rintro e w1 ⟨x, p, bs, F, rfl, hI, hD, hF, hC1⟩
  have HI := Lib.hid hI
  have HL := Lib.hid hD.len
  have HC : Hid (Chg (fun _ => False) w0 w1) := HC0.out.trans hC1
  have HF : Hid (∀ k, F k → w0.heap.size ≤ k) := fun k hk => Nat.le_trans HC0.out.size (hF k hk)
  clear hI hD hF hC1 HC0
  have HP2 : Hid (¬ PoolsP bs [[0, 15 + d]]) := fun h => by
    have h1 := (h.1 (15 + d) (by simp)).2
    rw [HL.out] at h1; omega
  have HP1 : Hid (¬ PoolsP bs [[0]]) := fun h => absurd (h.2.2.2.2 [0] (by simp)) (by decide)
  have HP3 : Hid (¬ PoolsP bs [[0, 1, 2, 3, 4, 5]]) := fun h => absurd (h.2.2.2.2 [0, 1, 2, 3, 4, 5] (by simp)) (by decide)
  go_wp2_with fail
  all_goals first
    | (first
        | with_reducible refine (ioMapBad HI.out HL.out _ _ _ _ (by omega)).mono ?_
        | with_reducible refine (ioUnmapBad HI.out _ _ (by omega)).mono ?_
        | with_reducible refine (ioClearBad HI.out _ (by omega)).mono ?_
       rintro e w2 ⟨rfl, F2, hI, hF, hC⟩
       have hq := io_next HC.out HF.out hF hC
       have HI2 := Lib.hid hI; have HC2 := Lib.hid hq.1; have HF2 := Lib.hid hq.2
       clear hI hF hC hq
       go_wp2_with fail
       refine (num16q _ _).mono ?_
       rintro e w30 ⟨rfl, rfl⟩
       go_wp2_with fail
       refine (ioTransBad HI2.out _ _ _ _ (by omega)).mono ?_
       rintro e w3 ⟨o, rfl, hO, F3, hI, hF, hN, hC⟩
       have hq := io_next HC2.out HF2.out hF hC
       have HC3 := Lib.hid hq.1
       obtain ⟨A3, c3, hv⟩ := hO.slice
       subst hv
       clear hO hI hF hN hC hq
       go_wp2_with fail
       refine (num16q _ _).mono ?_
       rintro e w30 ⟨rfl, rfl⟩
       go_wp2_with fail
       go_ret
       exact ⟨rfl, HC3.out⟩)
    | ((try rw [HZ.out])
       with_reducible refine (ioTransBad HI.out _ _ _ _ (by omega)).mono ?_
       rintro e w2 ⟨o, rfl, hO, F2, hI, hF, hN, hC⟩
       have hq := io_next HC.out HF.out hF hC
       have HI2 := Lib.hid hI; have HC2 := Lib.hid hq.1; have HF2 := Lib.hid hq.2
       obtain ⟨A2, c2, hv⟩ := hO.slice
       subst hv
       clear hO hI hF hN hC hq
       go_wp2_with fail
       refine (num16q _ _).mono ?_
       rintro e w30 ⟨rfl, rfl⟩
       go_wp2_with fail
       refine (ioTransBad HI2.out _ _ _ _ (by omega)).mono ?_
       rintro e w3 ⟨o, rfl, hO, F3, hI, hF, hN, hC⟩
       have hq := io_next HC2.out HF2.out hF hC
       have HC3 := Lib.hid hq.1
       obtain ⟨A3, c3, hv⟩ := hO.slice
       subst hv
       clear hO hI hF hN hC hq
       go_wp2_with fail
       refine (num16q _ _).mono ?_
       rintro e w30 ⟨rfl, rfl⟩
       go_wp2_with fail
       go_ret
       exact ⟨rfl, HC3.out⟩)
    | (first
        | with_reducible refine (new0 HI.out).mono ?_
        | with_reducible refine (new2 HI.out).mono ?_
        | with_reducible refine (new1a HI.out HP1.out).mono ?_
        | with_reducible refine (new1b HI.out HP3.out).mono ?_
        | with_reducible refine (new1c HI.out d HP2.out).mono ?_
       rintro e w2 ⟨rfl, hI, hC⟩
       have HI2 := Lib.hid hI; have HC2 := Lib.hid (HC.out.trans hC)
       clear hI hC
       go_wp2_with fail
       refine (num16q _ _).mono ?_
       rintro e w30 ⟨rfl, rfl⟩
       go_wp2_with fail
       refine (ioTransBad HI2.out _ _ _ _ (by omega)).mono ?_
       rintro e w3 ⟨o, rfl, hO, F3, hI, hF, hN, hC⟩
       have hq := io_next HC2.out HF.out hF hC
       have HC3 := Lib.hid hq.1
       obtain ⟨A3, c3, hv⟩ := hO.slice
       subst hv
       clear hO hI hF hN hC hq
       go_wp2_with fail
       refine (num16q _ _).mono ?_
       rintro e w30 ⟨rfl, rfl⟩
       go_wp2_with fail
       go_ret
       exact ⟨rfl, HC3.out⟩)
theorem iommuForms_walk (w : World) (which x : Int) :
    Calls Try.prog 5 #[.int .i64 which, .int .i64 x] w fun e w' => e = .returned (.bool true) ∧ Below w.heap.size w w' :=
  (iommuForms_main w which x).mono fun e w' ⟨h1, h2⟩ => ⟨h1, h2.below (Nat.le_refl _) (fun _ h => h.elim)⟩
end Go.Proofs.Ytnallfehffhaeaa
