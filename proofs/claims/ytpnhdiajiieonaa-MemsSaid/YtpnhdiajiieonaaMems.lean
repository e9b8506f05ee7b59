/- The law Mems: the walk. -/
import Derived.Test.YtpnhdiajiieonaaMem7
import Derived.Test.YtpnhdiajiieonaaMemForms
import Derived.Test.YtpnhdiajiieonaaOpen
import Derived.Deep.DeepCutAuto
import Derived.Deep.CutBlock
import Derived.BigQuiet
set_option linter.unusedSimpArgs false
set_option linter.unusedVariables false
namespace Go.Proofs.Ytpnhdiajiieonaa
open Go.RowKit Go.ChangeShapes Go.WideShapes Go.Deep

theorem write41w (p r : Nat) (bs : List UInt8) (a : Int) (s : ByteArray) (w : World) (h : MemAt w 141 p r bs) (hl : bs.length ≤ 4096) (hs : s.size ≤ 9223372036854775807) :
    Calls Try.prog 30 #[.pointer (some ⟨p, 0, none⟩), .int .i64 a, .string s] w fun e w' => e = .returned (.int .i64 (errC bs a s.size)) ∧ MemAt w' 141 p r (writeB bs a s) ∧ Chg (fun k => k = r) w w' := by
  by_cases hm : mayP a s.size bs.length
  · exact write41 p r bs a s w h hl (by unfold mayP at hm; omega)
  · have c0 := h.hdr
    unfold writeB errC
    rw [if_neg hm, if_neg hm]
    have H := Lib.hid h; clear h
    go_enter Try.func30, Try.ntmps30
    go_wp2_with fail
    refine (may56_no _ _ _ _ hm (by omega)).mono ?_
    rintro e w' ⟨rfl, rfl⟩
    clear hm
    go_wp2
    go_ret
    exact ⟨rfl, H.out, Chg.refl _ _⟩
theorem write42w (p r : Nat) (bs : List UInt8) (a : Int) (s : ByteArray) (w : World) (h : MemAt w 35 p r bs) (hl : bs.length ≤ 4096) (hs : s.size ≤ 9223372036854775807) :
    Calls Try.prog 31 #[.pointer (some ⟨p, 0, none⟩), .int .i64 a, .string s] w fun e w' => e = .returned (.int .i64 (errC bs a s.size)) ∧ MemAt w' 35 p r (writeB bs a s) ∧ Chg (fun k => k = r) w w' := by
  by_cases hm : mayP a s.size bs.length
  · exact write42 p r bs a s w h hl (by unfold mayP at hm; omega)
  · have c0 := h.hdr
    unfold writeB errC
    rw [if_neg hm, if_neg hm]
    have H : Hid (MemAt w 35 p r bs) := h
    clear h
    go_enter Try.func31, Try.ntmps31
    go_wp2_with fail
    refine (may57_no _ _ _ _ hm (by omega)).mono ?_
    rintro e w' ⟨rfl, rfl⟩
    clear hm
    go_wp2
    go_ret
    exact ⟨rfl, H.out, Chg.refl _ _⟩
theorem size40q (p r : Nat) (bs : List UInt8) (w : World) (h : MemAt w 141 p r bs) :
    Calls Try.prog 29 #[.pointer (some ⟨p, 0, none⟩)] w fun e w' => e = .returned (.int .i64 bs.length) ∧ w' = w := (size40 p r bs w h).mono fun _ _ ⟨h1, h2⟩ => ⟨h1, h2.symm⟩

structure MAct where
  kind : Int
  at_ : Int
  x : Int
  s : ByteArray
def MAct.cells (a : MAct) : List Value := [.int .i64 a.kind, .int .i64 a.at_, .int .i64 a.x, .string a.s]
theorem mactCells {w : World} {A : Option Addr} {xs : List MAct} (hr : RowC w A (xs.flatMap MAct.cells)) (k : Nat) (hk : k < xs.length) :
    ∃ b o, A = some ⟨b, o, none⟩ ∧ w.cell? ⟨b, o + k * 4, none⟩ = some (.int .i64 xs[k].kind) ∧ w.cell? ⟨b, o + k * 4 + 1, none⟩ = some (.int .i64 xs[k].at_) ∧ w.cell? ⟨b, o + k * 4 + 2, none⟩ = some (.int .i64 xs[k].x) ∧ w.cell? ⟨b, o + k * 4 + 3, none⟩ = some (.string xs[k].s) := by
  have g : ∀ j, j < 4 → (xs.flatMap MAct.cells)[k * 4 + j]? = (xs[k].cells)[j]? := fun j hj => by
    rw [flat_get MAct.cells 4 (fun _ => rfl) j hj xs k, List.getElem?_eq_getElem hk]; rfl
  obtain ⟨b, o, hA, c0⟩ := hr _ _ ((g 0 (by omega)).trans rfl)
  obtain ⟨b1, o1, hA1, c1⟩ := hr _ _ ((g 1 (by omega)).trans rfl)
  obtain ⟨b2, o2, hA2, c2⟩ := hr _ _ ((g 2 (by omega)).trans rfl)
  obtain ⟨b3, o3, hA3, c3⟩ := hr _ _ ((g 3 (by omega)).trans rfl)
  rw [hA] at hA1 hA2 hA3
  cases hA1; cases hA2; cases hA3
  exact ⟨b, o, hA, c0, c1, c2, c3⟩

def ActAt (w : World) (q : Nat) (a : MAct) : Prop := w.heap[q]? = some (.cells #[.int .i64 a.kind, .int .i64 a.at_, .int .i64 a.x, .string a.s] 37 (0, 0))
theorem ActAt.keep {S : Nat → Prop} {w w' : World} {q : Nat} {a : MAct} (h : ActAt w q a) (hC : Chg S w w') (hq : ¬ S q) : ActAt w' q a := hC.at h hq
theorem ActAt.cells {w : World} {q : Nat} {a : MAct} (h : ActAt w q a) : w.cell? ⟨q, 0, none⟩ = some (.int .i64 a.kind) ∧ w.cell? ⟨q, 1, none⟩ = some (.int .i64 a.at_) ∧ w.cell? ⟨q, 2, none⟩ = some (.int .i64 a.x) ∧ w.cell? ⟨q, 3, none⟩ = some (.string a.s) :=
  ⟨blk_cell h 0, blk_cell h 1, blk_cell h 2, blk_cell h 3⟩

set_option maxRecDepth 100000 in
set_option maxHeartbeats 8000000 in
theorem mems_good (n : Nat) (A : Option Addr) (c : Nat) (xs : List MAct) (w : World) (hn1 : 1 ≤ n) (hn2 : n ≤ 64) (hm : xs.length ≤ 9223372036854775807) (hr : RowC w A (xs.flatMap MAct.cells)) (hsz : ∀ x ∈ xs, x.s.size ≤ 9223372036854775807) :
    Calls Try.prog 3 #[.int .i64 n, .slice A xs.length c] w fun e w' => e = .returned (.bool true) ∧ Chg (fun _ => False) w w' := by
  go_enter Try.func3, Try.ntmps3
  go_wp2_with fail
  refine (mnew37_ok n w (by omega) (by omega)).mono ?_
  rintro e w1 ⟨rfl, h1, hs, hC⟩
  go_wp2_with fail
  refine (mnew38_ok n w1 (by omega) (by omega)).mono ?_
  rintro e w2 ⟨rfl, h2, hs2, hC2⟩
  replace h1 := h1.keep hC2 id id
  replace hC := hC.trans hC2
  clear hC2
  rw [hs] at h2 hs2 ⊢
  have hbl : (List.replicate (n * 64) (0 : UInt8)).length = n * 64 := List.length_replicate
  generalize List.replicate (n * 64) (0 : UInt8) = bs at *
  have c0 := h2.hdr
  have H1 := Lib.hid h1; clear h1
  have H2 := Lib.hid h2; clear h2
  have hlt : w.heap.size + 3 < w2.heap.size := by omega
  clear hs hs2
  generalize hBB : w.heap.size = B at *
  go_wp2_with fail
  go_quiet ((first | (go_at_call 27; exact Calls.quiet_of_same (num16q _ _)) | (go_at_call 29; exact Calls.quiet_of_same (size40q _ _ bs _ (H1.out.keep (S := fun _ => False) ((Chg.refl _ _).drewN _) id id)))))
  rename_i nq
  go_wp2_with fail
  have HLT := Lib.hid hlt; clear hlt
  have hBw : w.heap.size ≤ B := by omega
  have R1 := H1.out.keep (S := fun _ => False) ((Chg.refl _ _).drewN nq) id id
  have R2 := H2.out.keep (S := fun _ => False) ((Chg.refl _ _).drewN nq) id id
  have R3 := hC.drewN nq
  clear H1 H2 hC c0
  go_loopw [9] (fun i wr => ∃ k : Nat, k ≤ xs.length ∧ i = .int .i64 k ∧ ∃ bs, bs.length = n * 64 ∧ MemAt wr 141 (B + 1) B bs ∧ MemAt wr 35 (B + 2 + 1) (B + 2) bs ∧ Chg (fun _ => False) w wr) (fun i _ => xs.length - (intOf i).toNat)
  case atStart => exact ⟨0, by omega, rfl, bs, hbl, R1, R2, R3⟩
  case round =>
    clear R1 R2 R3 hbl
    obtain ⟨k, hk, rfl, bs, hbl, h1, h2, hC⟩ := hrel
    by_cases hlt : k < xs.length
    · obtain ⟨b, o, rfl, c0, c1, c2, c3⟩ := mactCells hr k hlt
      have hk0 : (0 : Int) ≤ k := by omega
      have hk1 : (k : Int) < xs.length := by omega
      by_cases h60 : k < 60
      · have hss := hsz _ (List.getElem_mem hlt)
        generalize xs[k] = a at *
        replace c0 := hC.cell c0 id
        replace c1 := hC.cell c1 id
        replace c2 := hC.cell c2 id
        replace c3 := hC.cell c3 id
        have H1 := Lib.hid h1; clear h1
        have H2 := Lib.hid h2; clear h2
        have HC := Lib.hid hC; clear hC
        have HB := Lib.hid hbl; clear hbl
        go_upto_block 2 with fail
        refine wp_abs (fun W => MemAt W 141 (B + 1) B bs ∧ MemAt W 35 (B + 2 + 1) (B + 2) bs ∧ ActAt W wr.heap.size a ∧ Chg (fun _ => False) w W) ⟨H1.out.keep (S := fun _ => False) ((Chg.refl _ _).alloc _) id id, H2.out.keep (S := fun _ => False) ((Chg.refl _ _).alloc _) id id, blk_new _ _, HC.out.alloc _⟩ ?_
        have hq : B + 2 + 1 < wr.heap.size := H2.out.lt.1
        clear H1 H2 HC c0 c1 c2 c3
        rintro W ⟨h1, h2, hA, hC⟩
        generalize wr.heap.size = q at *
        go_cut [11, 12] (fun s11 s12 wx => ∃ bs2, bs2.length = n * 64 ∧ (∃ code : Int, s11 = .int .i64 code ∧ s12 = .int .i64 code) ∧ MemAt wx 141 (B + 1) B bs2 ∧ MemAt wx 35 (B + 2 + 1) (B + 2) bs2 ∧ ActAt wx q a ∧ Chg (fun _ => False) w wx)
        case first =>
          obtain ⟨c0, c1, c2, c3⟩ := hA.cells
          have HQ := Lib.hid hq; clear hq
          have HBB := Lib.hid hBw; clear hBw
          by_cases hk4 : a.kind < 4
          · go_wp2_with fail
            refine (write41w _ _ bs a.at_ a.s W h1 (by have := HB.out; omega) hss).mono ?_
            rintro e w4 ⟨rfl, g1, hD⟩
            replace h2 := h2.keep hD (by omega) (by omega)
            replace hA := hA.keep hD (by have := HQ.out; omega)
            replace hC := hC.trans' hD (fun i hi h => by have := HBB.out; omega)
            clear h1 hD c0 c1 c2 c3
            obtain ⟨c0, c1, c2, c3⟩ := hA.cells
            go_wp2_with fail
            refine (num16 _ _).mono ?_
            rintro e w5 ⟨rfl, rfl⟩
            go_wp2_with fail
            refine (write42w _ _ bs a.at_ a.s w4 h2 (by have := HB.out; omega) hss).mono ?_
            rintro e w5 ⟨rfl, g2, hD⟩
            replace g1 := g1.keep hD (by omega) (by omega)
            replace hA := hA.keep hD (by have := HQ.out; omega)
            replace hC := hC.trans' hD (fun i hi h => by have := HBB.out; omega)
            clear h2 hD c0 c1 c2 c3
            have HC := Lib.hid hC; clear hC
            have HA := Lib.hid hA; clear hA
            have G1 := Lib.hid g1; clear g1
            have G2 := Lib.hid g2; clear g2
            go_wp2
            go_meet
            exact ⟨_, by rw [writeB_len]; exact HB.out, ⟨_, rfl, rfl⟩, G1.out, G2.out, HA.out, HC.out⟩
          · by_cases hk6 : a.kind < 6
            · go_wp2_with fail
              refine (put43 _ _ bs a.at_ a.x W h1 (by have := HB.out; omega)).mono ?_
              rintro e w4 ⟨rfl, g1, hD⟩
              replace h2 := h2.keep hD (by omega) (by omega)
              replace hA := hA.keep hD (by have := HQ.out; omega)
              replace hC := hC.trans' hD (fun i hi h => by have := HBB.out; omega)
              clear h1 hD c0 c1 c2 c3
              obtain ⟨c0, c1, c2, c3⟩ := hA.cells
              go_wp2_with fail
              refine (num16 _ _).mono ?_
              rintro e w5 ⟨rfl, rfl⟩
              go_wp2_with fail
              refine (put44 _ _ bs a.at_ a.x w4 h2 (by have := HB.out; omega)).mono ?_
              rintro e w5 ⟨rfl, g2, hD⟩
              replace g1 := g1.keep hD (by omega) (by omega)
              replace hA := hA.keep hD (by have := HQ.out; omega)
              replace hC := hC.trans' hD (fun i hi h => by have := HBB.out; omega)
              clear h2 hD c0 c1 c2 c3
              have HC := Lib.hid hC; clear hC
              have HA := Lib.hid hA; clear hA
              have G1 := Lib.hid g1; clear g1
              have G2 := Lib.hid g2; clear g2
              go_wp2
              go_meet
              exact ⟨_, by rw [putB_len]; exact HB.out, ⟨_, rfl, rfl⟩, G1.out, G2.out, HA.out, HC.out⟩
            · go_wp2_with fail
              refine (zero45 _ _ bs a.x W h1 (by have := HB.out; omega)).mono ?_
              rintro e w4 ⟨rfl, g1, hD⟩
              replace h2 := h2.keep hD (by omega) (by omega)
              replace hA := hA.keep hD (by have := HQ.out; omega)
              replace hC := hC.trans' hD (fun i hi h => by have := HBB.out; omega)
              clear h1 hD c0 c1 c2 c3
              obtain ⟨c0, c1, c2, c3⟩ := hA.cells
              go_wp2_with fail
              refine (num16 _ _).mono ?_
              rintro e w5 ⟨rfl, rfl⟩
              go_wp2_with fail
              refine (zero46 _ _ bs a.x w4 h2 (by have := HB.out; omega)).mono ?_
              rintro e w5 ⟨rfl, g2, hD⟩
              replace g1 := g1.keep hD (by omega) (by omega)
              replace hA := hA.keep hD (by have := HQ.out; omega)
              replace hC := hC.trans' hD (fun i hi h => by have := HBB.out; omega)
              clear h2 hD c0 c1 c2 c3
              have HC := Lib.hid hC; clear hC
              have HA := Lib.hid hA; clear hA
              have G1 := Lib.hid g1; clear g1
              have G2 := Lib.hid g2; clear g2
              go_wp2
              go_meet
              exact ⟨_, by rw [zeroB_len]; exact HB.out, ⟨_, rfl, rfl⟩, G1.out, G2.out, HA.out, HC.out⟩
        case rest =>
          clear h1 h2 hA hC
          obtain ⟨bs2, hbl2, ⟨code, rfl, rfl⟩, h1, h2, hA, hC⟩ := hcut
          have d0 := h2.hdr
          obtain ⟨e0, e1, e2, e3⟩ := hA.cells
          have hl4 : bs2.length ≤ 4096 := by omega
          have HC := Lib.hid hC; clear hC
          have H2 : Hid (MemAt wc 35 (B + 2 + 1) (B + 2) bs2) := h2
          clear h2 hA
          have HB2 := Lib.hid hbl2; clear hbl2
          have HL := Lib.hid hl4; clear hl4
          have m1 : mayP 0 bs2.length bs2.length := by unfold mayP; omega
          have hall : readS bs2 0 bs2.length = str bs2 := by rw [readS, if_pos m1, Int.toNat_natCast, show (0 : Int).toNat = 0 from rfl, List.drop_zero, List.take_of_length_le (Nat.le_refl _)]
          have hall2 : errC bs2 0 bs2.length = 0 := if_pos m1
          clear m1
          have HA := Lib.hid hall; clear hall
          have HA2 := Lib.hid hall2; clear hall2
          go_wp2_with fail
          refine (read47 _ _ bs2 0 bs2.length wc h1 HL.out).mono ?_
          rintro e w4 ⟨rfl, rfl⟩
          rw [HA.out, HA2.out]
          clear HA HA2
          go_wp2_with fail
          refine (word48 _ _ bs2 a.at_ wc h1 HL.out).mono ?_
          rintro e w4 ⟨rfl, rfl⟩
          generalize hr1 : wordR bs2 a.at_ = r1
          generalize hr2 : wordE bs2 a.at_ = r2
          have HR1 := Lib.hid hr1; clear hr1
          have HR2 := Lib.hid hr2; clear hr2
          go_wp2_with fail
          refine (word49 _ _ bs2 a.at_ wc H2.out HL.out).mono ?_
          rintro e w4 ⟨rfl, nd, rfl⟩
          rw [HR1.out, HR2.out]
          clear HR1 HR2
          replace h1 := h1.keep (S := fun _ => False) ((Chg.refl _ _).drewN nd) id id
          have h2 : MemAt (wc.drewN nd) 35 (B + 2 + 1) (B + 2) bs2 := H2.out.keep (S := fun _ => False) ((Chg.refl _ _).drewN nd) id id
          have hcv := mem_string h2 0 bs2.length bs2.length (by omega)
          rw [List.drop_zero, List.take_of_length_le (Nat.le_refl _)] at hcv
          clear H2
          have H2 : Hid (MemAt (wc.drewN nd) 35 (B + 2 + 1) (B + 2) bs2) := h2
          clear h2
          go_wp2_with fail
          refine (read47 _ _ bs2 a.at_ a.x _ h1 HL.out).mono ?_
          rintro e w4 ⟨rfl, rfl⟩
          generalize hr1 : readS bs2 a.at_ a.x = s1
          generalize hr2 : errC bs2 a.at_ a.x = s2
          have HR1 := Lib.hid hr1; clear hr1
          have HR2 := Lib.hid hr2; clear hr2
          go_wp2_with fail
          refine (read50 _ _ bs2 a.at_ a.x _ H2.out HL.out).mono ?_
          rintro e w4 ⟨rfl, rfl⟩
          rw [HR1.out, HR2.out]
          clear HR1 HR2
          go_wp2_with ((refine (num16 _ _).mono ?_; rintro e w6 ⟨rfl, rfl⟩))
          refine ⟨⟨k + 1, by omega, by go_num, bs2, HB2.out, h1, H2.out, HC.out.drewN _⟩, ?_⟩
          simp [intOf]; omega
      · have HC := Lib.hid hC; clear hC
        go_wp2_with fail
        refine (awake39 _).mono ?_
        rintro e w0 ⟨rfl, hC0⟩
        go_wp2
        go_ret
        exact ⟨rfl, HC.out.trans hC0⟩
    · have HC := Lib.hid hC; clear hC
      go_wp2_with fail
      refine (awake39 _).mono ?_
      rintro e w0 ⟨rfl, hC0⟩
      go_wp2
      go_ret
      exact ⟨rfl, HC.out.trans hC0⟩

set_option maxRecDepth 100000 in
theorem trod_mact {H : Type} {enc : TypeId × Value → H} {w : World} {base : Nat} {spare : Nat → Bool} {held : Bool} {m : Nat} {cs : List Value} {y : DataW H × List MemPlace} (h : DataW.trod enc Try.prog w base spare held m 37 cs = some y) : ∃ x : MAct, cs = x.cells ∧ x.s.size ≤ maxLen := by
  obtain ⟨ys, n', _, _, hl, hyl, hf⟩ := DataW.trod_struct Try.underlying37 h
  rw [show Try.prog.cellsOf 37 = 4 from by kernel_rfl] at hl
  match cs, hl with
  | [c0, c1, c2, c3], _ =>
    have g0 := hf 0 _ rfl
    have g1 := hf 1 _ rfl
    have g2 := hf 2 _ rfl
    have g3 := hf 3 _ rfl
    rw [List.getElem?_eq_getElem (by rw [hyl]; decide)] at g0 g1 g2 g3
    obtain ⟨n0, e0, _⟩ := DataW.trod_int Try.underlying3 g0
    obtain ⟨n1, e1, _⟩ := DataW.trod_int Try.underlying3 g1
    obtain ⟨n2, e2, _⟩ := DataW.trod_int Try.underlying3 g2
    obtain ⟨n3, e3, _, z3⟩ := DataW.trod_string Try.underlying9 g3
    have k3 : Try.prog.cellsOf 3 = 1 := by kernel_rfl
    have k9 : Try.prog.cellsOf 9 = 1 := by kernel_rfl
    change List.take (Try.prog.cellsOf 3) [c0, c1, c2, c3] = _ at e0
    change List.take (Try.prog.cellsOf 3) [c1, c2, c3] = _ at e1
    change List.take (Try.prog.cellsOf 3) [c2, c3] = _ at e2
    change List.take (Try.prog.cellsOf 9) [c3] = _ at e3
    rw [k3] at e0
    rw [k3] at e1
    rw [k3] at e2
    rw [k9] at e3
    simp at e0 e1 e2 e3
    subst e0; subst e1; subst e2; subst e3
    exact ⟨⟨n0, n1, n2, n3⟩, rfl, z3⟩
set_option maxRecDepth 100000 in
theorem mems_bad (n : Int) (A : Option Addr) (c : Nat) (xs : List MAct) (w : World) (h : ¬ (1 ≤ n ∧ n ≤ 64)) :
    Calls Try.prog 3 #[.int .i64 n, .slice A xs.length c] w fun e w' => e = .returned (.bool true) ∧ Chg (fun _ => False) w w' := by
  go_enter Try.func3, Try.ntmps3
  go_wp2_with fail
  refine (mnew37_no n w h).mono ?_
  rintro e w1 ⟨rfl, rfl⟩
  go_wp2_with fail
  refine (mnew38_no n w h).mono ?_
  rintro e w1 ⟨rfl, rfl⟩
  go_wp2_with fail
  refine (num16 _ _).mono ?_
  rintro e w1 ⟨rfl, rfl⟩
  go_wp2_with fail
  refine (awake39 _).mono ?_
  rintro e w1 ⟨rfl, hC⟩
  go_wp2
  go_ret
  exact ⟨rfl, hC⟩
theorem mems_walk (w : World) (n : Int) (A : Option Addr) (c : Nat) (xs : List MAct) (hm : xs.length ≤ maxLen) (hr : RowC w A (xs.flatMap MAct.cells)) (hw : ∀ x ∈ xs, x.s.size ≤ maxLen) :
    Calls Try.prog 3 #[.int .i64 n, .slice A xs.length c] w fun e w' => e = .returned (.bool true) ∧ Below w.heap.size w w' := by
  by_cases h : 1 ≤ n ∧ n ≤ 64
  · obtain ⟨m, rfl⟩ := Int.eq_ofNat_of_zero_le (show 0 ≤ n by omega)
    exact (mems_good m A c xs w (by omega) (by omega) (by unfold maxLen at hm; omega) hr (fun x hx => by have := hw x hx; unfold maxLen at this; omega)).mono fun e w' ⟨h1, h2⟩ => ⟨h1, h2.below (Nat.le_refl _) (fun _ h => h.elim)⟩
  · exact (mems_bad n A c xs w h).mono fun e w' ⟨h1, h2⟩ => ⟨h1, h2.below (Nat.le_refl _) (fun _ h => h.elim)⟩

end Go.Proofs.Ytpnhdiajiieonaa
