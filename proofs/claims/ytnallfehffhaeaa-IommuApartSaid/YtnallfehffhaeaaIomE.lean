/- The Iommu's Clear, Unmap. Printed by mkiom5.py. -/
import Derived.Test.YtnallfehffhaeaaIomD
import Derived.Test.YtnallfehffhaeaaMem7
set_option linter.unusedSimpArgs false
set_option linter.unusedVariables false
namespace Go.Proofs.Ytnallfehffhaeaa
open Go.RowKit

def clearB (bs : List UInt8) (fs : List Int) : List UInt8 := fs.foldl zeroB bs
theorem clearB_len (fs : List Int) : ∀ bs, (clearB bs fs).length = bs.length := by
  induction fs with
  | nil => intro bs; rfl
  | cons f fs ih => intro bs; show (clearB (zeroB bs f) fs).length = _; rw [ih, zeroB_len]
theorem clearB_take {bs : List UInt8} {fs : List Int} {k : Nat} (h : k < fs.length) : clearB bs (fs.take (k + 1)) = zeroB (clearB bs (fs.take k)) (fs.getD k 0) := by
  unfold clearB
  rw [List.take_add_one, List.foldl_append, List.getD_eq_getElem?_getD, List.getElem?_eq_getElem h]
  rfl
def ClearPost (x p tb r : Nat) (L : Pls) (nf : Int) (v : Value) (P T : Nat → Prop) (code : Int) (bs' : List UInt8) (w : World) (e : Ending) (w' : World) : Prop := e = .returned (.int .i64 code) ∧ IomV w' x p tb L nf v P T ∧ MemAt w' 93 p r bs' ∧ Chg (fun k => k = r ∨ T k) w w'
set_option maxRecDepth 100000 in
set_option maxHeartbeats 4000000 in
theorem iClear_no (x p tb r : Nat) (L : Pls) (nf : Int) (v : Value) (P T : Nat → Prop) (bs : List UInt8) (d : Int) (w : World) (h : IomV w x p tb L nf v P T) (hM : MemAt w 93 p r bs) (hd : ¬ devIn L d) :
    Calls Try.prog 17 #[.pointer (some ⟨x, 0, none⟩), .int .i64 d] w (ClearPost x p tb r L nf v P T 700 bs w) := by
  have HT := Lib.hid (iThere x p tb L nf v P T d w h)
  rw [decide_eq_false hd] at HT
  have H : Hid (ClearPost x p tb r L nf v P T 700 bs w (.returned (.int .i64 700)) w) := ⟨rfl, h, hM, Chg.refl _ _⟩
  generalize ClearPost x p tb r L nf v P T 700 bs w = POST at *
  clear h hM hd
  go_enter Try.func17, Try.ntmps17
  go_wp2_with fail
  refine HT.out.mono ?_
  rintro e w1 ⟨rfl, rfl⟩
  go_wp2_with fail
  exact H.out
set_option maxRecDepth 100000 in
set_option maxHeartbeats 4000000 in
theorem iClear_yes (x p tb r : Nat) (L : Pls) (nf : Int) (v : Value) (P T : Nat → Prop) (bs : List UInt8) (d : Int) (w : World) (h : IomV w x p tb L nf v P T) (hM : MemAt w 93 p r bs) (hl : bs.length ≤ 4096) (hd : devIn L d) :
    Calls Try.prog 17 #[.pointer (some ⟨x, 0, none⟩), .int .i64 d] w (ClearPost x p tb r L nf v P T 0 (clearB bs (poolOf L d)) w) := by
  have HT := Lib.hid (iThere x p tb L nf v P T d w h)
  rw [decide_eq_true hd] at HT
  obtain ⟨n, gp, cp, g, cg, rt, rest, hD⟩ := h.dev hd
  rw [hD.pool]
  have hml : (rt :: rest).length = rest.length + 1 := rfl
  have hgr : ∀ k, P k → k ≠ r := fun k hk e => by
    obtain ⟨cs, t, h1, h2⟩ := h.pools.typ k hk
    rcases h2 with rfl | rfl <;> exact blk_unl h1 (e ▸ hM.2) (by decide)
  have HX : Hid (∀ W, Chg (fun k => k = r) w W → IomV W x p tb L nf v P T) := fun W hW => h.bytes hM hW
  have HD : Hid (∀ W, Chg (fun k => k = r) w W → DevV W L nf v P d n gp cp g cg rt rest) := fun W hW => hD.keep hW hgr
  have HFIN : Hid (∀ W W' bs', Chg (fun k => k = r) w W → MemAt W 93 p r bs' → TlbAt W' tb nf T → Chg T W W' → clearB bs (rt :: rest) = bs' → ClearPost x p tb r L nf v P T 0 (clearB bs (rt :: rest)) w (.returned (.int .i64 0)) W') := fun W W' bs' a1 a2 a3 a4 a5 => by
    have hI := h.bytes hM a1
    rw [a5]
    exact ⟨rfl, hI.tlb_ a3 a4, hI.mem a2 a4, (a1.mono (fun _ _ h => .inl h)).trans (a4.mono (fun _ _ h => .inr h))⟩
  obtain rfl := hD.dn
  obtain rfl := hD.pv
  have i0 : (0 : Int) ≤ n := by omega
  have i1 : (n : Int) < L.length := by have := hD.lt; omega
  have l4 : (L.length : Int) ≤ 4 := by have := h.ok.1; omega
  have r4 : (rest.length : Int) ≤ 4 := by have := hD.len.2; omega
  obtain ⟨x0, x1, x2⟩ := h.cells
  have dc := hD.cell
  have HM := Lib.hid hM
  have HL := Lib.hid hl
  generalize ClearPost x p tb r L nf (.slice (some ⟨gp, 0, none⟩) L.length cp) P T 0 (clearB bs (rt :: rest)) w = POST at *
  obtain ⟨m, hm⟩ : ∃ m, m = rest.length + 1 := ⟨_, rfl⟩
  rw [← hm] at dc
  have m5 : (m : Int) ≤ 5 := by omega
  have HMM : Hid ((rt :: rest).length = m) := by rw [hm]; rfl
  clear h hM hl hd hD hgr hml hm
  go_enter Try.func17, Try.ntmps17
  go_wp2_with fail
  refine HT.out.mono ?_
  rintro e w1 ⟨rfl, rfl⟩
  go_wp2_with fail
  clear x0 x1 x2 dc HT
  go_loopw [23] (fun s wr => ∃ k : Nat, k ≤ m ∧ s = .int .i64 k ∧ MemAt wr 93 p r (clearB bs ((rt :: rest).take k)) ∧ Chg (fun k => k = r) w wr) (fun s _ => m - (intOf s).toNat)
  case atStart => exact ⟨0, by omega, rfl, HM.out, Chg.refl _ _⟩
  case round =>
    obtain ⟨k, hk, rfl, hMk, hC⟩ := hrel
    have k0 : (0 : Int) ≤ k := by omega
    have HC := Lib.hid hC; clear hC
    have HMK := Lib.hid hMk; clear hMk
    obtain ⟨x0, x1, x2⟩ := (HX.out _ HC.out).cells
    by_cases hlt : k < m
    · have k1 : (k : Int) < m := by omega
      have hkm : k < (rt :: rest).length := by rw [HMM.out]; exact hlt
      have y2 := (HD.out _ HC.out).at_ k hkm
      have HS := Lib.hid (clearB_take (bs := bs) hkm)
      generalize (rt :: rest).getD k 0 = f at *
      have HZ := Lib.hid (zero45 p r _ f wr HMK.out (by rw [clearB_len]; exact HL.out))
      rw [← HS.out] at HZ
      clear hkm
      go_wp2_with fail
      refine HZ.out.mono ?_
      rintro e w1 ⟨rfl, hM1, k1'⟩
      replace HC := Lib.hid (HC.out.trans k1')
      have HM1 := Lib.hid hM1
      clear hM1 k1' x0 x1 x2 y2 HS HZ HMK
      go_wp2_with fail
      go_roundw
      case rel => exact ⟨k + 1, by omega, by go_num, HM1.out, HC.out⟩
      case measure => simp [intOf]; omega
    · obtain rfl : k = m := by omega
      have HDA := Lib.hid (tDropAll tb n nf T _ (HX.out _ HC.out).tlb)
      go_wp2_with fail
      refine HDA.out.mono ?_
      rintro e w1 ⟨⟨x9, rfl⟩, ht, k1'⟩
      have H := Lib.hid (HFIN.out _ w1 _ HC.out HMK.out ht k1' (by rw [List.take_of_length_le (by rw [HMM.out]; exact Nat.le_refl _)]))
      clear ht k1' x0 x1 x2 HDA
      go_wp2_with fail
      exact H.out
end Go.Proofs.Ytnallfehffhaeaa
