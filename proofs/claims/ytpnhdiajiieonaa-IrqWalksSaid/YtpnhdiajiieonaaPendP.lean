/- Those that wait, as a heap: Push, Pop, Init of the library's. -/
import Derived.Test.YtpnhdiajiieonaaPendU
set_option linter.unusedSimpArgs false
set_option linter.unusedVariables false
namespace Go.Proofs.Ytpnhdiajiieonaa
open Go.RowKit

/-- A row in a cell, as a heap. -/
structure RowV (w : World) (base B i : Nat) (v : Value) (cs : Array Value) (L : List Nat) : Prop where
  blk : w.heap[B]? = some (.cells cs 157 (0, 0))
  at_ : cs[i]? = some v
  own : KRow w base v L
  len : L.length ≤ 100
  key : ∀ k ∈ L, k < 32
theorem RowV.row {w : World} {base B i : Nat} {v : Value} {cs : Array Value} {L : List Nat} (h : RowV w base B i v cs L) (hn : 0 < L.length) : ∃ g cap, v = .slice (some ⟨g, 0, none⟩) L.length cap ∧ RowAt w base B i g L.length cap cs L := by
  obtain ⟨g, cap, hv, _⟩ := h.own.form hn
  exact ⟨g, cap, hv, h.blk, by rw [h.at_, hv], by rw [← hv]; exact h.own, by have := h.len; omega, h.key⟩
theorem RowV.keep {S : Nat → Prop} {w w' : World} {base B i : Nat} {v : Value} {cs : Array Value} {L : List Nat} (h : RowV w base B i v cs L) (hC : Chg S w w') (hB : ¬ S B) (hv : ∀ k, v.ownBlock = some k → ¬ S k) : RowV w' base B i v cs L :=
  ⟨hC.at h.blk hB, h.at_, h.own.keep hC hv, h.len, h.key⟩
def Fresh (w : World) (v v' : Value) : Prop := v'.ownBlock = v.ownBlock ∨ ∃ g, v'.ownBlock = some g ∧ w.heap.size ≤ g
def PushPost (base B i k : Nat) (v : Value) (cs : Array Value) (L : List Nat) (w : World) (e : Ending) (w' : World) : Prop :=
  e = .returned (.tuple #[]) ∧ ∃ v' L', L'.Perm (L ++ [k]) ∧ HeapFrom 0 L'.length L' ∧ RowV w' base B i v' (cs.setIfInBounds i v') L' ∧ Fresh w v v' ∧ Chg (fun j => j = B ∨ some j = v.ownBlock) w w'
set_option maxRecDepth 100000 in
set_option maxHeartbeats 2000000 in
theorem hPush (base B i k : Nat) (v : Value) (cs : Array Value) (L : List Nat) (w : World) (h : RowV w base B i v cs L) (hh : HeapFrom 0 L.length L) (hbase : base ≤ w.heap.size) (hn : L.length < 100) (hk : k < 32) :
    Calls Try.prog 94 #[.iface 161 (.pointer (some ⟨B, i, none⟩)), .iface 159 (.agg #[.int .i64 ((k : Int) / 8), .int .i64 ((k : Int) % 8)])] w (PushPost base B i k v cs L w) := by
  have hp := kPush base B i k cs v L w h.blk h.at_ h.own hbase (by omega)
  have hisz : i < cs.size := by have := h.at_; exact (Array.getElem?_eq_some_iff.1 this).1
  have hm1 := mPush ⟨B, i, none⟩
  have hm2 := mLen ⟨B, i, none⟩
  have hup := up_start (x := k) hh
  have hkey := h.key
  have HP := Lib.hid hp; clear hp
  have HM1 := Lib.hid hm1; clear hm1
  have HM2 := Lib.hid hm2; clear hm2
  have HU := Lib.hid hup; clear hup hh h
  have HK := Lib.hid hkey; clear hkey
  generalize hxx : (k : Int) / 8 = x at *
  generalize hyy : (k : Int) % 8 = y at *
  clear hxx hyy
  have m1 := HM1.out w
  go_enter Try.func94, Try.ntmps94
  go_wp2_with fail
  refine HP.out.mono ?_
  rintro e w1 ⟨rfl, v', hb, ho, hf, hC⟩
  clear m1 HP HM1
  have hlen : (L ++ [k]).length = L.length + 1 := by simp
  obtain ⟨g, cap, hv, _⟩ := ho.form (by omega)
  have hR : RowAt w1 base B i g (L.length + 1) cap (cs.setIfInBounds i v') (L ++ [k]) := ⟨hb, by rw [Array.getElem?_setIfInBounds_self_of_lt hisz, hv, hlen], by rw [hv, hlen] at ho; exact ho, by omega, fun q hq => by
    rcases List.mem_append.1 hq with h | h
    · exact HK.out q h
    · simp at h; omega⟩
  have m2 := HM2.out w1 _ _ _ hR.cell
  have hu := hUp base B i g (L.length + 1) cap L.length _ _ w1 hR (by omega) (by rw [hlen]; exact HU.out)
  have HUP := Lib.hid hu; clear hu
  have HC := Lib.hid hC; clear hC
  have HF := Lib.hid hf; clear hf
  have HV : Hid (v' = .slice (some ⟨g, 0, none⟩) (L.length + 1) cap) := by rw [hlen] at hv; exact hv
  clear hR ho hb hv HU HM2 hisz hlen
  go_wp2_with fail
  refine (kLen _ (L.length + 1) cap w1 (by omega)).mono ?_
  rintro e w2 ⟨rfl, rfl⟩
  go_wp2_with fail
  refine HUP.out.mono ?_
  rintro e w2 ⟨rfl, L', hperm, hheap, hR, hD⟩
  go_wp2_with fail
  go_end0
  refine ⟨rfl, v', L', hperm, hheap, ⟨hR.blk, hR.at_.trans (by rw [HV.out]), by rw [HV.out]; exact hR.own, by have := hperm.length_eq; simp at this; omega, hR.key⟩, HF.out, HC.out.trans' hD (fun j hj h => ?_)⟩
  have hob : v'.ownBlock = some g := by rw [HV.out]; rfl
  rcases HF.out with hf | ⟨g', hf, hle⟩
  · exact .inr (by rw [h, ← hob, hf])
  · rw [hob] at hf; injection hf with hf; omega
theorem pop_down {L : List Nat} {m : Nat} (h : HeapFrom 0 L.length L) (hm : m + 1 = L.length) : DownInv 0 0 m (swp L 0 m) := by
  refine down_start (fun k k0 k1 k2 => ?_)
  rw [swp_get (by omega) (by omega), swp_get (by omega) (by omega), if_neg (by omega), if_neg (by omega), if_neg (by omega), if_neg (by omega)]
  exact h k k0 (by omega) (by omega)
def PopPost (base B i : Nat) (v : Value) (cs : Array Value) (L : List Nat) (w : World) (e : Ending) (w' : World) : Prop :=
  e = .returned (.iface 159 (.agg #[.int .i64 ((gk L 0 : Nat) / 8 : Int), .int .i64 ((gk L 0 : Nat) % 8 : Int)])) ∧
  ∃ v' L', (L' ++ [gk L 0]).Perm L ∧ HeapFrom 0 L'.length L' ∧ RowV w' base B i v' (cs.setIfInBounds i v') L' ∧ v'.ownBlock = v.ownBlock ∧ Chg (fun j => j = B ∨ some j = v.ownBlock) w w'
set_option maxRecDepth 100000 in
set_option maxHeartbeats 2000000 in
theorem hPop (base B i m : Nat) (v : Value) (cs : Array Value) (L : List Nat) (w : World) (h : RowV w base B i v cs L) (hh : HeapFrom 0 L.length L) (hm : m + 1 = L.length) :
    Calls Try.prog 97 #[.iface 161 (.pointer (some ⟨B, i, none⟩))] w (PopPost base B i v cs L w) := by
  obtain ⟨g, cap, hv, hR⟩ := h.row (by omega)
  have hisz : i < cs.size := by have := h.at_; exact (Array.getElem?_eq_some_iff.1 this).1
  have hlen := h.len
  have m1 := mLen ⟨B, i, none⟩ w _ _ _ hR.cell
  have m2 := mSwap ⟨B, i, none⟩ w _ _ _ hR.cell
  have m3 := mPop ⟨B, i, none⟩
  have hsw := kSwap g L.length cap base L 0 m w hR.own (by omega) (by omega) hR.len
  have hdi := pop_down hh hm
  have hob : v.ownBlock = some g := by rw [hv]; rfl
  have HSW := Lib.hid hsw; clear hsw
  have HDI := Lib.hid hdi; clear hdi hh
  have M3 := Lib.hid m3; clear m3
  have HR := Lib.hid hR; clear hR h
  have HOB := Lib.hid hob; clear hob hv
  have HM := Lib.hid hm
  have hl1 : ((L.length : Nat) : Int) = (m : Int) + 1 := by omega
  have hm0 : (0 : Int) ≤ m := by omega
  have hm9 : (m : Int) ≤ 100 := by omega
  have HL1 := Lib.hid hl1; clear hl1 hm
  go_enter Try.func97, Try.ntmps97
  go_wp2_with fail
  refine (kLen _ L.length cap w (by omega)).mono ?_
  rintro e w1 ⟨rfl, rfl⟩
  rw [HL1.out]
  go_wp2_with fail
  refine HSW.out.mono ?_
  rintro e w1 ⟨rfl, ho, hC⟩
  clear HSW m1 m2
  have hR1 := HR.out.swap (by have := HM.out; omega) (by have := HM.out; omega) ho hC
  have hgm : gk (swp L 0 m) m = gk L 0 := by rw [swp_get (by have := HM.out; omega) (by have := HM.out; omega), if_pos rfl]
  have hpm : (swp L 0 m).Perm L := swp_perm (by have := HM.out; omega) (by have := HM.out; omega)
  have hdn := hDown base B i g L.length cap 0 m cs (swp L 0 m) w1 hR1 (by rw [swp_len]; have := HM.out; omega) HDI.out (by omega)
  have HD := Lib.hid hdn; clear hdn HDI hR1 ho
  have HC := Lib.hid hC; clear hC
  have HG := Lib.hid hgm; clear hgm
  have HPM := Lib.hid hpm; clear hpm
  go_wp2_with fail
  refine HD.out.mono ?_
  rintro e w2 ⟨⟨b, rfl⟩, L2, hp2, hh2, hoth, hR2, hC2⟩
  have hl2 : L2.length = m + 1 := by rw [hp2.length_eq, swp_len]; exact HM.out.symm
  have hlast : gk L2 m = gk L 0 := (hoth m (Nat.le_refl _)).trans HG.out
  have hsplit : L2 = L2.take m ++ [gk L 0] := by
    rw [← hlast, gk_get (by omega)]
    have := List.take_succ_eq_append_getElem (l := L2) (i := m) (by omega)
    rw [List.take_of_length_le (by omega)] at this
    exact this
  have hown : KRow w2 base (.slice (some ⟨g, 0, none⟩) L.length cap) (L2.take m ++ [gk L 0]) := by rw [← hsplit]; exact hR2.own
  have hpop := kPop base B i (gk L 0) cs _ (L2.take m) w2 hR2.blk hR2.at_ hown (by rw [List.length_take]; omega)
  have hheap : HeapFrom 0 (L2.take m).length (L2.take m) := heap_take hh2 (by omega)
  have hperm : (L2.take m ++ [gk L 0]).Perm L := by rw [← hsplit]; exact hp2.trans HPM.out
  have hkeys : ∀ q ∈ L2.take m, q < 32 := fun q hq => hR2.key q (List.mem_of_mem_take hq)
  have hlt : (L2.take m).length ≤ 100 := by rw [List.length_take]; omega
  have HPO := Lib.hid hpop; clear hpop hown hsplit hlast hl2
  have H1 := Lib.hid hheap; clear hheap hh2
  have H2 := Lib.hid hperm; clear hperm hp2
  have H3 := Lib.hid hkeys; clear hkeys hoth
  have H4 := Lib.hid hlt; clear hlt
  have hgB := hR2.ne
  have hCt := HC.out.trans hC2
  have H5 := Lib.hid hCt; clear hCt hC2 HC hR2
  generalize L2.take m = L' at *
  have m3 := M3.out w2
  go_wp2_with fail
  refine HPO.out.mono ?_
  rintro e w3 ⟨rfl, v', hb, how, hobv, hC3⟩
  go_wp2_with fail
  go_ret
  refine ⟨rfl, v', L', H2.out, H1.out, ⟨hb, Array.getElem?_setIfInBounds_self_of_lt hisz, how, H4.out, H3.out⟩, by rw [hobv, HOB.out]; rfl, (H5.out.mono (fun j _ h => .inr (by rw [h, HOB.out]))).trans' hC3 (fun j _ h => .inl h)⟩

def InitPost (base B i : Nat) (v : Value) (cs : Array Value) (L : List Nat) (w : World) (e : Ending) (w' : World) : Prop :=
  e = .returned (.tuple #[]) ∧ ∃ L', L'.Perm L ∧ HeapFrom 0 L'.length L' ∧ RowV w' base B i v cs L' ∧ Chg (fun j => some j = v.ownBlock) w w'
set_option maxRecDepth 100000 in
set_option maxHeartbeats 2000000 in
theorem hInit_small (base B i : Nat) (v : Value) (cs : Array Value) (L : List Nat) (w : World) (h : RowV w base B i v cs L) (hm : L.length < 2) :
    Calls Try.prog 143 #[.iface 161 (.pointer (some ⟨B, i, none⟩))] w (InitPost base B i v cs L w) := by
  have hlen := h.len
  obtain ⟨A, cap, rfl⟩ := h.own.slice
  have m1 := mLen ⟨B, i, none⟩ w _ _ _ ((blk_cell h.blk i).trans h.at_)
  have hf : HeapFrom 0 L.length L := heap_small (by omega)
  have h0 : (0 : Int) ≤ L.length := by omega
  have h2 : ((L.length : Nat) : Int) / 2 = 0 := by omega
  have HR := Lib.hid h; clear h
  have HF := Lib.hid hf; clear hf
  go_enter Try.func143, Try.ntmps143
  go_wp2_with fail
  refine (kLen _ L.length cap w (by omega)).mono ?_
  rintro e w1 ⟨rfl, rfl⟩
  go_wp2_with fail
  go_loop [3] (fun s => s = .int .i64 (-1)) (fun _ => 0)
  case atStart => rfl
  case round =>
    subst hrel
    go_wp2_with fail
    go_end0
    exact ⟨rfl, L, List.Perm.refl _, HF.out, HR.out, Chg.refl _ _⟩
set_option maxRecDepth 100000 in
set_option maxHeartbeats 2000000 in
theorem hInit_big (base B i : Nat) (v : Value) (cs : Array Value) (L : List Nat) (w : World) (h : RowV w base B i v cs L) (hm : 2 ≤ L.length) :
    Calls Try.prog 143 #[.iface 161 (.pointer (some ⟨B, i, none⟩))] w (InitPost base B i v cs L w) := by
  have hlen := h.len
  obtain ⟨g, cap, rfl, hR⟩ := h.row (by omega)
  have m1 := mLen ⟨B, i, none⟩ w _ _ _ hR.cell
  have hf : HeapFrom (L.length / 2) L.length L := heap_small (by omega)
  obtain ⟨n, hn⟩ : ∃ n, L.length = n := ⟨_, rfl⟩
  have h0 : (0 : Int) ≤ n := by omega
  have h9 : (n : Int) ≤ 100 := by omega
  rw [hn] at hlen hR m1 hf
  have hgB := hR.ne
  have HR := Lib.hid hR; clear hR h
  have HF := Lib.hid hf; clear hf
  have HN := Lib.hid hn
  have hn2 : 2 ≤ n := by omega
  have hst : ((n : Int) / 2 - 1) = ((n / 2 - 1 : Nat) : Int) := by omega
  rw [hn]
  clear hn hm
  have HST := Lib.hid hst; clear hst
  go_enter Try.func143, Try.ntmps143
  go_wp2_with fail
  refine (kLen _ n cap w (by omega)).mono ?_
  rintro e w1 ⟨rfl, rfl⟩
  go_wp2_with fail
  go_loopw [3] (fun s wr => ∃ (x : Int) (y : Nat) (L' : List Nat), s = .int .i64 x ∧ x = (y : Int) - 1 ∧ y ≤ 100 ∧ L'.length = n ∧ L'.Perm L ∧ HeapFrom y n L' ∧ RowAt wr base B i g n cap cs L' ∧ Chg (fun k => k = g) w wr) (fun s _ => ((intOf s) + 1).toNat)
  case atStart => exact ⟨_, n / 2, L, rfl, by omega, by omega, HN.out, List.Perm.refl _, HF.out, HR.out, Chg.refl _ _⟩
  case round =>
    obtain ⟨x, y, L', rfl, hx, hy, hl, hp, hh, hR, hC⟩ := hrel
    by_cases h0y : y = 0
    · subst h0y
      obtain rfl : x = -1 := by omega
      clear hx
      have H1 := Lib.hid hR; clear hR
      have H2 := Lib.hid hp; clear hp
      have H3 := Lib.hid hh; clear hh
      have H4 := Lib.hid hC; clear hC
      have H5 := Lib.hid hl; clear hl
      go_wp2_with fail
      go_end0
      refine ⟨rfl, L', H2.out, by rw [H5.out]; exact H3.out, ⟨H1.out.blk, by have := H1.out.at_; exact this, H1.out.own, by rw [H5.out]; omega, H1.out.key⟩, H4.out.mono (fun j _ h => by rw [h]; rfl)⟩
    · obtain ⟨z, rfl⟩ : ∃ z, y = z + 1 := ⟨y - 1, by omega⟩
      obtain rfl : x = (z : Int) := by omega
      have hdn := hDown base B i g n cap z n cs L' wr hR (by omega) (down_start hh) (by omega)
      have z0 : (0 : Int) ≤ z := by omega
      have HD := Lib.hid hdn; clear hdn hR hh
      have H2 := Lib.hid hp; clear hp
      have H4 := Lib.hid hC; clear hC
      have H5 := Lib.hid hl; clear hl
      clear hx
      go_wp2_with fail
      refine HD.out.mono ?_
      rintro e w2 ⟨⟨b, rfl⟩, L2, hp2, hh2, _, hR2, hC2⟩
      have hp3 := hp2.trans H2.out
      have hl3 := hp2.length_eq.trans H5.out
      have hC3 := H4.out.trans hC2
      have H6 := Lib.hid hp3; clear hp3 hp2
      have H7 := Lib.hid hl3; clear hl3
      have H8 := Lib.hid hC3; clear hC3 hC2
      have H9 := Lib.hid hh2; clear hh2
      have H10 := Lib.hid hR2; clear hR2
      go_wp2_with fail
      go_roundw
      case rel => exact ⟨(z : Int) - 1, z, L2, by first | rfl | go_num, rfl, by omega, H7.out, H6.out, H9.out, H10.out, H8.out⟩
      case measure => simp [intOf] <;> omega
theorem hInit (base B i : Nat) (v : Value) (cs : Array Value) (L : List Nat) (w : World) (h : RowV w base B i v cs L) :
    Calls Try.prog 143 #[.iface 161 (.pointer (some ⟨B, i, none⟩))] w (InitPost base B i v cs L w) := by
  by_cases hm : L.length < 2
  · exact hInit_small base B i v cs L w h hm
  · exact hInit_big base B i v cs L w h (by omega)
end Go.Proofs.Ytpnhdiajiieonaa
