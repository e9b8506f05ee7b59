/- Chapter 7: the laws' two devices: plain; set. -/
import Derived.Test.YtnallfehffhaeaaIo7
import Derived.Test.YtnallfehffhaeaaInts
set_option linter.unusedSimpArgs false
set_option linter.unusedVariables false
namespace Go.Proofs.Ytnallfehffhaeaa
open Go.RowKit

def PL7 : Pls := [[0, 1, 2, 3], [4, 5, 6]]
structure D7 (bs : List UInt8) (S0 : List Nat) (E0 : Nat → Int × Int) (S1 : List Nat) (E1 : Nat → Int × Int) : Prop where
  len : bs.length = 1024
  a : DT bs 0 [1, 2, 3] S0 E0
  b : DT bs 4 [5, 6] S1 E1
theorem fr7 {bs : List UInt8} (h : bs.length = 1024) {f : Int} (h0 : 0 ≤ f) (h1 : f < 16) : frameP bs f := by unfold frameP; rw [h]; omega
abbrev E00 : Nat → Int × Int := fun _ => (0, 0)
theorem d7_start {bs : List UInt8} (h : bs.length = 1024) : D7 (clearB bs PL7.flatten) [] E00 [] E00 := by
  have hf : ∀ {bs : List UInt8}, bs.length = 1024 → ∀ f ∈ ([0, 1, 2, 3, 4, 5, 6] : List Int), frameP bs f := fun h f hm => fr7 h (by simp at hm; omega) (by simp at hm; omega)
  have e : PL7.flatten = [0, 1, 2, 3] ++ [4, 5, 6] := rfl
  have hl : (clearB bs [0, 1, 2, 3]).length = 1024 := by rw [clearB_len, h]
  rw [e, clearB_app]
  refine ⟨by rw [clearB_len, hl], ?_, ?_⟩
  · refine (DT.clear (by decide) (fun f hm => hf h f (by simp at hm ⊢; omega)) (by omega)).farW (clearB_far (fun f hm => hf hl f (by simp at hm ⊢; omega))) (by decide)
  · exact DT.clear (by decide) (fun f hm => hf hl f (by simp at hm ⊢; omega)) (by omega)
section
variable {bs : List UInt8} {S0 S1 : List Nat} {E0 E1 : Nat → Int × Int}
theorem D7.mapP (h : D7 bs S0 E0 S1 E1) {d : Int} (hd : d = 0 ∨ d = 1) {p : Nat} (hp : p < 256) {f q : Int} (h0 : 1 ≤ q) (h3 : q ≤ 3) (f0 : 0 ≤ f) (f1 : f < 16) : MapP PL7 bs d p f q :=
  ⟨⟨by omega, by show d < 2; omega⟩, by unfold pageP; omega, by unfold mayE; omega, by omega, fr7 h.len f0 f1⟩
theorem D7.map0 (h : D7 bs S0 E0 S1 E1) {p : Nat} (hp : p < 256) {f q : Int} (h0 : 1 ≤ q) (h3 : q ≤ 3) (f0 : 0 ≤ f) (f1 : f < 16) :
    match slotS S0 3 p with
    | some S' => (if MapP PL7 bs 0 p f q then (mapM bs (poolOf PL7 0) p f q).1 else 700) = 0 ∧ D7 (if MapP PL7 bs 0 p f q then (mapM bs (poolOf PL7 0) p f q).2 else bs) S' (upd E0 p (f, q)) S1 E1
    | none => (if MapP PL7 bs 0 p f q then (mapM bs (poolOf PL7 0) p f q).1 else 700) = 701 ∧ (if MapP PL7 bs 0 p f q then (mapM bs (poolOf PL7 0) p f q).2 else bs) = bs := by
  have hm := h.mapP (.inl rfl) hp h0 h3 f0 f1
  have := h.a.map hp (e := (f, q)) hm.2.2.1 hm.2.2.2.1 hm.2.2.2.2
  rw [if_pos hm, if_pos hm]
  change match slotS S0 3 p with | some S' => _ | none => mapM bs (poolOf PL7 0) p f q = (701, bs) at this
  cases hs : slotS S0 3 p with
  | none => rw [hs] at this; simp only at this ⊢; rw [this]; exact ⟨rfl, rfl⟩
  | some S' =>
    rw [hs] at this
    obtain ⟨h1, h2, h4⟩ := this
    exact ⟨h1, ⟨h4.1.trans h.len, h2, h.b.farW h4 (by decide)⟩⟩
theorem D7.map1 (h : D7 bs S0 E0 S1 E1) {p : Nat} (hp : p < 256) {f q : Int} (h0 : 1 ≤ q) (h3 : q ≤ 3) (f0 : 0 ≤ f) (f1 : f < 16) :
    match slotS S1 2 p with
    | some S' => (if MapP PL7 bs 1 p f q then (mapM bs (poolOf PL7 1) p f q).1 else 700) = 0 ∧ D7 (if MapP PL7 bs 1 p f q then (mapM bs (poolOf PL7 1) p f q).2 else bs) S0 E0 S' (upd E1 p (f, q))
    | none => (if MapP PL7 bs 1 p f q then (mapM bs (poolOf PL7 1) p f q).1 else 700) = 701 ∧ (if MapP PL7 bs 1 p f q then (mapM bs (poolOf PL7 1) p f q).2 else bs) = bs := by
  have hm := h.mapP (.inr rfl) hp h0 h3 f0 f1
  have := h.b.map hp (e := (f, q)) hm.2.2.1 hm.2.2.2.1 hm.2.2.2.2
  rw [if_pos hm, if_pos hm]
  change match slotS S1 2 p with | some S' => _ | none => mapM bs (poolOf PL7 1) p f q = (701, bs) at this
  cases hs : slotS S1 2 p with
  | none => rw [hs] at this; simp only at this ⊢; rw [this]; exact ⟨rfl, rfl⟩
  | some S' =>
    rw [hs] at this
    obtain ⟨h1, h2, h4⟩ := this
    exact ⟨h1, ⟨h4.1.trans h.len, h.a.farW h4 (by decide), h2⟩⟩
theorem D7.unmap0 (h : D7 bs S0 E0 S1 E1) {p : Nat} (hp : p < 256) :
    if (E0 p).2 = 0 then (if devIn PL7 0 ∧ pageP p then (unmapM bs (rootOf PL7 0) p).1 else 700) = 702 ∧ (if devIn PL7 0 ∧ pageP p then (unmapM bs (rootOf PL7 0) p).2 else bs) = bs
    else (if devIn PL7 0 ∧ pageP p then (unmapM bs (rootOf PL7 0) p).1 else 700) = 0 ∧ D7 (if devIn PL7 0 ∧ pageP p then (unmapM bs (rootOf PL7 0) p).2 else bs) S0 (upd E0 p (0, 0)) S1 E1 := by
  have hd : devIn PL7 0 ∧ pageP p := ⟨by decide, by unfold pageP; omega⟩
  rw [if_pos hd, if_pos hd]
  have := h.a.unmap hp
  change if (E0 p).2 = 0 then unmapM bs (rootOf PL7 0) p = (702, bs) else _ at this
  by_cases h0 : (E0 p).2 = 0
  · rw [if_pos h0] at this ⊢; rw [this]; exact ⟨rfl, rfl⟩
  · rw [if_neg h0] at this ⊢
    obtain ⟨h1, h2, h4⟩ := this
    exact ⟨h1, ⟨h4.1.trans h.len, h2, h.b.farW h4 (by decide)⟩⟩
theorem D7.unmap1 (h : D7 bs S0 E0 S1 E1) {p : Nat} (hp : p < 256) :
    if (E1 p).2 = 0 then (if devIn PL7 1 ∧ pageP p then (unmapM bs (rootOf PL7 1) p).1 else 700) = 702 ∧ (if devIn PL7 1 ∧ pageP p then (unmapM bs (rootOf PL7 1) p).2 else bs) = bs
    else (if devIn PL7 1 ∧ pageP p then (unmapM bs (rootOf PL7 1) p).1 else 700) = 0 ∧ D7 (if devIn PL7 1 ∧ pageP p then (unmapM bs (rootOf PL7 1) p).2 else bs) S0 E0 S1 (upd E1 p (0, 0)) := by
  have hd : devIn PL7 1 ∧ pageP p := ⟨by decide, by unfold pageP; omega⟩
  rw [if_pos hd, if_pos hd]
  have := h.b.unmap hp
  change if (E1 p).2 = 0 then unmapM bs (rootOf PL7 1) p = (702, bs) else _ at this
  by_cases h0 : (E1 p).2 = 0
  · rw [if_pos h0] at this ⊢; rw [this]; exact ⟨rfl, rfl⟩
  · rw [if_neg h0] at this ⊢
    obtain ⟨h1, h2, h4⟩ := this
    exact ⟨h1, ⟨h4.1.trans h.len, h.a.farW h4 (by decide), h2⟩⟩
theorem D7.clear0 (h : D7 bs S0 E0 S1 E1) : D7 (if devIn PL7 0 then clearB bs (poolOf PL7 0) else bs) [] E00 S1 E1 := by
  rw [if_pos (by decide)]
  change D7 (clearB bs [0, 1, 2, 3]) [] E00 S1 E1
  have hf : ∀ f ∈ ([0, 1, 2, 3] : List Int), frameP bs f := fun f hm => fr7 h.len (by simp at hm; omega) (by simp at hm; omega)
  exact ⟨by rw [clearB_len]; exact h.len, DT.clear (by decide) hf (by have := h.len; omega), h.b.farW (clearB_far hf) (by decide)⟩
theorem D7.clear1 (h : D7 bs S0 E0 S1 E1) : D7 (if devIn PL7 1 then clearB bs (poolOf PL7 1) else bs) S0 E0 [] E00 := by
  rw [if_pos (by decide)]
  change D7 (clearB bs [4, 5, 6]) S0 E0 [] E00
  have hf : ∀ f ∈ ([4, 5, 6] : List Int), frameP bs f := fun f hm => fr7 h.len (by simp at hm; omega) (by simp at hm; omega)
  exact ⟨by rw [clearB_len]; exact h.len, h.a.farW (clearB_far hf) (by decide), DT.clear (by decide) hf (by have := h.len; omega)⟩
end
/-- A run within one page. -/
theorem trans1 {bs : List UInt8} {rt wt b n : Int} (hn : 1 ≤ n) (hb : b % 64 + n ≤ 64) :
    transM bs rt wt 256 b n [] = if (walkE bs rt (b / 64)).2 ≠ 0 then ([], failC (walkE bs rt (b / 64)).2) else if bits .and .i64 (walkE bs rt (b / 64)).1.2 wt = 0 then ([], 703) else ([((walkE bs rt (b / 64)).1.1, b % 64, n)], 0) := by
  show (if 0 < n then _ else _) = _
  rw [if_pos (by omega), show min n (64 - b % 64) = n by omega, transM_end _ _ _ _ _ _ _ (by omega)]
  rfl
set_option maxRecDepth 100000 in
set_option maxHeartbeats 1000000 in
theorem set7 (w : World) : Calls Try.prog 10 #[] w fun e w' => ∃ x p bs F, e = .returned (.tuple #[.pointer (some ⟨p, 0, none⟩), .pointer (some ⟨x, 0, none⟩)]) ∧ IoM w' x p PL7 bs F ∧ D7 bs [] E00 [] E00 ∧ (∀ k, F k → w.heap.size ≤ k) ∧ Chg (fun _ => False) w w' := by
  go_enter Try.func10, Try.ntmps10
  go_wp2_with fail
  refine (mnew37_ok 16 w (by omega) (by omega)).mono ?_
  rintro e w1 ⟨rfl, hM, hs, hC⟩
  have HM := Lib.hid hM; have HC := Lib.hid hC; have HS := Lib.hid hs
  clear hM hC hs
  go_wp2_with fail
  obtain ⟨W, hW⟩ : ∃ W, W = ((w1.alloc (.cells #[.int .i64 0, .int .i64 1, .int .i64 2, .int .i64 3] 3)).alloc (.cells #[.int .i64 4, .int .i64 5, .int .i64 6] 3)).alloc (.cells #[.slice (some ⟨w1.heap.size, 0, none⟩) 4 4, .slice (some ⟨w1.heap.size + 1, 0, none⟩) 3 3] 22) := ⟨_, rfl⟩
  rw [← hW]
  have hA : Chg (fun _ => False) w1 W := by rw [hW]; exact (((Chg.refl _ _).alloc _).alloc _).alloc _
  have hR : RdLL W (.slice (some ⟨w1.heap.size + 2, 0, none⟩) 2 2) PL7 :=
    RdLL.mk2 (by rw [hW]; exact blk_new3 _ _ _ _) (RdN.blk (by rw [hW]; exact blk_alloc (blk_alloc (blk_new _ _) _) _) rfl (by decide) _) (RdN.blk (by rw [hW]; exact blk_alloc (blk_new2 _ _ _) _) rfl (by decide) _) _
  have hl : (List.replicate (16 * 64) (0 : UInt8)).length = 1024 := List.length_replicate
  have hP : PoolsP (List.replicate (16 * 64) 0) PL7 := ⟨fun f hf => fr7 hl (by simp [PL7] at hf; omega) (by simp [PL7] at hf; omega), by decide, by decide, by decide, by decide⟩
  have HD := Lib.hid (d7_start hl)
  refine (ioNew (HM.out.keepD hA) (by omega) hR hP).mono ?_
  rintro e w2 ⟨x, F, rfl, hI, hF, hC2⟩
  have HI := Lib.hid hI
  have HF : Hid (∀ k, F k → w.heap.size ≤ k) := fun k hk => by
    have h1 := HC.out.size; have h2 := hA.size
    rcases hF k hk with h | h | h <;> omega
  have HC2 : Hid (Chg (fun _ => False) w w2) := (HC.out.trans hA).trans' hC2 (fun k hk h => by omega)
  clear hI hF hC2 hR hP hl hA hW HM HC
  go_wp2_with fail
  refine (num16q _ _).mono ?_
  rintro e w3 ⟨rfl, rfl⟩
  go_wp2_with fail
  refine (num16q _ _).mono ?_
  rintro e w3 ⟨rfl, rfl⟩
  go_wp2_with fail
  go_ret2
  exact ⟨x, _, _, F, rfl, HI.out, HD.out, HF.out, HC2.out⟩
end Go.Proofs.Ytnallfehffhaeaa
