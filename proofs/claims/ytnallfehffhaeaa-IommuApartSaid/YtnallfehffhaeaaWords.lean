/- Plain words on words of a memory: what is put is read, frame by frame. -/
import Derived.Test.YtnallfehffhaeaaMem7
set_option linter.unusedSimpArgs false
set_option linter.unusedVariables false
namespace Go.Proofs.Ytnallfehffhaeaa

theorem byteAt_splice (bs vs : List UInt8) (a i : Nat) (h : a + vs.length ≤ bs.length) : byteAt (splice bs a vs) i = if a ≤ i ∧ i < a + vs.length then byteAt vs (i - a) else byteAt bs i := by
  unfold byteAt
  rw [splice_get _ _ _ h]
  split <;> rfl
theorem byteAt_wb (v : Int) (j : Nat) (h : j < 4) : byteAt (wb v) j = v / 2 ^ (8 * j) % 256 := by
  unfold byteAt
  rw [List.getElem?_eq_getElem (by rw [wb_len]; exact h), wb_get]
  exact wbj_nat v j
theorem wordV_wb (v : Int) (h0 : 0 ≤ v) (h1 : v ≤ 4294967295) : wordV (wb v) 0 = v := by
  unfold wordV
  rw [byteAt_wb v 0 (by omega), byteAt_wb v (0 + 1) (by omega), byteAt_wb v (0 + 2) (by omega), byteAt_wb v (0 + 3) (by omega)]
  simp only [show (2 : Int) ^ (8 * 0) = 1 from rfl, show (2 : Int) ^ (8 * (0 + 1)) = 256 from rfl, show (2 : Int) ^ (8 * (0 + 2)) = 65536 from rfl, show (2 : Int) ^ (8 * (0 + 3)) = 16777216 from rfl]
  omega
theorem wordV_splice (bs : List UInt8) (v : Int) (k j : Nat) (hk : 4 * k + 4 ≤ bs.length) (h0 : 0 ≤ v) (h1 : v ≤ 4294967295) :
    wordV (splice bs (4 * k) (wb v)) (4 * j) = if j = k then v else wordV bs (4 * j) := by
  have hb := byteAt_splice bs (wb v) (4 * k)
  rw [wb_len] at hb
  by_cases hj : j = k
  · subst hj
    rw [if_pos rfl]
    conv => rhs; rw [← wordV_wb v h0 h1]
    unfold wordV
    rw [hb _ hk, hb _ hk, hb _ hk, hb _ hk, if_pos (by omega), if_pos (by omega), if_pos (by omega), if_pos (by omega)]
    simp only [Nat.sub_self, Nat.add_sub_cancel_left, Nat.zero_add]
  · rw [if_neg hj]
    unfold wordV
    rw [hb _ hk, hb _ hk, hb _ hk, hb _ hk, if_neg (by omega), if_neg (by omega), if_neg (by omega), if_neg (by omega)]

theorem byteAt_zero (n i : Nat) : byteAt (List.replicate n 0) i = 0 := by
  unfold byteAt
  rw [List.getElem?_replicate]
  split <;> rfl
theorem wordV_zero (n a : Nat) : wordV (List.replicate n 0) a = 0 := by
  unfold wordV; rw [byteAt_zero, byteAt_zero, byteAt_zero, byteAt_zero]; rfl
theorem wordV_range (bs : List UInt8) (a : Nat) : 0 ≤ wordV bs a ∧ wordV bs a < 4294967296 := by
  have h0 := byteAt_le bs a; have h1 := byteAt_le bs (a + 1); have h2 := byteAt_le bs (a + 2); have h3 := byteAt_le bs (a + 3)
  unfold wordV; omega
theorem wordR_range (bs : List UInt8) (a : Int) : 0 ≤ wordR bs a ∧ wordR bs a < 4294967296 := by
  unfold wordR; split
  · exact wordV_range _ _
  · omega
theorem putB_len' (bs : List UInt8) (a x : Int) : (putB bs a x).length = bs.length := putB_len bs a x
theorem wordP_put (bs : List UInt8) (a x a' : Int) : wordP (putB bs a x) a' ↔ wordP bs a' := by unfold wordP; rw [putB_len]
theorem wordP_zero (bs : List UInt8) (f a' : Int) : wordP (zeroB bs f) a' ↔ wordP bs a' := by unfold wordP; rw [zeroB_len]
/-- A word that is put, and no other one, is turned. -/
theorem wordR_put (bs : List UInt8) (a x a' : Int) (h : putP bs a x) (h' : wordP bs a') : wordR (putB bs a x) a' = if a' = a then x else wordR bs a' := by
  unfold wordR
  rw [if_pos ((wordP_put bs a x a').2 h'), if_pos h']
  unfold putB
  rw [if_pos h]
  unfold putP wordP mayP at h
  unfold wordP mayP at h'
  obtain ⟨k, hk⟩ : ∃ k : Nat, a.toNat = 4 * k := ⟨a.toNat / 4, by omega⟩
  obtain ⟨j, hj⟩ : ∃ j : Nat, a'.toNat = 4 * j := ⟨a'.toNat / 4, by omega⟩
  rw [hk, hj, wordV_splice bs x k j (by omega) (by omega) (by omega)]
  by_cases e : a' = a
  · rw [if_pos e, if_pos (by omega)]
  · rw [if_neg e, if_neg (by omega)]
theorem wordR_zero_in (bs : List UInt8) (f a' : Int) (h : frameP bs f) (h1 : f * 64 ≤ a') (h2 : a' + 4 ≤ f * 64 + 64) : wordR (zeroB bs f) a' = 0 := by
  unfold wordR
  split
  · unfold zeroB
    rw [if_pos h]
    unfold frameP at h
    have hb := byteAt_splice bs (List.replicate 64 0) (f.toNat * 64)
    rw [List.length_replicate] at hb
    have hl : f.toNat * 64 + 64 ≤ bs.length := by omega
    unfold wordV
    rw [hb _ hl, hb _ hl, hb _ hl, hb _ hl, if_pos (by omega), if_pos (by omega), if_pos (by omega), if_pos (by omega), byteAt_zero, byteAt_zero, byteAt_zero, byteAt_zero]
    rfl
  · rfl
theorem wordR_zero_out (bs : List UInt8) (f a' : Int) (h : frameP bs f) (h' : wordP bs a') (h1 : a' + 4 ≤ f * 64 ∨ f * 64 + 64 ≤ a') : wordR (zeroB bs f) a' = wordR bs a' := by
  unfold wordR
  rw [if_pos ((wordP_zero bs f a').2 h'), if_pos h']
  unfold zeroB
  rw [if_pos h]
  unfold frameP at h
  unfold wordP mayP at h'
  have hb := byteAt_splice bs (List.replicate 64 0) (f.toNat * 64)
  rw [List.length_replicate] at hb
  have hl : f.toNat * 64 + 64 ≤ bs.length := by omega
  unfold wordV
  rw [hb _ hl, hb _ hl, hb _ hl, hb _ hl, if_neg (by omega), if_neg (by omega), if_neg (by omega), if_neg (by omega)]
end Go.Proofs.Ytnallfehffhaeaa
