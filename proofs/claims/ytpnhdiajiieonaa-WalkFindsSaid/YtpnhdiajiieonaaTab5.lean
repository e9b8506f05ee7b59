/- Plain words on a table of four leaves: no program in sight. -/
import Derived.Test.YtpnhdiajiieonaaPte
import Derived.Test.YtpnhdiajiieonaaArr
set_option linter.unusedSimpArgs false
set_option linter.unusedVariables false
namespace Go.Proofs.Ytpnhdiajiieonaa

structure Root5 (bs : List UInt8) (m : Nat) : Prop where
  len : bs.length = 512
  root : ∀ i : Nat, i < 16 → wordK bs 0 i = if i < m then putE (1 + i) 3 else 0
  leaf : ∀ (f : Nat) (k : Nat), 1 ≤ f → f < 8 → k < 16 → wordK bs f k = 0
structure Tab5 (bs : List UInt8) (g : Nat → Int × Int) : Prop where
  len : bs.length = 512
  root : ∀ i : Nat, i < 16 → wordK bs 0 i = if i < 4 then putE (1 + i) 3 else 0
  leaf : ∀ k : Nat, k < 64 → wordK bs ((1 + k / 16 : Nat) : Int) ((k % 16 : Nat) : Int) = putE (g k).1 (g k).2
  may : ∀ k, mayE (g k).1 (g k).2 ∧ (g k).1 < 8
theorem fr5 {bs : List UInt8} (h : bs.length = 512) (f : Nat) (hf : f < 8) : frameP bs f := by unfold frameP; rw [h]; omega
theorem root5_zero : Root5 (List.replicate (8 * 64) 0) 0 := by
  have hz : ∀ a, wordR (List.replicate (8 * 64) 0) a = 0 := fun a => by unfold wordR; split; exact wordV_zero _ _; rfl
  exact ⟨List.length_replicate, fun i hi => by unfold wordK; rw [hz, if_neg (by omega)], fun f k _ _ _ => by unfold wordK; exact hz _⟩
theorem root5_put {bs : List UInt8} {m : Nat} (h : Root5 bs m) (hm : m < 4) : putP bs (4 * (m : Int)) (putE (1 + m) 3) ∧ Root5 (putB bs (4 * (m : Int)) (putE (1 + m) 3)) (m + 1) := by
  have hx : mayE (1 + m) 3 := by unfold mayE; omega
  have hb := putE_bound hx
  have e : 4 * (m : Int) = ((0 : Nat) : Int) * 64 + ((m : Nat) : Int) * 4 := by omega
  have hp : ∀ (f k : Nat), f < 8 → k < 16 → wordK (putB bs (4 * (m : Int)) (putE (1 + m) 3)) f k = if (f : Int) = ((0 : Nat) : Int) ∧ (k : Int) = m then putE (1 + m) 3 else wordK bs f k := fun f k hf hk => by
    rw [e, wordK_put (fr5 h.len 0 (by omega)) (by omega) (fr5 h.len f hf) (by omega) (by omega)]
  refine ⟨⟨by rw [e]; exact wordP_K (fr5 h.len 0 (by omega)) (by omega), by omega, by omega⟩, by rw [putB_len]; exact h.len, fun i hi => ?_, fun f k h1 h2 h3 => ?_⟩
  · have := hp 0 i (by omega) hi
    rw [show ((0 : Nat) : Int) = 0 from rfl] at this
    rw [this]
    by_cases e2 : i = m
    · subst e2; rw [if_pos (by omega), if_pos (by omega)]
    · rw [if_neg (by omega), h.root i hi]
      by_cases e3 : i < m
      · rw [if_pos e3, if_pos (by omega)]
      · rw [if_neg e3, if_neg (by omega)]
  · rw [hp f k h2 h3, if_neg (by omega)]
    exact h.leaf f k h1 h2 h3
theorem tab5_start {bs : List UInt8} (h : Root5 bs 4) : Tab5 bs (fun _ => (0, 0)) :=
  ⟨h.len, h.root, fun k hk => by rw [h.leaf _ _ (by omega) (by omega) (by omega)]; rfl, fun _ => ⟨by decide, by decide⟩⟩
theorem tab5_put {bs : List UInt8} {g : Nat → Int × Int} (h : Tab5 bs g) (k : Nat) (hk : k < 64) (e : Int × Int) (he : mayE e.1 e.2) (h8 : e.1 < 8) :
    putP bs ((1 + (k : Int) / 16) * 64 + 4 * ((k : Int) % 16)) (putE e.1 e.2) ∧ Tab5 (putB bs ((1 + (k : Int) / 16) * 64 + 4 * ((k : Int) % 16)) (putE e.1 e.2)) (upd g k e) := by
  have hb := putE_bound he
  have ea : (1 + (k : Int) / 16) * 64 + 4 * ((k : Int) % 16) = ((1 + k / 16 : Nat) : Int) * 64 + ((k % 16 : Nat) : Int) * 4 := by omega
  have hp : ∀ (f j : Nat), f < 8 → j < 16 → wordK (putB bs ((1 + (k : Int) / 16) * 64 + 4 * ((k : Int) % 16)) (putE e.1 e.2)) f j = if (f : Int) = ((1 + k / 16 : Nat) : Int) ∧ (j : Int) = ((k % 16 : Nat) : Int) then putE e.1 e.2 else wordK bs f j := fun f j hf hj => by
    rw [ea, wordK_put (fr5 h.len _ (by omega)) (by omega) (fr5 h.len f hf) (by omega) (by omega)]
  refine ⟨⟨by rw [ea]; exact wordP_K (fr5 h.len _ (by omega)) (by omega), by omega, by omega⟩, by rw [putB_len]; exact h.len, fun i hi => ?_, fun j hj => ?_, fun j => ?_⟩
  · have := hp 0 i (by omega) hi
    rw [show ((0 : Nat) : Int) = 0 from rfl] at this
    rw [this, if_neg (by omega)]
    exact h.root i hi
  · rw [hp _ _ (by omega) (by omega)]
    by_cases e2 : j = k
    · subst e2; rw [if_pos ⟨rfl, rfl⟩, upd_same]
    · rw [if_neg (by omega), upd_other _ _ e2]; exact h.leaf j hj
  · by_cases e2 : j = k
    · subst e2; rw [upd_same]; exact ⟨he, h8⟩
    · rw [upd_other _ _ e2]; exact h.may j
theorem walk5 {bs : List UInt8} {g : Nat → Int × Int} (h : Tab5 bs g) (k : Nat) (hk : k < 64) : walkE bs 0 k = if (g k).2 = 0 then ((0, 0), 501) else (g k, 0) := by
  have hr := h.root (k / 16) (by omega)
  rw [if_pos (by omega)] at hr
  have hlen : (bs.length : Int) / 64 = 8 := by rw [h.len]; rfl
  have hs : stepE bs 0 ((k : Int) / 16) = ((1 + ((k / 16 : Nat) : Int), 3), 0) := by
    unfold stepE
    rw [show (k : Int) / 16 = ((k / 16 : Nat) : Int) from rfl, hr, getE_put (by unfold mayE; omega)]
    simp only
    rw [if_neg (by omega), if_pos (by omega)]
  have hl : leafI bs 0 ((k : Int) / 16) = (1 + ((k / 16 : Nat) : Int), 0) := by unfold leafI; rw [hs]; rfl
  unfold walkE
  rw [if_pos ⟨by unfold pageP; omega, by unfold frameP; omega⟩, hl]
  simp only
  rw [if_neg (by simp)]
  have hw := h.leaf k hk
  have hm := h.may k
  unfold stepE
  rw [show (1 + ((k / 16 : Nat) : Int)) = ((1 + k / 16 : Nat) : Int) from by omega, show (k : Int) % 16 = ((k % 16 : Nat) : Int) from rfl, hw, getE_put hm.1]
  simp only
  by_cases hp : (g k).2 = 0
  · rw [if_pos hp, if_pos hp]
  · rw [if_neg hp, if_neg hp, if_pos (by omega)]
theorem walk5_none {bs : List UInt8} {g : Nat → Int × Int} (h : Tab5 bs g) (page : Int) (h1 : 64 ≤ page) (h2 : page < 256) : walkE bs 0 page = ((0, 0), 501) := by
  have hr := h.root (page / 16).toNat (by omega)
  rw [if_neg (by omega)] at hr
  have hlen : (bs.length : Int) / 64 = 8 := by rw [h.len]; rfl
  have hs : stepE bs 0 (page / 16) = ((0, 0), 501) := by
    unfold stepE
    rw [show page / 16 = (((page / 16).toNat : Nat) : Int) from by omega, hr]
    rfl
  have hl : leafI bs 0 (page / 16) = (0, 501) := by unfold leafI; rw [hs]; rfl
  unfold walkE
  rw [if_pos ⟨by unfold pageP; omega, by unfold frameP; omega⟩, hl]
  rfl
end Go.Proofs.Ytpnhdiajiieonaa
