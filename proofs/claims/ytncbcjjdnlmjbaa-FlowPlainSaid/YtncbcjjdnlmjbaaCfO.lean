/- A config copied: CopyParts, CopyConfig. Printed by mkcopy.py. -/
import Derived.Test.YtncbcjjdnlmjbaaRefF
import Derived.Test.YtncbcjjdnlmjbaaOpenC
set_option linter.unusedSimpArgs false
set_option linter.unusedVariables false
namespace Go.Proofs.Ytncbcjjdnlmjbaa
open Go.RowKit

/-- Parts and devices with the slices in them. -/
def prc (x : Prt × Value) : List Value := [.int .i64 x.1.lv, .int .i64 x.1.cats, x.2, .int .i64 x.1.first, .int .i64 x.1.count]
def dvc (x : Dv × Value) : List Value := [.int .i64 x.1.part, x.2]
def wnc (x : Wn) : List Value := [.int .i64 x.part, .int .i64 x.start, .int .i64 x.len, .int .i64 x.deliver]
def gtc (x : Gr) : List Value := [.int .i64 x.frame, .int .i64 x.to, .bool x.write]
theorem prc_len (x) : (prc x).length = 5 := rfl
theorem dvc_len (x) : (dvc x).length = 2 := rfl
theorem wnc_len (x) : (wnc x).length = 4 := rfl
theorem gtc_len (x) : (gtc x).length = 3 := rfl
def OwnPs (w : World) (base : Nat) (v : Value) (L : List Prt) : Prop := ∃ M : List (Prt × Value), M.map (·.1) = L ∧ OwnC prc 5 40 w base v M ∧ ∀ x ∈ M, OwnC icell 1 3 w base x.2 x.1.fr
def OwnDs (w : World) (base : Nat) (v : Value) (L : List Dv) : Prop := ∃ M : List (Dv × Value), M.map (·.1) = L ∧ OwnC dvc 2 42 w base v M ∧ ∀ x ∈ M, OwnC icell 1 3 w base x.2 x.1.pool
/-- A config of a call's own. -/
structure OwnCf (w : World) (base : Nat) (C : Cf) (s : Vs) : Prop where
  ps : OwnPs w base s.ps C.parts
  ds : OwnDs w base s.ds C.devs
  ws : OwnC wnc 4 119 w base s.ws C.wins
  gs : OwnC gtc 3 44 w base s.gs C.grants
theorem rdn_own {w : World} {base : Nat} {v : Value} {L : List Int} (h : OwnC icell 1 3 w base v L) (hm : L.length ≤ maxLen) : RdN w v L := by
  obtain ⟨A, c, rfl⟩ := h.slice
  refine ⟨hm, A, c, rfl, fun j hj => ?_⟩
  obtain ⟨g, cap, hv, _⟩ := h.form (by omega)
  injection hv with h1 h2 h3
  subst h1 h3
  exact ⟨g, 0, rfl, by have := h.cell (fun _ => rfl) hj (show 0 < 1 by omega); simpa [icell] using this⟩
section
variable {w w' : World} {base : Nat} {v : Value} {S : Nat → Prop}
theorem OwnC.keepB {α : Type} {cells : α → List Value} {C e : Nat} {L : List α} (h : OwnC cells C e w base v L) (hC : Chg S w w') (hn : ∀ k, base ≤ k → k < w.heap.size → ¬ S k) : OwnC cells C e w' base v L :=
  h.keep hC (fun k hk => hn k (own_lt h hk).1 (own_lt h hk).2)
theorem OwnPs.keep {L : List Prt} (h : OwnPs w base v L) (hC : Chg S w w') (hn : ∀ k, base ≤ k → k < w.heap.size → ¬ S k) : OwnPs w' base v L := by
  obtain ⟨M, h1, h2, h3⟩ := h
  exact ⟨M, h1, h2.keepB hC hn, fun x hx => (h3 x hx).keepB hC hn⟩
theorem OwnDs.keep {L : List Dv} (h : OwnDs w base v L) (hC : Chg S w w') (hn : ∀ k, base ≤ k → k < w.heap.size → ¬ S k) : OwnDs w' base v L := by
  obtain ⟨M, h1, h2, h3⟩ := h
  exact ⟨M, h1, h2.keepB hC hn, fun x hx => (h3 x hx).keepB hC hn⟩
theorem OwnPs.rd {L : List Prt} (h : OwnPs w base v L) (hm : L.length ≤ maxLen) (hf : ∀ p ∈ L, p.fr.length ≤ maxLen) : RdP w v L := by
  obtain ⟨M, rfl, h, h3⟩ := h
  obtain ⟨A, c, rfl⟩ := h.slice
  refine ⟨hm, A, c, by rw [List.length_map], fun j hj => ?_⟩
  have hj' : j < M.length := by simpa using hj
  obtain ⟨g, cap, hv, _⟩ := h.form (by omega)
  injection hv with h1 h2 h4
  subst h1 h4
  have e : (M.map (·.1))[j] = M[j].1 := by simp
  rw [e]
  refine ⟨g, 0, M[j].2, rfl, ?_, ?_, ?_, ?_, ?_, rdn_own (h3 _ (List.getElem_mem hj')) (hf _ (by rw [← e]; exact List.getElem_mem hj))⟩
  · have := h.cell prc_len hj' (show 0 < 5 by omega); simpa [prc] using this
  · have := h.cell prc_len hj' (show 1 < 5 by omega); simpa [prc] using this
  · have := h.cell prc_len hj' (show 2 < 5 by omega); simpa [prc] using this
  · have := h.cell prc_len hj' (show 3 < 5 by omega); simpa [prc] using this
  · have := h.cell prc_len hj' (show 4 < 5 by omega); simpa [prc] using this
theorem OwnDs.rd {L : List Dv} (h : OwnDs w base v L) (hm : L.length ≤ maxLen) (hf : ∀ p ∈ L, p.pool.length ≤ maxLen) : RdD w v L := by
  obtain ⟨M, rfl, h, h3⟩ := h
  obtain ⟨A, c, rfl⟩ := h.slice
  refine ⟨hm, A, c, by rw [List.length_map], fun j hj => ?_⟩
  have hj' : j < M.length := by simpa using hj
  obtain ⟨g, cap, hv, _⟩ := h.form (by omega)
  injection hv with h1 h2 h4
  subst h1 h4
  have e : (M.map (·.1))[j] = M[j].1 := by simp
  rw [e]
  refine ⟨g, 0, M[j].2, rfl, ?_, ?_, rdn_own (h3 _ (List.getElem_mem hj')) (hf _ (by rw [← e]; exact List.getElem_mem hj))⟩
  · have := h.cell dvc_len hj' (show 0 < 2 by omega); simpa [dvc] using this
  · have := h.cell dvc_len hj' (show 1 < 2 by omega); simpa [dvc] using this
theorem rdw_own {L : List Wn} (h : OwnC wnc 4 119 w base v L) (hm : L.length ≤ maxLen) : RdW w v L := by
  have hcap : ∀ A n c, v = .slice A n c → n ≤ c := fun A n c e => by
    rcases h.2 with ⟨hv, h0⟩ | ⟨g, cap, cur, hv, _, _, hle, _⟩
    · rw [e] at hv; injection hv with _ e1 e2; omega
    · rw [e] at hv; injection hv with _ e1 e2; omega
  obtain ⟨A, c, rfl⟩ := h.slice
  refine ⟨⟨hm, hcap⟩, A, c, rfl, fun j hj => ?_⟩
  obtain ⟨g, cap, hv, _⟩ := h.form (by omega)
  injection hv with h1 h2 h3
  subst h1 h3
  refine ⟨g, 0, rfl, ?_, ?_, ?_, ?_⟩
  · have := h.cell wnc_len hj (show 0 < 4 by omega); simpa [wnc] using this
  · have := h.cell wnc_len hj (show 1 < 4 by omega); simpa [wnc] using this
  · have := h.cell wnc_len hj (show 2 < 4 by omega); simpa [wnc] using this
  · have := h.cell wnc_len hj (show 3 < 4 by omega); simpa [wnc] using this
theorem rdg_own {L : List Gr} (h : OwnC gtc 3 44 w base v L) (hm : L.length ≤ maxLen) : RdG w v L := by
  obtain ⟨A, c, rfl⟩ := h.slice
  refine ⟨hm, A, c, rfl, fun j hj => ?_⟩
  obtain ⟨g, cap, hv, _⟩ := h.form (by omega)
  injection hv with h1 h2 h3
  subst h1 h3
  refine ⟨g, 0, rfl, ?_, ?_, ?_⟩
  · have := h.cell gtc_len hj (show 0 < 3 by omega); simpa [gtc] using this
  · have := h.cell gtc_len hj (show 1 < 3 by omega); simpa [gtc] using this
  · have := h.cell gtc_len hj (show 2 < 3 by omega); simpa [gtc] using this
end
theorem OwnCf.R {w : World} {base : Nat} {C : Cf} {s : Vs} (h : OwnCf w base C s) (hb : CfB C) : s.R w C := by
  have hm : ∀ n, n * 8 ≤ reachBytes → n ≤ maxLen := fun n hn => by unfold reachBytes at hn; unfold maxLen; omega
  have b1 := hb.ps; have b2 := hb.ds; have b3 := hb.ws; have b4 := hb.gs
  refine ⟨h.ps.rd (hm _ (by omega)) (fun p hp => hm _ (hb.fr p hp)), h.ds.rd (hm _ (by omega)) (fun p hp => hm _ (hb.po p hp)), rdw_own h.ws (hm _ (by omega)), rdg_own h.gs (hm _ (by omega))⟩
theorem RdW.rowc {w : World} {A : Option Addr} {n c : Nat} {L : List Wn} (h : RdW w (.slice A n c) L) : RowC w A (L.flatMap wnc) := by
  obtain ⟨_, A', c', e, h⟩ := h
  injection e with e1 e2 e3
  subst e1 e3
  intro j u hu
  have hj : j / 4 < L.length := by
    rcases Nat.lt_or_ge j (L.flatMap wnc).length with h' | h'
    · rw [flat_len wnc 4 wnc_len] at h'; omega
    · rw [List.getElem?_eq_none h'] at hu; cases hu
  obtain ⟨g, o, rfl, h0, h1, h2, h3⟩ := h (j / 4) hj
  have hm : j % 4 < 4 := Nat.mod_lt _ (by omega)
  have := flat_get wnc 4 wnc_len (j % 4) hm L (j / 4)
  rw [show j / 4 * 4 + j % 4 = j from by omega, hu, List.getElem?_eq_getElem hj] at this
  refine ⟨g, o, rfl, ?_⟩
  have h4 : j % 4 = 0 ∨ j % 4 = 1 ∨ j % 4 = 2 ∨ j % 4 = 3 := by omega
  rcases h4 with e | e | e | e <;> rw [e] at this <;> simp only [Option.bind_some, wnc, List.getElem?_cons_zero, List.getElem?_cons_succ, Option.some.injEq] at this <;> subst this
  · rw [show o + j = o + j / 4 * 4 from by omega]; exact h0
  · rw [show o + j = o + j / 4 * 4 + 1 from by omega]; exact h1
  · rw [show o + j = o + j / 4 * 4 + 2 from by omega]; exact h2
  · rw [show o + j = o + j / 4 * 4 + 3 from by omega]; exact h3
theorem RdG.rowc {w : World} {A : Option Addr} {n c : Nat} {L : List Gr} (h : RdG w (.slice A n c) L) : RowC w A (L.flatMap gtc) := by
  obtain ⟨_, A', c', e, h⟩ := h
  injection e with e1 e2 e3
  subst e1 e3
  intro j u hu
  have hj : j / 3 < L.length := by
    rcases Nat.lt_or_ge j (L.flatMap gtc).length with h' | h'
    · rw [flat_len gtc 3 gtc_len] at h'; omega
    · rw [List.getElem?_eq_none h'] at hu; cases hu
  obtain ⟨g, o, rfl, h0, h1, h2⟩ := h (j / 3) hj
  have hm : j % 3 < 3 := Nat.mod_lt _ (by omega)
  have := flat_get gtc 3 gtc_len (j % 3) hm L (j / 3)
  rw [show j / 3 * 3 + j % 3 = j from by omega, hu, List.getElem?_eq_getElem hj] at this
  refine ⟨g, o, rfl, ?_⟩
  have h4 : j % 3 = 0 ∨ j % 3 = 1 ∨ j % 3 = 2 := by omega
  rcases h4 with e | e | e <;> rw [e] at this <;> simp only [Option.bind_some, gtc, List.getElem?_cons_zero, List.getElem?_cons_succ, Option.some.injEq] at this <;> subst this
  · rw [show o + j = o + j / 3 * 3 from by omega]; exact h0
  · rw [show o + j = o + j / 3 * 3 + 1 from by omega]; exact h1
  · rw [show o + j = o + j / 3 * 3 + 2 from by omega]; exact h2
theorem one_icell (L : List Int) : ∀ u ∈ L.flatMap icell, u.oneCell' = true := by
  intro u hu
  obtain ⟨x, _, hx⟩ := List.mem_flatMap.1 hu
  simp [icell] at hx; subst hx; rfl
theorem one_wnc (L : List Wn) : ∀ u ∈ L.flatMap wnc, u.oneCell' = true := by
  intro u hu
  obtain ⟨x, _, hx⟩ := List.mem_flatMap.1 hu
  unfold wnc at hx
  simp only [List.mem_cons, List.not_mem_nil, or_false] at hx
  rcases hx with rfl | rfl | rfl | rfl <;> rfl
theorem one_gtc (L : List Gr) : ∀ u ∈ L.flatMap gtc, u.oneCell' = true := by
  intro u hu
  obtain ⟨x, _, hx⟩ := List.mem_flatMap.1 hu
  unfold gtc at hx
  simp only [List.mem_cons, List.not_mem_nil, or_false] at hx
  rcases hx with rfl | rfl | rfl <;> rfl
/-- An empty row that a call has just made. -/
theorem own_empty (w : World) (e C base : Nat) (hb : base ≤ w.heap.size) : (w.alloc (.cells #[] e)).ownsRow base e C (.slice (some ⟨w.heap.size, 0, none⟩) 0 0) 0 [] :=
  ⟨by simp, .inr ⟨w.heap.size, 0, #[], rfl, hb, blk_new _ _, Nat.le_refl _, by unfold maxLen; omega, by simp, by simp⟩⟩
end Go.Proofs.Ytncbcjjdnlmjbaa
