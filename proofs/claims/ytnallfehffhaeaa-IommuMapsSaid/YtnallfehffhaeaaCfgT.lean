/- Configs, plain: frames that are unlike are not many. -/
import Derived.Test.YtnallfehffhaeaaCfg
set_option linter.unusedSimpArgs false
set_option linter.unusedVariables false
namespace Go.Proofs.Ytnallfehffhaeaa
open Go.RowKit

theorem onceL_some (n : Int) : ∀ (L S S' : List Int), onceL n S L = some S' → L.Nodup ∧ (∀ f ∈ L, 0 ≤ f ∧ f < n ∧ f ∉ S)
  | [], S, S', _ => ⟨List.nodup_nil, by simp⟩
  | f :: L, S, S', h => by
    unfold onceL at h
    split at h
    · rename_i hf
      obtain ⟨h1, h2⟩ := onceL_some n L _ _ h
      refine ⟨List.nodup_cons.2 ⟨fun hm => (h2 f hm).2.2 (by simp), h1⟩, fun g hg => ?_⟩
      rcases List.mem_cons.1 hg with rfl | hg
      · exact hf
      · have := h2 g hg
        exact ⟨this.1, this.2.1, fun hs => this.2.2 (List.mem_cons_of_mem _ hs)⟩
    · cases h
theorem filter_len (a : Int) : ∀ L : List Int, L.Nodup → L.length ≤ (L.filter (fun x => decide (x ≠ a))).length + 1
  | [], _ => by simp
  | x :: L, h => by
    obtain ⟨h1, h2⟩ := List.nodup_cons.1 h
    by_cases e : x = a
    · subst e
      have : L.filter (fun y => decide (y ≠ x)) = L := List.filter_eq_self.2 (fun y hy => by
        simp only [decide_eq_true_eq]
        intro e; subst e; exact h1 hy)
      have h3 : ((x :: L).filter (fun y => decide (y ≠ x))) = L.filter (fun y => decide (y ≠ x)) := List.filter_cons_of_neg (by simp)
      rw [h3, this]; simp
    · have := filter_len a L h2
      simp [e] at this ⊢
      omega
/-- As many as there are places. -/
theorem nodup_len : ∀ (n : Nat) (L : List Int), L.Nodup → (∀ f ∈ L, 0 ≤ f ∧ f < n) → L.length ≤ n
  | 0, [], _, _ => by simp
  | 0, f :: L, _, h => by have := h f (by simp); omega
  | n + 1, L, hn, h => by
    have h1 := filter_len (n : Int) L hn
    have h2 := nodup_len n (L.filter (fun x => decide (x ≠ (n : Int)))) (hn.filter _) (fun f hf => by
      obtain ⟨f1, f2⟩ := List.mem_filter.1 hf
      have := h f f1
      have f3 : f ≠ (n : Int) := by simpa using f2
      omega)
    omega
theorem flat_le {α : Type} (fr : α → List Int) {p : α} : ∀ L : List α, p ∈ L → (fr p).length ≤ (L.flatMap fr).length
  | [], h => by simp at h
  | x :: L, h => by
    rw [List.flatMap_cons, List.length_append]
    rcases List.mem_cons.1 h with rfl | h
    · omega
    · have := flat_le fr L h; omega
/-- Each row of a config's frames is short. -/
theorem frames_short {C : Cf} (h : FramesOk C) : (∀ p ∈ C.parts, p.fr.length ≤ 64) ∧ ∀ d ∈ C.devs, d.pool.length ≤ 64 := by
  obtain ⟨h0, h1, h2⟩ := h
  obtain ⟨S', hS⟩ := Option.isSome_iff_exists.1 h2
  obtain ⟨hn, hr⟩ := onceL_some _ _ _ _ hS
  have hl : C.allFr.length ≤ 64 := nodup_len 64 _ hn (fun f hf => ⟨(hr f hf).1, by have := (hr f hf).2.1; omega⟩)
  unfold Cf.allFr at hl
  rw [List.length_append] at hl
  constructor
  · intro p hp
    have : p.fr.length ≤ (C.parts.flatMap (·.fr)).length := flat_le (·.fr) _ hp
    omega
  · intro d hd
    have : d.pool.length ≤ (C.devs.flatMap (·.pool)).length := flat_le (·.pool) _ hd
    omega
end Go.Proofs.Ytnallfehffhaeaa
