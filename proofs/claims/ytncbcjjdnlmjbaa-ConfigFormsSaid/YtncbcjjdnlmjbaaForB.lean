/- The law ConfigForms: the walk. Printed by mkcforms.py. -/
import Derived.Test.YtncbcjjdnlmjbaaConfigGrants
import Derived.Test.YtncbcjjdnlmjbaaCfgT
import Derived.Deep.CutBlock
set_option linter.unusedSimpArgs false
set_option linter.unusedVariables false
namespace Go.Proofs.Ytncbcjjdnlmjbaa
open Go.RowKit

theorem frames_in {C : Cf} (h : FramesOk C) (f : Int) (hf : f ∈ C.allFr) : 0 ≤ f ∧ f < C.frames := by
  obtain ⟨h0, h1, h2⟩ := h
  obtain ⟨S', hS⟩ := Option.isSome_iff_exists.1 h2
  have := (onceL_some _ _ _ _ hS).2 f hf
  exact ⟨this.1, this.2.1⟩
section
variable {w : World}
theorem mx0 : 0 ≤ maxLen := Nat.zero_le _
theorem mx3 (n : Nat) (h : n ≤ 3) : n ≤ maxLen := by unfold maxLen; omega
theorem rdn_nil (w : World) : RdN w (.slice none 0 0) [] := ⟨mx0, none, 0, rfl, fun j hj => absurd hj (by simp)⟩
theorem rdp_nil (w : World) : RdP w (.slice none 0 0) [] := ⟨mx0, none, 0, rfl, fun j hj => absurd hj (by simp)⟩
theorem rdd_nil (w : World) : RdD w (.slice none 0 0) [] := ⟨mx0, none, 0, rfl, fun j hj => absurd hj (by simp)⟩
theorem rdp3 {g : Nat} {l0 c0 f0 n0 l1 c1 f1 n1 l2 c2 f2 n2 : Int} {F0 F1 F2 : Value} {L0 L1 L2 : List Int}
    (h : w.heap[g]? = some (.cells #[.int .i64 l0, .int .i64 c0, F0, .int .i64 f0, .int .i64 n0, .int .i64 l1, .int .i64 c1, F1, .int .i64 f1, .int .i64 n1, .int .i64 l2, .int .i64 c2, F2, .int .i64 f2, .int .i64 n2] 40 (0, 0))) (h0 : RdN w F0 L0) (h1 : RdN w F1 L1) (h2 : RdN w F2 L2) :
    RdP w (.slice (some ⟨g, 0, none⟩) 3 3) [⟨l0, c0, L0, f0, n0⟩, ⟨l1, c1, L1, f1, n1⟩, ⟨l2, c2, L2, f2, n2⟩] := by
  refine ⟨mx3 3 (by omega), _, 3, rfl, fun j hj => ?_⟩
  have hj3 : j = 0 ∨ j = 1 ∨ j = 2 := by simp only [List.length_cons, List.length_nil] at hj; omega
  rcases hj3 with rfl | rfl | rfl
  · exact ⟨_, _, _, rfl, blk_cell h 0, blk_cell h 1, blk_cell h 2, blk_cell h 3, blk_cell h 4, h0⟩
  · exact ⟨_, _, _, rfl, blk_cell h 5, blk_cell h 6, blk_cell h 7, blk_cell h 8, blk_cell h 9, h1⟩
  · exact ⟨_, _, _, rfl, blk_cell h 10, blk_cell h 11, blk_cell h 12, blk_cell h 13, blk_cell h 14, h2⟩
theorem rdd2 {g : Nat} {p0 p1 : Int} {F0 F1 : Value} {L0 L1 : List Int}
    (h : w.heap[g]? = some (.cells #[.int .i64 p0, F0, .int .i64 p1, F1] 42 (0, 0))) (h0 : RdN w F0 L0) (h1 : RdN w F1 L1) : RdD w (.slice (some ⟨g, 0, none⟩) 2 2) [⟨p0, L0⟩, ⟨p1, L1⟩] := by
  refine ⟨mx3 2 (by omega), _, 2, rfl, fun j hj => ?_⟩
  have hj3 : j = 0 ∨ j = 1 := by simp only [List.length_cons, List.length_nil] at hj; omega
  rcases hj3 with rfl | rfl
  · exact ⟨_, _, _, rfl, blk_cell h 0, blk_cell h 1, h0⟩
  · exact ⟨_, _, _, rfl, blk_cell h 2, blk_cell h 3, h1⟩
theorem rdw3 {g : Nat} (h : w.heap[g]? = some (.cells #[pn 0, pn 0, pn 2, pn 1, pn 1, pn 2, pn 2, pn 2, pn 2, pn 4, pn 2, pn 5] 119 (0, 0))) : RdW w (.slice (some ⟨g, 0, none⟩) 3 3) [⟨0, 0, 2, 1⟩, ⟨1, 2, 2, 2⟩, ⟨2, 4, 2, 5⟩] := by
  refine ⟨⟨mx3 3 (by omega), fun A n c e => by injection e with _ e1 e2; omega⟩, _, 3, rfl, fun j hj => ?_⟩
  have hj3 : j = 0 ∨ j = 1 ∨ j = 2 := by simp only [List.length_cons, List.length_nil] at hj; omega
  rcases hj3 with rfl | rfl | rfl
  · exact ⟨_, _, rfl, blk_cell h 0, blk_cell h 1, blk_cell h 2, blk_cell h 3⟩
  · exact ⟨_, _, rfl, blk_cell h 4, blk_cell h 5, blk_cell h 6, blk_cell h 7⟩
  · exact ⟨_, _, rfl, blk_cell h 8, blk_cell h 9, blk_cell h 10, blk_cell h 11⟩
theorem rdw2 {g : Nat} (h : w.heap[g]? = some (.cells #[pn 0, pn 0, pn 2, pn 1, pn 1, pn 2, pn 2, pn 2, pn 2, pn 4, pn 2, pn 5] 119 (0, 0))) : RdW w (.slice (some ⟨g, 0, none⟩) 2 3) [⟨0, 0, 2, 1⟩, ⟨1, 2, 2, 2⟩] := by
  refine ⟨⟨mx3 2 (by omega), fun A n c e => by injection e with _ e1 e2; omega⟩, _, 3, rfl, fun j hj => ?_⟩
  have hj3 : j = 0 ∨ j = 1 := by simp only [List.length_cons, List.length_nil] at hj; omega
  rcases hj3 with rfl | rfl
  · exact ⟨_, _, rfl, blk_cell h 0, blk_cell h 1, blk_cell h 2, blk_cell h 3⟩
  · exact ⟨_, _, rfl, blk_cell h 4, blk_cell h 5, blk_cell h 6, blk_cell h 7⟩
def grc (x : Gr) : List Value := [.int .i64 x.frame, .int .i64 x.to, .bool x.write]
theorem grc_len (x : Gr) : (grc x).length = 3 := rfl
theorem RdG.of {base : Nat} {v : Value} {L : List Gr} (h : OwnC grc 3 44 w base v L) (hm : L.length ≤ maxLen) : RdG w v L := by
  obtain ⟨A, c, rfl⟩ := h.slice
  refine ⟨hm, A, c, rfl, fun j hj => ?_⟩
  obtain ⟨g, cap, hv, _⟩ := h.form (by omega)
  injection hv with h1 h2 h3
  subst h1 h3
  refine ⟨g, 0, rfl, ?_, ?_, ?_⟩
  · have := h.cell grc_len hj (show 0 < 3 by omega); simpa [grc] using this
  · have := h.cell grc_len hj (show 1 < 3 by omega); simpa [grc] using this
  · have := h.cell grc_len hj (show 2 < 3 by omega); simpa [grc] using this
theorem gr_own {B : Nat} (h : w.heap[B + 9]? = some (.cells #[pn 2, pn 2, .bool false] 44 (0, 0))) : OwnC grc 3 44 w B (.slice (some ⟨B + 9, 0, none⟩) 1 1) [⟨2, 2, false⟩] :=
  ⟨rfl, .inr ⟨B + 9, 1, _, rfl, by omega, h, Nat.le_refl _, mx3 1 (by omega), rfl, rfl⟩⟩
theorem Try.infoGr : (Try.prog.info? 44).map (fun i => (i.zero, i.size, i.bytes)) = some (some (.agg #[.int .i64 0, .int .i64 0, .bool false]), 3, 24) := by kernel_rfl
end
def cV0 (d : Int) : Cf := ⟨12, [⟨0, 0, [0, 1, 2], 0, 4⟩, ⟨2, 0, [3, 4], 4, 4⟩, ⟨1, 2, [5, 6], 8, 2⟩], [⟨0, [8, 9, 10]⟩, ⟨2, [11, 12]⟩], 6, [⟨0, 0, 2, 1⟩, ⟨1, 2, 2, 2⟩, ⟨2, 4, 2, 5⟩], [⟨2, 2, false⟩], 10, 6, 2⟩
theorem noV0 (d : Int) : ¬ MayP (cV0 d) := by show ¬ MayP (cV0 0); decide +kernel
def cV2 (d : Int) : Cf := ⟨16, [], [⟨0, [8, 9, 10]⟩, ⟨2, [11, 12]⟩], 6, [⟨0, 0, 2, 1⟩, ⟨1, 2, 2, 2⟩, ⟨2, 4, 2, 5⟩], [⟨2, 2, false⟩], 10, 6, 2⟩
theorem noV2 (d : Int) : ¬ MayP (cV2 d) := by show ¬ MayP (cV2 0); decide +kernel
def cV3 (d : Int) : Cf := ⟨16, [⟨-d, 0, [0, 1, 2], 0, 4⟩, ⟨2, 0, [3, 4], 4, 4⟩, ⟨1, 2, [5, 6], 8, 2⟩], [⟨0, [8, 9, 10]⟩, ⟨2, [11, 12]⟩], 6, [⟨0, 0, 2, 1⟩, ⟨1, 2, 2, 2⟩, ⟨2, 4, 2, 5⟩], [⟨2, 2, false⟩], 10, 6, 2⟩
theorem noV3 (d : Int) (h0 : 1 ≤ d) : ¬ MayP (cV3 d) := fun h => by have := (h.1.1 0 (show 0 < 3 by omega)).1.1; simp [cV3] at this <;> omega
def cV4 (d : Int) : Cf := ⟨16, [⟨0, 0, [0, 1, 2], 0, 4⟩, ⟨2, 0, [], 4, 4⟩, ⟨1, 2, [5, 6], 8, 2⟩], [⟨0, [8, 9, 10]⟩, ⟨2, [11, 12]⟩], 6, [⟨0, 0, 2, 1⟩, ⟨1, 2, 2, 2⟩, ⟨2, 4, 2, 5⟩], [⟨2, 2, false⟩], 10, 6, 2⟩
theorem noV4 (d : Int) : ¬ MayP (cV4 d) := by show ¬ MayP (cV4 0); decide +kernel
def cV5 (d : Int) : Cf := ⟨16, [⟨0, 0, [0, 1, 2], 0, 4⟩, ⟨2, 0, [0, 4], 4, 4⟩, ⟨1, 2, [5, 6], 8, 2⟩], [⟨0, [8, 9, 10]⟩, ⟨2, [11, 12]⟩], 6, [⟨0, 0, 2, 1⟩, ⟨1, 2, 2, 2⟩, ⟨2, 4, 2, 5⟩], [⟨2, 2, false⟩], 10, 6, 2⟩
theorem noV5 (d : Int) : ¬ MayP (cV5 d) := by show ¬ MayP (cV5 0); decide +kernel
def cV6 (d : Int) : Cf := ⟨16, [⟨0, 0, [0, 1, 2], 0, 4⟩, ⟨2, 0, [15 + d, 4], 4, 4⟩, ⟨1, 2, [5, 6], 8, 2⟩], [⟨0, [8, 9, 10]⟩, ⟨2, [11, 12]⟩], 6, [⟨0, 0, 2, 1⟩, ⟨1, 2, 2, 2⟩, ⟨2, 4, 2, 5⟩], [⟨2, 2, false⟩], 10, 6, 2⟩
theorem noV6 (d : Int) (h0 : 1 ≤ d) : ¬ MayP (cV6 d) := fun h => by have := frames_in h.2.2.1 (15 + d) (by simp [Cf.allFr, cV6]); simp [cV6] at this <;> omega
def cV7 (d : Int) : Cf := ⟨16, [⟨0, 0, [0, 1, 2], 0, 4⟩, ⟨2, 0, [3, -d], 4, 4⟩, ⟨1, 2, [5, 6], 8, 2⟩], [⟨0, [8, 9, 10]⟩, ⟨2, [11, 12]⟩], 6, [⟨0, 0, 2, 1⟩, ⟨1, 2, 2, 2⟩, ⟨2, 4, 2, 5⟩], [⟨2, 2, false⟩], 10, 6, 2⟩
theorem noV7 (d : Int) (h0 : 1 ≤ d) : ¬ MayP (cV7 d) := fun h => by have := frames_in h.2.2.1 (-d) (by simp [Cf.allFr, cV7]); simp [cV7] at this <;> omega
def cV8 (d : Int) : Cf := ⟨16, [⟨0, 0, [0, 1, 2], 0, 4⟩, ⟨2, 0, [3, 4], 4, 4⟩, ⟨1, 2, [5, 6], 8, 2⟩], [], 6, [⟨0, 0, 2, 1⟩, ⟨1, 2, 2, 2⟩, ⟨2, 4, 2, 5⟩], [⟨2, 2, false⟩], 10, 6, 2⟩
theorem noV8 (d : Int) : ¬ MayP (cV8 d) := by show ¬ MayP (cV8 0); decide +kernel
def cV9 (d : Int) : Cf := ⟨16, [⟨0, 0, [0, 1, 2], 0, 4⟩, ⟨2, 0, [3, 4], 4, 4⟩, ⟨1, 2, [5, 6], 8, 2⟩], [⟨2 + d, [8, 9, 10]⟩, ⟨2, [11, 12]⟩], 6, [⟨0, 0, 2, 1⟩, ⟨1, 2, 2, 2⟩, ⟨2, 4, 2, 5⟩], [⟨2, 2, false⟩], 10, 6, 2⟩
theorem noV9 (d : Int) (h0 : 1 ≤ d) : ¬ MayP (cV9 d) := fun h => by have := (h.2.1.1 0 (show 0 < 2 by omega)).1.2; simp [cV9] at this <;> omega
def cV10 (d : Int) : Cf := ⟨16, [⟨0, 0, [0, 1, 2], 0, 4⟩, ⟨2, 0, [3, 4], 4, 4⟩, ⟨1, 2, [5, 6], 8, 2⟩], [⟨-d, [8, 9, 10]⟩, ⟨2, [11, 12]⟩], 6, [⟨0, 0, 2, 1⟩, ⟨1, 2, 2, 2⟩, ⟨2, 4, 2, 5⟩], [⟨2, 2, false⟩], 10, 6, 2⟩
theorem noV10 (d : Int) (h0 : 1 ≤ d) : ¬ MayP (cV10 d) := fun h => by have := (h.2.1.1 0 (show 0 < 2 by omega)).1.1; simp [cV10] at this <;> omega
def cV11 (d : Int) : Cf := ⟨16, [⟨0, 0, [0, 1, 2], 0, 4⟩, ⟨2, 0, [3, 4], 4, 4⟩, ⟨1, 2, [5, 6], 8, 2⟩], [⟨0, [8]⟩, ⟨2, [11, 12]⟩], 6, [⟨0, 0, 2, 1⟩, ⟨1, 2, 2, 2⟩, ⟨2, 4, 2, 5⟩], [⟨2, 2, false⟩], 10, 6, 2⟩
theorem noV11 (d : Int) : ¬ MayP (cV11 d) := by show ¬ MayP (cV11 0); decide +kernel
def cV12 (d : Int) : Cf := ⟨16, [⟨0, 0, [0, 1, 2], 0, 4⟩, ⟨2, 0, [3, 4], 4, 4⟩, ⟨1, 2, [5, 6], 8, 2⟩], [⟨0, [8, 9, 10, 13, 14, 15]⟩, ⟨2, [11, 12]⟩], 6, [⟨0, 0, 2, 1⟩, ⟨1, 2, 2, 2⟩, ⟨2, 4, 2, 5⟩], [⟨2, 2, false⟩], 10, 6, 2⟩
theorem noV12 (d : Int) : ¬ MayP (cV12 d) := by show ¬ MayP (cV12 0); decide +kernel
def cV13 (d : Int) : Cf := ⟨16, [⟨0, 0, [0, 1, 2], 0, 4⟩, ⟨2, 0, [3, 4], 4, 4⟩, ⟨1, 2, [5, 6], 8, 2⟩], [⟨0, [8, 9, 10]⟩, ⟨2, [8, 12]⟩], 6, [⟨0, 0, 2, 1⟩, ⟨1, 2, 2, 2⟩, ⟨2, 4, 2, 5⟩], [⟨2, 2, false⟩], 10, 6, 2⟩
theorem noV13 (d : Int) : ¬ MayP (cV13 d) := by show ¬ MayP (cV13 0); decide +kernel
def cV14 (d : Int) : Cf := ⟨16, [⟨0, 0, [0, 1, 2], 0, 4⟩, ⟨2, 0, [3, 4], 4, 4⟩, ⟨1, 2, [5, 6], 8, 2⟩], [⟨0, [8, 9, 10]⟩, ⟨2, [5, 12]⟩], 6, [⟨0, 0, 2, 1⟩, ⟨1, 2, 2, 2⟩, ⟨2, 4, 2, 5⟩], [⟨2, 2, false⟩], 10, 6, 2⟩
theorem noV14 (d : Int) : ¬ MayP (cV14 d) := by show ¬ MayP (cV14 0); decide +kernel
def cV15 (d : Int) : Cf := ⟨16, [⟨0, 0, [0, 1, 2], 0, 4⟩, ⟨2, 0, [3, 4], 4, 4⟩, ⟨1, 2, [5, 6], 8, 2⟩], [⟨0, [8, 9, 10]⟩, ⟨2, [11, 12]⟩], 6, [⟨0, 0, 2, 1⟩, ⟨1, 2, 2, 2⟩], [⟨2, 2, false⟩], 10, 6, 2⟩
theorem noV15 (d : Int) : ¬ MayP (cV15 d) := by show ¬ MayP (cV15 0); decide +kernel
def cV16 (d : Int) : Cf := ⟨16, [⟨0, 0, [0, 1, 2], 0, 4⟩, ⟨2, 0, [3, 4], 4, 4⟩, ⟨1, 2, [5, 6], 8, 2⟩], [⟨0, [8, 9, 10]⟩, ⟨2, [11, 12]⟩], 5, [⟨0, 0, 2, 1⟩, ⟨1, 2, 2, 2⟩, ⟨2, 4, 2, 5⟩], [⟨2, 2, false⟩], 10, 6, 2⟩
theorem noV16 (d : Int) : ¬ MayP (cV16 d) := by show ¬ MayP (cV16 0); decide +kernel
def cV17 (d : Int) : Cf := ⟨16, [⟨0, 0, [0, 1, 2], 0, 4⟩, ⟨2, 0, [3, 4], 4, 4⟩, ⟨1, 2, [5, 6], 8, 2⟩], [⟨0, [8, 9, 10]⟩, ⟨2, [11, 12]⟩], 6, [⟨0, 0, 2, 1⟩, ⟨1, 2, 2, 2⟩, ⟨2, 4, 2, 5⟩], [⟨7, 2, false⟩], 10, 6, 2⟩
theorem noV17 (d : Int) : ¬ MayP (cV17 d) := by show ¬ MayP (cV17 0); decide +kernel
def cV18 (d : Int) : Cf := ⟨16, [⟨0, 0, [0, 1, 2], 0, 4⟩, ⟨2, 0, [3, 4], 4, 4⟩, ⟨1, 2, [5, 6], 8, 2⟩], [⟨0, [8, 9, 10]⟩, ⟨2, [11, 12]⟩], 6, [⟨0, 0, 2, 1⟩, ⟨1, 2, 2, 2⟩, ⟨2, 4, 2, 5⟩], [⟨8, 2, false⟩], 10, 6, 2⟩
theorem noV18 (d : Int) : ¬ MayP (cV18 d) := by show ¬ MayP (cV18 0); decide +kernel
def cV19 (d : Int) : Cf := ⟨16, [⟨0, 0, [0, 1, 2], 0, 4⟩, ⟨2, 0, [3, 4], 4, 4⟩, ⟨1, 2, [5, 6], 8, 2⟩], [⟨0, [8, 9, 10]⟩, ⟨2, [11, 12]⟩], 6, [⟨0, 0, 2, 1⟩, ⟨1, 2, 2, 2⟩, ⟨2, 4, 2, 5⟩], [⟨2, 2 + d, false⟩], 10, 6, 2⟩
theorem noV19 (d : Int) (h0 : 1 ≤ d) : ¬ MayP (cV19 d) := fun h => by have := (h.2.2.2.2.1 0 (show 0 < 1 by omega)).2.1.2; simp [cV19] at this <;> omega
def cV20 (d : Int) : Cf := ⟨16, [⟨0, 0, [0, 1, 2], 0, 4⟩, ⟨2, 0, [3, 4], 4, 4⟩, ⟨1, 2, [5, 6], 8, 2⟩], [⟨0, [8, 9, 10]⟩, ⟨2, [11, 12]⟩], 6, [⟨0, 0, 2, 1⟩, ⟨1, 2, 2, 2⟩, ⟨2, 4, 2, 5⟩], [⟨2, 2, false⟩, ⟨2, 2, true⟩], 10, 6, 2⟩
theorem noV20 (d : Int) : ¬ MayP (cV20 d) := by show ¬ MayP (cV20 0); decide +kernel
def cV21 (d : Int) : Cf := ⟨16, [⟨0, 0, [0, 1, 2], 0, 4⟩, ⟨2, 0, [3, 4], 4, 4⟩, ⟨1, 2, [5, 6], 8, 2⟩], [⟨0, [8, 9, 10]⟩, ⟨2, [11, 12]⟩], 6, [⟨0, 0, 2, 1⟩, ⟨1, 2, 2, 2⟩, ⟨2, 4, 2, 5⟩], [⟨2, 2, false⟩], 9, 6, 2⟩
theorem noV21 (d : Int) : ¬ MayP (cV21 d) := by show ¬ MayP (cV21 0); decide +kernel
def cV22 (d : Int) : Cf := ⟨16, [⟨0, 0, [0, 1, 2], 0, 4⟩, ⟨2, 0, [3, 4], 4, 4⟩, ⟨1, 2, [5, 6], 7, 2⟩], [⟨0, [8, 9, 10]⟩, ⟨2, [11, 12]⟩], 6, [⟨0, 0, 2, 1⟩, ⟨1, 2, 2, 2⟩, ⟨2, 4, 2, 5⟩], [⟨2, 2, false⟩], 10, 6, 2⟩
theorem noV22 (d : Int) : ¬ MayP (cV22 d) := by show ¬ MayP (cV22 0); decide +kernel
def cV23 (d : Int) : Cf := ⟨16, [⟨0, 0, [0, 1, 2], 0, 4⟩, ⟨2, 0, [3, 4], 4, 4⟩, ⟨1, 2, [5, 6], 8, 2⟩], [⟨0, [8, 9, 10]⟩, ⟨2, [11, 12]⟩], 6, [⟨0, 0, 2, 1⟩, ⟨1, 2, 2, 2⟩, ⟨2, 4, 2, 5⟩], [⟨2, 2, false⟩], 10, 64 + d, 2⟩
theorem noV23 (d : Int) (h0 : 1 ≤ d) : ¬ MayP (cV23 d) := fun h => by have := h.2.2.2.2.2.2.2.1; simp [cV23] at this <;> omega
def cV24 (d : Int) : Cf := ⟨16, [⟨0, 0, [0, 1, 2], 0, 4⟩, ⟨2, 0, [3, 4], 4, 4⟩, ⟨1, 2, [5, 6], 8, 2⟩], [⟨0, [8, 9, 10]⟩, ⟨2, [11, 12]⟩], 6, [⟨0, 0, 2, 1⟩, ⟨1, 2, 2, 2⟩, ⟨2, 4, 2, 5⟩], [⟨2, 2, false⟩], 10, 6, 8 + d⟩
theorem noV24 (d : Int) (h0 : 1 ≤ d) : ¬ MayP (cV24 d) := fun h => by have := h.2.2.2.2.2.2.2.2.2; simp [cV24] at this <;> omega
end Go.Proofs.Ytncbcjjdnlmjbaa
