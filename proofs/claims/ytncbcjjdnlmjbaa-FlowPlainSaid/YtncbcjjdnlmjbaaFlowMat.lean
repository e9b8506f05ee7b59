/- Chapter 23, plain: a matrix of who flows directly is closed; the config that the law FlowPlain makes. -/
import Derived.Test.YtncbcjjdnlmjbaaPurgeAll
set_option linter.unusedSimpArgs false
set_option linter.unusedVariables false
namespace Go.Proofs.Ytncbcjjdnlmjbaa
open Go.RowKit

/-! ### A matrix, three by three, by rows -/
def wst (D : Nat → Bool) (k i j : Nat) : Nat → Bool := upd D (3 * i + j) (D (3 * i + j) || (D (3 * i + k) && D (3 * k + j)))
def wsq (D : Nat → Bool) : Nat → Nat → Bool
  | 0 => D
  | n + 1 => wst (wsq D n) (n / 9) (n / 3 % 3) (n % 3)
/-- The same over nine values. -/
def rowOf (D : Nat → Bool) : List Bool := (List.range 9).map D
def wstL (l : List Bool) (k i j : Nat) : List Bool := l.set (3 * i + j) (l.getD (3 * i + j) false || (l.getD (3 * i + k) false && l.getD (3 * k + j) false))
def wsqL (l : List Bool) : Nat → List Bool
  | 0 => l
  | n + 1 => wstL (wsqL l n) (n / 9) (n / 3 % 3) (n % 3)
theorem rowOf_get (D : Nat → Bool) (i : Nat) (h : i < 9) : (rowOf D).getD i false = D i := by unfold rowOf; simp [List.getD, h]
theorem rowOf_wst (D : Nat → Bool) (k i j : Nat) (hk : k < 3) (hi : i < 3) (hj : j < 3) : rowOf (wst D k i j) = wstL (rowOf D) k i j := by
  unfold wstL
  rw [rowOf_get D _ (by omega), rowOf_get D _ (by omega), rowOf_get D _ (by omega)]
  apply List.ext_getElem?
  intro n
  unfold rowOf wst
  rw [List.getElem?_set]
  by_cases h : 3 * i + j = n
  · subst h
    rw [if_pos rfl]
    simp [upd_same, show 3 * i + j < 9 by omega]
  · rw [if_neg h]
    by_cases hn : n < 9
    · simp [hn, upd_other _ _ (show n ≠ 3 * i + j from fun e => h e.symm)]
    · simp [hn]
theorem rowOf_wsq (D : Nat → Bool) : ∀ n, n ≤ 27 → rowOf (wsq D n) = wsqL (rowOf D) n
  | 0, _ => rfl
  | n + 1, h => by
    show rowOf (wst (wsq D n) (n / 9) (n / 3 % 3) (n % 3)) = wstL (wsqL (rowOf D) n) (n / 9) (n / 3 % 3) (n % 3)
    rw [rowOf_wst _ _ _ _ (by omega) (by omega) (by omega), rowOf_wsq D n (by omega)]
set_option maxRecDepth 100000 in
theorem wsq_closed : ∀ a b c d e f : Bool, ∀ x y z : Fin 3, (wsqL [true, a, b, c, true, d, e, f, true] 27).getD (3 * x.val + y.val) false = true → [true, a, b, c, true, d, e, f, true].getD (3 * y.val + z.val) false = true → (wsqL [true, a, b, c, true, d, e, f, true] 27).getD (3 * x.val + z.val) false = true := by decide +kernel
theorem wsq_refl : ∀ a b c d e f : Bool, ∀ x : Fin 3, (wsqL [true, a, b, c, true, d, e, f, true] 27).getD (3 * x.val + x.val) false = true := by decide +kernel
theorem wsq_path {R : Nat → Nat → Prop} {D : Nat → Bool} (h : ∀ x y, x < 3 → y < 3 → D (3 * x + y) = true → PathD R 3 x y) : ∀ n, n ≤ 27 → ∀ x y, x < 3 → y < 3 → wsq D n (3 * x + y) = true → PathD R 3 x y
  | 0, _, x, y, hx, hy, e => h x y hx hy e
  | n + 1, hn, x, y, hx, hy, e => by
    have ih := wsq_path h n (by omega)
    have e' : wst (wsq D n) (n / 9) (n / 3 % 3) (n % 3) (3 * x + y) = true := e
    unfold wst at e'
    by_cases hxy : 3 * x + y = 3 * (n / 3 % 3) + n % 3
    · have hx' : x = n / 3 % 3 := by omega
      have hy' : y = n % 3 := by omega
      rw [hxy, upd_same] at e'
      rw [← hx', ← hy'] at e'
      simp only [Bool.or_eq_true, Bool.and_eq_true] at e'
      rcases e' with e' | ⟨e1, e2⟩
      · exact ih x y hx hy e'
      · exact (ih x (n / 9) hx (by omega) e1).trans (ih (n / 9) y (by omega) hy e2)
    · rw [upd_other _ _ hxy] at e'
      exact ih x y hx hy e'
/-- The walk of the matrix tells who flows. -/
theorem wsq_flow {C : Cf} (hl : C.parts.length = 3) {D : Nat → Bool} (hD : ∀ x y, x < 3 → y < 3 → D (3 * x + y) = decide (DirP C x y)) (p q : Nat) (hp : p < 3) (hq : q < 3) : pathB C p q = wsq D 27 (3 * p + q) := by
  have hd : ∀ x, x < 3 → D (3 * x + x) = true := fun x hx => by rw [hD x x hx hx]; exact decide_eq_true (.inl rfl)
  have hrow : rowOf D = [true, D 1, D 2, D 3, true, D 5, D 6, D 7, true] := by
    have h0 : D 0 = true := hd 0 (by omega)
    have h4 : D 4 = true := hd 1 (by omega)
    have h8 : D 8 = true := hd 2 (by omega)
    show [D 0, D 1, D 2, D 3, D 4, D 5, D 6, D 7, D 8] = _
    rw [h0, h4, h8]
  have hget : ∀ i, i < 9 → wsq D 27 i = (wsqL [true, D 1, D 2, D 3, true, D 5, D 6, D 7, true] 27).getD i false := fun i hi => by
    rw [← hrow, ← rowOf_wsq D 27 (by omega), rowOf_get _ _ hi]
  have hget0 : ∀ i, i < 9 → D i = [true, D 1, D 2, D 3, true, D 5, D 6, D 7, true].getD i false := fun i hi => by
    rw [← hrow, rowOf_get _ _ hi]
  rw [Bool.eq_iff_iff, pathB_iff, hl]
  refine (path_of_closed (g := fun j => wsq D 27 (3 * p + j)) ?_ (fun j hj hg => wsq_path (fun x y hx hy e => ?_) 27 (by omega) p j hp hj hg) (fun x hx hg y hy hxy => ?_) q hq).symm
  · show wsq D 27 (3 * p + p) = true
    rw [hget _ (by omega)]
    exact wsq_refl _ _ _ _ _ _ ⟨p, hp⟩
  · rw [hD x y hx hy] at e
    exact .step .refl hx hy (of_decide_eq_true e)
  · show wsq D 27 (3 * p + y) = true
    have hg' : wsq D 27 (3 * p + x) = true := hg
    rw [hget _ (by omega)] at hg' ⊢
    have hb : D (3 * x + y) = true := by rw [hD x y hx hy]; exact decide_eq_true hxy
    rw [hget0 _ (by omega)] at hb
    exact wsq_closed _ _ _ _ _ _ ⟨p, hp⟩ ⟨x, hx⟩ ⟨y, hy⟩ hg' hb
/-! ### The config -/
def fst3 (i : Nat) : Int := if i = 0 then 0 else if i = 1 then 3 else 5
structure GrInv (G : List Gr) (n : Nat) : Prop where
  each : ∀ g ∈ G, ∃ p q, p < 3 ∧ q < 3 ∧ p ≠ q ∧ 3 * p + q < n ∧ g.frame = fst3 p ∧ g.to = q
  apart : G.Pairwise (fun a b => ¬ (a.frame = b.frame ∧ a.to = b.to))
  few : G.length ≤ n
theorem GrInv.start : GrInv [] 0 := ⟨fun g h => absurd h (by simp), .nil, by simp⟩
theorem GrInv.mono {G : List Gr} {n m : Nat} (h : GrInv G n) (hm : n ≤ m) : GrInv G m :=
  ⟨fun g hg => by obtain ⟨p, q, a, b, c, d, e⟩ := h.each g hg; exact ⟨p, q, a, b, c, by omega, e⟩, h.apart, Nat.le_trans h.few hm⟩
theorem fst3_inj {p q : Nat} (hp : p < 3) (hq : q < 3) (h : fst3 p = fst3 q) : p = q := by
  have h1 : p = 0 ∨ p = 1 ∨ p = 2 := by omega
  have h2 : q = 0 ∨ q = 1 ∨ q = 2 := by omega
  rcases h1 with rfl | rfl | rfl <;> rcases h2 with rfl | rfl | rfl <;> first | rfl | exact absurd h (by decide)
theorem GrInv.add {G : List Gr} {i j : Nat} (h : GrInv G (3 * i + j)) (hi : i < 3) (hj : j < 3) (hne : i ≠ j) (b : Bool) : GrInv (G ++ [⟨fst3 i, j, b⟩]) (3 * i + j + 1) := by
  refine ⟨fun g hg => ?_, List.pairwise_append.2 ⟨h.apart, List.pairwise_singleton _ _, fun a ha c hc => ?_⟩, by have := h.few; simp; omega⟩
  · rcases List.mem_append.1 hg with hg | hg
    · obtain ⟨p, q, a, b, c, d, e⟩ := h.each g hg; exact ⟨p, q, a, b, c, by omega, e⟩
    · simp at hg; subst hg; exact ⟨i, j, hi, hj, hne, by omega, rfl, rfl⟩
  · simp at hc; subst hc
    obtain ⟨p, q, a1, a2, a3, a4, a5, a6⟩ := h.each a ha
    rintro ⟨e1, e2⟩
    rw [a5] at e1
    have := fst3_inj a1 hi e1
    have : (q : Int) = j := by rw [← a6]; exact e2
    omega
def LabOk (a : Int) : Prop := 0 ≤ a ∧ a ≤ 3
theorem own_lab {a0 b0 a1 b1 a2 b2 : Int} {G : List Gr} {p : Nat} (hp : p < 3) : (cLab a0 b0 a1 b1 a2 b2 G).own (fst3 p) = p := by
  have h1 : p = 0 ∨ p = 1 ∨ p = 2 := by omega
  rcases h1 with rfl | rfl | rfl <;> rfl
theorem may_lab {a0 b0 a1 b1 a2 b2 : Int} {G : List Gr} {n : Nat} (h0 : LabOk a0) (h1 : LabOk b0) (h2 : LabOk a1) (h3 : LabOk b1) (h4 : LabOk a2) (h5 : LabOk b2) (hG : GrInv G n) : MayP (cLab a0 b0 a1 b1 a2 b2 G) := by
  have hp := may_plainP
  have hw : ∀ i : Fin 3, ∃ x ∈ cPlain.wins, x.part = i.val := by decide
  refine ⟨⟨fun i hi => ?_, by show 1 ≤ 3; omega, by show 3 ≤ 4; omega⟩, hp.2.1, hp.2.2.1, hp.2.2.2.1, fun i hi => ?_, ?_⟩
  · have hi3 : i = 0 ∨ i = 1 ∨ i = 2 := by simp only [cLab, List.length_cons, List.length_nil] at hi; omega
    unfold LabOk at *
    rcases hi3 with rfl | rfl | rfl
    · exact ⟨⟨h0.1, h0.2, h1.1, by show b0 ≤ 15; omega⟩, by show 1 ≤ 3; omega, hw 0⟩
    · exact ⟨⟨h2.1, h2.2, h3.1, by show b1 ≤ 15; omega⟩, by show 1 ≤ 2; omega, hw 1⟩
    · exact ⟨⟨h4.1, h4.2, h5.1, by show b2 ≤ 15; omega⟩, by show 1 ≤ 2; omega, hw 2⟩
  · obtain ⟨p, q, e1, e2, e3, e4, e5, e6⟩ := hG.each _ (List.getElem_mem (show i < G.length from hi))
    have e5' : ((cLab a0 b0 a1 b1 a2 b2 G).grants[i]).frame = fst3 p := e5
    have e6' : ((cLab a0 b0 a1 b1 a2 b2 G).grants[i]).to = q := e6
    unfold GrP
    rw [e5', e6', own_lab e1]
    refine ⟨by omega, ⟨by omega, by show (q : Int) < 3; omega⟩, by omega, fun j hj hji => ?_⟩
    rintro ⟨f1, f2⟩
    have := List.pairwise_iff_getElem.1 hG.apart j i hj hi hji
    exact this ⟨f1.trans e5.symm, f2.trans e6.symm⟩
  · have hN := hp.2.2.2.2.2
    refine ⟨⟨by show 1 ≤ 3; omega, by show 3 ≤ 4; omega, hN.1.2.2.1, hN.1.2.2.2.1, fun i hi => ?_⟩, hN.2⟩
    have hi3 : i = 0 ∨ i = 1 ∨ i = 2 := by simp only [cLab, List.length_cons, List.length_nil] at hi; omega
    rcases hi3 with rfl | rfl | rfl
    · exact ⟨by show RunP 0 4 10; decide, fun j hj hji => by omega⟩
    · refine ⟨by show RunP 4 4 10; decide, fun j hj hji => ?_⟩
      obtain rfl : j = 0 := by omega
      exact .inr (.inr (.inr (by show (0 : Int) + 4 ≤ 4; omega)))
    · refine ⟨by show RunP 8 2 10; decide, fun j hj hji => ?_⟩
      have hj2 : j = 0 ∨ j = 1 := by omega
      rcases hj2 with rfl | rfl
      · exact .inr (.inr (.inr (by show (0 : Int) + 4 ≤ 8; omega)))
      · exact .inr (.inr (.inr (by show (4 : Int) + 4 ≤ 8; omega)))
/-- What the first walk has done of the matrix, up to place n. -/
def DInv (C : Cf) (D : Nat → Bool) (n : Nat) : Prop := ∀ x y, x < 3 → y < 3 → D (3 * x + y) = ((decide (3 * x + y < n) && decide (x = y ∨ DomP (lab C y).lv (lab C y).cats (lab C x).lv (lab C x).cats)) || decide (∃ g ∈ C.grants, GDirP C x y g))
theorem DInv.all {a0 b0 a1 b1 a2 b2 : Int} {G : List Gr} {D : Nat → Bool} (h : DInv (cLab a0 b0 a1 b1 a2 b2 G) D 9) : ∀ x y, x < 3 → y < 3 → D (3 * x + y) = decide (DirP (cLab a0 b0 a1 b1 a2 b2 G) x y) := fun x y hx hy => by
  rw [h x y hx hy, decide_eq_true (show 3 * x + y < 9 by omega), Bool.eq_iff_iff, decide_eq_true_iff]
  simp only [Bool.true_and, Bool.or_eq_true, decide_eq_true_eq]
  unfold DirP
  exact or_assoc
theorem DInv.diag {C : Cf} {D : Nat → Bool} {i j : Nat} (hi : i < 3) (hj : j < 3) (h : DInv C D (3 * i + j)) {v : Bool} (hv : v = (D (3 * i + j) || decide (i = j ∨ DomP (lab C j).lv (lab C j).cats (lab C i).lv (lab C i).cats))) : DInv C (upd D (3 * i + j) v) (3 * i + j + 1) := by
  intro x y hx hy
  by_cases e : 3 * x + y = 3 * i + j
  · obtain rfl : x = i := by omega
    obtain rfl : y = j := by omega
    rw [upd_same, hv, h x y hx hy, decide_eq_false (show ¬ 3 * x + y < 3 * x + y by omega), decide_eq_true (show 3 * x + y < 3 * x + y + 1 by omega), Bool.false_and, Bool.true_and, Bool.false_or, Bool.or_comm]
  · rw [upd_other _ _ e, h x y hx hy]
    congr 2
    rw [decide_eq_decide]
    omega
theorem DInv.grant {a0 b0 a1 b1 a2 b2 : Int} {G : List Gr} {D : Nat → Bool} {n i j : Nat} (hi : i < 3) (hj : j < 3) (hne : i ≠ j) (h : DInv (cLab a0 b0 a1 b1 a2 b2 G) D n) (w : Bool) : DInv (cLab a0 b0 a1 b1 a2 b2 (G ++ [⟨fst3 i, j, w⟩])) (upd (upd D (3 * i + j) true) (3 * j + i) (D (3 * j + i) || w)) n := by
  intro x y hx hy
  have hex : (∃ g ∈ (cLab a0 b0 a1 b1 a2 b2 (G ++ [⟨fst3 i, j, w⟩])).grants, GDirP (cLab a0 b0 a1 b1 a2 b2 (G ++ [⟨fst3 i, j, w⟩])) x y g) ↔ (∃ g ∈ (cLab a0 b0 a1 b1 a2 b2 G).grants, GDirP (cLab a0 b0 a1 b1 a2 b2 G) x y g) ∨ ((i = x ∧ j = y) ∨ (i = y ∧ j = x ∧ w = true)) := by
    have hn : GDirP (cLab a0 b0 a1 b1 a2 b2 (G ++ [⟨fst3 i, j, w⟩])) x y ⟨fst3 i, j, w⟩ ↔ ((i = x ∧ j = y) ∨ (i = y ∧ j = x ∧ w = true)) := by
      unfold GDirP GDO
      rw [own_lab hi]
      have e1 : ∀ a b : Nat, ((a : Int) = b) ↔ a = b := fun a b => by omega
      simp only [e1]
    constructor
    · rintro ⟨g, hg, hd⟩
      rcases List.mem_append.1 hg with hg | hg
      · exact .inl ⟨g, hg, hd⟩
      · simp at hg; subst hg; exact .inr (hn.1 hd)
    · rintro (⟨g, hg, hd⟩ | hd)
      · exact ⟨g, List.mem_append.2 (.inl hg), hd⟩
      · exact ⟨_, List.mem_append.2 (.inr (by simp)), hn.2 hd⟩
  have hl : ∀ k, lab (cLab a0 b0 a1 b1 a2 b2 (G ++ [⟨fst3 i, j, w⟩])) k = lab (cLab a0 b0 a1 b1 a2 b2 G) k := fun k => rfl
  have hdec : decide (∃ g ∈ (cLab a0 b0 a1 b1 a2 b2 (G ++ [(⟨fst3 i, (j : Int), w⟩ : Gr)])).grants, GDirP (cLab a0 b0 a1 b1 a2 b2 (G ++ [(⟨fst3 i, (j : Int), w⟩ : Gr)])) x y g) = (decide (∃ g ∈ (cLab a0 b0 a1 b1 a2 b2 G).grants, GDirP (cLab a0 b0 a1 b1 a2 b2 G) x y g) || decide ((i = x ∧ j = y) ∨ (i = y ∧ j = x ∧ w = true))) := by
    rw [Bool.eq_iff_iff, Bool.or_eq_true, decide_eq_true_eq, decide_eq_true_eq, decide_eq_true_eq]
    exact hex
  rw [hl, hl, hdec]
  have h0 := h x y hx hy
  by_cases e2 : 3 * x + y = 3 * j + i
  · obtain rfl : x = j := by omega
    obtain rfl : y = i := by omega
    have e4 : decide ((y = x ∧ x = y) ∨ (y = y ∧ x = x ∧ w = true)) = w := by
      cases w
      · exact decide_eq_false (fun h => by rcases h with ⟨h, _⟩ | ⟨_, _, h⟩ <;> first | exact hne h | cases h)
      · exact decide_eq_true (.inr ⟨rfl, rfl, rfl⟩)
    rw [upd_same, h0, e4, Bool.or_assoc]
  · rw [upd_other _ _ e2]
    by_cases e1 : 3 * x + y = 3 * i + j
    · obtain rfl : x = i := by omega
      obtain rfl : y = j := by omega
      rw [upd_same, decide_eq_true (show (x = x ∧ y = y) ∨ (x = y ∧ y = x ∧ w = true) from .inl ⟨rfl, rfl⟩)]
      simp
    · rw [upd_other _ _ e1, h0, decide_eq_false (show ¬ ((i = x ∧ j = y) ∨ (i = y ∧ j = x ∧ w = true)) from fun hh => by rcases hh with ⟨rfl, rfl⟩ | ⟨rfl, rfl, _⟩ <;> omega), Bool.or_false]
theorem flow_lab {a0 b0 a1 b1 a2 b2 : Int} {G : List Gr} (hm : MayP (cLab a0 b0 a1 b1 a2 b2 G)) {D : Nat → Bool} (hD : ∀ x y, x < 3 → y < 3 → D (3 * x + y) = decide (DirP (cLab a0 b0 a1 b1 a2 b2 G) x y)) {p q : Nat} (hp : p < 3) (hq : q < 3) : flowB (cLab a0 b0 a1 b1 a2 b2 G) p q = wsq D 27 (3 * p + q) := by
  unfold flowB
  rw [decide_eq_true hm, decide_eq_true (show (cLab a0 b0 a1 b1 a2 b2 G).there p from ⟨by omega, by show (p : Int) < 3; omega⟩), decide_eq_true (show (cLab a0 b0 a1 b1 a2 b2 G).there q from ⟨by omega, by show (q : Int) < 3; omega⟩)]
  simp only [Bool.true_and, Int.toNat_natCast]
  exact wsq_flow rfl hD p q hp hq
end Go.Proofs.Ytncbcjjdnlmjbaa
