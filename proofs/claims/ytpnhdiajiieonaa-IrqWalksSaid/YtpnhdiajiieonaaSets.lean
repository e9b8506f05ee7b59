/- Sets of vectors that wait: their blocks; is one among them? -/
import Derived.Test.YtpnhdiajiieonaaMapB
set_option linter.unusedSimpArgs false
set_option linter.unusedVariables false
namespace Go.Proofs.Ytpnhdiajiieonaa
open Go.RowKit

theorem nodup_le : ∀ (n : Nat) (L : List Nat), L.Nodup → (∀ x ∈ L, x < n) → L.length ≤ n
  | 0, [], _, _ => Nat.le_refl _
  | 0, x :: _, _, h => absurd (h x (by simp)) (by omega)
  | n + 1, L, hn, h => by
    by_cases hm : n ∈ L
    · have h1 := List.length_erase_of_mem hm
      have h2 := nodup_le n (L.erase n) (hn.erase n) (fun x hx => by
        have h3 := h x (List.mem_of_mem_erase hx)
        have h4 : x ≠ n := fun e => by rw [e] at hx; exact (List.Nodup.mem_erase_iff hn).1 hx |>.1 rfl
        omega)
      have : 0 < L.length := List.length_pos_of_mem hm
      omega
    · have := nodup_le n L hn (fun x hx => by
        have h3 := h x hx
        have h4 : x ≠ n := fun e => hm (by rw [← e]; exact hx)
        omega)
      omega
structure SetsV (w : World) (p R n : Nat) (vs : Array Value) (f : Nat → List Nat) : Prop where
  size : vs.size = n
  hp : w.heap[p]? = some (.cells #[.slice (some ⟨R, 0, none⟩) n n] 151 (0, 0))
  hR : w.heap[R]? = some (.cells vs 157 (0, 0))
  rows : ∀ i, i < n → ∃ v, vs[i]? = some v ∧ KRow w 0 v (f i)
  heap : ∀ i, i < n → HeapFrom 0 (f i).length (f i)
  nodup : ∀ i, i < n → (f i).Nodup
  key : ∀ i, i < n → ∀ k ∈ f i, k < 32
  apart : ∀ (i j : Nat) (v v' : Value) (g : Nat), i ≠ j → vs[i]? = some v → vs[j]? = some v' → v.ownBlock = some g → v'.ownBlock ≠ some g
/-- The blocks that a call on these sets may turn. -/
def SetsF (R : Nat) (vs : Array Value) (k : Nat) : Prop := k = R ∨ ∃ (i : Nat) (v : Value), vs[i]? = some v ∧ v.ownBlock = some k
theorem SetsV.len {w : World} {p R n : Nat} {vs : Array Value} {f : Nat → List Nat} (h : SetsV w p R n vs f) {i : Nat} (hi : i < n) : (f i).length ≤ 32 := nodup_le 32 _ (h.nodup i hi) (h.key i hi)
theorem SetsV.row {w : World} {p R n : Nat} {vs : Array Value} {f : Nat → List Nat} (h : SetsV w p R n vs f) {i : Nat} (hi : i < n) : ∃ v, RowV w 0 R i v vs (f i) := by
  obtain ⟨v, h1, h2⟩ := h.rows i hi
  exact ⟨v, h.hR, h1, h2, by have := h.len hi; omega, h.key i hi⟩
theorem SetsV.lt {w : World} {p R n : Nat} {vs : Array Value} {f : Nat → List Nat} (h : SetsV w p R n vs f) : ∀ k, SetsF R vs k → k < w.heap.size := by
  rintro k (rfl | ⟨i, v, h1, h2⟩)
  · exact lt_of_heap h.hR
  · have hi : i < n := by rw [← h.size]; exact (Array.getElem?_eq_some_iff.1 h1).1
    obtain ⟨v', h3, h4⟩ := h.rows i hi
    rw [h1] at h3; injection h3 with h3; subst h3
    exact (own_lt h4 h2).2
theorem SetsV.notp {w : World} {p R n : Nat} {vs : Array Value} {f : Nat → List Nat} (h : SetsV w p R n vs f) : ¬ SetsF R vs p := by
  rintro (e | ⟨i, v, h1, h2⟩)
  · have := h.hp; rw [e, h.hR] at this; injection this with this; injection this with _ this; exact absurd this (by decide)
  · have hi : i < n := by rw [← h.size]; exact (Array.getElem?_eq_some_iff.1 h1).1
    obtain ⟨v', h3, h4⟩ := h.rows i hi
    rw [h1] at h3; injection h3 with h3; subst h3
    exact own_ne h4 h.hp (by decide) h2
theorem SetsV.keep {S : Nat → Prop} {w w' : World} {p R n : Nat} {vs : Array Value} {f : Nat → List Nat} (h : SetsV w p R n vs f) (hC : Chg S w w') (hp : ¬ S p) (hF : ∀ k, SetsF R vs k → ¬ S k) : SetsV w' p R n vs f :=
  ⟨h.size, hC.at h.hp hp, hC.at h.hR (hF R (.inl rfl)), fun i hi => by
    obtain ⟨v, h1, h2⟩ := h.rows i hi
    exact ⟨v, h1, h2.keep hC (fun k hk => hF k (.inr ⟨i, v, h1, hk⟩))⟩, h.heap, h.nodup, h.key, h.apart⟩
/-- One row is turned. -/
theorem SetsV.put {w w' : World} {p R n : Nat} {vs : Array Value} {f : Nat → List Nat} (h : SetsV w p R n vs f) {i : Nat} (hi : i < n) {v v' : Value} {L' : List Nat} (hv : vs[i]? = some v)
    (hR : w'.heap[R]? = some (.cells (vs.setIfInBounds i v') 157 (0, 0))) (ho : KRow w' 0 v' L') (hh : HeapFrom 0 L'.length L') (hd : L'.Nodup) (hk : ∀ k ∈ L', k < 32) (hf : Fresh w v v') (hC : Chg (fun j => j = R ∨ some j = v.ownBlock) w w') :
    SetsV w' p R n (vs.setIfInBounds i v') (upd f i L') ∧ (∀ k, SetsF R (vs.setIfInBounds i v') k → SetsF R vs k ∨ w.heap.size ≤ k) ∧ Chg (SetsF R vs) w w' := by
  have hsz := h.size
  have get : ∀ (j : Nat) (u : Value), (vs.setIfInBounds i v')[j]? = some u → (j = i ∧ u = v') ∨ (j ≠ i ∧ vs[j]? = some u) := fun j u hu => by
    by_cases e : i = j
    · subst e
      rw [Array.getElem?_setIfInBounds_self_of_lt (by omega)] at hu
      injection hu with hu; exact .inl ⟨rfl, hu.symm⟩
    · rw [Array.getElem?_setIfInBounds_ne e] at hu
      exact .inr ⟨fun h => e h.symm, hu⟩
  have ownLt : ∀ (j : Nat) (u : Value) (g : Nat), vs[j]? = some u → u.ownBlock = some g → g < w.heap.size := fun j u g h1 h2 => h.lt g (.inr ⟨j, u, h1, h2⟩)
  have hpR : p ≠ R := fun e => h.notp (.inl e)
  refine ⟨⟨by simpa using hsz, hC.at h.hp ?_, hR, fun j hj => ?_, fun j hj => ?_, fun j hj => ?_, fun j hj => ?_, fun j j' u u' g hne h1 h2 h3 h4 => ?_⟩, ?_, hC.mono ?_⟩
  · rintro (e | e)
    · exact hpR e
    · exact h.notp (.inr ⟨i, v, hv, e.symm⟩)
  · by_cases e : i = j
    · subst e
      exact ⟨v', Array.getElem?_setIfInBounds_self_of_lt (by omega), by rw [upd_same]; exact ho⟩
    · obtain ⟨u, h1, h2⟩ := h.rows j hj
      refine ⟨u, by rw [Array.getElem?_setIfInBounds_ne e]; exact h1, ?_⟩
      rw [upd_other _ _ (fun h => e h.symm)]
      refine h2.keep hC (fun k hk => ?_)
      rintro (e2 | e2)
      · exact own_type h2 h.hR (by rw [hk, e2])
      · exact h.apart j i u v k (fun h => e h.symm) h1 hv hk e2.symm
  · by_cases e : j = i
    · subst e; rw [upd_same]; exact hh
    · rw [upd_other _ _ e]; exact h.heap j hj
  · by_cases e : j = i
    · subst e; rw [upd_same]; exact hd
    · rw [upd_other _ _ e]; exact h.nodup j hj
  · by_cases e : j = i
    · subst e; rw [upd_same]; exact hk
    · rw [upd_other _ _ e]; exact h.key j hj
  · rcases get j u h1 with ⟨rfl, rfl⟩ | ⟨hj, h1'⟩ <;> rcases get j' u' h2 with ⟨rfl, rfl⟩ | ⟨hj', h2'⟩
    · exact hne rfl
    · rcases hf with hf | ⟨g', hf, hg⟩
      · rw [hf] at h3; exact h.apart j j' v u' g hne hv h2' h3 h4
      · rw [hf] at h3; injection h3 with h3; have := ownLt j' u' g h2' h4; omega
    · rcases hf with hf | ⟨g', hf, hg⟩
      · rw [hf] at h4; exact h.apart j' j v u g (fun e => hne e.symm) hv h1' h4 h3
      · rw [hf] at h4; injection h4 with h4; have := ownLt j u g h1' h3; omega
    · exact h.apart j j' u u' g hne h1' h2' h3 h4
  · rintro k (e | ⟨j, u, h1, h2⟩)
    · exact .inl (.inl e)
    · rcases get j u h1 with ⟨rfl, rfl⟩ | ⟨hj, h1'⟩
      · rcases hf with hf | ⟨g', hf, hg⟩
        · exact .inl (.inr ⟨j, v, hv, by rw [← hf]; exact h2⟩)
        · rw [hf] at h2; injection h2 with h2; exact .inr (by omega)
      · exact .inl (.inr ⟨j, u, h1', h2⟩)
  · rintro k _ (e | e)
    · exact .inl e
    · exact .inr ⟨i, v, hv, e.symm⟩

def IndexPost (k : Nat) (L : List Nat) (w : World) (e : Ending) (w' : World) : Prop := ∃ r : Int, e = .returned (.int .i64 r) ∧ (0 ≤ r ↔ k ∈ L) ∧ Chg (fun _ => False) w w'
set_option maxRecDepth 100000 in
set_option maxHeartbeats 1000000 in
theorem kIndex (base k : Nat) (v : Value) (L : List Nat) (w : World) (h : KRow w base v L) (hn : L.length ≤ 100) :
    Calls Try.prog 139 #[v, .agg #[.int .i64 ((k : Int) / 8), .int .i64 ((k : Int) % 8)]] w (IndexPost k L w) := by
  obtain ⟨A, c, rfl⟩ := h.slice
  obtain ⟨x, hx⟩ : ∃ x, x = (k : Int) / 8 := ⟨_, rfl⟩
  obtain ⟨y, hy⟩ : ∃ y, y = (k : Int) % 8 := ⟨_, rfl⟩
  rw [← hx, ← hy]
  have HX := Lib.hid hx; clear hx
  have HY := Lib.hid hy; clear hy
  have HO : Hid (KRow w base (.slice A L.length c) L) := h
  clear h
  go_enter Try.func139, Try.ntmps139
  go_wp2_with fail
  go_loopw [8] (fun s wr => ∃ j : Nat, j ≤ L.length ∧ s = .int .i64 j ∧ (∀ z ∈ L.take j, z ≠ k) ∧ wr.heap[w.heap.size]? = some (.cells #[.int .i64 x, .int .i64 y] 159 (0, 0)) ∧ Chg (fun _ => False) w wr) (fun s _ => L.length - (intOf s).toNat)
  case atStart => exact ⟨0, by omega, rfl, by simp, blk_new _ _, (Chg.refl _ _).alloc _⟩
  case round =>
    obtain ⟨j, hj, rfl, hne, hb, hC⟩ := hrel
    have j0 : (0 : Int) ≤ j := by omega
    by_cases hlt : j < L.length
    · have j1 : (j : Int) < L.length := by omega
      have hO := HO.out.keep hC (fun _ _ => id)
      obtain ⟨g, cap, hv, hbg⟩ := hO.form (by omega)
      injection hv with h1 h2 h3
      subst h1 h3
      have A0 : wr.cell? ⟨g, j * 2, none⟩ = some (.int .i64 ((L[j] : Int) / 8)) := hO.cell kc_len hlt (show 0 < 2 by omega)
      have A1 : wr.cell? ⟨g, j * 2 + 1, none⟩ = some (.int .i64 ((L[j] : Int) % 8)) := hO.cell kc_len hlt (show 1 < 2 by omega)
      have B0 := blk_cell hb 0
      have B1 := blk_cell hb 1
      clear hO hbg
      have HB := Lib.hid hb; clear hb
      have HC := Lib.hid hC; clear hC
      have HN := Lib.hid hne; clear hne
      obtain ⟨x', hx'⟩ : ∃ x, x = (L[j] : Int) / 8 := ⟨_, rfl⟩
      obtain ⟨y', hy'⟩ : ∃ y, y = (L[j] : Int) % 8 := ⟨_, rfl⟩
      rw [← hx'] at A0
      rw [← hy'] at A1
      by_cases hk : L[j] = k
      · have e1 : x' = x := by rw [hx', HX.out, hk]
        have e2 : y' = y := by rw [hy', HY.out, hk]
        rw [e1] at A0
        rw [e2] at A1
        have hmem : k ∈ L := by rw [← hk]; exact List.getElem_mem hlt
        have HM := Lib.hid hmem; clear hmem
        clear hx' hy' e1 e2 hk
        go_wp2_with fail
        go_quiet (fail)
        rename_i nq
        go_wp2_with fail
        go_ret
        exact ⟨_, rfl, ⟨fun _ => HM.out, fun _ => by omega⟩, HC.out.drewN _⟩
      · have hxy : ¬ (x = x' ∧ y = y') := by
          rintro ⟨e1, e2⟩
          rw [hx', HX.out] at e1
          rw [hy', HY.out] at e2
          apply hk; omega
        have hne' : ∀ z ∈ L.take (j + 1), z ≠ k := fun z hz => by
          rw [List.take_succ_eq_append_getElem hlt] at hz
          rcases List.mem_append.1 hz with h | h
          · exact HN.out z h
          · simp at h; rw [h]; exact hk
        have HN2 := Lib.hid hne'; clear hne'
        clear hx' hy' hk HN
        by_cases e1 : x = x'
        · have e2 : ¬ y = y' := fun e => hxy ⟨e1, e⟩
          subst e1
          clear hxy
          go_wp2_with fail
          go_quiet (fail)
          rename_i nq
          go_wp2_with fail
          go_roundw
          case rel => exact ⟨j + 1, by omega, by go_num, HN2.out, HB.out, HC.out.drewN _⟩
          case measure => simp [intOf]; omega
        · clear hxy
          go_wp2_with fail
          go_quiet (fail)
          rename_i nq
          go_wp2_with fail
          go_roundw
          case rel => exact ⟨j + 1, by omega, by go_num, HN2.out, HB.out, HC.out.drewN _⟩
          case measure => simp [intOf]; omega
    · obtain rfl : j = L.length := by omega
      rw [List.take_of_length_le (Nat.le_refl _)] at hne
      have HC := Lib.hid hC; clear hC hb
      have HN := Lib.hid hne; clear hne
      clear hlt hj
      go_wp2_with fail
      go_ret
      exact ⟨_, rfl, ⟨fun h => absurd h (by decide), fun h => absurd rfl (HN.out k h)⟩, HC.out⟩
theorem kContains (base k : Nat) (v : Value) (L : List Nat) (w : World) (h : KRow w base v L) (hn : L.length ≤ 100) :
    Calls Try.prog 93 #[v, .agg #[.int .i64 ((k : Int) / 8), .int .i64 ((k : Int) % 8)]] w fun e w' => e = .returned (.bool (decide (k ∈ L))) ∧ Chg (fun _ => False) w w' := by
  have hi := kIndex base k v L (w.alloc (.cells #[.int .i64 ((k : Int) / 8), .int .i64 ((k : Int) % 8)] 159)) (h.keep (S := fun _ => False) ((Chg.refl _ _).alloc _) (fun _ _ => id)) hn
  have HI := Lib.hid hi; clear hi
  clear h
  generalize (k : Int) / 8 = x at *
  generalize (k : Int) % 8 = y at *
  go_enter Try.func93, Try.ntmps93
  go_wp2_with fail
  refine HI.out.mono ?_
  rintro e w1 ⟨r, rfl, hr, hC⟩
  have HR := Lib.hid hr; clear hr
  go_wp2_with fail
  go_ret
  exact ⟨ret_bool (by rw [Bool.eq_iff_iff]; simp; exact HR.out), Chg.trans ((Chg.refl _ _).alloc _) hC⟩
end Go.Proofs.Ytpnhdiajiieonaa
