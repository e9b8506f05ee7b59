/- Chapter 7: plain words; the relation; there, failed, leads, leaf, fresh. Printed by mkiom.py. -/
import Derived.Test.YtnallfehffhaeaaTlbC
import Derived.Test.YtnallfehffhaeaaWalkW2
set_option linter.unusedSimpArgs false
set_option linter.unusedVariables false
namespace Go.Proofs.Ytnallfehffhaeaa
open Go.RowKit

/-! ### Plain -/
abbrev Pls := List (List Int)
def poolOf (L : Pls) (d : Int) : List Int := L.getD d.toNat []
def rootOf (L : Pls) (d : Int) : Int := (poolOf L d).getD 0 0
def devIn (L : Pls) (d : Int) : Prop := 0 ≤ d ∧ d < L.length
instance (L : Pls) (d : Int) : Decidable (devIn L d) := by unfold devIn; infer_instance
def failC (e : Int) : Int := if e = 501 then 702 else if e = 502 then 704 else e
/-- Does a word of a root lead to that frame? -/
def leadsB (bs : List UInt8) (root f : Int) : Bool := (List.range 16).any (fun k => decide (leafI bs root k = (f, 0)))
/-- The first frame to which nothing leads. -/
def freeF (bs : List UInt8) (root : Int) : List Int → Option Int
  | [] => none
  | f :: fs => if leadsB bs root f then freeF bs root fs else some f
/-- A page's leaf; the error; the bytes. -/
def leafM (bs : List UInt8) (pool : List Int) (page : Int) : Int × Int × List UInt8 :=
  if (leafI bs (pool.getD 0 0) (page / 16)).2 = 0 then ((leafI bs (pool.getD 0 0) (page / 16)).1, 0, bs)
  else match freeF bs (pool.getD 0 0) (pool.drop 1) with
    | some f => (f, putC bs (pool.getD 0 0 * 64 + page / 16 * 4) (putE f 3), putB bs (pool.getD 0 0 * 64 + page / 16 * 4) (putE f 3))
    | none => (0, 701, bs)
/-- Frames of pools are there. -/
def PlsOk (nf : Int) (L : Pls) : Prop := L.length ≤ 4 ∧ (∀ P ∈ L, 2 ≤ P.length ∧ P.length ≤ 5 ∧ ∀ f ∈ P, 0 ≤ f ∧ f < nf) ∧ nf ≤ 64
theorem poolOf_at {L : Pls} {d : Nat} (h : d < L.length) : poolOf L d = L[d] := by unfold poolOf; simp [h]
theorem PlsOk.pool {nf : Int} {L : Pls} (h : PlsOk nf L) {d : Int} (hd : devIn L d) : 2 ≤ (poolOf L d).length ∧ (poolOf L d).length ≤ 5 ∧ ∀ f ∈ poolOf L d, 0 ≤ f ∧ f < nf := by
  obtain ⟨n, rfl⟩ := Int.eq_ofNat_of_zero_le hd.1
  have hn : n < L.length := by have := hd.2; omega
  rw [poolOf_at hn]; exact h.2.1 _ (List.getElem_mem hn)
theorem PlsOk.root {nf : Int} {L : Pls} (h : PlsOk nf L) {d : Int} (hd : devIn L d) : 0 ≤ rootOf L d ∧ rootOf L d < nf := by
  obtain ⟨h1, _, h3⟩ := h.pool hd
  unfold rootOf
  rw [List.getD_eq_getElem?_getD, List.getElem?_eq_getElem (by omega)]
  exact h3 _ (List.getElem_mem _)
/-! ### The blocks -/
def poc (x : List Int × Value) : List Value := [x.2]
theorem poc_len (x) : (poc x).length = 1 := rfl
def PoolsAt (w : World) (v : Value) (L : Pls) (P : Nat → Prop) : Prop := ∃ M : List (List Int × Value), M.map (·.1) = L ∧ OwnC poc 1 22 w 0 v M ∧ (∀ x ∈ M, OwnC icell 1 3 w 0 x.2 x.1) ∧ ∀ k, P k ↔ v.ownBlock = some k ∨ ∃ x ∈ M, x.2.ownBlock = some k
/-- Block x is an Iommu over the memory p. -/
structure IomV (w : World) (x p tb : Nat) (L : Pls) (nf : Int) (v : Value) (P T : Nat → Prop) : Prop where
  blk : w.heap[x]? = some (.cells #[.pointer (some ⟨p, 0, none⟩), v, .pointer (some ⟨tb, 0, none⟩)] 76 (0, 0))
  pools : PoolsAt w v L P
  tlb : TlbAt w tb nf T
  ok : PlsOk nf L
def IomAt (w : World) (x p : Nat) (L : Pls) (nf : Int) (F : Nat → Prop) : Prop := ∃ tb v P T, IomV w x p tb L nf v P T ∧ ∀ k, F k ↔ k = x ∨ P k ∨ T k
section
variable {w w' : World} {x p tb r : Nat} {L : Pls} {nf : Int} {v : Value} {P T F : Nat → Prop} {bs : List UInt8}
theorem PoolsAt.keep {X : Nat → Prop} (h : PoolsAt w v L P) (hC : Chg X w w') (hX : ∀ k, P k → ¬ X k) : PoolsAt w' v L P := by
  obtain ⟨M, h1, h2, h3, h4⟩ := h
  exact ⟨M, h1, h2.keep hC (fun k hk => hX k ((h4 k).2 (.inl hk))), fun y hy => (h3 y hy).keep hC (fun k hk => hX k ((h4 k).2 (.inr ⟨y, hy, hk⟩))), h4⟩
theorem PoolsAt.typ (h : PoolsAt w v L P) : ∀ k, P k → ∃ cs t, w.heap[k]? = some (.cells cs t (0, 0)) ∧ (t = 22 ∨ t = 3) := by
  obtain ⟨M, h1, h2, h3, h4⟩ := h
  have blk : ∀ {α : Type} {cells : α → List Value} {C e : Nat} {b : Nat} {v : Value} {L : List α}, OwnC cells C e w b v L → ∀ k, v.ownBlock = some k → ∃ cs, w.heap[k]? = some (.cells cs e (0, 0)) := by
    intro α cells C e b v L h k hk
    rcases h.2 with ⟨hv, _⟩ | ⟨g, cap', cur, hv, _, hg, _⟩
    · rw [hv] at hk; cases hk
    · rw [hv] at hk; simp only [Value.ownBlock, Option.some.injEq] at hk; subst hk; exact ⟨_, hg⟩
  intro k hk
  rcases (h4 k).1 hk with hk | ⟨y, hy, hk⟩
  · obtain ⟨cs, h⟩ := blk h2 k hk; exact ⟨cs, _, h, .inl rfl⟩
  · obtain ⟨cs, h⟩ := blk (h3 y hy) k hk; exact ⟨cs, _, h, .inr rfl⟩
theorem PoolsAt.lt (h : PoolsAt w v L P) : ∀ k, P k → k < w.heap.size := fun k hk => by obtain ⟨cs, t, h1, _⟩ := h.typ k hk; exact lt_of_heap h1
theorem TlbAt.typ (h : TlbAt w tb nf T) : ∀ k, T k → ∃ cs t, w.heap[k]? = some (.cells cs t (0, 0)) ∧ (t = 115 ∨ t = 106) := by
  obtain ⟨v, n, h1, h2⟩ := h
  intro k hk
  rcases (h2 k).1 hk with rfl | hk
  · exact ⟨_, _, h1.1, .inl rfl⟩
  · rcases h1.2.1 with ⟨rfl, _⟩ | ⟨g, o, c, cs, rfl, hb, _⟩
    · cases hk
    · simp only [Value.ownBlock, Option.some.injEq] at hk; subst hk; exact ⟨_, _, hb, .inr rfl⟩
theorem blk_unl {k : Nat} {cs cs' : Array Value} {t t' : TypeId} {fr fr' : Nat × Nat} (h : w.heap[k]? = some (.cells cs t fr)) (h' : w.heap[k]? = some (.cells cs' t' fr')) (hn : t ≠ t') : False := by
  rw [h] at h'; injection h' with h'; injection h' with _ h2; exact hn h2
/-- What a Chg of the Tlb's blocks and the bytes leaves. -/
theorem IomV.keep {X : Nat → Prop} (h : IomV w x p tb L nf v P T) (hC : Chg X w w') (h1 : ¬ X x) (h2 : ∀ k, P k → ¬ X k) (h3 : ∀ k, T k → ¬ X k) : IomV w' x p tb L nf v P T :=
  ⟨hC.at h.blk h1, h.pools.keep hC h2, h.tlb.keep hC h3, h.ok⟩
theorem IomV.keepN (h : IomV w x p tb L nf v P T) (hC : Chg (fun _ => False) w w') : IomV w' x p tb L nf v P T := h.keep hC id (fun _ _ => id) (fun _ _ => id)
theorem IomV.bytes (h : IomV w x p tb L nf v P T) (hM : MemAt w 93 p r bs) (hC : Chg (fun k => k = r) w w') : IomV w' x p tb L nf v P T :=
  h.keep hC (fun e => blk_unl h.blk (e ▸ hM.2) (by decide)) (fun k hk e => by
    obtain ⟨cs, t, h1, h2⟩ := h.pools.typ k hk
    rcases h2 with rfl | rfl <;> exact blk_unl h1 (e ▸ hM.2) (by decide)) (fun k hk e => by
    obtain ⟨cs, t, h1, h2⟩ := h.tlb.typ k hk
    rcases h2 with rfl | rfl <;> exact blk_unl h1 (e ▸ hM.2) (by decide))
/-- The Tlb is another one. -/
theorem IomV.tlb_ {T' : Nat → Prop} (h : IomV w x p tb L nf v P T) (ht : TlbAt w' tb nf T') (hC : Chg T w w') : IomV w' x p tb L nf v P T' :=
  ⟨hC.at h.blk (fun e => by
    obtain ⟨cs, t, h1, h2⟩ := h.tlb.typ x e
    rcases h2 with rfl | rfl <;> exact blk_unl h.blk h1 (by decide)), h.pools.keep hC (fun k hk e => by
    obtain ⟨cs, t, h1, h2⟩ := h.pools.typ k hk
    obtain ⟨cs', t', h3, h4⟩ := h.tlb.typ k e
    rcases h2 with rfl | rfl <;> rcases h4 with rfl | rfl <;> exact blk_unl h1 h3 (by decide)), ht, h.ok⟩
theorem IomV.mem (h : IomV w x p tb L nf v P T) (hM : MemAt w 93 p r bs) (hC : Chg T w w') : MemAt w' 93 p r bs :=
  ⟨hC.at hM.1 (fun e => by
    obtain ⟨cs, t, h1, h2⟩ := h.tlb.typ p e
    rcases h2 with rfl | rfl <;> exact blk_unl hM.1 h1 (by decide)), hC.at hM.2 (fun e => by
    obtain ⟨cs, t, h1, h2⟩ := h.tlb.typ r e
    rcases h2 with rfl | rfl <;> exact blk_unl hM.2 h1 (by decide))⟩
theorem IomV.cells (h : IomV w x p tb L nf v P T) : w.cell? ⟨x, 0, none⟩ = some (.pointer (some ⟨p, 0, none⟩)) ∧ w.cell? ⟨x, 1, none⟩ = some v ∧ w.cell? ⟨x, 2, none⟩ = some (.pointer (some ⟨tb, 0, none⟩)) := ⟨blk_cell h.blk 0, blk_cell h.blk 1, blk_cell h.blk 2⟩
theorem PoolsAt.form (h : PoolsAt w v L P) : ∃ A c, v = .slice A L.length c := by
  obtain ⟨M, rfl, h2, _⟩ := h
  obtain ⟨A, c, rfl⟩ := h2.slice
  exact ⟨A, c, by rw [List.length_map]⟩
/-- A device's pool, read. -/
theorem PoolsAt.pool {A : Option Addr} {n c : Nat} (h : PoolsAt w (.slice A n c) L P) {d : Nat} (hd : d < L.length) : ∃ g F, A = some ⟨g, 0, none⟩ ∧ w.cell? ⟨g, d, none⟩ = some F ∧ OwnC icell 1 3 w 0 F L[d] := by
  obtain ⟨M, rfl, h2, h3, _⟩ := h
  have hd' : d < M.length := by simpa using hd
  obtain ⟨g, cap, hv, _⟩ := h2.form (by omega)
  injection hv with e1 e2 e3
  subst e1 e3
  have hc := h2.cell poc_len hd' (show 0 < 1 by omega)
  simp only [Nat.mul_one, Nat.add_zero, poc, List.getElem?_cons_zero] at hc
  exact ⟨g, M[d].2, rfl, hc, by rw [List.getElem_map]; exact h3 _ (List.getElem_mem hd')⟩
theorem MemAt.keepD {T : Nat} (h : MemAt w T p r bs) (hC : Chg (fun _ => False) w w') : MemAt w' T p r bs := ⟨hC.at h.1 id, hC.at h.2 id⟩
end
set_option maxRecDepth 100000 in
theorem iFailed (c : Int) (w : World) : Calls Try.prog 30 #[.int .i64 c] w fun e w' => e = .returned (.int .i64 (failC c)) ∧ w = w' := by
  unfold failC
  by_cases h1 : c = 501
  · subst h1
    go_enter Try.func30, Try.ntmps30
    go_wp2
    go_ret
    exact ⟨rfl, rfl⟩
  · rw [if_neg h1]
    have b1 : (c == 501) = false := by simpa using h1
    by_cases h2 : c = 502
    · subst h2
      go_enter Try.func30, Try.ntmps30
      go_wp2
      go_ret
      exact ⟨rfl, rfl⟩
    · rw [if_neg h2]
      have b2 : (c == 502) = false := by simpa using h2
      clear h1 h2
      go_enter Try.func30, Try.ntmps30
      go_wp2
      go_ret
      exact ⟨rfl, rfl⟩
set_option maxRecDepth 100000 in
theorem iThere (x p tb : Nat) (L : Pls) (nf : Int) (v : Value) (P T : Nat → Prop) (d : Int) (w : World) (h : IomV w x p tb L nf v P T) : Calls Try.prog 27 #[.pointer (some ⟨x, 0, none⟩), .int .i64 d] w fun e w' => e = .returned (.bool (decide (devIn L d))) ∧ w = w' := by
  obtain ⟨c0, c1, c2⟩ := h.cells
  obtain ⟨A, c, rfl⟩ := h.pools.form
  have l4 : (L.length : Int) ≤ 4 := by have := h.ok.1; omega
  clear h
  by_cases h0 : 0 ≤ d
  · have b0 : decide (0 ≤ d) = true := decide_eq_true h0
    by_cases h1 : d < L.length
    · have EN := Lib.hid (decide_eq_true (show devIn L d from ⟨h0, h1⟩))
      have b1 : decide (d < (L.length : Int)) = true := decide_eq_true h1
      go_enter Try.func27, Try.ntmps27
      go_wp2
      go_ret
      exact ⟨by rw [EN.out]; rfl, rfl⟩
    · have EN := Lib.hid (decide_eq_false (fun h : devIn L d => h1 h.2))
      have b1 : decide (d < (L.length : Int)) = false := decide_eq_false h1
      go_enter Try.func27, Try.ntmps27
      go_wp2
      go_ret
      exact ⟨by rw [EN.out]; rfl, rfl⟩
  · have EN := Lib.hid (decide_eq_false (fun h : devIn L d => h0 h.1))
    have b0 : decide (0 ≤ d) = false := decide_eq_false h0
    go_enter Try.func27, Try.ntmps27
    go_wp2
    go_ret
    exact ⟨by rw [EN.out]; rfl, rfl⟩
theorem leadsB_no {bs : List UInt8} {root f : Int} (h : ∀ k : Nat, k < 16 → leafI bs root k ≠ (f, 0)) : leadsB bs root f = false := by
  unfold leadsB
  rw [List.any_eq_false]
  intro k hk
  have := h k (by simpa using hk)
  simpa using this
theorem leadsB_yes {bs : List UInt8} {root f : Int} {k : Nat} (hk : k < 16) (h : leafI bs root k = (f, 0)) : leadsB bs root f = true := by
  unfold leadsB
  rw [List.any_eq_true]
  exact ⟨k, by simpa using hk, by simpa using h⟩
set_option maxRecDepth 100000 in
set_option maxHeartbeats 2000000 in
theorem iLeads (x p tb r : Nat) (L : Pls) (nf : Int) (v : Value) (P T : Nat → Prop) (bs : List UInt8) (root f : Int) (w : World) (h : IomV w x p tb L nf v P T) (hM : MemAt w 93 p r bs) (hl : bs.length ≤ 4096) (hroot : 0 ≤ root ∧ root < 64) :
    Calls Try.prog 62 #[.pointer (some ⟨x, 0, none⟩), .int .i64 root, .int .i64 f] w fun e w' => e = .returned (.bool (leadsB bs root f)) ∧ Chg (fun _ => False) w w' := by
  have HX : Hid (∀ W, Chg (fun _ => False) w W → IomV W x p tb L nf v P T) := fun W hW => h.keepN hW
  have HM : Hid (∀ W, Chg (fun _ => False) w W → MemAt W 93 p r bs) := fun W hW => hM.keepD hW
  clear h hM
  go_enter Try.func62, Try.ntmps62
  go_wp2_with fail
  go_loopw [10] (fun s wr => ∃ k : Nat, k ≤ 16 ∧ s = .int .i64 k ∧ (∀ j : Nat, j < k → leafI bs root j ≠ (f, 0)) ∧ Chg (fun _ => False) w wr) (fun s _ => 16 - (intOf s).toNat)
  case atStart => exact ⟨0, by omega, rfl, fun j hj => by omega, Chg.refl _ _⟩
  case round =>
    obtain ⟨k, hk, rfl, hno, hC⟩ := hrel
    have k0 : (0 : Int) ≤ k := by omega
    have HC := Lib.hid hC; clear hC
    have HN := Lib.hid hno; clear hno
    by_cases hlt : k < 16
    · have k1 : (k : Int) < 16 := by omega
      obtain ⟨y0, y1, y2⟩ := (HX.out _ HC.out).cells
      have HL := Lib.hid (wLeaf p r bs root ((k : Int) * 16) _ (HM.out _ HC.out) hl hroot (by omega))
      rw [show (k : Int) * 16 / 16 = k by omega] at HL
      generalize hle : leafI bs root k = le at *
      have HLE := Lib.hid hle; clear hle
      go_wp2_with fail
      refine HL.out.mono ?_
      rintro e w1 ⟨rfl, k1'⟩
      replace HC := Lib.hid (HC.out.trans k1')
      clear k1' y0 y1 y2 HL
      by_cases e1 : le.2 = 0
      · have b1 : (le.2 == 0) = true := by simpa using e1
        by_cases e2 : le.1 = f
        · have b2 : (le.1 == f) = true := by simpa using e2
          have EN : Hid (leadsB bs root f = true) := leadsB_yes hlt (by rw [HLE.out, ← e2, ← e1])
          clear e1 e2
          go_wp2_with fail
          go_ret
          exact ⟨by rw [EN.out]; rfl, HC.out⟩
        · have b2 : (le.1 == f) = false := by simpa using e2
          have HN2 : Hid (∀ j : Nat, j < k + 1 → leafI bs root j ≠ (f, 0)) := fun j hj => by
            by_cases ej : j = k
            · subst ej; rw [HLE.out]; exact fun h => e2 (by rw [h])
            · exact HN.out j (by omega)
          clear e1 e2
          go_wp2_with fail
          go_roundw
          case rel => exact ⟨k + 1, by omega, by go_num, HN2.out, HC.out⟩
          case measure => simp [intOf]; omega
      · have b1 : (le.2 == 0) = false := by simpa using e1
        have HN2 : Hid (∀ j : Nat, j < k + 1 → leafI bs root j ≠ (f, 0)) := fun j hj => by
          by_cases ej : j = k
          · subst ej; rw [HLE.out]; exact fun h => e1 (by rw [h])
          · exact HN.out j (by omega)
        clear e1
        go_wp2_with fail
        go_roundw
        case rel => exact ⟨k + 1, by omega, by go_num, HN2.out, HC.out⟩
        case measure => simp [intOf]; omega
    · obtain rfl : k = 16 := by omega
      have EN : Hid (leadsB bs root f = false) := leadsB_no HN.out
      go_wp2_with fail
      go_ret
      exact ⟨by rw [EN.out]; rfl, HC.out⟩
end Go.Proofs.Ytnallfehffhaeaa
