/- Sets of vectors that wait: Take, walked. -/
import Derived.Test.YtpnhdiajiieonaaTake
set_option linter.unusedSimpArgs false
set_option linter.unusedVariables false
namespace Go.Proofs.Ytpnhdiajiieonaa
open Go.RowKit

/-- A slice's length in a cell. -/
def lenAt (w : World) (a : Addr) : Nat := match w.cell? a with | some (.slice _ n _) => n | _ => 0
theorem own_notmap {w : World} {base e size n : Nat} {v : Value} {xs : List Value} (ho : w.ownsRow base e size v n xs) {b : Nat} {M : List (Int × Int)} (hM : MapAt w b M) : v.ownBlock ≠ some b := by
  obtain ⟨es, cl, hb, _⟩ := hM
  rcases ho.2 with ⟨rfl, _⟩ | ⟨g, cap, cur, hv, hg, hh, r⟩
  · simp [Value.ownBlock]
  · subst hv
    intro e1
    have e2 : g = b := by injection e1
    subst e2
    rw [hb] at hh; injection hh with hh; cases hh
theorem own_alloc2 {w : World} {base e size n : Nat} {v : Value} {xs : List Value} (ho : w.ownsRow base e size v n xs) (o o2 : Obj) : ((w.alloc o).alloc o2).ownsRow base e size v n xs :=
  (((Chg.refl (fun _ => False) w).alloc o).alloc o2).own ho (fun _ _ => id)
theorem Try.info92 : (Try.prog.info? 92).map (fun i => (i.zero, i.size, i.bytes)) = some (some (.agg #[.int .i64 0, .int .i64 0, .int .i64 0]), 3, 24) := by kernel_rfl
/-- The blocks of Take's loop. -/
structure TkI (w : World) (p R n i st : Nat) (tick : Int) (M : List (Int × Int)) (F : Nat → Prop) (f : Nat → List Nat) (vs : Array Value) (w2 : World) (so vst : Value) (Ls ks : List Nat) (vs' : Array Value) (f' : Nat → List Nat) : Prop where
  V : SetsV w2 p R n vs' f'
  fo : ∀ a, a ≠ i → f' a = f a
  sub : ∀ k, SetsF R vs' k → SetsF R vs k
  row : RowV w2 w.heap.size st 0 vst #[vst] Ls
  heap : HeapFrom 0 Ls.length Ls
  nd : Ls.Nodup
  out : OwnC iqc 3 92 w2 w.heap.size so (ks.map (toIq tick))
  map : MapAt w2 w.heap.size M
  chg : Chg F w w2
  flt : ∀ k, SetsF R vs k → k < w.heap.size
  hF : ∀ k, F k ↔ SetsF R vs k
  plt : p < w.heap.size
  stl : w.heap.size < st
section
variable {w : World} {p R n i st : Nat} {tick : Int} {M : List (Int × Int)} {F : Nat → Prop} {f : Nat → List Nat} {vs : Array Value} {w2 w3 : World} {so vst : Value} {Ls ks : List Nat} {vs' : Array Value} {f' : Nat → List Nat}
theorem TkI.keepN (h : TkI w p R n i st tick M F f vs w2 so vst Ls ks vs' f') (hC : Chg (fun _ => False) w2 w3) : TkI w p R n i st tick M F f vs w3 so vst Ls ks vs' f' :=
  ⟨h.V.keep hC id (fun _ _ => id), h.fo, h.sub, h.row.keep hC id (fun _ _ => id), h.heap, h.nd, h.out.keep hC (fun _ _ => id), h.map.keep hC id, h.chg.trans (hC.toF F), h.flt, h.hF, h.plt, h.stl⟩
theorem TkI.pop (h : TkI w p R n i st tick M F f vs w2 so vst Ls ks vs' f') (hi : i < n) {v v' : Value} (hv : vs'[i]? = some v) {k : Nat} {L' : List Nat} (hp : (L' ++ [k]).Perm (f' i)) (hh : HeapFrom 0 L'.length L') (hr : RowV w3 0 R i v' (vs'.setIfInBounds i v') L') (ho : v'.ownBlock = v.ownBlock) (hC : Chg (fun j => j = R ∨ some j = v.ownBlock) w2 w3) :
    TkI w p R n i st tick M F f vs w3 so vst Ls ks (vs'.setIfInBounds i v') (upd f' i L') := by
  have hnd : L'.Nodup := (List.nodup_append.1 (hp.nodup_iff.2 (h.V.nodup i hi))).1
  obtain ⟨hV, hs⟩ := h.V.put2 hi hv hr.blk hr.own hh hnd hr.key (fun g hg => .inl (by rw [← ho]; exact hg)) hC
  have hS : ∀ j, (j = R ∨ some j = v.ownBlock) → SetsF R vs' j := fun j hj => by
    rcases hj with hj | hj
    · exact .inl hj
    · exact .inr ⟨i, v, hv, hj.symm⟩
  have hlt : ∀ j, (j = R ∨ some j = v.ownBlock) → j < w.heap.size := fun j hj => h.flt j (h.sub j (hS j hj))
  refine ⟨hV, fun a ha => by rw [upd_other _ _ ha]; exact h.fo a ha, fun k hk => ?_, h.row.keep hC (fun e => ?_) (fun k hk e => ?_), h.heap, h.nd, h.out.keep hC (fun k hk e => ?_), h.map.keep hC (fun e => ?_), h.chg.trans' hC (fun k _ e => (h.hF k).2 (h.sub k (hS k e))), h.flt, h.hF, h.plt, h.stl⟩
  · rcases hs k hk with h1 | h1
    · exact h.sub k h1
    · exact h.sub k (.inr ⟨i, v, hv, by rw [← ho]; exact h1⟩)
  · have := hlt _ e; have := h.stl; omega
  · have := hlt _ e; have := (own_lt h.row.own hk).1; omega
  · have := hlt _ e; have := (own_lt h.out hk).1; omega
  · have := hlt _ e; omega
theorem TkI.stay (h : TkI w p R n i st tick M F f vs w2 so vst Ls ks vs' f') {k : Nat} (hk : k ∉ Ls) {e : Ending} (hP : PushPost w.heap.size st 0 k vst #[vst] Ls w2 e w3) :
    ∃ vst' Ls', (∀ q, q ∈ Ls' ↔ q ∈ Ls ∨ q = k) ∧ TkI w p R n i st tick M F f vs w3 so vst' Ls' ks vs' f' := by
  obtain ⟨_, v', L', hp, hh, hr, hfr, hC⟩ := hP
  have hge : ∀ j, (j = st ∨ some j = vst.ownBlock) → w.heap.size ≤ j := fun j hj => by
    rcases hj with hj | hj
    · have := h.stl; omega
    · exact (own_lt h.row.own hj.symm).1
  have hlt := h.stl
  refine ⟨v', L', fun q => by rw [hp.mem_iff]; simp, h.V.keep hC (fun e => ?_) (fun k hk e => ?_), h.fo, h.sub, hr, hh, ?_, h.out.keep hC (fun k hk e => ?_), h.map.keep hC (fun e => ?_), h.chg.trans' hC (fun k hk e => ?_), h.flt, h.hF, h.plt, h.stl⟩
  · have := hge _ e; have := h.plt; omega
  · have := hge _ e; have := h.flt _ (h.sub k hk); omega
  · exact hp.nodup_iff.2 (List.nodup_append.2 ⟨h.nd, by simp, fun a ha b hb => by simp at hb; subst hb; exact fun e => hk (by rw [← e]; exact ha)⟩)
  · rcases e with e | e
    · exact own_ne h.out h.row.blk (by decide) (by rw [hk, e])
    · rcases h.out.2 with ⟨hv, _⟩ | ⟨g, cap, cur, hv, hg, hb, _⟩
      · rw [hv] at hk; cases hk
      · have hkg : k = g := by rw [hv] at hk; injection hk with hk; exact hk.symm
        subst hkg
        exact own_ne h.row.own hb (by decide) e.symm
  · rcases e with e | e
    · omega
    · exact own_notmap h.row.own h.map e.symm
  · have := hge _ e; omega
theorem TkI.len (h : TkI w p R n i st tick M F f vs w2 so vst Ls ks vs' f') (hi : i < n) : lenAt w2 ⟨R, i, none⟩ = (f' i).length := by
  obtain ⟨v, hr⟩ := h.V.row hi
  obtain ⟨A, c, rfl⟩ := hr.own.slice
  unfold lenAt
  rw [blk_cell h.V.hR i, hr.at_]
theorem TkI.few (h : TkI w p R n i st tick M F f vs w2 so vst Ls ks vs' f') : Ls.length ≤ 32 := nodup_le 32 _ h.nd h.row.key
theorem TkI.outs (h : TkI w p R n i st tick M F f vs w2 so vst Ls ks vs' f') {k : Nat} {v' : Value} (ho : w3.ownsRow w.heap.size 92 3 v' (ks.length + 1) ((ks.map (toIq tick)).flatMap iqc ++ iqc (toIq tick k))) (hC : Chg (fun j => some j = so.ownBlock) w2 w3) :
    TkI w p R n i st tick M F f vs w3 v' vst Ls (ks ++ [k]) vs' f' := by
  have hge : ∀ j, some j = so.ownBlock → w.heap.size ≤ j := fun j hj => (own_lt h.out hj.symm).1
  refine ⟨h.V.keep hC (fun e => ?_) (fun k hk e => ?_), h.fo, h.sub, h.row.keep hC (fun e => ?_) (fun k hk e => ?_), h.heap, h.nd, ?_, h.map.keep hC (fun e => ?_), h.chg.trans' hC (fun k hk e => ?_), h.flt, h.hF, h.plt, h.stl⟩
  · have := hge _ e; have := h.plt; omega
  · have := hge _ e; have := h.flt _ (h.sub k hk); omega
  · exact own_ne h.out h.row.blk (by decide) e.symm
  · rcases h.out.2 with ⟨hv, _⟩ | ⟨g, cap, cur, hv, hg, hb, _⟩
    · rw [hv] at e; cases e
    · have hkg : k = g := by rw [hv] at e; injection e
      subst hkg
      exact own_ne h.row.own hb (by decide) hk
  · unfold OwnC
    rw [List.map_append, List.length_append, List.flatMap_append, List.length_map]
    simpa using ho
  · exact own_notmap h.out h.map e.symm
  · have := hge _ e; omega
theorem TkI.fin (h : TkI w p R n i st tick M F f vs w2 so vst Ls ks vs' f') {S : Nat → Nat → Bool} {ms : List Iq} {c : Nat} {v : Value} (hi : i < n) (hS : ∀ a k, a < n → k < 32 → (k ∈ f a ↔ S a k = true)) (hT : TakeInv S ms i c (f' i) Ls ks) (he : f' i = []) (hv : vs'[i]? = some v)
    (hR : w3.heap[R]? = some (.cells (vs'.setIfInBounds i vst) 157 (0, 0))) (hC : Chg (fun j => j = R) w2 w3) :
    OwnC iqc 3 92 w3 w.heap.size so (takeL S ms i tick) ∧ ∃ F', SetsAt w3 p n (takeS S ms i) F' ∧ FootOf w F F' ∧ (∀ g, so.ownBlock = some g → ¬ F' g) ∧ Chg F w w3 := by
  have hRlt : R < w.heap.size := h.flt R (.inl rfl)
  have hk : ks = takeK S ms i 32 := by
    rw [hT.out]
    exact (takeK_to hT.c32 (fun k h1 h2 => by
      cases hs : S i k with
      | false => rfl
      | true => have := (hT.row k h2).2 ⟨hs, h1⟩; rw [he] at this; cases this)).symm
  have hLs : ∀ k, k < 32 → (k ∈ Ls ↔ S i k = true ∧ msk ms k = true) := fun k h32 => by
    rw [hT.stay k h32]
    refine ⟨fun ⟨a, b, _⟩ => ⟨a, b⟩, fun ⟨a, b⟩ => ⟨a, b, ?_⟩⟩
    rcases Nat.lt_or_ge k c with h1 | h1
    · exact h1
    · have := (hT.row k h32).2 ⟨a, h1⟩; rw [he] at this; cases this
  have hge : ∀ g, vst.ownBlock = some g → w.heap.size ≤ g := fun g hg => (own_lt h.row.own hg).1
  have hso : ∀ g, so.ownBlock = some g → w.heap.size ≤ g := fun g hg => (own_lt h.out hg).1
  have hown : KRow w3 0 vst Ls := by
    have h1 : KRow w3 w.heap.size vst Ls := h.row.own.keep hC (fun k hk e => by have := hge k hk; omega)
    exact ⟨h1.1, h1.2.imp id (fun ⟨g, cap, cur, a, b, r⟩ => ⟨g, cap, cur, a, Nat.zero_le _, r⟩)⟩
  obtain ⟨hV, hs⟩ := h.V.put2 hi hv hR hown h.heap h.nd h.row.key (fun g hg => .inr (fun hin => by have := h.flt g (h.sub g hin); have := hge g hg; omega)) (hC.mono (fun k _ e => .inl e))
  refine ⟨?_, SetsF R (vs'.setIfInBounds i vst), ⟨R, _, _, hV, fun a k ha h32 => ?_, fun _ => Iff.rfl⟩, fun k hk => ?_, fun g hg hin => ?_, h.chg.trans' hC (fun k _ e => (h.hF k).2 (.inl e))⟩
  · unfold takeL
    rw [← hk]
    exact h.out.keep hC (fun k hk e => by have := hso k hk; omega)
  · unfold takeS
    by_cases e : a = i
    · subst e
      rw [upd_same, hLs k h32]
      simp
    · rw [upd_other _ _ e, h.fo a e, hS a k ha h32]
      simp [e]
  · rcases hs k hk with h1 | h1
    · exact .inl ((h.hF k).2 (h.sub k h1))
    · exact .inr (hge k h1)
  · rcases hs g hin with h1 | h1
    · have := h.flt g (h.sub g h1); have := hso g hg; omega
    · rcases h.out.2 with ⟨hv, _⟩ | ⟨g', cap, cur, hv, _, hb, _⟩
      · rw [hv] at hg; cases hg
      · have hgg : g = g' := by rw [hv] at hg; injection hg with hg; exact hg.symm
        subst hgg
        exact own_ne h.row.own hb (by decide) h1
end
def TakePost (p n i : Nat) (tick : Int) (ms : List Iq) (S : Nat → Nat → Bool) (F : Nat → Prop) (w : World) (e : Ending) (w' : World) : Prop :=
  ∃ v, e = .returned v ∧ OwnC iqc 3 92 w' w.heap.size v (takeL S ms i tick) ∧ ∃ F', SetsAt w' p n (takeS S ms i) F' ∧ FootOf w F F' ∧ (∀ g, v.ownBlock = some g → ¬ F' g) ∧ Chg F w w'
set_option maxRecDepth 100000 in
set_option maxHeartbeats 2000000 in
theorem pTake_in (p n i mb : Nat) (tick : Int) (mv : Value) (ms : List Iq) (S : Nat → Nat → Bool) (F : Nat → Prop) (w : World) (h : SetsAt w p n S F) (hn : n ≤ 4) (hi : i < n) (hm : OwnC iqc 3 92 w mb mv ms) (hml : ms.length ≤ 9223372036854775807) :
    Calls Try.prog 51 #[.pointer (some ⟨p, 0, none⟩), .int .i64 i, .int .i64 tick, mv] w (TakePost p n i tick ms S F w) := by
  obtain ⟨A, c, rfl⟩ := hm.slice
  obtain ⟨R, vs, f, hV, hS, hF⟩ := h
  have c0 := blk_cell hV.hp 0
  have hth := pThere_yes p n i R w hV.hp hi hn
  have i0 : (0 : Int) ≤ i := by omega
  have i1 : (i : Int) < n := by omega
  have HTH := Lib.hid hth; clear hth
  have HV := Lib.hid hV; clear hV
  have HS := Lib.hid hS; clear hS
  have HFF := Lib.hid hF; clear hF
  have HO : Hid (OwnC iqc 3 92 w mb (.slice A ms.length c) ms) := hm
  clear hm
  have hmk := run_makeMap (P := Try.prog) 163 w
  go_enter Try.func51, Try.ntmps51
  go_wp2_with fail
  refine HTH.out.mono ?_
  rintro e w1 ⟨rfl, rfl⟩
  go_wp2_with fail
  clear hmk
  go_loopw [23, 11] (fun s s11 wr => ∃ (j : Nat) (M : List (Int × Int)), j ≤ ms.length ∧ s = .int .i64 j ∧ MapAt wr w.heap.size M ∧ (∀ q, q ∈ M ↔ q ∈ (ms.take j).map dv) ∧ Chg (fun _ => False) w wr) (fun s _ _ => ms.length - (intOf s).toNat)
  case atStart => exact ⟨0, [], by omega, rfl, ⟨#[], 0, blk_new _ _, rfl⟩, by simp, (Chg.refl _ _).alloc _⟩
  case round =>
    obtain ⟨j, M, hj, rfl, hM, hMem, hC⟩ := hrel
    have j0 : (0 : Int) ≤ j := by omega
    by_cases hlt : j < ms.length
    · have j1 : (j : Int) < ms.length := by omega
      have hO := HO.out.keep hC (fun _ _ => id)
      obtain ⟨g, cap, hv, hbg⟩ := hO.form (by omega)
      injection hv with h1 h2 h3
      subst h1 h3
      have A0 : wr.cell? ⟨g, j * 3, none⟩ = some (.int .i64 ms[j].t) := hO.cell iqc_len hlt (show 0 < 3 by omega)
      have A1 : wr.cell? ⟨g, j * 3 + 1, none⟩ = some (.int .i64 ms[j].d) := hO.cell iqc_len hlt (show 1 < 3 by omega)
      have A2 : wr.cell? ⟨g, j * 3 + 2, none⟩ = some (.int .i64 ms[j].v) := hO.cell iqc_len hlt (show 2 < 3 by omega)
      clear hO hbg
      have hM1 : MapAt (wr.alloc (.cells #[.int .i64 ms[j].t, .int .i64 ms[j].d, .int .i64 ms[j].v] 92)) w.heap.size M := hM.keep (S := fun _ => False) ((Chg.refl _ _).alloc _) id
      obtain ⟨W', M', hrun, hM', hmem', hCm⟩ := mapPut hM1 (ms[j].d, ms[j].v)
      dsimp only [mKey] at hrun
      have hnext : (∀ q, q ∈ M' ↔ q ∈ (ms.take (j + 1)).map dv) ∧ Chg (fun _ => False) w W' := by
        refine ⟨fun q => ?_, ?_⟩
        · rw [hmem', hMem, List.take_succ_eq_append_getElem hlt, List.map_append, List.mem_append]
          simp [dv, or_comm]
        · refine (hC.alloc _).trans' hCm (fun k hk e => ?_)
          omega
      have HN := Lib.hid hnext; clear hnext hCm hmem' hMem hM hM1
      have HM := Lib.hid hM'; clear hM'
      have HC := Lib.hid hC; clear hC
      generalize ms[j].t = xt at *
      generalize ms[j].d = xd at *
      generalize ms[j].v = xv at *
      clear c0
      go_wp2_with fail
      go_roundw
      case rel => exact ⟨j + 1, M', by omega, by go_num, HM.out, HN.out.1, HN.out.2⟩
      case measure => simp [intOf]; omega
    · obtain rfl : j = ms.length := by omega
      obtain ⟨w0, hw0⟩ : ∃ x, x = wr := ⟨_, rfl⟩
      subst wr
      rw [List.take_of_length_le (Nat.le_refl _)] at hMem
      have hV1 := HV.out.keep hC id (fun _ _ => id)
      have c1 := blk_cell hV1.hp 0
      have hlw := lt_of_heap HV.out.hp
      have hsz : w.heap.size < w0.heap.size := hM.lt
      have hinv0 : TakeInv S ms i 0 (f i) [] [] := ⟨by omega, fun k hk => by rw [HS.out i k hi hk]; simp, fun k hk => by simp, rfl⟩
      have hI0 : TkI w p R n i w0.heap.size tick M F f vs (w0.alloc (.cells #[.slice none 0 0] 157)) (.slice none 0 0) (.slice none 0 0) [] [] vs f :=
        ⟨hV1.keep (S := fun _ => False) ((Chg.refl _ _).alloc _) id (fun _ _ => id), fun _ _ => rfl, fun _ h => h, ⟨blk_new _ _, rfl, OwnC.nil _ _, by simp, by simp⟩, fun k k0 k1 => by simp at k1, List.nodup_nil, OwnC.nil _ _, hM.keep (S := fun _ => False) ((Chg.refl _ _).alloc _) id, (hC.toF F).alloc _, HV.out.lt, HFF.out, hlw, hsz⟩
      have hmsk : ∀ k : Nat, decide ((((k : Int) / 8, (k : Int) % 8) : Int × Int) ∈ M) = msk ms k := fun k => by unfold msk; exact decide_eq_decide.2 (hMem _)
      have c2 := blk_cell hI0.V.hp 0
      have HI0 := Lib.hid hI0; clear hI0
      have HV0 := Lib.hid hinv0; clear hinv0
      have HK := Lib.hid hmsk; clear hmsk hMem hV1 hC hM
      clear hlt hj c0 hsz hlw HO HTH hml
      go_wp2_with fail
      clear c1 c2
      go_loopw [12, 15] (fun so sx w2 => ∃ (c : Nat) (vst : Value) (Ls ks : List Nat) (vs' : Array Value) (f' : Nat → List Nat), TkI w p R n i w0.heap.size tick M F f vs w2 so vst Ls ks vs' f' ∧ TakeInv S ms i c (f' i) Ls ks) (fun _ _ w2 => lenAt w2 ⟨R, i, none⟩)
      case atStart => exact ⟨0, _, [], [], vs, f, HI0.out, HV0.out⟩
      case round =>
        obtain ⟨c, vst, Ls, ks, vs', f', hI, hT⟩ := hrel
        obtain ⟨w2, hw2⟩ : ∃ x, x = wr := ⟨_, rfl⟩
        subst wr
        obtain ⟨v, hrow⟩ := hI.V.row hi
        obtain ⟨A', cp, rfl⟩ := hrow.own.slice
        have c2 : w2.cell? ⟨R, i, none⟩ = some (.slice A' (f' i).length cp) := (blk_cell hI.V.hR i).trans hrow.at_
        have hl32 := hI.V.len hi
        have hkl := kLen A' (f' i).length cp w2 (by omega)
        by_cases h0 : 0 < (f' i).length
        · obtain ⟨m, hm⟩ : ∃ m, m + 1 = (f' i).length := ⟨(f' i).length - 1, by omega⟩
          have hpop := hPop 0 R i m _ vs' (f' i) w2 hrow (hI.V.heap i hi) hm
          have hmin := heap_head_mem (hI.V.heap i hi)
          have hl0 : (0 : Int) < ((f' i).length : Nat) := by omega
          have HPOP := Lib.hid hpop; clear hpop
          have HMIN := Lib.hid hmin; clear hmin
          have HAT := Lib.hid hrow.at_; clear hrow
          have HI := Lib.hid hI; clear hI
          have HT := Lib.hid hT; clear hT
          have HKL := Lib.hid hkl; clear hkl
          have HM := Lib.hid hm; clear hm
          have HLN := Lib.hid c2
          clear h0 hl32
          go_wp2_with fail
          refine HKL.out.mono ?_
          rintro e w3 ⟨rfl, rfl⟩
          go_wp2_with fail
          refine HPOP.out.mono ?_
          rintro e w3 ⟨rfl, v', L', hperm, hheap, hr, hob, hC⟩
          have hI3 := HI.out.pop hi HAT.out hperm hheap hr hob hC
          have hnext := HT.out.next hperm (HI.out.V.nodup i hi) HMIN.out (HI.out.V.key i hi)
          have hmem : gk (f' i) 0 ∈ f' i := hperm.mem_iff.1 (by simp)
          have hk32 := HI.out.V.key i hi _ hmem
          have hnot : gk (f' i) 0 ∉ Ls := fun hin => by
            have h1 := ((HT.out.stay _ hk32).1 hin).2.2
            have h2 := ((HT.out.row _ hk32).1 hmem).2
            omega
          have hmeas : L'.length < lenAt w2 ⟨R, i, none⟩ := by
            rw [HI.out.len hi]
            have := hperm.length_eq; simp at this; omega
          have HMS := Lib.hid hmeas; clear hmeas
          clear HMIN HAT HPOP HKL hr hob hheap hC
          generalize gk (f' i) 0 = k at *
          have HHT := HT; clear HT HI hmem hperm
          have hI4 := hI3.keepN ((Chg.refl (fun _ => False) w3).alloc (.cells #[.int .i64 ((k : Int) / 8), .int .i64 ((k : Int) % 8)] 159))
          have hlook := mapLook hI4.map ((k : Int) / 8, (k : Int) % 8)
          dsimp only [mKey] at hlook
          rw [HK.out] at hlook
          have hpush := hPush w.heap.size w0.heap.size 0 k vst #[vst] Ls _ hI4.row hI4.heap hI4.chg.size (by have := hI4.few; omega) hk32
          have hout := fun (v : Value) (w5 : World) => hI4.outs (k := k) (v' := v) (w3 := w5)
          have HI4 := Lib.hid hI4; clear hI4 hI3
          have HPU := Lib.hid hpush; clear hpush
          have HNX := Lib.hid hnext; clear hnext
          have HNO := Lib.hid hnot; clear hnot
          have HOU := Lib.hid hout; clear hout
          generalize hx : (k : Int) / 8 = x at *
          generalize hy : (k : Int) % 8 = y at *
          have HX := Lib.hid hx; clear hx
          have HY := Lib.hid hy; clear hy
          have hta := assertOne x y
          clear c2 hl0 hk32
          by_cases hmk : msk ms k = true
          · rw [hmk] at hlook
            go_wp2_with fail
            refine HPU.out.mono ?_
            rintro e w5 hP
            obtain ⟨rfl, _⟩ := id hP
            obtain ⟨vst', Ls', hLs, hI5⟩ := HI4.out.stay HNO.out hP
            have hT5 := HNX.out.1 hmk Ls' hLs
            have HI5 := Lib.hid hI5; clear hI5 hP
            have HT5 := Lib.hid hT5; clear hT5 hLs
            clear hlook hta hmk
            go_wp2_with fail
            go_roundw
            case rel => exact ⟨k + 1, vst', Ls', ks, _, _, HI5.out, by rw [upd_same]; exact HT5.out⟩
            case measure => rw [HI5.out.len hi, upd_same]; exact HMS.out
          · rw [Bool.not_eq_true] at hmk
            rw [hmk] at hlook
            have hT5 := HNX.out.2 hmk
            have hks : ks.length ≤ 32 := by
              rw [HHT.out.out]
              exact Nat.le_trans (List.length_filter_le _ _) (by rw [List.length_range]; exact HHT.out.c32)
            obtain ⟨q0, hi0, hz0, hz1, hz2⟩ := info_parts Try.info92
            have hown : ∀ o, ((w3.alloc (.cells #[.int .i64 x, .int .i64 y] 159)).alloc o).ownsRow w.heap.size 92 3 u12 ks.length ((ks.map (toIq tick)).flatMap iqc) := fun o => by
              have := Chg.own ((Chg.refl (fun _ => False) _).alloc o) HI4.out.out (fun _ _ => id)
              rwa [List.length_map] at this
            have hbase : w.heap.size ≤ w3.heap.size := by have := HI4.out.chg.size; have := HI4.out.map.lt; have := HI4.out.stl; have := lt_of_heap HI4.out.row.blk; simp at this; omega
            have HT5 := Lib.hid hT5; clear hT5
            have HOW := Lib.hid hown; clear hown
            have hblk : ((w3.alloc (.cells #[.int .i64 x, .int .i64 y] 159)).alloc (.cells #[.int .i64 tick, .int .i64 x, .int .i64 y] 92)).heap[w3.heap.size + 1]? = some (.cells #[.int .i64 tick, .int .i64 x, .int .i64 y] 92 (0, 0)) := by simpa using blk_new (w3.alloc (.cells #[.int .i64 x, .int .i64 y] 159)) (.cells #[.int .i64 tick, .int .i64 x, .int .i64 y] 92)
            have hnews := World.news_of_block hblk
            have hb2 : w.heap.size ≤ ((w3.alloc (.cells #[.int .i64 x, .int .i64 y] 159)).alloc (.cells #[.int .i64 tick, .int .i64 x, .int .i64 y] 92)).heap.size := by simp; omega
            clear hmk HPU hblk
            go_wp2_with (at_builtin; refine wpList_append_own _ rfl _ _ 77 rfl w.heap.size 92 q0 (.agg #[.int .i64 0, .int .i64 0, .int .i64 0]) 3 24 Try.underlying77 hi0 hz0 hz1 hz2 rfl (by decide) u12 ks.length ((ks.map (toIq tick)).flatMap iqc) rfl (HOW.out _) ⟨w3.heap.size + 1, 0, none⟩ 1 1 [.int .i64 tick, .int .i64 x, .int .i64 y] (by rfl) rfl hnews (by simp [Value.oneCell']) (by unfold maxLen; omega) (by omega) hb2 ?_; intro v5 w5 hown5 hgr hn5)
            have hI5 := HOU.out v5 w5 (by rw [← HX.out, ← HY.out] at hown5; exact hown5) (Chg.grown ((Chg.refl _ _).alloc _) hgr (fun k hk _ => hk.symm))
            go_roundw
            case rel => exact ⟨k + 1, vst, Ls, ks ++ [k], _, _, hI5, by rw [upd_same]; exact HT5.out⟩
            case measure => rw [hI5.len hi, upd_same]; exact HMS.out
        · have he : (f' i) = [] := by
            cases hh : f' i with
            | nil => rfl
            | cons _ _ => rw [hh] at h0; simp at h0
          have hl0 : (f' i).length = 0 := by rw [he]; rfl
          obtain ⟨As, cs2, rfl⟩ := hI.row.own.slice
          have hC0 := blk_cell hI.V.hp 0
          have hst := blk_cell hI.row.blk 0
          have hfr := blk_free hI.V.hR i
          have hfin := fun w3 => hI.fin (w3 := w3) hi HS.out hT he hrow.at_
          have HFIN := Lib.hid hfin; clear hfin
          have HB := Lib.hid hI.V.hR
          have HI := Lib.hid hI; clear hI
          clear hT he h0 hrow hl32
          rw [hl0] at c2 hkl
          have HKL := Lib.hid hkl; clear hkl hl0
          go_wp2_with fail
          refine HKL.out.mono ?_
          rintro e w3 ⟨rfl, rfl⟩
          go_wp2_with fail
          go_region
          all_goals
            go_wp2_with fail
            go_ret
            first
              | exact ⟨_, rfl, HFIN.out _ (blk_set HB.out i _) (((Chg.refl _ _).drew).set1 _)⟩
              | exact ⟨_, rfl, HFIN.out _ (blk_set HB.out i _) (((Chg.refl _ _).set1 _).drew)⟩
theorem pTake_out (p n : Nat) (part tick : Int) (mv : Value) (S : Nat → Nat → Bool) (F : Nat → Prop) (w : World) (h : SetsAt w p n S F) (hn : n ≤ 4) (hi : ¬ (0 ≤ part ∧ part < n)) :
    Calls Try.prog 51 #[.pointer (some ⟨p, 0, none⟩), .int .i64 part, .int .i64 tick, mv] w fun e w' => e = .returned (.slice none 0 0) ∧ w = w' := by
  obtain ⟨R, vs, f, hV, _, _⟩ := h
  have hth := pThere_no p n part R w hV.hp hi hn
  have HTH := Lib.hid hth; clear hth hV hi
  go_enter Try.func51, Try.ntmps51
  go_wp2_with fail
  refine HTH.out.mono ?_
  rintro e w1 ⟨rfl, rfl⟩
  go_wp2_with fail
  go_ret
  exact ⟨rfl, rfl⟩
end Go.Proofs.Ytpnhdiajiieonaa
