/- Configs: what is read of one, and what may be one (plain). -/
import Derived.Test.YtnallfehffhaeaaInts
set_option linter.unusedSimpArgs false
set_option linter.unusedVariables false
namespace Go.Proofs.Ytnallfehffhaeaa
open Go.RowKit

structure Prt where
  lv : Int
  cats : Int
  fr : List Int
  first : Int
  count : Int

structure Dv where
  part : Int
  pool : List Int

structure Wn where
  part : Int
  start : Int
  len : Int
  deliver : Int

structure Gr where
  frame : Int
  to : Int
  write : Bool

structure Cf where
  frames : Int
  parts : List Prt
  devs : List Dv
  major : Int
  wins : List Wn
  grants : List Gr
  sectors : Int
  quota : Int
  quiet : Int
/-- Values of the code's. -/
def prtv (p : Prt) (F : Value) : Value := .agg #[.int .i64 p.lv, .int .i64 p.cats, F, .int .i64 p.first, .int .i64 p.count]
def dvv (d : Dv) (F : Value) : Value := .agg #[.int .i64 d.part, F]
def wnv (x : Wn) : Value := .agg #[.int .i64 x.part, .int .i64 x.start, .int .i64 x.len, .int .i64 x.deliver]
def grv (x : Gr) : Value := .agg #[.int .i64 x.frame, .int .i64 x.to, .bool x.write]
/-- A slice value reads as a list. -/
def RdN (w : World) (v : Value) (L : List Int) : Prop := L.length ≤ maxLen ∧ ∃ A c, v = .slice A L.length c ∧ ∀ (j : Nat) (h : j < L.length), ∃ g o, A = some ⟨g, o, none⟩ ∧ w.cell? ⟨g, o + j, none⟩ = some (.int .i64 L[j])
def RdP (w : World) (v : Value) (L : List Prt) : Prop := L.length ≤ maxLen ∧ ∃ A c, v = .slice A L.length c ∧ ∀ (j : Nat) (h : j < L.length), ∃ g o F, A = some ⟨g, o, none⟩ ∧ w.cell? ⟨g, o + j * 5, none⟩ = some (.int .i64 L[j].lv) ∧ w.cell? ⟨g, o + j * 5 + 1, none⟩ = some (.int .i64 L[j].cats) ∧ w.cell? ⟨g, o + j * 5 + 2, none⟩ = some F ∧ w.cell? ⟨g, o + j * 5 + 3, none⟩ = some (.int .i64 L[j].first) ∧ w.cell? ⟨g, o + j * 5 + 4, none⟩ = some (.int .i64 L[j].count) ∧ RdN w F L[j].fr
def RdD (w : World) (v : Value) (L : List Dv) : Prop := L.length ≤ maxLen ∧ ∃ A c, v = .slice A L.length c ∧ ∀ (j : Nat) (h : j < L.length), ∃ g o F, A = some ⟨g, o, none⟩ ∧ w.cell? ⟨g, o + j * 2, none⟩ = some (.int .i64 L[j].part) ∧ w.cell? ⟨g, o + j * 2 + 1, none⟩ = some F ∧ RdN w F L[j].pool
def RdW (w : World) (v : Value) (L : List Wn) : Prop := (L.length ≤ maxLen ∧ ∀ A n c, v = .slice A n c → n ≤ c) ∧ ∃ A c, v = .slice A L.length c ∧ ∀ (j : Nat) (h : j < L.length), ∃ g o, A = some ⟨g, o, none⟩ ∧ w.cell? ⟨g, o + j * 4, none⟩ = some (.int .i64 L[j].part) ∧ w.cell? ⟨g, o + j * 4 + 1, none⟩ = some (.int .i64 L[j].start) ∧ w.cell? ⟨g, o + j * 4 + 2, none⟩ = some (.int .i64 L[j].len) ∧ w.cell? ⟨g, o + j * 4 + 3, none⟩ = some (.int .i64 L[j].deliver)
def RdG (w : World) (v : Value) (L : List Gr) : Prop := L.length ≤ maxLen ∧ ∃ A c, v = .slice A L.length c ∧ ∀ (j : Nat) (h : j < L.length), ∃ g o, A = some ⟨g, o, none⟩ ∧ w.cell? ⟨g, o + j * 3, none⟩ = some (.int .i64 L[j].frame) ∧ w.cell? ⟨g, o + j * 3 + 1, none⟩ = some (.int .i64 L[j].to) ∧ w.cell? ⟨g, o + j * 3 + 2, none⟩ = some (.bool L[j].write)
section
variable {w w' : World} {v : Value}
theorem RdN.keepN {L : List Int} (h : RdN w v L) (hC : Chg (fun _ => False) w w') : RdN w' v L := by
  obtain ⟨hm, A, c, rfl, h⟩ := h
  refine ⟨hm, A, c, rfl, fun j hj => ?_⟩
  obtain ⟨g, o, rfl, h0⟩ := h j hj
  exact ⟨g, o, rfl, hC.cell h0 id⟩
theorem RdP.keepN {L : List Prt} (h : RdP w v L) (hC : Chg (fun _ => False) w w') : RdP w' v L := by
  obtain ⟨hm, A, c, rfl, h⟩ := h
  refine ⟨hm, A, c, rfl, fun j hj => ?_⟩
  obtain ⟨g, o, F, rfl, h0, h1, h2, h3, h4, h5⟩ := h j hj
  exact ⟨g, o, F, rfl, hC.cell h0 id, hC.cell h1 id, hC.cell h2 id, hC.cell h3 id, hC.cell h4 id, h5.keepN hC⟩
theorem RdD.keepN {L : List Dv} (h : RdD w v L) (hC : Chg (fun _ => False) w w') : RdD w' v L := by
  obtain ⟨hm, A, c, rfl, h⟩ := h
  refine ⟨hm, A, c, rfl, fun j hj => ?_⟩
  obtain ⟨g, o, F, rfl, h0, h1, h2⟩ := h j hj
  exact ⟨g, o, F, rfl, hC.cell h0 id, hC.cell h1 id, h2.keepN hC⟩
theorem RdW.keepN {L : List Wn} (h : RdW w v L) (hC : Chg (fun _ => False) w w') : RdW w' v L := by
  obtain ⟨hm, A, c, rfl, h⟩ := h
  refine ⟨hm, A, c, rfl, fun j hj => ?_⟩
  obtain ⟨g, o, rfl, h0, h1, h2, h3⟩ := h j hj
  exact ⟨g, o, rfl, hC.cell h0 id, hC.cell h1 id, hC.cell h2 id, hC.cell h3 id⟩
theorem RdG.keepN {L : List Gr} (h : RdG w v L) (hC : Chg (fun _ => False) w w') : RdG w' v L := by
  obtain ⟨hm, A, c, rfl, h⟩ := h
  refine ⟨hm, A, c, rfl, fun j hj => ?_⟩
  obtain ⟨g, o, rfl, h0, h1, h2⟩ := h j hj
  exact ⟨g, o, rfl, hC.cell h0 id, hC.cell h1 id, hC.cell h2 id⟩
end
/-- The four slices of a config's. -/
structure Vs where
  ps : Value
  ds : Value
  ws : Value
  gs : Value
def Vs.R (s : Vs) (w : World) (C : Cf) : Prop := RdP w s.ps C.parts ∧ RdD w s.ds C.devs ∧ RdW w s.ws C.wins ∧ RdG w s.gs C.grants
theorem Vs.R.keepN {s : Vs} {w w' : World} {C : Cf} (h : s.R w C) (hC : Chg (fun _ => False) w w') : s.R w' C := ⟨h.1.keepN hC, h.2.1.keepN hC, h.2.2.1.keepN hC, h.2.2.2.keepN hC⟩
def cfc (C : Cf) (s : Vs) : Array Value := #[.int .i64 C.frames, s.ps, s.ds, .int .i64 C.major, s.ws, s.gs, .int .i64 C.sectors, .int .i64 C.quota, .int .i64 C.quiet]
/-- What may be. -/
def LabP (lv cats : Int) : Prop := 0 ≤ lv ∧ lv ≤ 3 ∧ 0 ≤ cats ∧ cats ≤ 15
instance (a b : Int) : Decidable (LabP a b) := by unfold LabP; infer_instance
def ownAt : List Prt → Int → Int → Int
  | [], _, _ => -1
  | p :: ps, f, i => if f ∈ p.fr then i else ownAt ps f (i + 1)
def Cf.own (C : Cf) (f : Int) : Int := ownAt C.parts f 0
def Cf.there (C : Cf) (p : Int) : Prop := 0 ≤ p ∧ p < C.parts.length
instance (C : Cf) (p : Int) : Decidable (C.there p) := by unfold Cf.there; infer_instance
def PartOk (C : Cf) (i : Nat) (p : Prt) : Prop := LabP p.lv p.cats ∧ 1 ≤ p.fr.length ∧ ∃ x ∈ C.wins, x.part = i
instance (C : Cf) (i : Nat) (p : Prt) : Decidable (PartOk C i p) := by unfold PartOk; infer_instance
def PartsOk (C : Cf) : Prop := (∀ i (h : i < C.parts.length), PartOk C i C.parts[i]) ∧ 1 ≤ C.parts.length ∧ C.parts.length ≤ 4
instance (C : Cf) : Decidable (PartsOk C) := by unfold PartsOk; infer_instance
def DevOk (C : Cf) (d : Dv) : Prop := C.there d.part ∧ 2 ≤ d.pool.length ∧ d.pool.length ≤ 5
instance (C : Cf) (d : Dv) : Decidable (DevOk C d) := by unfold DevOk; infer_instance
def DevsOk (C : Cf) : Prop := (∀ i (h : i < C.devs.length), DevOk C C.devs[i]) ∧ 1 ≤ C.devs.length ∧ C.devs.length ≤ 4
instance (C : Cf) : Decidable (DevsOk C) := by unfold DevsOk; infer_instance
def Cf.allFr (C : Cf) : List Int := C.parts.flatMap (·.fr) ++ C.devs.flatMap (·.pool)
/-- Frames that are there and unlike each other, and unlike those seen. -/
def onceL (n : Int) : List Int → List Int → Option (List Int)
  | S, [] => some S
  | S, f :: fs => if 0 ≤ f ∧ f < n ∧ f ∉ S then onceL n (f :: S) fs else none
def FramesOk (C : Cf) : Prop := 1 ≤ C.frames ∧ C.frames ≤ 64 ∧ (onceL C.frames [] C.allFr).isSome
instance (C : Cf) : Decidable (FramesOk C) := by unfold FramesOk; infer_instance
def WinP (x : Wn) (major parts : Int) : Prop := 0 ≤ x.part ∧ x.part < parts ∧ 1 ≤ x.len ∧ 0 ≤ x.start ∧ x.start ≤ major ∧ x.len ≤ major - x.start ∧ x.start ≤ x.deliver ∧ x.deliver < x.start + x.len
instance (x : Wn) (a b : Int) : Decidable (WinP x a b) := by unfold WinP; infer_instance
def WinApart (a b : Wn) : Prop := a.start + a.len ≤ b.start ∨ b.start + b.len ≤ a.start
instance (a b : Wn) : Decidable (WinApart a b) := by unfold WinApart; infer_instance
def WinAt (ws : List Wn) (major parts : Int) (i : Nat) (x : Wn) : Prop := WinP x major parts ∧ ∀ j (h : j < ws.length), j < i → WinApart ws[j] x
instance (ws : List Wn) (a b : Int) (i : Nat) (x : Wn) : Decidable (WinAt ws a b i x) := by unfold WinAt; infer_instance
def WinsOk (ws : List Wn) (major parts : Int) : Prop := 1 ≤ major ∧ major ≤ 64 ∧ 1 ≤ parts ∧ parts ≤ 4 ∧ 1 ≤ ws.length ∧ ws.length ≤ 8 ∧ ∀ i (h : i < ws.length), WinAt ws major parts i ws[i]
instance (ws : List Wn) (a b : Int) : Decidable (WinsOk ws a b) := by unfold WinsOk; infer_instance
def GrP (C : Cf) (i : Nat) (g : Gr) : Prop := 0 ≤ C.own g.frame ∧ C.there g.to ∧ g.to ≠ C.own g.frame ∧ ∀ j (h : j < C.grants.length), j < i → ¬ (C.grants[j].frame = g.frame ∧ C.grants[j].to = g.to)
instance (C : Cf) (i : Nat) (g : Gr) : Decidable (GrP C i g) := by unfold GrP; infer_instance
def GrsOk (C : Cf) : Prop := ∀ i (h : i < C.grants.length), GrP C i C.grants[i]
instance (C : Cf) : Decidable (GrsOk C) := by unfold GrsOk; infer_instance
def RunP (at_ n size : Int) : Prop := 0 ≤ at_ ∧ 0 ≤ n ∧ 0 ≤ size ∧ at_ ≤ size ∧ n ≤ size - at_
instance (a b c : Int) : Decidable (RunP a b c) := by unfold RunP; infer_instance
def ExtApart (a b : Prt) : Prop := a.count = 0 ∨ b.count = 0 ∨ a.first + a.count ≤ b.first ∨ b.first + b.count ≤ a.first
instance (a b : Prt) : Decidable (ExtApart a b) := by unfold ExtApart; infer_instance
def ExtAt (ps : List Prt) (s : Int) (i : Nat) (p : Prt) : Prop := RunP p.first p.count s ∧ ∀ j (h : j < ps.length), j < i → ExtApart p ps[j]
instance (ps : List Prt) (s : Int) (i : Nat) (p : Prt) : Decidable (ExtAt ps s i p) := by unfold ExtAt; infer_instance
def ExtOk (ps : List Prt) (s : Int) : Prop := 1 ≤ ps.length ∧ ps.length ≤ 4 ∧ 0 ≤ s ∧ s ≤ 64 ∧ ∀ i (h : i < ps.length), ExtAt ps s i ps[i]
instance (ps : List Prt) (s : Int) : Decidable (ExtOk ps s) := by unfold ExtOk; infer_instance
def NumsOk (C : Cf) : Prop := ExtOk C.parts C.sectors ∧ 0 ≤ C.quota ∧ C.quota ≤ 64 ∧ 1 ≤ C.quiet ∧ C.quiet ≤ 8
instance (C : Cf) : Decidable (NumsOk C) := by unfold NumsOk; infer_instance
def MayP (C : Cf) : Prop := PartsOk C ∧ DevsOk C ∧ FramesOk C ∧ WinsOk C.wins C.major C.parts.length ∧ GrsOk C ∧ NumsOk C
instance decMayCf (C : Cf) : Decidable (MayP C) := by unfold MayP; infer_instance
/-- A partition may read a frame, or write it. -/
def ReachP (C : Cf) (p f : Int) (wr : Bool) : Prop := C.own f = p ∨ ∃ g ∈ C.grants, g.frame = f ∧ g.to = p ∧ (g.write = true ∨ wr = false)
instance (C : Cf) (p f : Int) (wr : Bool) : Decidable (ReachP C p f wr) := by unfold ReachP; infer_instance
end Go.Proofs.Ytnallfehffhaeaa
