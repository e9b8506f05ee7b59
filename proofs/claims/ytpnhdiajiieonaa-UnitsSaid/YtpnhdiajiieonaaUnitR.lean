/- Chapter 13: the program's unit beside the document's; one act of both. -/
import Derived.Test.YtpnhdiajiieonaaAwake13
set_option linter.unusedSimpArgs false
set_option linter.unusedVariables false
namespace Go.Proofs.Ytpnhdiajiieonaa
open Go.RowKit Go.ChangeShapes Go.WideShapes Go.Deep

/-- Both units. -/
structure UR (w0 W : World) (u ru nd np : Nat) (f g : Nat → Ent) (S T : Nat → Nat → Bool) (F G : Nat → Prop) : Prop where
  a : US w0 W u nd np f S F
  b : RUAt W ru nd np g T G
  apart : ∀ k, F k → ¬ G k
  geG : ∀ k, G k → w0.heap.size ≤ k
section
variable {w0 W W' : World} {u ru nd np : Nat} {f f' g g' : Nat → Ent} {S S' T T' : Nat → Nat → Bool} {F F' G : Nat → Prop}
theorem UR.keepN (h : UR w0 W u ru nd np f g S T F G) (hC : Chg (fun _ => False) W W') : UR w0 W' u ru nd np f g S T F G := ⟨h.a.keepN hC, h.b.keepN hC, h.apart, h.geG⟩
theorem UR.sa (h : UR w0 W u ru nd np f g S T F G) (ha : US w0 W' u nd np f' S' F') (hf : FootOf W F F') (hC : Chg F W W') : UR w0 W' u ru nd np f' g S' T F' G :=
  ⟨ha, h.b.keep hC (fun k hk hF => h.apart k hF hk), fun k hk hG => by
    rcases hf k hk with h1 | h1
    · exact h.apart k h1 hG
    · have := h.b.lt k hG; omega, h.geG⟩
theorem UR.sb (h : UR w0 W u ru nd np f g S T F G) (hb : RUAt W' ru nd np g' T' G) (hC : Chg G W W') : UR w0 W' u ru nd np f g' S T' F G :=
  ⟨h.a.other hC (fun k hk => ⟨fun hF => h.apart k hF hk, h.geG k hk⟩), hb, h.apart, h.geG⟩
theorem UR.other (h : UR w0 W u ru nd np f g S T F G) {X : Nat → Prop} (hC : Chg X W W') (hX : ∀ k, X k → ¬ F k ∧ ¬ G k ∧ w0.heap.size ≤ k) : UR w0 W' u ru nd np f g S T F G :=
  ⟨h.a.other hC (fun k hk => ⟨(hX k hk).1, (hX k hk).2.2⟩), h.b.keep hC (fun k hk e => (hX k e).2.1 hk), h.apart, h.geG⟩
end
/-- An act. -/
structure UAct where
  kind : Int
  dev : Int
  vec : Int
  part : Int
  tick : Int
  on : Bool
def UAct.cells (x : UAct) : List Value := [.int .i64 x.kind, .int .i64 x.dev, .int .i64 x.vec, .int .i64 x.part, .int .i64 x.tick, .bool x.on]
def UAct.val (x : UAct) : Value := .agg #[.int .i64 x.kind, .int .i64 x.dev, .int .i64 x.vec, .int .i64 x.part, .int .i64 x.tick, .bool x.on]
def UStepPost (w0 : World) (u ru nd np : Nat) (G : Nat → Prop) (e : Ending) (w' : World) : Prop := e = .returned (.bool true) ∧ ∃ f S F, UR w0 w' u ru nd np f f S S F G
set_option maxRecDepth 100000 in
set_option maxHeartbeats 2000000 in
theorem stepRoute (x : UAct) {w0 W : World} {u ru nd np : Nat} {f : Nat → Ent} {S : Nat → Nat → Bool} {F G : Nat → Prop} (h : UR w0 W u ru nd np f f S S F G) (hd : nd ≤ 4) (hn : np ≤ 4) (t0 : x.kind < 4) :
    Calls Try.prog 61 #[.pointer (some ⟨u, 0, none⟩), .pointer (some ⟨ru, 0, none⟩), x.val] W (UStepPost w0 u ru nd np G) := by
  have hP := h.keepN ((Chg.refl _ _).alloc (.cells #[.int .i64 x.kind, .int .i64 x.dev, .int .i64 x.vec, .int .i64 x.part, .int .i64 x.tick, .bool x.on] 104))
  have hblk := blk_new W (.cells #[.int .i64 x.kind, .int .i64 x.dev, .int .i64 x.vec, .int .i64 x.part, .int .i64 x.tick, .bool x.on] 104)
  have hFa : ¬ F W.heap.size := fun hin => by have := h.a.at_.lt _ hin; omega
  have hGa : ¬ G W.heap.size := fun hin => by have := h.b.lt _ hin; omega
  have HP := Lib.hid hP; clear hP
  have HB := Lib.hid hblk; clear hblk h
  unfold UAct.val
  go_enter Try.func61, Try.ntmps61
  go_wp2_with fail
  refine (usRoute HP.out.a x.dev x.vec x.part).mono ?_
  rintro e w5 ⟨rfl, F5, a5, f5, k5⟩
  have hP5 := HP.out.sa a5 f5 k5
  have hb5 := k5.at HB.out hFa
  have c1 : w5.drew.cell? ⟨W.heap.size, 1, none⟩ = some (.int .i64 x.dev) := blk_cell hb5 1
  have c2 : w5.drew.cell? ⟨W.heap.size, 2, none⟩ = some (.int .i64 x.vec) := blk_cell hb5 2
  have c3 : w5.drew.cell? ⟨W.heap.size, 3, none⟩ = some (.int .i64 x.part) := blk_cell hb5 3
  have HP5 := Lib.hid hP5; clear hP5 a5 f5 k5 hb5
  clear HP HB
  have C1 := Lib.hid c1; clear c1
  have C2 := Lib.hid c2; clear c2
  have C3 := Lib.hid c3; clear c3
  go_wp2_with fail
  have c1 := C1.out
  have c2 := C2.out
  have c3 := C3.out
  go_region_held3 (fun W2 => W2.cell? ⟨W.heap.size, 1, none⟩ = some (.int .i64 x.dev) ∧ W2.cell? ⟨W.heap.size, 2, none⟩ = some (.int .i64 x.vec) ∧ W2.cell? ⟨W.heap.size, 3, none⟩ = some (.int .i64 x.part)) (first | exact ⟨c1, c2, c3⟩ | exact ⟨d1, d2, d3⟩) (first
    | (go_at_call 27; (with_reducible refine (num16 _ _).mono ?_); rintro e w6 ⟨rfl, rfl⟩)
    | (go_at_call 104; (with_reducible refine (ruRoute ru nd np x.dev x.vec x.part f S G _ (HP5.out.keepN ((Chg.refl _ _).drew)).b).mono ?_); rintro e w7 ⟨rfl, b7, k7⟩; have hP7 := (HP5.out.keepN ((Chg.refl _ _).drew)).sb b7 k7; have HP7 := Lib.hid hP7; clear hP7; have d1 := k7.cell (p := ⟨W.heap.size, 1, none⟩) c1 hGa; have d2 := k7.cell (p := ⟨W.heap.size, 2, none⟩) c2 hGa; have d3 := k7.cell (p := ⟨W.heap.size, 3, none⟩) c3 hGa; clear b7 k7))
  all_goals
    go_wp2_with fail
    go_ret
    exact ⟨rfl, _, _, _, HP7.out⟩
set_option maxRecDepth 100000 in
set_option maxHeartbeats 2000000 in
theorem stepUnroute (x : UAct) {w0 W : World} {u ru nd np : Nat} {f : Nat → Ent} {S : Nat → Nat → Bool} {F G : Nat → Prop} (h : UR w0 W u ru nd np f f S S F G) (hd : nd ≤ 4) (hn : np ≤ 4) (t0 : x.kind = 4) :
    Calls Try.prog 61 #[.pointer (some ⟨u, 0, none⟩), .pointer (some ⟨ru, 0, none⟩), x.val] W (UStepPost w0 u ru nd np G) := by
  have hP := h.keepN ((Chg.refl _ _).alloc (.cells #[.int .i64 x.kind, .int .i64 x.dev, .int .i64 x.vec, .int .i64 x.part, .int .i64 x.tick, .bool x.on] 104))
  have hblk := blk_new W (.cells #[.int .i64 x.kind, .int .i64 x.dev, .int .i64 x.vec, .int .i64 x.part, .int .i64 x.tick, .bool x.on] 104)
  have hFa : ¬ F W.heap.size := fun hin => by have := h.a.at_.lt _ hin; omega
  have hGa : ¬ G W.heap.size := fun hin => by have := h.b.lt _ hin; omega
  have HP := Lib.hid hP; clear hP
  have HB := Lib.hid hblk; clear hblk h
  have b0 : (x.kind == 4) = true := by simpa using t0
  have b1 : decide (x.kind < 4) = false := decide_eq_false (by omega)
  clear t0
  unfold UAct.val
  go_enter Try.func61, Try.ntmps61
  go_wp2_with fail
  refine (usUnroute HP.out.a hn x.dev x.vec).mono ?_
  rintro e w5 ⟨rfl, F5, a5, f5, k5⟩
  have hP5 := HP.out.sa a5 f5 k5
  have hb5 := k5.at HB.out hFa
  have c1 : w5.drew.cell? ⟨W.heap.size, 1, none⟩ = some (.int .i64 x.dev) := blk_cell hb5 1
  have c2 : w5.drew.cell? ⟨W.heap.size, 2, none⟩ = some (.int .i64 x.vec) := blk_cell hb5 2
  have HP5 := Lib.hid hP5; clear hP5 a5 f5 k5 hb5
  clear HP HB
  have C1 := Lib.hid c1; clear c1
  have C2 := Lib.hid c2; clear c2
  go_wp2_with fail
  have c1 := C1.out
  have c2 := C2.out
  go_region_held3 (fun W2 => W2.cell? ⟨W.heap.size, 1, none⟩ = some (.int .i64 x.dev) ∧ W2.cell? ⟨W.heap.size, 2, none⟩ = some (.int .i64 x.vec)) (first | exact ⟨c1, c2⟩ | exact ⟨d1, d2⟩) (first
    | (go_at_call 27; (with_reducible refine (num16 _ _).mono ?_); rintro e w6 ⟨rfl, rfl⟩)
    | (go_at_call 105; (with_reducible refine (ruUnroute ru nd np x.dev x.vec f S G _ (HP5.out.keepN ((Chg.refl _ _).drew)).b hd hn).mono ?_); rintro e w7 ⟨rfl, b7, k7⟩; have hP7 := (HP5.out.keepN ((Chg.refl _ _).drew)).sb b7 k7; have HP7 := Lib.hid hP7; clear hP7; have d1 := k7.cell (p := ⟨W.heap.size, 1, none⟩) c1 hGa; have d2 := k7.cell (p := ⟨W.heap.size, 2, none⟩) c2 hGa; clear b7 k7))
  all_goals
    go_wp2_with fail
    go_ret
    exact ⟨rfl, _, _, _, HP7.out⟩
set_option maxRecDepth 100000 in
set_option maxHeartbeats 2000000 in
theorem stepMask (x : UAct) {w0 W : World} {u ru nd np : Nat} {f : Nat → Ent} {S : Nat → Nat → Bool} {F G : Nat → Prop} (h : UR w0 W u ru nd np f f S S F G) (hd : nd ≤ 4) (hn : np ≤ 4) (t0 : 4 ≤ x.kind) (t1 : x.kind < 7) (t2 : (x.kind == 4) = false) :
    Calls Try.prog 61 #[.pointer (some ⟨u, 0, none⟩), .pointer (some ⟨ru, 0, none⟩), x.val] W (UStepPost w0 u ru nd np G) := by
  have hP := h.keepN ((Chg.refl _ _).alloc (.cells #[.int .i64 x.kind, .int .i64 x.dev, .int .i64 x.vec, .int .i64 x.part, .int .i64 x.tick, .bool x.on] 104))
  have hblk := blk_new W (.cells #[.int .i64 x.kind, .int .i64 x.dev, .int .i64 x.vec, .int .i64 x.part, .int .i64 x.tick, .bool x.on] 104)
  have hFa : ¬ F W.heap.size := fun hin => by have := h.a.at_.lt _ hin; omega
  have hGa : ¬ G W.heap.size := fun hin => by have := h.b.lt _ hin; omega
  have HP := Lib.hid hP; clear hP
  have HB := Lib.hid hblk; clear hblk h
  unfold UAct.val
  go_enter Try.func61, Try.ntmps61
  go_wp2_with fail
  refine (usMask HP.out.a x.dev x.vec x.on).mono ?_
  rintro e w5 ⟨rfl, F5, a5, f5, k5⟩
  have hP5 := HP.out.sa a5 f5 k5
  have hb5 := k5.at HB.out hFa
  have c1 : w5.drew.cell? ⟨W.heap.size, 1, none⟩ = some (.int .i64 x.dev) := blk_cell hb5 1
  have c2 : w5.drew.cell? ⟨W.heap.size, 2, none⟩ = some (.int .i64 x.vec) := blk_cell hb5 2
  have c5 : w5.drew.cell? ⟨W.heap.size, 5, none⟩ = some (.bool x.on) := blk_cell hb5 5
  have HP5 := Lib.hid hP5; clear hP5 a5 f5 k5 hb5
  clear HP HB
  have C1 := Lib.hid c1; clear c1
  have C2 := Lib.hid c2; clear c2
  have C5 := Lib.hid c5; clear c5
  go_wp2_with fail
  have c1 := C1.out
  have c2 := C2.out
  have c5 := C5.out
  go_region_held3 (fun W2 => W2.cell? ⟨W.heap.size, 1, none⟩ = some (.int .i64 x.dev) ∧ W2.cell? ⟨W.heap.size, 2, none⟩ = some (.int .i64 x.vec) ∧ W2.cell? ⟨W.heap.size, 5, none⟩ = some (.bool x.on)) (first | exact ⟨c1, c2, c5⟩ | exact ⟨d1, d2, d5⟩) (first
    | (go_at_call 27; (with_reducible refine (num16 _ _).mono ?_); rintro e w6 ⟨rfl, rfl⟩)
    | (go_at_call 106; (with_reducible refine (ruMask ru nd np x.dev x.vec x.on f S G _ (HP5.out.keepN ((Chg.refl _ _).drew)).b).mono ?_); rintro e w7 ⟨rfl, b7, k7⟩; have hP7 := (HP5.out.keepN ((Chg.refl _ _).drew)).sb b7 k7; have HP7 := Lib.hid hP7; clear hP7; have d1 := k7.cell (p := ⟨W.heap.size, 1, none⟩) c1 hGa; have d2 := k7.cell (p := ⟨W.heap.size, 2, none⟩) c2 hGa; have d5 := k7.cell (p := ⟨W.heap.size, 5, none⟩) c5 hGa; clear b7 k7))
  all_goals
    go_wp2_with fail
    go_ret
    exact ⟨rfl, _, _, _, HP7.out⟩
set_option maxRecDepth 100000 in
set_option maxHeartbeats 2000000 in
theorem stepRaise (x : UAct) {w0 W : World} {u ru nd np : Nat} {f : Nat → Ent} {S : Nat → Nat → Bool} {F G : Nat → Prop} (h : UR w0 W u ru nd np f f S S F G) (hd : nd ≤ 4) (hn : np ≤ 4) (t0 : 4 ≤ x.kind) (t1 : 7 ≤ x.kind) (t2 : x.kind < 12) (t3 : (x.kind == 4) = false) :
    Calls Try.prog 61 #[.pointer (some ⟨u, 0, none⟩), .pointer (some ⟨ru, 0, none⟩), x.val] W (UStepPost w0 u ru nd np G) := by
  have hP := h.keepN ((Chg.refl _ _).alloc (.cells #[.int .i64 x.kind, .int .i64 x.dev, .int .i64 x.vec, .int .i64 x.part, .int .i64 x.tick, .bool x.on] 104))
  have hblk := blk_new W (.cells #[.int .i64 x.kind, .int .i64 x.dev, .int .i64 x.vec, .int .i64 x.part, .int .i64 x.tick, .bool x.on] 104)
  have hFa : ¬ F W.heap.size := fun hin => by have := h.a.at_.lt _ hin; omega
  have hGa : ¬ G W.heap.size := fun hin => by have := h.b.lt _ hin; omega
  have HP := Lib.hid hP; clear hP
  have HB := Lib.hid hblk; clear hblk h
  unfold UAct.val
  go_enter Try.func61, Try.ntmps61
  go_wp2_with fail
  refine (usRaise HP.out.a hn x.dev x.vec x.part).mono ?_
  rintro e w5 ⟨rfl, F5, a5, f5, k5⟩
  have hP5 := HP.out.sa a5 f5 k5
  have hb5 := k5.at HB.out hFa
  have c1 : w5.drew.cell? ⟨W.heap.size, 1, none⟩ = some (.int .i64 x.dev) := blk_cell hb5 1
  have c2 : w5.drew.cell? ⟨W.heap.size, 2, none⟩ = some (.int .i64 x.vec) := blk_cell hb5 2
  have c3 : w5.drew.cell? ⟨W.heap.size, 3, none⟩ = some (.int .i64 x.part) := blk_cell hb5 3
  have HP5 := Lib.hid hP5; clear hP5 a5 f5 k5 hb5
  clear HP HB
  have C1 := Lib.hid c1; clear c1
  have C2 := Lib.hid c2; clear c2
  have C3 := Lib.hid c3; clear c3
  go_wp2_with fail
  have c1 := C1.out
  have c2 := C2.out
  have c3 := C3.out
  go_region_held3 (fun W2 => W2.cell? ⟨W.heap.size, 1, none⟩ = some (.int .i64 x.dev) ∧ W2.cell? ⟨W.heap.size, 2, none⟩ = some (.int .i64 x.vec) ∧ W2.cell? ⟨W.heap.size, 3, none⟩ = some (.int .i64 x.part)) (first | exact ⟨c1, c2, c3⟩ | exact ⟨d1, d2, d3⟩) (first
    | (go_at_call 27; (with_reducible refine (num16 _ _).mono ?_); rintro e w6 ⟨rfl, rfl⟩)
    | (go_at_call 107; (with_reducible refine (ruRaise ru nd np x.dev x.vec x.part f S G _ (HP5.out.keepN ((Chg.refl _ _).drew)).b hn).mono ?_); rintro e w7 ⟨rfl, b7, k7⟩; have hP7 := (HP5.out.keepN ((Chg.refl _ _).drew)).sb b7 k7; have HP7 := Lib.hid hP7; clear hP7; have d1 := k7.cell (p := ⟨W.heap.size, 1, none⟩) c1 hGa; have d2 := k7.cell (p := ⟨W.heap.size, 2, none⟩) c2 hGa; have d3 := k7.cell (p := ⟨W.heap.size, 3, none⟩) c3 hGa; clear b7 k7))
  all_goals
    go_wp2_with fail
    go_ret
    exact ⟨rfl, _, _, _, HP7.out⟩
set_option maxRecDepth 100000 in
set_option maxHeartbeats 2000000 in
theorem stepClear (x : UAct) {w0 W : World} {u ru nd np : Nat} {f : Nat → Ent} {S : Nat → Nat → Bool} {F G : Nat → Prop} (h : UR w0 W u ru nd np f f S S F G) (hd : nd ≤ 4) (hn : np ≤ 4) (t0 : 4 ≤ x.kind) (t1 : 7 ≤ x.kind) (t2 : 12 ≤ x.kind) (t3 : (x.kind == 4) = false) (t4 : (x.kind == 12) = false) :
    Calls Try.prog 61 #[.pointer (some ⟨u, 0, none⟩), .pointer (some ⟨ru, 0, none⟩), x.val] W (UStepPost w0 u ru nd np G) := by
  have hP := h.keepN ((Chg.refl _ _).alloc (.cells #[.int .i64 x.kind, .int .i64 x.dev, .int .i64 x.vec, .int .i64 x.part, .int .i64 x.tick, .bool x.on] 104))
  have hblk := blk_new W (.cells #[.int .i64 x.kind, .int .i64 x.dev, .int .i64 x.vec, .int .i64 x.part, .int .i64 x.tick, .bool x.on] 104)
  have hFa : ¬ F W.heap.size := fun hin => by have := h.a.at_.lt _ hin; omega
  have hGa : ¬ G W.heap.size := fun hin => by have := h.b.lt _ hin; omega
  have HP := Lib.hid hP; clear hP
  have HB := Lib.hid hblk; clear hblk h
  unfold UAct.val
  go_enter Try.func61, Try.ntmps61
  go_wp2_with fail
  refine (usClear HP.out.a hn x.dev).mono ?_
  rintro e w5 ⟨rfl, F5, a5, f5, k5⟩
  have hP5 := HP.out.sa a5 f5 k5
  have hb5 := k5.at HB.out hFa
  have c1 : w5.drew.cell? ⟨W.heap.size, 1, none⟩ = some (.int .i64 x.dev) := blk_cell hb5 1
  have HP5 := Lib.hid hP5; clear hP5 a5 f5 k5 hb5
  clear HP HB
  have C1 := Lib.hid c1; clear c1
  go_wp2_with fail
  have c1 := C1.out
  go_region_held3 (fun W2 => W2.cell? ⟨W.heap.size, 1, none⟩ = some (.int .i64 x.dev)) (first | exact c1 | exact d1) (first
    | (go_at_call 27; (with_reducible refine (num16 _ _).mono ?_); rintro e w6 ⟨rfl, rfl⟩)
    | (go_at_call 108; (with_reducible refine (ruClear ru nd np x.dev f S G _ (HP5.out.keepN ((Chg.refl _ _).drew)).b hn).mono ?_); rintro e w7 ⟨rfl, b7, k7⟩; have hP7 := (HP5.out.keepN ((Chg.refl _ _).drew)).sb b7 k7; have HP7 := Lib.hid hP7; clear hP7; have d1 := k7.cell (p := ⟨W.heap.size, 1, none⟩) c1 hGa; clear b7 k7))
  all_goals
    go_wp2_with fail
    go_ret
    exact ⟨rfl, _, _, _, HP7.out⟩
set_option maxRecDepth 100000 in
set_option maxHeartbeats 2000000 in
theorem stepDeliver (x : UAct) {w0 W : World} {u ru nd np : Nat} {f : Nat → Ent} {S : Nat → Nat → Bool} {F G : Nat → Prop} (h : UR w0 W u ru nd np f f S S F G) (hd : nd ≤ 4) (hn : np ≤ 4) (t0 : 4 ≤ x.kind) (t1 : 7 ≤ x.kind) (t2 : 12 ≤ x.kind) (t3 : (x.kind == 4) = false) (t4 : (x.kind == 12) = true) :
    Calls Try.prog 61 #[.pointer (some ⟨u, 0, none⟩), .pointer (some ⟨ru, 0, none⟩), x.val] W (UStepPost w0 u ru nd np G) := by
  have hP := h.keepN ((Chg.refl _ _).alloc (.cells #[.int .i64 x.kind, .int .i64 x.dev, .int .i64 x.vec, .int .i64 x.part, .int .i64 x.tick, .bool x.on] 104))
  have hblk := blk_new W (.cells #[.int .i64 x.kind, .int .i64 x.dev, .int .i64 x.vec, .int .i64 x.part, .int .i64 x.tick, .bool x.on] 104)
  have hFa : ¬ F W.heap.size := fun hin => by have := h.a.at_.lt _ hin; omega
  have hGa : ¬ G W.heap.size := fun hin => by have := h.b.lt _ hin; omega
  have HP := Lib.hid hP; clear hP
  have HB := Lib.hid hblk; clear hblk h
  unfold UAct.val
  go_enter Try.func61, Try.ntmps61
  go_wp2_with fail
  refine (usDeliver HP.out.a hn x.part x.tick).mono ?_
  rintro e w5 ⟨v, rfl, o5, F5, a5, f5, V5, k5⟩
  have hP5 := HP.out.sa a5 f5 k5
  have hb5 := k5.at HB.out hFa
  have c3 := blk_cell hb5 3
  have c4 := blk_cell hb5 4
  have hGv : ∀ k, v.ownBlock = some k → ¬ G k := fun k hk hG => by have := o5.ge hk; have := HP.out.b.lt k hG; omega
  have h0v : ∀ k, v.ownBlock = some k → w0.heap.size ≤ k := fun k hk => by have := o5.ge hk; have := HP.out.a.chg.size; omega
  have HV := Lib.hid (And.intro (fun k hk => (V5.free k hk).1) (And.intro hGv h0v))
  have HO5 := Lib.hid o5; clear o5
  have HP5 := Lib.hid hP5; clear hP5 a5 f5 k5 hb5 V5 hGv h0v
  clear HP HB
  go_wp2_with fail
  refine (ruDeliver ru nd np x.part x.tick f S G _ HP5.out.b hd hn).mono ?_
  rintro e w6 ⟨v6, rfl, o6, b6, k6⟩
  have hP6 := HP5.out.sb b6 k6
  have hO6 := HO5.out.keep k6 (fun k hk e => HV.out.2.1 k hk e)
  have hsm := sameYes v v6 _ _ (RdI.of hO6) (RdI.of o6) (Nat.le_trans (tkL_len _ _ _ _ _) (by decide))
  have HO6 := Lib.hid hO6; clear hO6
  have HP6 := Lib.hid hP6; clear hP6
  have HS := Lib.hid hsm; clear hsm o6 b6 k6
  clear c3 c4 HP5 HO5
  go_wp2_with fail
  refine HS.out.mono ?_
  rintro e w7 ⟨rfl, k7⟩
  have hP7 := HP6.out.keepN k7
  have hsp := spoilIrqs _ v _ w7 (HO6.out.keep k7 (fun _ _ => id)) (Nat.le_trans (tkL_len _ _ _ _ _) (by decide))
  have HP7 := Lib.hid hP7; clear hP7
  have HSP := Lib.hid hsp; clear hsp k7
  clear HP6 HO6 HS
  go_wp2_with fail
  refine HSP.out.mono ?_
  rintro e w8 ⟨rfl, k8⟩
  have hP8 := HP7.out.other k8 (fun k hk => ⟨HV.out.1 k hk.symm, HV.out.2.1 k hk.symm, HV.out.2.2 k hk.symm⟩)
  have HP8 := Lib.hid hP8; clear hP8 k8
  clear HP7 HSP
  go_wp2_with fail
  go_ret
  exact ⟨rfl, _, _, _, HP8.out⟩
theorem step_any (x : UAct) {w0 W : World} {u ru nd np : Nat} {f : Nat → Ent} {S : Nat → Nat → Bool} {F G : Nat → Prop} (h : UR w0 W u ru nd np f f S S F G) (hd : nd ≤ 4) (hn : np ≤ 4) :
    Calls Try.prog 61 #[.pointer (some ⟨u, 0, none⟩), .pointer (some ⟨ru, 0, none⟩), x.val] W (UStepPost w0 u ru nd np G) := by
  by_cases h4 : x.kind < 4
  · exact stepRoute x h hd hn h4
  · by_cases e4 : x.kind = 4
    · exact stepUnroute x h hd hn e4
    · have n4 : (x.kind == 4) = false := by simpa using e4
      by_cases h7 : x.kind < 7
      · exact stepMask x h hd hn (by omega) h7 n4
      · by_cases h12 : x.kind < 12
        · exact stepRaise x h hd hn (by omega) (by omega) h12 n4
        · by_cases e12 : x.kind = 12
          · exact stepDeliver x h hd hn (by omega) (by omega) (by omega) n4 (by simpa using e12)
          · exact stepClear x h hd hn (by omega) (by omega) (by omega) n4 (by simpa using e12)
end Go.Proofs.Ytpnhdiajiieonaa
