/- The law Remaps. -/
import Derived.Test.YtochadejlglfgaaRemap6
import Derived.Test.YtochadejlglfgaaOpen
namespace Go.Proofs.Ytochadejlglfgaa
open Go.RowKit Go.ChangeShapes Go.WideShapes Go.Deep

structure RAct where
  kind : Int
  device : Int
  vector : Int
  part : Int
  on : Bool
def RAct.cells (f : RAct) : List Value := [.int .i64 f.kind, .int .i64 f.device, .int .i64 f.vector, .int .i64 f.part, .bool f.on]

theorem ractAddr {w : World} {A : Option Addr} {xs : List RAct} (h : RowC w A (xs.flatMap RAct.cells)) {t : Nat} (ht : t < xs.length) : ∃ b o, A = some ⟨b, o, none⟩ := by
  have h0 := flat_get RAct.cells 5 (fun _ => rfl) 0 (by omega) xs t
  rw [List.getElem?_eq_getElem (l := xs) ht, Option.bind_some] at h0
  obtain ⟨b, o, e, _⟩ := h _ _ h0
  exact ⟨b, o, e⟩
theorem ractCell {w : World} {b o : Nat} {xs : List RAct} (h : RowC w (some ⟨b, o, none⟩) (xs.flatMap RAct.cells)) (k : Nat) (hk : k < xs.length) :
    w.cell? ⟨b, o + k * 5, none⟩ = some (.int .i64 xs[k].kind) ∧ w.cell? ⟨b, o + k * 5 + 1, none⟩ = some (.int .i64 xs[k].device) ∧ w.cell? ⟨b, o + k * 5 + 2, none⟩ = some (.int .i64 xs[k].vector) ∧ w.cell? ⟨b, o + k * 5 + 3, none⟩ = some (.int .i64 xs[k].part) ∧ w.cell? ⟨b, o + k * 5 + 4, none⟩ = some (.bool xs[k].on) := by
  have key : ∀ j u, j < 5 → xs[k].cells[j]? = some u → w.cell? ⟨b, o + k * 5 + j, none⟩ = some u := fun j u hj hu => by
    have h0 := flat_get RAct.cells 5 (fun _ => rfl) j hj xs k
    rw [List.getElem?_eq_getElem hk, Option.bind_some, hu] at h0
    obtain ⟨b', o', e, hc⟩ := h _ _ h0
    injection e with e; injection e with e1 e2; subst e1; subst e2
    rw [Nat.add_assoc]; exact hc
  exact ⟨key 0 _ (by omega) rfl, key 1 _ (by omega) rfl, key 2 _ (by omega) rfl, key 3 _ (by omega) rfl, key 4 _ (by omega) rfl⟩

set_option maxRecDepth 100000 in
set_option maxHeartbeats 1000000 in
theorem remaps_bad (n : Int) (A : Option Addr) (c : Nat) (xs : List RAct) (w : World) (h : ¬ (1 ≤ n ∧ n ≤ 4)) :
    Calls Try.prog 5 #[.int .i64 n, .slice A xs.length c] w fun e w' => e = .returned (.bool true) ∧ Chg (fun _ => False) w w' := by
  go_enter Try.func5, Try.ntmps5
  go_wp2_with fail
  refine (new24_no n w h).mono ?_
  rintro e w1 ⟨rfl, rfl⟩
  go_wp2_with fail
  refine (new25_no n w h).mono ?_
  rintro e w1 ⟨rfl, rfl⟩
  go_wp2_with fail
  refine (num16 _ _).mono ?_
  rintro e w1 ⟨rfl, rfl⟩
  go_wp2_with fail
  refine (awake26 _).mono ?_
  rintro e w1 ⟨rfl, hC⟩
  go_wp2
  go_ret
  exact ⟨rfl, hC⟩

set_option maxRecDepth 100000 in
set_option maxHeartbeats 4000000 in
theorem remaps_good (n : Nat) (A : Option Addr) (c : Nat) (xs : List RAct) (w : World) (h1 : 1 ≤ n) (h2 : n ≤ 4) (hn : xs.length ≤ 9223372036854775807) (hr : RowC w A (xs.flatMap RAct.cells)) :
    Calls Try.prog 5 #[.int .i64 n, .slice A xs.length c] w fun e w' => e = .returned (.bool true) ∧ Chg (fun _ => False) w w' := by
  go_enter Try.func5, Try.ntmps5
  go_wp2_with fail
  refine (new24_ok n w h1 h2).mono ?_
  rintro e w1 ⟨rfl, hL, hs1, hC1⟩
  go_wp2_with fail
  refine (new25_ok n w1 h1 h2).mono ?_
  rintro e w2 ⟨rfl, hR, _, hC2⟩
  rw [hs1] at hR ⊢
  have hL2 := hL.keep hC2 id id
  have hC3 := hC1.trans hC2
  clear hL hC1 hC2 hs1
  obtain ⟨B, hB⟩ : ∃ B, B = w.heap.size := ⟨_, rfl⟩
  rw [← hB] at hL2 hR ⊢
  have HB := Lib.hid hB; clear hB
  go_wp2_with fail
  refine (num16 _ _).mono ?_
  rintro e w3 ⟨rfl, rfl⟩
  go_wp2_with fail
  go_loopw [9] (fun i wr => ∃ k : Nat, k ≤ xs.length ∧ i = .int .i64 k ∧ ∃ f, TabAt wr 101 115 (B + 1) B n f ∧ TabAt wr 104 112 (B + 2 + 1) (B + 2) n f ∧ Chg (fun _ => False) w wr) (fun i _ => xs.length - (intOf i).toNat)
  case atStart => exact ⟨0, by omega, rfl, _, hL2, hR, hC3⟩
  case round =>
    clear hL2 hR hC3
    obtain ⟨k, hk, rfl, f, hl, hr', hC⟩ := hrel
    by_cases hlt : k < xs.length
    · obtain ⟨b, o, rfl⟩ := ractAddr hr hlt
      have hf := ractCell hr k hlt
      by_cases h60 : k < 60
      · generalize xs[k] = a at hf
        obtain ⟨c0, c1, c2, c3, c4⟩ := hf
        replace c0 := hC.cell c0 id
        replace c1 := hC.cell c1 id
        replace c2 := hC.cell c2 id
        replace c3 := hC.cell c3 id
        replace c4 := hC.cell c4 id
        by_cases hk4 : a.kind < 4
        · skip
          go_wp2_with fail
          clear c0 c1 c2 c3 c4
          refine calls_abs (fun W => TabAt W 101 115 (B + 1) B n f ∧ TabAt W 104 112 (B + 2 + 1) (B + 2) n f ∧ W.heap[wr.heap.size]? = some (.cells #[.int .i64 a.kind, .int .i64 a.device, .int .i64 a.vector, .int .i64 a.part, .bool a.on] 50 (0, 0)) ∧ Chg (fun _ => False) w W) ⟨hl.keep (S := fun _ => False) ((Chg.refl _ _).alloc _) id id, hr'.keep (S := fun _ => False) ((Chg.refl _ _).alloc _) id id, blk_new _ _, hC.alloc _⟩ ?_
          have hqB := hr'.lt.1
          clear hl hr' hC
          rintro W ⟨hl, hr', hq, hC⟩
          generalize wr.heap.size = q at *
          refine (set27 _ _ n f a.device a.vector a.part W hl).mono ?_
          rintro e w4 ⟨rfl, hl4, hC4⟩
          have hr4 := hr'.keep hC4 (by omega) (by omega)
          replace hq := hC4.at hq (by omega)
          have hCw4 : Chg (fun _ => False) w w4 := hC.trans' hC4 (fun j hj h => by have := HB.out; omega)
          clear hl hr' hC hC4
          have ca0 : w4.cell? ⟨q, 0, none⟩ = some (.int .i64 a.kind) := blk_cell hq 0
          have ca1 : w4.cell? ⟨q, 1, none⟩ = some (.int .i64 a.device) := blk_cell hq 1
          have ca2 : w4.cell? ⟨q, 2, none⟩ = some (.int .i64 a.vector) := blk_cell hq 2
          have ca3 : w4.cell? ⟨q, 3, none⟩ = some (.int .i64 a.part) := blk_cell hq 3
          have ca4 : w4.cell? ⟨q, 4, none⟩ = some (.bool a.on) := blk_cell hq 4
          have HQ := Lib.hid hq; clear hq
          go_wp2_with fail
          refine (num16 _ _).mono ?_
          rintro e w5 ⟨rfl, rfl⟩
          go_wp2_with fail
          refine (set28 _ _ n f a.device a.vector a.part w4 hr4).mono ?_
          rintro e w5 ⟨rfl, hr5, hC5⟩
          have hl5 := hl4.keep hC5 (by omega) (by omega)
          have hq := hC5.at HQ.out (by omega)
          have hCw5 : Chg (fun _ => False) w w5 := hCw4.trans' hC5 (fun j hj h => by have := HB.out; omega)
          clear hl4 hr4 hCw4 hC5 HQ ca0 ca1 ca2 ca3 ca4
          have hfn : ∃ f', setF n a.device a.vector a.part f = f' := ⟨_, rfl⟩
          obtain ⟨f', hf'⟩ := hfn
          rw [hf'] at hl5 hr5
          clear hf'
          have ca0 : w5.cell? ⟨q, 0, none⟩ = some (.int .i64 a.kind) := blk_cell hq 0
          have ca1 : w5.cell? ⟨q, 1, none⟩ = some (.int .i64 a.device) := blk_cell hq 1
          have ca2 : w5.cell? ⟨q, 2, none⟩ = some (.int .i64 a.vector) := blk_cell hq 2
          have ca3 : w5.cell? ⟨q, 3, none⟩ = some (.int .i64 a.part) := blk_cell hq 3
          have ca4 : w5.cell? ⟨q, 4, none⟩ = some (.bool a.on) := blk_cell hq 4
          have HQ := Lib.hid hq; clear hq
          go_wp2_with fail
          go_loopw [17] (fun i wq => ∃ dd : Int, -1 ≤ dd ∧ dd ≤ n + 1 ∧ i = .int .i64 dd ∧ TabAt wq 101 115 (B + 1) B n f' ∧ TabAt wq 104 112 (B + 2 + 1) (B + 2) n f' ∧ wq.heap[q]? = some (.cells #[.int .i64 a.kind, .int .i64 a.device, .int .i64 a.vector, .int .i64 a.part, .bool a.on] 50 (0, 0)) ∧ Chg (fun _ => False) w wq) (fun i _ => (n + 1 - intOf i).toNat)
          case atStart => exact ⟨-1, by omega, by omega, rfl, hl5, hr5, HQ.out, hCw5⟩
          case round =>
            clear hl5 hr5 HQ hCw5 ca0 ca1 ca2 ca3 ca4
            rename_i wq _
            obtain ⟨dd, hd0, hd1, rfl, hl, hr', hq, hC⟩ := hrel
            by_cases hdn : dd ≤ n
            · have ca2 := (blk_cell hq 2)
              simp at ca2
              go_wp2_with fail
              refine (look35c _ _ n f' dd a.vector wr hl).mono ?_
              rintro e w6 ⟨rfl, hl6, hC6⟩
              have hr6 := hr'.keep hC6 id id
              have hq6 := hC6.at hq id
              have hCw6 := hC.trans hC6
              clear hl hr' hq hC hC6 ca2
              have ca2 := (blk_cell hq6 2)
              simp at ca2
              go_wp2_with fail
              refine (look36c _ _ n f' dd a.vector w6 hr6).mono ?_
              rintro e w7 ⟨rfl, hr7, hC7⟩
              have hl7 := hl6.keep hC7 id id
              have hq7 := hC7.at hq6 id
              have hCw7 := hCw6.trans hC7
              clear hl6 hr6 hq6 hCw6 hC7 ca2
              generalize lookP n dd a.vector f' = x1 at *
              generalize lookM n dd a.vector f' = x2 at *
              generalize entE n dd a.vector f' = x3 at *
              have HQ := Lib.hid hq7; clear hq7
              go_wp2_with fail
              refine (num16 _ _).mono ?_
              rintro e w8 ⟨rfl, rfl⟩
              go_wp2
              go_roundw
              case rel => exact ⟨dd + 1, by omega, by omega, rfl, hl7, hr7, HQ.out, hCw7⟩
              case measure => simp [intOf]; omega
            · clear hq
              go_wp2
              go_roundw
              case rel => exact ⟨k + 1, by omega, by go_num, f', hl, hr', hC⟩
              case measure => simp [intOf]; omega
        · by_cases hk5 : a.kind = 4
          · skip
            go_wp2_with fail
            clear c0 c1 c2 c3 c4
            refine calls_abs (fun W => TabAt W 101 115 (B + 1) B n f ∧ TabAt W 104 112 (B + 2 + 1) (B + 2) n f ∧ W.heap[wr.heap.size]? = some (.cells #[.int .i64 4, .int .i64 a.device, .int .i64 a.vector, .int .i64 a.part, .bool a.on] 50 (0, 0)) ∧ Chg (fun _ => False) w W) ⟨hl.keep (S := fun _ => False) ((Chg.refl _ _).alloc _) id id, hr'.keep (S := fun _ => False) ((Chg.refl _ _).alloc _) id id, blk_new _ _, hC.alloc _⟩ ?_
            have hqB := hr'.lt.1
            clear hl hr' hC
            rintro W ⟨hl, hr', hq, hC⟩
            generalize wr.heap.size = q at *
            refine (unset29 _ _ n f a.device a.vector W hl).mono ?_
            rintro e w4 ⟨rfl, hl4, hC4⟩
            have hr4 := hr'.keep hC4 (by omega) (by omega)
            replace hq := hC4.at hq (by omega)
            have hCw4 : Chg (fun _ => False) w w4 := hC.trans' hC4 (fun j hj h => by have := HB.out; omega)
            clear hl hr' hC hC4
            have ca0 : w4.cell? ⟨q, 0, none⟩ = some (.int .i64 4) := blk_cell hq 0
            have ca1 : w4.cell? ⟨q, 1, none⟩ = some (.int .i64 a.device) := blk_cell hq 1
            have ca2 : w4.cell? ⟨q, 2, none⟩ = some (.int .i64 a.vector) := blk_cell hq 2
            have ca3 : w4.cell? ⟨q, 3, none⟩ = some (.int .i64 a.part) := blk_cell hq 3
            have ca4 : w4.cell? ⟨q, 4, none⟩ = some (.bool a.on) := blk_cell hq 4
            have HQ := Lib.hid hq; clear hq
            go_wp2_with fail
            refine (num16 _ _).mono ?_
            rintro e w5 ⟨rfl, rfl⟩
            go_wp2_with fail
            refine (unset30 _ _ n f a.device a.vector w4 hr4).mono ?_
            rintro e w5 ⟨rfl, hr5, hC5⟩
            have hl5 := hl4.keep hC5 (by omega) (by omega)
            have hq := hC5.at HQ.out (by omega)
            have hCw5 : Chg (fun _ => False) w w5 := hCw4.trans' hC5 (fun j hj h => by have := HB.out; omega)
            clear hl4 hr4 hCw4 hC5 HQ ca0 ca1 ca2 ca3 ca4
            have hfn : ∃ f', unsetF n a.device a.vector f = f' := ⟨_, rfl⟩
            obtain ⟨f', hf'⟩ := hfn
            rw [hf'] at hl5 hr5
            clear hf'
            have ca0 : w5.cell? ⟨q, 0, none⟩ = some (.int .i64 4) := blk_cell hq 0
            have ca1 : w5.cell? ⟨q, 1, none⟩ = some (.int .i64 a.device) := blk_cell hq 1
            have ca2 : w5.cell? ⟨q, 2, none⟩ = some (.int .i64 a.vector) := blk_cell hq 2
            have ca3 : w5.cell? ⟨q, 3, none⟩ = some (.int .i64 a.part) := blk_cell hq 3
            have ca4 : w5.cell? ⟨q, 4, none⟩ = some (.bool a.on) := blk_cell hq 4
            have HQ := Lib.hid hq; clear hq
            go_wp2_with fail
            go_loopw [17] (fun i wq => ∃ dd : Int, -1 ≤ dd ∧ dd ≤ n + 1 ∧ i = .int .i64 dd ∧ TabAt wq 101 115 (B + 1) B n f' ∧ TabAt wq 104 112 (B + 2 + 1) (B + 2) n f' ∧ wq.heap[q]? = some (.cells #[.int .i64 4, .int .i64 a.device, .int .i64 a.vector, .int .i64 a.part, .bool a.on] 50 (0, 0)) ∧ Chg (fun _ => False) w wq) (fun i _ => (n + 1 - intOf i).toNat)
            case atStart => exact ⟨-1, by omega, by omega, rfl, hl5, hr5, HQ.out, hCw5⟩
            case round =>
              clear hl5 hr5 HQ hCw5 ca0 ca1 ca2 ca3 ca4
              rename_i wq _
              obtain ⟨dd, hd0, hd1, rfl, hl, hr', hq, hC⟩ := hrel
              by_cases hdn : dd ≤ n
              · have ca2 := (blk_cell hq 2)
                simp at ca2
                go_wp2_with fail
                refine (look35c _ _ n f' dd a.vector wr hl).mono ?_
                rintro e w6 ⟨rfl, hl6, hC6⟩
                have hr6 := hr'.keep hC6 id id
                have hq6 := hC6.at hq id
                have hCw6 := hC.trans hC6
                clear hl hr' hq hC hC6 ca2
                have ca2 := (blk_cell hq6 2)
                simp at ca2
                go_wp2_with fail
                refine (look36c _ _ n f' dd a.vector w6 hr6).mono ?_
                rintro e w7 ⟨rfl, hr7, hC7⟩
                have hl7 := hl6.keep hC7 id id
                have hq7 := hC7.at hq6 id
                have hCw7 := hCw6.trans hC7
                clear hl6 hr6 hq6 hCw6 hC7 ca2
                generalize lookP n dd a.vector f' = x1 at *
                generalize lookM n dd a.vector f' = x2 at *
                generalize entE n dd a.vector f' = x3 at *
                have HQ := Lib.hid hq7; clear hq7
                go_wp2_with fail
                refine (num16 _ _).mono ?_
                rintro e w8 ⟨rfl, rfl⟩
                go_wp2
                go_roundw
                case rel => exact ⟨dd + 1, by omega, by omega, rfl, hl7, hr7, HQ.out, hCw7⟩
                case measure => simp [intOf]; omega
              · clear hq
                go_wp2
                go_roundw
                case rel => exact ⟨k + 1, by omega, by go_num, f', hl, hr', hC⟩
                case measure => simp [intOf]; omega
          · by_cases hk8 : a.kind < 8
            · have hk4b : (a.kind == 4) = false := by simp; omega
              go_wp2_with fail
              clear c0 c1 c2 c3 c4
              refine calls_abs (fun W => TabAt W 101 115 (B + 1) B n f ∧ TabAt W 104 112 (B + 2 + 1) (B + 2) n f ∧ W.heap[wr.heap.size]? = some (.cells #[.int .i64 a.kind, .int .i64 a.device, .int .i64 a.vector, .int .i64 a.part, .bool a.on] 50 (0, 0)) ∧ Chg (fun _ => False) w W) ⟨hl.keep (S := fun _ => False) ((Chg.refl _ _).alloc _) id id, hr'.keep (S := fun _ => False) ((Chg.refl _ _).alloc _) id id, blk_new _ _, hC.alloc _⟩ ?_
              have hqB := hr'.lt.1
              clear hl hr' hC
              rintro W ⟨hl, hr', hq, hC⟩
              generalize wr.heap.size = q at *
              refine (mask31 _ _ n f a.device a.vector a.on W hl).mono ?_
              rintro e w4 ⟨rfl, hl4, hC4⟩
              have hr4 := hr'.keep hC4 (by omega) (by omega)
              replace hq := hC4.at hq (by omega)
              have hCw4 : Chg (fun _ => False) w w4 := hC.trans' hC4 (fun j hj h => by have := HB.out; omega)
              clear hl hr' hC hC4
              have ca0 : w4.cell? ⟨q, 0, none⟩ = some (.int .i64 a.kind) := blk_cell hq 0
              have ca1 : w4.cell? ⟨q, 1, none⟩ = some (.int .i64 a.device) := blk_cell hq 1
              have ca2 : w4.cell? ⟨q, 2, none⟩ = some (.int .i64 a.vector) := blk_cell hq 2
              have ca3 : w4.cell? ⟨q, 3, none⟩ = some (.int .i64 a.part) := blk_cell hq 3
              have ca4 : w4.cell? ⟨q, 4, none⟩ = some (.bool a.on) := blk_cell hq 4
              have HQ := Lib.hid hq; clear hq
              go_wp2_with fail
              refine (num16 _ _).mono ?_
              rintro e w5 ⟨rfl, rfl⟩
              go_wp2_with fail
              refine (mask32 _ _ n f a.device a.vector a.on w4 hr4).mono ?_
              rintro e w5 ⟨rfl, hr5, hC5⟩
              have hl5 := hl4.keep hC5 (by omega) (by omega)
              have hq := hC5.at HQ.out (by omega)
              have hCw5 : Chg (fun _ => False) w w5 := hCw4.trans' hC5 (fun j hj h => by have := HB.out; omega)
              clear hl4 hr4 hCw4 hC5 HQ ca0 ca1 ca2 ca3 ca4
              have hfn : ∃ f', maskF n a.device a.vector a.on f = f' := ⟨_, rfl⟩
              obtain ⟨f', hf'⟩ := hfn
              rw [hf'] at hl5 hr5
              clear hf'
              have ca0 : w5.cell? ⟨q, 0, none⟩ = some (.int .i64 a.kind) := blk_cell hq 0
              have ca1 : w5.cell? ⟨q, 1, none⟩ = some (.int .i64 a.device) := blk_cell hq 1
              have ca2 : w5.cell? ⟨q, 2, none⟩ = some (.int .i64 a.vector) := blk_cell hq 2
              have ca3 : w5.cell? ⟨q, 3, none⟩ = some (.int .i64 a.part) := blk_cell hq 3
              have ca4 : w5.cell? ⟨q, 4, none⟩ = some (.bool a.on) := blk_cell hq 4
              have HQ := Lib.hid hq; clear hq
              go_wp2_with fail
              go_loopw [17] (fun i wq => ∃ dd : Int, -1 ≤ dd ∧ dd ≤ n + 1 ∧ i = .int .i64 dd ∧ TabAt wq 101 115 (B + 1) B n f' ∧ TabAt wq 104 112 (B + 2 + 1) (B + 2) n f' ∧ wq.heap[q]? = some (.cells #[.int .i64 a.kind, .int .i64 a.device, .int .i64 a.vector, .int .i64 a.part, .bool a.on] 50 (0, 0)) ∧ Chg (fun _ => False) w wq) (fun i _ => (n + 1 - intOf i).toNat)
              case atStart => exact ⟨-1, by omega, by omega, rfl, hl5, hr5, HQ.out, hCw5⟩
              case round =>
                clear hl5 hr5 HQ hCw5 ca0 ca1 ca2 ca3 ca4
                rename_i wq _
                obtain ⟨dd, hd0, hd1, rfl, hl, hr', hq, hC⟩ := hrel
                by_cases hdn : dd ≤ n
                · have ca2 := (blk_cell hq 2)
                  simp at ca2
                  go_wp2_with fail
                  refine (look35c _ _ n f' dd a.vector wr hl).mono ?_
                  rintro e w6 ⟨rfl, hl6, hC6⟩
                  have hr6 := hr'.keep hC6 id id
                  have hq6 := hC6.at hq id
                  have hCw6 := hC.trans hC6
                  clear hl hr' hq hC hC6 ca2
                  have ca2 := (blk_cell hq6 2)
                  simp at ca2
                  go_wp2_with fail
                  refine (look36c _ _ n f' dd a.vector w6 hr6).mono ?_
                  rintro e w7 ⟨rfl, hr7, hC7⟩
                  have hl7 := hl6.keep hC7 id id
                  have hq7 := hC7.at hq6 id
                  have hCw7 := hCw6.trans hC7
                  clear hl6 hr6 hq6 hCw6 hC7 ca2
                  generalize lookP n dd a.vector f' = x1 at *
                  generalize lookM n dd a.vector f' = x2 at *
                  generalize entE n dd a.vector f' = x3 at *
                  have HQ := Lib.hid hq7; clear hq7
                  go_wp2_with fail
                  refine (num16 _ _).mono ?_
                  rintro e w8 ⟨rfl, rfl⟩
                  go_wp2
                  go_roundw
                  case rel => exact ⟨dd + 1, by omega, by omega, rfl, hl7, hr7, HQ.out, hCw7⟩
                  case measure => simp [intOf]; omega
                · clear hq
                  go_wp2
                  go_roundw
                  case rel => exact ⟨k + 1, by omega, by go_num, f', hl, hr', hC⟩
                  case measure => simp [intOf]; omega
            · have hk4b : (a.kind == 4) = false := by simp; omega
              go_wp2_with fail
              clear c0 c1 c2 c3 c4
              refine calls_abs (fun W => TabAt W 101 115 (B + 1) B n f ∧ TabAt W 104 112 (B + 2 + 1) (B + 2) n f ∧ W.heap[wr.heap.size]? = some (.cells #[.int .i64 a.kind, .int .i64 a.device, .int .i64 a.vector, .int .i64 a.part, .bool a.on] 50 (0, 0)) ∧ Chg (fun _ => False) w W) ⟨hl.keep (S := fun _ => False) ((Chg.refl _ _).alloc _) id id, hr'.keep (S := fun _ => False) ((Chg.refl _ _).alloc _) id id, blk_new _ _, hC.alloc _⟩ ?_
              have hqB := hr'.lt.1
              clear hl hr' hC
              rintro W ⟨hl, hr', hq, hC⟩
              generalize wr.heap.size = q at *
              refine (clear33 _ _ n f a.device W hl).mono ?_
              rintro e w4 ⟨rfl, hl4, hC4⟩
              have hr4 := hr'.keep hC4 (by omega) (by omega)
              replace hq := hC4.at hq (by omega)
              have hCw4 : Chg (fun _ => False) w w4 := hC.trans' hC4 (fun j hj h => by have := HB.out; omega)
              clear hl hr' hC hC4
              have ca0 : w4.cell? ⟨q, 0, none⟩ = some (.int .i64 a.kind) := blk_cell hq 0
              have ca1 : w4.cell? ⟨q, 1, none⟩ = some (.int .i64 a.device) := blk_cell hq 1
              have ca2 : w4.cell? ⟨q, 2, none⟩ = some (.int .i64 a.vector) := blk_cell hq 2
              have ca3 : w4.cell? ⟨q, 3, none⟩ = some (.int .i64 a.part) := blk_cell hq 3
              have ca4 : w4.cell? ⟨q, 4, none⟩ = some (.bool a.on) := blk_cell hq 4
              have HQ := Lib.hid hq; clear hq
              go_wp2_with fail
              refine (num16 _ _).mono ?_
              rintro e w5 ⟨rfl, rfl⟩
              go_wp2_with fail
              refine (clear34 _ _ n f a.device w4 hr4).mono ?_
              rintro e w5 ⟨rfl, hr5, hC5⟩
              have hl5 := hl4.keep hC5 (by omega) (by omega)
              have hq := hC5.at HQ.out (by omega)
              have hCw5 : Chg (fun _ => False) w w5 := hCw4.trans' hC5 (fun j hj h => by have := HB.out; omega)
              clear hl4 hr4 hCw4 hC5 HQ ca0 ca1 ca2 ca3 ca4
              have hfn : ∃ f', clearF n a.device f = f' := ⟨_, rfl⟩
              obtain ⟨f', hf'⟩ := hfn
              rw [hf'] at hl5 hr5
              clear hf'
              have ca0 : w5.cell? ⟨q, 0, none⟩ = some (.int .i64 a.kind) := blk_cell hq 0
              have ca1 : w5.cell? ⟨q, 1, none⟩ = some (.int .i64 a.device) := blk_cell hq 1
              have ca2 : w5.cell? ⟨q, 2, none⟩ = some (.int .i64 a.vector) := blk_cell hq 2
              have ca3 : w5.cell? ⟨q, 3, none⟩ = some (.int .i64 a.part) := blk_cell hq 3
              have ca4 : w5.cell? ⟨q, 4, none⟩ = some (.bool a.on) := blk_cell hq 4
              have HQ := Lib.hid hq; clear hq
              go_wp2_with fail
              go_loopw [17] (fun i wq => ∃ dd : Int, -1 ≤ dd ∧ dd ≤ n + 1 ∧ i = .int .i64 dd ∧ TabAt wq 101 115 (B + 1) B n f' ∧ TabAt wq 104 112 (B + 2 + 1) (B + 2) n f' ∧ wq.heap[q]? = some (.cells #[.int .i64 a.kind, .int .i64 a.device, .int .i64 a.vector, .int .i64 a.part, .bool a.on] 50 (0, 0)) ∧ Chg (fun _ => False) w wq) (fun i _ => (n + 1 - intOf i).toNat)
              case atStart => exact ⟨-1, by omega, by omega, rfl, hl5, hr5, HQ.out, hCw5⟩
              case round =>
                clear hl5 hr5 HQ hCw5 ca0 ca1 ca2 ca3 ca4
                rename_i wq _
                obtain ⟨dd, hd0, hd1, rfl, hl, hr', hq, hC⟩ := hrel
                by_cases hdn : dd ≤ n
                · have ca2 := (blk_cell hq 2)
                  simp at ca2
                  go_wp2_with fail
                  refine (look35c _ _ n f' dd a.vector wr hl).mono ?_
                  rintro e w6 ⟨rfl, hl6, hC6⟩
                  have hr6 := hr'.keep hC6 id id
                  have hq6 := hC6.at hq id
                  have hCw6 := hC.trans hC6
                  clear hl hr' hq hC hC6 ca2
                  have ca2 := (blk_cell hq6 2)
                  simp at ca2
                  go_wp2_with fail
                  refine (look36c _ _ n f' dd a.vector w6 hr6).mono ?_
                  rintro e w7 ⟨rfl, hr7, hC7⟩
                  have hl7 := hl6.keep hC7 id id
                  have hq7 := hC7.at hq6 id
                  have hCw7 := hCw6.trans hC7
                  clear hl6 hr6 hq6 hCw6 hC7 ca2
                  generalize lookP n dd a.vector f' = x1 at *
                  generalize lookM n dd a.vector f' = x2 at *
                  generalize entE n dd a.vector f' = x3 at *
                  have HQ := Lib.hid hq7; clear hq7
                  go_wp2_with fail
                  refine (num16 _ _).mono ?_
                  rintro e w8 ⟨rfl, rfl⟩
                  go_wp2
                  go_roundw
                  case rel => exact ⟨dd + 1, by omega, by omega, rfl, hl7, hr7, HQ.out, hCw7⟩
                  case measure => simp [intOf]; omega
                · clear hq
                  go_wp2
                  go_roundw
                  case rel => exact ⟨k + 1, by omega, by go_num, f', hl, hr', hC⟩
                  case measure => simp [intOf]; omega
      · go_wp2_with fail
        refine (awake26 _).mono ?_
        rintro e w1 ⟨rfl, hC2⟩
        have hC3 := hC.trans hC2
        clear hl hr' hC hC2
        go_wp2
        go_ret
        exact ⟨rfl, hC3⟩
    · go_wp2_with fail
      refine (awake26 _).mono ?_
      rintro e w1 ⟨rfl, hC2⟩
      have hC3 := hC.trans hC2
      clear hl hr' hC hC2
      go_wp2
      go_ret
      exact ⟨rfl, hC3⟩

set_option maxRecDepth 100000 in
theorem trod_ract {H : Type} {enc : TypeId × Value → H} {w : World} {base : Nat} {spare : Nat → Bool} {held : Bool} {m : Nat} {cs : List Value} {y : DataW H × List MemPlace} (h : DataW.trod enc Try.prog w base spare held m 50 cs = some y) : ∃ x : RAct, cs = x.cells ∧ True := by
  obtain ⟨ys, n', _, _, hl, hyl, hf⟩ := DataW.trod_struct Try.underlying50 h
  rw [show Try.prog.cellsOf 50 = 5 from by kernel_rfl] at hl
  match cs, hl with
  | [c0, c1, c2, c3, c4], _ =>
    have g0 := hf 0 _ rfl
    have g1 := hf 1 _ rfl
    have g2 := hf 2 _ rfl
    have g3 := hf 3 _ rfl
    have g4 := hf 4 _ rfl
    rw [List.getElem?_eq_getElem (by rw [hyl]; decide)] at g0 g1 g2 g3 g4
    obtain ⟨n0, e0, _⟩ := DataW.trod_int Try.underlying3 g0
    obtain ⟨n1, e1, _⟩ := DataW.trod_int Try.underlying3 g1
    obtain ⟨n2, e2, _⟩ := DataW.trod_int Try.underlying3 g2
    obtain ⟨n3, e3, _⟩ := DataW.trod_int Try.underlying3 g3
    obtain ⟨n4, e4, _⟩ := DataW.trod_bool Try.underlying4 g4
    have k3 : Try.prog.cellsOf 3 = 1 := by kernel_rfl
    have k4 : Try.prog.cellsOf 4 = 1 := by kernel_rfl
    change List.take (Try.prog.cellsOf 3) [c0, c1, c2, c3, c4] = _ at e0
    change List.take (Try.prog.cellsOf 3) [c1, c2, c3, c4] = _ at e1
    change List.take (Try.prog.cellsOf 3) [c2, c3, c4] = _ at e2
    change List.take (Try.prog.cellsOf 3) [c3, c4] = _ at e3
    change List.take (Try.prog.cellsOf 4) [c4] = _ at e4
    rw [k3] at e0
    rw [k3] at e1
    rw [k3] at e2
    rw [k3] at e3
    rw [k4] at e4
    simp at e0 e1 e2 e3 e4
    subst e0; subst e1; subst e2; subst e3; subst e4
    exact ⟨⟨n0, n1, n2, n3, n4⟩, rfl, trivial⟩

theorem remaps_walk (w : World) (n : Int) (A : Option Addr) (c : Nat) (xs : List RAct) (hm : xs.length ≤ maxLen) (hr : RowC w A (xs.flatMap RAct.cells)) (_hw : ∀ x ∈ xs, True) :
    Calls Try.prog 5 #[.int .i64 n, .slice A xs.length c] w fun e w' => e = .returned (.bool true) ∧ Below w.heap.size w w' := by
  by_cases h : 1 ≤ n ∧ n ≤ 4
  · obtain ⟨m, rfl⟩ := Int.eq_ofNat_of_zero_le (show 0 ≤ n by omega)
    exact (remaps_good m A c xs w (by omega) (by omega) (by unfold maxLen at hm; omega) hr).mono fun e w' ⟨h1, h2⟩ => ⟨h1, h2.below (Nat.le_refl _) (fun _ h => h.elim)⟩
  · exact (remaps_bad n A c xs w h).mono fun e w' ⟨h1, h2⟩ => ⟨h1, h2.below (Nat.le_refl _) (fun _ h => h.elim)⟩

end Go.Proofs.Ytochadejlglfgaa
