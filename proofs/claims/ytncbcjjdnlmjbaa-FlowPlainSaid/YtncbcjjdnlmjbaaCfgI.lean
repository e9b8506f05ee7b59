/- Configs: the pieces of a run; may a partition read bytes, or write them? -/
import Derived.Test.YtncbcjjdnlmjbaaCfgH
import Derived.Test.YtncbcjjdnlmjbaaAppRow0
set_option linter.unusedSimpArgs false
set_option linter.unusedVariables false
namespace Go.Proofs.Ytncbcjjdnlmjbaa
open Go.RowKit

structure Pc where
  frame : Int
  off : Int
  len : Int
def pcc (q : Pc) : List Value := [.int .i64 q.frame, .int .i64 q.off, .int .i64 q.len]
theorem pcc_len (q : Pc) : (pcc q).length = 3 := rfl
def RdQ (w : World) (v : Value) (L : List Pc) : Prop := L.length ≤ maxLen ∧ ∃ A c, v = .slice A L.length c ∧ ∀ (j : Nat) (h : j < L.length), ∃ g o, A = some ⟨g, o, none⟩ ∧ w.cell? ⟨g, o + j * 3, none⟩ = some (.int .i64 L[j].frame) ∧ w.cell? ⟨g, o + j * 3 + 1, none⟩ = some (.int .i64 L[j].off) ∧ w.cell? ⟨g, o + j * 3 + 2, none⟩ = some (.int .i64 L[j].len)
theorem RdQ.keepN {w w' : World} {v : Value} {L : List Pc} (h : RdQ w v L) (hC : Chg (fun _ => False) w w') : RdQ w' v L := by
  obtain ⟨hm, A, c, rfl, h⟩ := h
  refine ⟨hm, A, c, rfl, fun j hj => ?_⟩
  obtain ⟨g, o, rfl, h0, h1, h2⟩ := h j hj
  exact ⟨g, o, rfl, hC.cell h0 id, hC.cell h1 id, hC.cell h2 id⟩
theorem RdQ.of {w : World} {base : Nat} {v : Value} {L : List Pc} (h : OwnC pcc 3 81 w base v L) (hm : L.length ≤ maxLen) : RdQ w v L := by
  obtain ⟨A, c, rfl⟩ := h.slice
  refine ⟨hm, A, c, rfl, fun j hj => ?_⟩
  obtain ⟨g, cap, hv, _⟩ := h.form (by omega)
  injection hv with h1 h2 h3
  subst h1 h3
  refine ⟨g, 0, rfl, ?_, ?_, ?_⟩
  · have := h.cell pcc_len hj (show 0 < 3 by omega); simpa [pcc] using this
  · have := h.cell pcc_len hj (show 1 < 3 by omega); simpa [pcc] using this
  · have := h.cell pcc_len hj (show 2 < 3 by omega); simpa [pcc] using this
/-- The pieces' frames are the bytes' frames. -/
def Cover (L : List Pc) (a b : Int) : Prop := (∀ q ∈ L, ∃ k : Int, a ≤ k ∧ k < b ∧ q.frame = k / 64) ∧ ∀ k : Int, a ≤ k → k < b → ∃ q ∈ L, q.frame = k / 64
theorem Cover.step {L : List Pc} {a b : Int} (h : Cover L a b) {o m : Int} (ha : 0 ≤ a) (hab : a ≤ b) (h1 : 1 ≤ m) (h2 : m ≤ 64 - b % 64) : Cover (L ++ [⟨b / 64, o, m⟩]) a (b + m) := by
  refine ⟨fun q hq => ?_, fun k k1 k2 => ?_⟩
  · rcases List.mem_append.1 hq with h' | h'
    · obtain ⟨k, x1, x2, x3⟩ := h.1 q h'
      exact ⟨k, x1, by omega, x3⟩
    · simp at h'; subst h'
      exact ⟨b, by omega, by omega, rfl⟩
  · by_cases hk : k < b
    · obtain ⟨q, q1, q2⟩ := h.2 k k1 hk
      exact ⟨q, List.mem_append_left _ q1, q2⟩
    · exact ⟨_, List.mem_append_right _ (List.mem_singleton.2 rfl), by show b / 64 = k / 64; omega⟩
theorem Try.info81 : (Try.prog.info? 81).map (fun i => (i.zero, i.size, i.bytes)) = some (some (.agg #[.int .i64 0, .int .i64 0, .int .i64 0]), 3, 24) := by kernel_rfl
def SplitPost (p n : Int) (w : World) (e : Ending) (w' : World) : Prop := ∃ v L, e = .returned (.tuple #[v, .int .i64 0]) ∧ RdQ w' v L ∧ Cover L p (p + n) ∧ Chg (fun _ => False) w w'
set_option maxRecDepth 100000 in
set_option maxHeartbeats 2000000 in
theorem aSplit (p n : Int) (w : World) (hp : 0 ≤ p) (hn : 0 ≤ n) (hpn : p + n ≤ 4096) :
    Calls Try.prog 121 #[.int .i64 p, .int .i64 n] w (SplitPost p n w) := by
  obtain ⟨q0, hi0, hz0, hz1, hz2⟩ := info_parts Try.info81
  have hrun : RunP p n 4096 := ⟨hp, hn, by omega, by omega, by omega⟩
  have hrd := decide_eq_true hrun
  clear hrun
  go_enter Try.func121, Try.ntmps121
  go_wp2_with fail
  refine (addrMay _ _ _ _ (by omega)).mono ?_
  rintro e w1 ⟨rfl, rfl⟩
  rw [hrd]
  go_wp2_with fail
  go_loopw [0, 1, 6] (fun s0 s1 s6 wr => ∃ (L : List Pc) (b m : Int), s0 = .int .i64 b ∧ s1 = .int .i64 m ∧ OwnC pcc 3 81 wr w1.heap.size s6 L ∧ Cover L p b ∧ p ≤ b ∧ 0 ≤ m ∧ b + m = p + n ∧ (L.length : Int) ≤ b - p ∧ Chg (fun _ => False) w1 wr) (fun s0 s1 s6 _ => (intOf s1).toNat)
  case atStart => exact ⟨[], p, n, rfl, rfl, OwnC.nil _ _, ⟨by simp, fun k h1 h2 => by omega⟩, by omega, by omega, by omega, by simp, Chg.refl _ _⟩
  case round =>
    obtain ⟨L, b, m, rfl, rfl, hown, hcov, hb, hm, hbm, hlen, hC⟩ := hrel
    by_cases h0 : 0 < m
    · have hb0 : 0 ≤ b := by omega
      have hb1 : b ≤ 4096 := by omega
      have hm1 : m ≤ 4096 := by omega
      have hlt2 : ∀ k, Value.ownBlock u6 = some k → w1.heap.size ≤ k := fun k hk => (own_lt hown hk).1
      obtain ⟨AA, kk, rfl⟩ := hown.slice
      have HLT := Lib.hid hlt2; clear hlt2
      have hoa : ∀ o, OwnC pcc 3 81 (wr.alloc o) w1.heap.size (.slice AA L.length kk) L := fun o => hown.keep ((Chg.refl (fun _ => False) _).alloc o) (fun _ _ => id)
      have hbb : ∀ o, w1.heap.size ≤ (wr.alloc o).heap.size := fun o => by have := hC.size; simp; omega
      have HOW := Lib.hid hoa; clear hoa
      have HB := Lib.hid hbb; clear hbb
      have h63 : L.length + 1 ≤ maxLen := by unfold maxLen; omega
      have hbytes : (L.length + 1) * 24 ≤ 140737488355328 := by omega
      have HC := Lib.hid hC
      have HCV := Lib.hid hcov
      have HBM := Lib.hid hbm
      clear hown hC hcov hbm
      by_cases hmin : m ≤ 64 - b % 64
      · have hmd : decide (64 - b % 64 < m) = false := decide_eq_false (by omega)
        have hnews := rowc_blk (blk_new wr (.cells #[.int .i64 (b / 64), .int .i64 (b % 64), .int .i64 m] 81))
        have HN := Lib.hid hnews; clear hnews
        have HST : Hid (Cover (L ++ [⟨b / 64, b % 64, m⟩]) p (b + m)) := HCV.out.step hp hb (by omega) (by omega)
        clear HCV
        go_wp2_with
          (at_builtin
           refine wpList_append_row _ rfl _ _ 76 rfl w1.heap.size 81 q0 (.agg #[.int .i64 0, .int .i64 0, .int .i64 0]) 3 24 Try.underlying76 hi0 hz0 hz1 hz2 rfl (by decide) (.slice AA L.length kk) L.length (L.flatMap pcc) rfl (HOW.out _) (some ⟨wr.heap.size, 0, none⟩) 1 1 [.int .i64 (b / 64), .int .i64 (b % 64), .int .i64 m] rfl rfl HN.out (by simp [Value.oneCell']) h63 hbytes (HB.out _) ?_
           intro v5 w5 hown5 hgr hat5
           have hf : OwnC pcc 3 81 w5 w1.heap.size v5 (L ++ [⟨b / 64, b % 64, m⟩]) ∧ Chg (fun _ => False) w1 w5 := by
             refine ⟨by simpa [OwnC, pcc] using hown5, ?_⟩
             exact Chg.grown (HC.out.alloc _) hgr (fun k hk hlt => by have := HLT.out k hk; omega)
           have HF := Lib.hid hf; clear hf hown5 hgr hat5)
        go_wp2_with fail
        go_roundw
        case rel => exact ⟨_, _, _, rfl, rfl, HF.out.1, HST.out, by omega, by omega, by have := HBM.out; omega, by simp; omega, HF.out.2⟩
        case measure => simp [intOf]; omega
      · have hmin2 : 64 - b % 64 < m := by omega
        have hmd : decide (64 - b % 64 < m) = true := decide_eq_true (by omega)
        clear hmin
        have hnews := rowc_blk (blk_new wr (.cells #[.int .i64 (b / 64), .int .i64 (b % 64), .int .i64 (64 - b % 64)] 81))
        have HN := Lib.hid hnews; clear hnews
        have HST : Hid (Cover (L ++ [⟨b / 64, b % 64, (64 - b % 64)⟩]) p (b + (64 - b % 64))) := HCV.out.step hp hb (by omega) (by omega)
        clear HCV
        go_wp2_with
          (at_builtin
           refine wpList_append_row _ rfl _ _ 76 rfl w1.heap.size 81 q0 (.agg #[.int .i64 0, .int .i64 0, .int .i64 0]) 3 24 Try.underlying76 hi0 hz0 hz1 hz2 rfl (by decide) (.slice AA L.length kk) L.length (L.flatMap pcc) rfl (HOW.out _) (some ⟨wr.heap.size, 0, none⟩) 1 1 [.int .i64 (b / 64), .int .i64 (b % 64), .int .i64 (64 - b % 64)] rfl rfl HN.out (by simp [Value.oneCell']) h63 hbytes (HB.out _) ?_
           intro v5 w5 hown5 hgr hat5
           have hf : OwnC pcc 3 81 w5 w1.heap.size v5 (L ++ [⟨b / 64, b % 64, (64 - b % 64)⟩]) ∧ Chg (fun _ => False) w1 w5 := by
             refine ⟨by simpa [OwnC, pcc] using hown5, ?_⟩
             exact Chg.grown (HC.out.alloc _) hgr (fun k hk hlt => by have := HLT.out k hk; omega)
           have HF := Lib.hid hf; clear hf hown5 hgr hat5)
        go_wp2_with fail
        go_roundw
        case rel => exact ⟨_, _, _, rfl, rfl, HF.out.1, HST.out, by omega, by omega, by have := HBM.out; omega, by simp; omega, HF.out.2⟩
        case measure => simp [intOf]; omega
    · obtain rfl : m = 0 := by omega
      have HR : Hid (RdQ wr _ L) := RdQ.of hown (by unfold maxLen; omega)
      have HC := Lib.hid hC
      have HCV : Hid (Cover L p (p + n)) := by have : b = p + n := by omega
                                               rw [← this]; exact hcov
      clear hown hC hcov
      go_wp2_with fail
      go_ret2
      exact ⟨_, L, rfl, HR.out, HCV.out, HC.out⟩
end Go.Proofs.Ytncbcjjdnlmjbaa
