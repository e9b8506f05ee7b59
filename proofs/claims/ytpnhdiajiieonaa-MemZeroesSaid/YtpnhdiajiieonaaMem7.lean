/- The check of the memory's laws. -/
import Derived.Test.YtpnhdiajiieonaaMem6
set_option linter.unusedSimpArgs false
set_option linter.unusedVariables false
namespace Go.Proofs.Ytpnhdiajiieonaa
open Go.RowKit

theorem writeB_len (bs : List UInt8) (a : Int) (s : ByteArray) : (writeB bs a s).length = bs.length := by
  unfold writeB
  split
  · rename_i h
    obtain ⟨h1, h2, h3, h4, h5⟩ := h
    have hsl : s.data.toList.length = s.size := by simp
    exact splice_len _ _ _ (by omega)
  · rfl
theorem putB_len (bs : List UInt8) (a x : Int) : (putB bs a x).length = bs.length := by
  unfold putB
  split
  · rename_i h
    obtain ⟨⟨_, h1, h2, h3, h4, h5⟩, _⟩ := h
    exact splice_len _ _ _ (by rw [wb_len]; omega)
  · rfl
theorem zeroB_len (bs : List UInt8) (f : Int) : (zeroB bs f).length = bs.length := by
  unfold zeroB
  split
  · rename_i h
    obtain ⟨h1, h2⟩ := h
    exact splice_len _ _ _ (by rw [List.length_replicate]; omega)
  · rfl

set_option maxRecDepth 100000 in
set_option maxHeartbeats 1000000 in
theorem awake39 (w : World) : Calls Try.prog 28 #[] w fun e w' => e = .returned (.bool true) ∧ Chg (fun _ => False) w w' := by
  go_enter Try.func28, Try.ntmps28
  go_wp2_with fail
  refine (mnew37_ok 2 w (by omega) (by omega)).mono ?_
  rintro e w1 ⟨rfl, h1, hs, hC1⟩
  have hlt : w.heap.size < w.heap.size + 1 := by omega
  clear hs
  rw [show 2 * 64 = 128 from rfl] at h1
  go_wp2_with fail
  refine (mnew37_no 65 w1 (by omega)).mono ?_
  rintro e w2 ⟨rfl, rfl⟩
  go_wp2_with fail
  refine (num16 _ _).mono ?_
  rintro e w2 ⟨rfl, rfl⟩
  go_wp2_with fail
  refine (write41 _ _ _ 62 _ w1 h1 (by (repeat first | rw [writeB_len] | rw [putB_len] | rw [zeroB_len]); decide) (by decide)).mono ?_
  rintro e w3 ⟨rfl, h3, hD3⟩
  have hC3 : Chg (fun _ => False) w w3 := hC1.trans' hD3 (fun j hj h => by omega)
  clear h1 hD3 hC1
  rw [show errC (List.replicate 128 0) 62 _ = 0 from rfl]
  go_wp2_with fail
  refine (read47 _ _ _ 60 8 w3 h3 (by (repeat first | rw [writeB_len] | rw [putB_len] | rw [zeroB_len]); decide)).mono ?_
  rintro e w4 ⟨rfl, rfl⟩
  rw [show readS (writeB (List.replicate 128 0) 62 ⟨#[97, 98, 99, 100]⟩) 60 8 = ⟨#[0, 0, 97, 98, 99, 100, 0, 0]⟩ from rfl, show errC (writeB (List.replicate 128 0) 62 ⟨#[97, 98, 99, 100]⟩) 60 8 = 0 from rfl]
  go_wp2_with fail
  refine (put43 _ _ _ 4 67305985 w3 h3 (by (repeat first | rw [writeB_len] | rw [putB_len] | rw [zeroB_len]); decide)).mono ?_
  rintro e w5 ⟨rfl, h5, hD5⟩
  have hC5 : Chg (fun _ => False) w w5 := hC3.trans' hD5 (fun j hj h => by omega)
  clear h3 hD5 hC3
  rw [show putC (writeB (List.replicate 128 0) 62 ⟨#[97, 98, 99, 100]⟩) 4 67305985 = 0 from rfl]
  go_wp2_with fail
  refine (read47 _ _ _ 4 4 w5 h5 (by (repeat first | rw [writeB_len] | rw [putB_len] | rw [zeroB_len]); decide)).mono ?_
  rintro e w6 ⟨rfl, rfl⟩
  rw [show readS (putB (writeB (List.replicate 128 0) 62 ⟨#[97, 98, 99, 100]⟩) 4 67305985) 4 4 = ⟨#[1, 2, 3, 4]⟩ from rfl, show errC (putB (writeB (List.replicate 128 0) 62 ⟨#[97, 98, 99, 100]⟩) 4 67305985) 4 4 = 0 from rfl]
  go_wp2_with fail
  refine (word48 _ _ _ 60 w5 h5 (by (repeat first | rw [writeB_len] | rw [putB_len] | rw [zeroB_len]); decide)).mono ?_
  rintro e w7 ⟨rfl, rfl⟩
  rw [show wordR (putB (writeB (List.replicate 128 0) 62 ⟨#[97, 98, 99, 100]⟩) 4 67305985) 60 = 1650524160 from rfl, show wordE (putB (writeB (List.replicate 128 0) 62 ⟨#[97, 98, 99, 100]⟩) 4 67305985) 60 = 0 from rfl]
  go_wp2_with fail
  refine (word48 _ _ _ 2 w5 h5 (by (repeat first | rw [writeB_len] | rw [putB_len] | rw [zeroB_len]); decide)).mono ?_
  rintro e w8 ⟨rfl, rfl⟩
  rw [show wordR (putB (writeB (List.replicate 128 0) 62 ⟨#[97, 98, 99, 100]⟩) 4 67305985) 2 = 0 from rfl, show wordE (putB (writeB (List.replicate 128 0) 62 ⟨#[97, 98, 99, 100]⟩) 4 67305985) 2 = 300 from rfl]
  go_wp2_with fail
  refine (zero45 _ _ _ 1 w5 h5 (by (repeat first | rw [writeB_len] | rw [putB_len] | rw [zeroB_len]); decide)).mono ?_
  rintro e w9 ⟨rfl, h9, hD9⟩
  have hC9 : Chg (fun _ => False) w w9 := hC5.trans' hD9 (fun j hj h => by omega)
  clear h5 hD9 hC5
  rw [show zeroC (putB (writeB (List.replicate 128 0) 62 ⟨#[97, 98, 99, 100]⟩) 4 67305985) 1 = 0 from rfl]
  go_wp2_with fail
  refine (read47 _ _ _ 62 4 w9 h9 (by (repeat first | rw [writeB_len] | rw [putB_len] | rw [zeroB_len]); decide)).mono ?_
  rintro e w10 ⟨rfl, rfl⟩
  rw [show readS (zeroB (putB (writeB (List.replicate 128 0) 62 ⟨#[97, 98, 99, 100]⟩) 4 67305985) 1) 62 4 = ⟨#[97, 98, 0, 0]⟩ from rfl, show errC (zeroB (putB (writeB (List.replicate 128 0) 62 ⟨#[97, 98, 99, 100]⟩) 4 67305985) 1) 62 4 = 0 from rfl]
  go_wp2_with fail
  refine (write41 _ _ _ 126 _ w9 h9 (by (repeat first | rw [writeB_len] | rw [putB_len] | rw [zeroB_len]); decide) (by decide)).mono ?_
  rintro e w11 ⟨rfl, h11, hD11⟩
  have hC11 : Chg (fun _ => False) w w11 := hC9.trans' hD11 (fun j hj h => by omega)
  clear h9 hD11 hC9
  rw [show errC (zeroB (putB (writeB (List.replicate 128 0) 62 ⟨#[97, 98, 99, 100]⟩) 4 67305985) 1) 126 _ = 300 from rfl]
  go_wp2_with fail
  have hlen : (writeB (zeroB (putB (writeB (List.replicate 128 0) 62 ⟨#[97, 98, 99, 100]⟩) 4 67305985) 1) 126 ⟨#[97, 98, 99]⟩).length = 128 := by
    (repeat first | rw [writeB_len] | rw [putB_len] | rw [zeroB_len])
    rfl
  refine (num16 _ _).mono ?_
  rintro e w12 ⟨rfl, rfl⟩
  go_wp2_with fail
  refine (num16 _ _).mono ?_
  rintro e w12 ⟨rfl, rfl⟩
  go_wp2_with fail
  refine (num16 _ _).mono ?_
  rintro e w12 ⟨rfl, rfl⟩
  go_wp2_with fail
  refine (num16 _ _).mono ?_
  rintro e w12 ⟨rfl, rfl⟩
  go_wp2_with fail
  refine (num16 _ _).mono ?_
  rintro e w12 ⟨rfl, rfl⟩
  go_wp2_with fail
  refine (num16 _ _).mono ?_
  rintro e w12 ⟨rfl, rfl⟩
  go_wp2_with fail
  refine (num16 _ _).mono ?_
  rintro e w12 ⟨rfl, rfl⟩
  go_wp2_with fail
  refine (num16 _ _).mono ?_
  rintro e w12 ⟨rfl, rfl⟩
  go_wp2_with fail
  refine (num16 _ _).mono ?_
  rintro e w12 ⟨rfl, rfl⟩
  go_wp2_with fail
  refine (num16 _ _).mono ?_
  rintro e w12 ⟨rfl, rfl⟩
  go_wp2_with fail
  refine (size40 _ _ _ w11 h11).mono ?_
  rintro e w12 ⟨rfl, rfl⟩
  rw [hlen]
  go_wp2_with fail
  go_ret
  exact ⟨rfl, hC11⟩

end Go.Proofs.Ytpnhdiajiieonaa
