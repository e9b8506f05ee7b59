/- The walks of the memory: frames and words. -/
import Derived.Test.YtnallfehffhaeaaMem2
set_option linter.unusedSimpArgs false
set_option linter.unusedVariables false
namespace Go.Proofs.Ytnallfehffhaeaa
open Go.RowKit

def frameP (bs : List UInt8) (f : Int) : Prop := 0 ≤ f ∧ f < (bs.length : Int) / 64
instance (bs : List UInt8) (f : Int) : Decidable (frameP bs f) := by unfold frameP; infer_instance
def zeroC (bs : List UInt8) (f : Int) : Int := if frameP bs f then 0 else 300
def zeroB (bs : List UInt8) (f : Int) : List UInt8 := if frameP bs f then splice bs (f.toNat * 64) (List.replicate 64 0) else bs

set_option maxRecDepth 100000 in
set_option maxHeartbeats 400000 in
theorem frame59_yes (p r : Nat) (bs : List UInt8) (f : Int) (w : World) (h : MemAt w 93 p r bs) (hl : bs.length ≤ 4096) (hf : frameP bs f) :
    Calls Try.prog 36 #[.pointer (some ⟨p, 0, none⟩), .int .i64 f] w fun e w' => e = .returned (.bool true) ∧ w = w' := by
  obtain ⟨h1, h2⟩ := hf
  go_enter Try.func36, Try.ntmps36
  go_wp2_with fail
  refine (size40 p r bs w h).mono ?_
  rintro e w' ⟨rfl, rfl⟩
  clear h
  go_wp2
  go_ret
  exact ⟨rfl, rfl⟩
set_option maxRecDepth 100000 in
set_option maxHeartbeats 400000 in
theorem frame59_no (p r : Nat) (bs : List UInt8) (f : Int) (w : World) (h : MemAt w 93 p r bs) (hl : bs.length ≤ 4096) (hf : ¬ frameP bs f) :
    Calls Try.prog 36 #[.pointer (some ⟨p, 0, none⟩), .int .i64 f] w fun e w' => e = .returned (.bool false) ∧ w = w' := by
  unfold frameP at hf
  by_cases h1 : 0 ≤ f
  · have h2 : decide (f < (bs.length : Int) / 64) = false := by simp; omega
    clear hf
    go_enter Try.func36, Try.ntmps36
    go_wp2_with fail
    refine (size40 p r bs w h).mono ?_
    rintro e w' ⟨rfl, rfl⟩
    clear h
    go_wp2
    go_ret
    exact ⟨rfl, rfl⟩
  · clear hf h
    go_enter Try.func36, Try.ntmps36
    go_wp2
    go_ret
    exact ⟨rfl, rfl⟩

theorem zeroval5 (w : World) : (zeroValue 5).run Try.prog w = .ok (.int .u8 0) w := by kernel_rfl
set_option maxRecDepth 100000 in
set_option maxHeartbeats 400000 in
theorem zero45 (p r : Nat) (bs : List UInt8) (f : Int) (w : World) (h : MemAt w 93 p r bs) (hl : bs.length ≤ 4096) :
    Calls Try.prog 44 #[.pointer (some ⟨p, 0, none⟩), .int .i64 f] w fun e w' => e = .returned (.int .i64 (zeroC bs f)) ∧ MemAt w' 93 p r (zeroB bs f) ∧ Chg (fun k => k = r) w w' := by
  have c0 := h.hdr
  unfold zeroC zeroB
  by_cases hm : frameP bs f
  · rw [if_pos hm, if_pos hm]
    have hm' := hm
    obtain ⟨h1, h2⟩ := hm'
    obtain ⟨f, rfl⟩ := Int.eq_ofNat_of_zero_le h1
    rw [Int.toNat_natCast]
    have h3 : f * 64 + 64 ≤ bs.length := by omega
    have hfin := h.splice (by decide) (f * 64) (List.replicate 64 0) (by simpa using h3)
    have HF := Lib.hid hfin; clear hfin
    have hcp : ∀ ty c, (Builtin.clear_ #[52] ty #[.slice (some ⟨r, f * 64, none⟩) ((f + 1) * 64 - f * 64) c]).run Try.prog w = .ok (.tuple #[]) (w.setCells r (f * 64) ((List.replicate 64 (0 : UInt8)).map bv)) := fun ty c => by
      rw [List.map_replicate, show (f + 1) * 64 - f * 64 = 64 from by omega]
      exact Lib.run_clear_slice w 52 5 ty (.int .u8 0) Try.underlying52 zeroval5 rfl rfl r (f * 64) 64 c (by omega) (h.isCell _ _ h3) (fun j _ => h.free _)
    have h4 : (f : Int) * 64 + 64 ≤ bs.length := by omega
    generalize ((List.replicate 64 (0 : UInt8)).map bv) = vs at *
    go_enter Try.func44, Try.ntmps44
    go_wp2_with fail
    refine (frame59_yes _ _ _ _ _ h hl hm).mono ?_
    rintro e w' ⟨rfl, rfl⟩
    clear hm h
    go_wp2
    go_ret
    exact ⟨rfl, HF.out⟩
  · rw [if_neg hm, if_neg hm]
    have H : Hid (MemAt w 93 p r bs) := h
    go_enter Try.func44, Try.ntmps44
    go_wp2_with fail
    refine (frame59_no _ _ _ _ _ h hl hm).mono ?_
    rintro e w' ⟨rfl, rfl⟩
    clear hm h
    go_wp2
    go_ret
    exact ⟨rfl, H.out, Chg.refl _ _⟩

def wordP (bs : List UInt8) (a : Int) : Prop := a % 4 = 0 ∧ mayP a 4 bs.length
instance (bs : List UInt8) (a : Int) : Decidable (wordP bs a) := by unfold wordP; infer_instance
set_option maxRecDepth 100000 in
set_option maxHeartbeats 400000 in
theorem wordAt58_yes (p r : Nat) (bs : List UInt8) (a : Int) (w : World) (h : MemAt w 93 p r bs) (hl : bs.length ≤ 4096) (hf : wordP bs a) :
    Calls Try.prog 60 #[.pointer (some ⟨p, 0, none⟩), .int .i64 a] w fun e w' => e = .returned (.bool true) ∧ w = w' := by
  have c0 := h.hdr
  clear h
  obtain ⟨h1, h2⟩ := hf
  have h0 : 0 ≤ a := h2.1
  go_enter Try.func60, Try.ntmps60
  go_wp2_with fail
  refine (may56_yes _ _ _ _ h2 (by omega)).mono ?_
  rintro e w' ⟨rfl, rfl⟩
  clear h2
  go_wp2
  go_ret
  exact ⟨rfl, rfl⟩
set_option maxRecDepth 100000 in
set_option maxHeartbeats 400000 in
theorem wordAt58_no (p r : Nat) (bs : List UInt8) (a : Int) (w : World) (h : MemAt w 93 p r bs) (hl : bs.length ≤ 4096) (hf : ¬ wordP bs a) :
    Calls Try.prog 60 #[.pointer (some ⟨p, 0, none⟩), .int .i64 a] w fun e w' => e = .returned (.bool false) ∧ w = w' := by
  have c0 := h.hdr
  clear h
  by_cases h2 : mayP a 4 bs.length
  · have h0 : 0 ≤ a := h2.1
    have h1 : (a % 4 == 0) = false := by
      unfold wordP at hf
      simp only [h2, and_true] at hf
      simp [hf]
    clear hf h2
    go_enter Try.func60, Try.ntmps60
    go_wp2
    go_ret
    exact ⟨rfl, rfl⟩
  · clear hf
    cases hb : (a.tmod 4 == 0) with
    | true =>
      go_enter Try.func60, Try.ntmps60
      go_wp2_with fail
      refine (may56_no _ _ _ _ h2 (by omega)).mono ?_
      rintro e w' ⟨rfl, rfl⟩
      clear h2
      go_wp2
      go_ret
      exact ⟨rfl, rfl⟩
    | false =>
      clear h2
      go_enter Try.func60, Try.ntmps60
      go_wp2
      go_ret
      exact ⟨rfl, rfl⟩

end Go.Proofs.Ytnallfehffhaeaa
