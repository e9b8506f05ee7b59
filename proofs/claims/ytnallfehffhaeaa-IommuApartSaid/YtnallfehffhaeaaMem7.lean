/- The check of the memory's laws. -/
import Derived.Test.YtnallfehffhaeaaMem6
set_option linter.unusedSimpArgs false
set_option linter.unusedVariables false
namespace Go.Proofs.Ytnallfehffhaeaa
open Go.RowKit

theorem writeB_len (bs : List UInt8) (a : Int) (s : ByteArray) : (writeB bs a s).length = bs.length := by
  unfold writeB
  split
  · rename_i h
    obtain ⟨h1, h2, h3, h4, h5⟩ := h
    have hsl : s.data.toList.length = s.size := by simp
    exact splice_len _ _ _ (by omega)
  · rfl
theorem putB_len (bs : List UInt8) (a x : Int) : (putB bs a x).length = bs.length := by
  unfold putB
  split
  · rename_i h
    obtain ⟨⟨_, h1, h2, h3, h4, h5⟩, _⟩ := h
    exact splice_len _ _ _ (by rw [wb_len]; omega)
  · rfl
theorem zeroB_len (bs : List UInt8) (f : Int) : (zeroB bs f).length = bs.length := by
  unfold zeroB
  split
  · rename_i h
    obtain ⟨h1, h2⟩ := h
    exact splice_len _ _ _ (by rw [List.length_replicate]; omega)
  · rfl

end Go.Proofs.Ytnallfehffhaeaa
