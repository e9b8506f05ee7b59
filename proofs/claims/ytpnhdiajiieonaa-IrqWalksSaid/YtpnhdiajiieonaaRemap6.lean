/- The check of the remap laws, and the laws themselves. -/
import Derived.Test.YtpnhdiajiieonaaRemap5
set_option linter.unusedSimpArgs false
set_option linter.unusedVariables false
namespace Go.Proofs.Ytpnhdiajiieonaa
open Go.RowKit

theorem look35c (p r n : Nat) (f : Nat → Ent) (d v : Int) (w : World) (h : TabAt w 214 229 p r n f) :
    Calls Try.prog 110 #[.pointer (some ⟨p, 0, none⟩), .int .i64 d, .int .i64 v] w fun e w' => e = .returned (.tuple #[.int .i64 (lookP n d v f), .bool (lookM n d v f), .int .i64 (entE n d v f)]) ∧ TabAt w' 214 229 p r n f ∧ Chg (fun _ => False) w w' := by
  refine (look35 p r n f d v w h).mono ?_
  rintro e w' ⟨rfl, m, rfl⟩
  exact ⟨rfl, h.keep (S := fun _ => False) ((Chg.refl _ _).drewN m) id id, (Chg.refl _ _).drewN m⟩
theorem look36c (p r n : Nat) (f : Nat → Ent) (d v : Int) (w : World) (h : TabAt w 217 227 p r n f) :
    Calls Try.prog 148 #[.pointer (some ⟨p, 0, none⟩), .int .i64 d, .int .i64 v] w fun e w' => e = .returned (.tuple #[.int .i64 (lookP n d v f), .bool (lookM n d v f), .int .i64 (entE n d v f)]) ∧ TabAt w' 217 227 p r n f ∧ Chg (fun _ => False) w w' := by
  refine (look36 p r n f d v w h).mono ?_
  rintro e w' ⟨rfl, hC⟩
  exact ⟨rfl, h.keep hC id id, hC⟩
end Go.Proofs.Ytpnhdiajiieonaa
