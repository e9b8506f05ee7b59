/- The law IommuApart returns true for every input, and its arguments read as before. No condition. -/
import Derived.Test.YtnallfehffhaeaaIommuApart
import Derived.Test.YtnallfehffhaeaaInts
import Derived.Test.YtnallfehffhaeaaFacts
import Derived.ProofKit
import Derived.SizedLaws
import Derived.OpenShut
import Derived.ShutString
import Derived.ChangeOld
set_option linter.unusedSimpArgs false
set_option linter.unusedVariables false
namespace Go.Proofs.Ytnallfehffhaeaa
open Go.ChangeShapes Go.WideShapes Go.ChangeAt Go.RowKit
open Go.ChangeMaps (open_string shut_string)
namespace IommuApartRow
theorem own : ownKnob Try.prog.godebug = none := by kernel_rfl
theorem laidOut : laidOutB Try.prog = true := fact1
set_option maxRecDepth 100000 in
theorem lifted (os : Os) (started : os.Started) (H : Type) (enc : TypeId × Value → H) :
    ReturnsInHanded {} Try.checked os 6 .any (Rows.iommuApartSpec.pre6 enc Try.prog Try.f6 Rows.iommuApartRow.domain false) (Rows.iommuApartSpec.post enc Try.prog Try.f6 false true false false) := by
  refine returnsInHanded_of_change_sized (C := Try.checked) own started (by kernel_rfl) Try.func6
    (ChangeSpec.witness6 (enc := enc) (C := Try.checked) false ⟨#[], #[.slice none 0 0], []⟩ 8 (by kernel_rfl) (by kernel_rfl) (by kernel_rfl) (by kernel_rfl)) ?_
  intro W base args ds gs before hval0 hW hcnd hsz0 _
  have hval : ∀ (j : Nat) t v, Try.f6.params[j]? = some t → args[j]? = some v → Value.okWide Try.prog W .any base t v := hval0
  have hW' := hW
  obtain ⟨p, q, hA0, hV, rfl, hfz, hnd⟩ := hW
  have hA : DataW.TrodAll enc Try.prog W 0 (fun _ => true) true Try.f6.params.toList args.toList ds p := hA0
  rw [Try.params6] at hA hval
  obtain ⟨v0, vs0, d0, ds0, p0, q0, hargs, rfl, rfl, h0, r0⟩ := trodAll_cons hA
  obtain ⟨rfl, rfl, rfl⟩ := trodAll_nil r0
  obtain rfl : args = #[v0] := by cases args; simp_all
  obtain ⟨rfl, rfl⟩ := trodVars_none hV
  have k0 := h0
  have lt0 : ∀ x ∈ p0, x.block < W.heap.size := by obtain ⟨m, hm⟩ := k0; exact DataW.trod_lt m _ _ _ hm
  obtain ⟨A0, n0, c0, rfl⟩ := okWide_slice Try.underlying22 (hval 0 22 v0 rfl rfl)
  obtain ⟨hm0, l0, rfl, hr0, hw0⟩ := open_list (cells := icell) (Wf := fun _ => True) Try.underlying22 (C := 1) (by kernel_rfl) (by decide) (fun m cs y h => trod_icell h) (fun _ => rfl) h0
  clear hA0 hval0 hsz0
  refine (iommuApart_walk W A0 c0 l0 hm0 hr0 hw0).mono fun e W' ⟨he, bel⟩ => ?_
  subst he
  exact ⟨_, rfl, _, _, _, [], _, [], hW', trodAll_mk1 (shut_bool Try.underlying4 _), (trodAll_cons_mk (Below.trod laidOut (by kernel_rfl) (of_decide_eq_true (by kernel_rfl)) k0 bel lt0) trodAll_mk0), rfl, bel.frame _, fun h => by cases h⟩
theorem k0 : (Rows.iommuApartRow.wf (OpenSpec.ofChange Rows.iommuApartSpec)) = true := by kernel_rfl
theorem k3 : (Try.f6.params.all (Try.prog.readableRec ·)) = true := by kernel_rfl
theorem k4 : (namedTie Try.prog Rows.iommuApartRow.named Rows.iommuApartSpec.vars) = true := by kernel_rfl
theorem k5 : ((Rows.iommuApartRow.stops == [])) = true := by kernel_rfl
theorem k7 : ((Rows.iommuApartRow.knobs == [])) = true := by kernel_rfl
theorem k9 : ((Rows.iommuApartRow.inPlace == Try.prog.inPlace 6)) = true := by kernel_rfl
theorem k10 : ((Rows.iommuApartRow.unfollowed == Try.prog.unfollowed 6)) = true := by kernel_rfl
theorem k11 : ((Rows.iommuApartRow.recurses == Try.prog.recurses 6)) = true := by kernel_rfl
theorem k12 : ((Rows.iommuApartRow.named == Try.prog.varsNamed 6)) = true := by kernel_rfl
theorem k13 : ((Rows.iommuApartRow.maps == (Try.f6.params.toList ++ Rows.iommuApartSpec.plain.varTypes Try.prog).any (Try.prog.mapsRec ·))) = true := by kernel_rfl
theorem k14 : ((Rows.iommuApartRow.ifaces == (Try.f6.params.toList ++ Rows.iommuApartSpec.plain.varTypes Try.prog).any (Try.prog.ifacesRec ·))) = true := by kernel_rfl
theorem k15 : ((Rows.iommuApartRow.mapsOut == Try.prog.mapsAmong Try.f6.resultTypes.toList)) = true := by kernel_rfl
theorem k16 : ((Rows.iommuApartRow.loops == (Try.f6.params.toList ++ Rows.iommuApartSpec.plain.varTypes Try.prog).any (Try.prog.loopsFrom ·))) = true := by kernel_rfl
theorem k17 : ((Rows.iommuApartRow.wideKeys == (Try.f6.params.toList ++ Rows.iommuApartSpec.plain.varTypes Try.prog ++ Try.f6.resultTypes.toList).any (Try.prog.wideKeysFrom ·))) = true := by kernel_rfl
theorem k18 : (Rows.iommuApartSpec.vars.all (Try.prog.varReadable ·)) = true := by kernel_rfl
theorem k19 : (Try.f6.resultTypes.all (fun t => Try.prog.readableRec t && decide (t < Try.prog.types.size))) = true := by kernel_rfl
theorem k20 : ((Rows.iommuApartRow.ifacesOut == Try.f6.resultTypes.toList.any (Try.prog.ifacesRec ·))) = true := by kernel_rfl
theorem k21 : ((Rows.iommuApartRow.loopsOut == Try.f6.resultTypes.toList.any (Try.prog.loopsFrom ·))) = true := by kernel_rfl
theorem k22 : ((Rows.iommuApartRow.plainKeys == Try.prog.plainKeys)) = true := fact22
theorem k23 : (Rows.iommuApartRow.shortTexts.isNone) = true := by kernel_rfl
theorem k26 : ((Rows.iommuApartRow.lifted == Try.prog.liftsFinal)) = true := fact26
theorem k27 : ((Try.prog.make == some Rows.iommuApartRow.make)) = true := fact27
theorem k28 : ((Rows.iommuApartRow.kinds == (if Rows.iommuApartRow.domain.isEmpty then [] else Try.f6.params.toList.map fun t => match Try.prog.underlying t with | some (.int k) => some k | _ => none))) = true := by kernel_rfl
theorem k29 : ((Rows.iommuApartRow.pinned == Rows.iommuApartRow.pinnedBy)) = true := by kernel_rfl
theorem k30 : ((Rows.iommuApartRow.veiled == (Try.f6.params.toList ++ Rows.iommuApartSpec.plain.varTypes Try.prog ++ Try.f6.resultTypes.toList).any (Try.prog.veiledRec ·))) = true := by kernel_rfl
theorem k31 : (Rows.iommuApartRow.veiledFits Try.prog Try.f6.params.toList (Try.f6.params.toList ++ Rows.iommuApartSpec.plain.varTypes Try.prog ++ Try.f6.resultTypes.toList)) = true := by kernel_rfl
set_option maxRecDepth 100000 in
theorem joined : joinedFacts Try.prog 6 Try.f6 Rows.iommuApartSpec Rows.iommuApartRow = true := joined_mk k0 fact1 fact2 k3 k4 k5 fact6 k7 fact8 k9 k10 k11 k12 k13 k14 k15 k16 k17 k18 k19 k20 k21 k22 k23 fact24 fact25 k26 k27 k28 k29 k30 k31
theorem inst : Try.f6.isInstance Try.prog Rows.iommuApartRow.origin Rows.iommuApartRow.targs := of_decide_eq_true (by kernel_rfl)
theorem wrapper : Try.f6.isWrapper Try.prog Rows.iommuApartRow.wrapper Rows.iommuApartRow.mainSum := by unfold Func.isWrapper; first | (rw [if_pos (by decide +kernel)]; kernel_rfl) | (rw [if_neg (by decide +kernel)]; exact ⟨rfl, rfl⟩)
theorem fnamed : Try.prog.funcNamed Rows.iommuApartRow.func = some 6 := by kernel_rfl
end IommuApartRow
/-- The row. -/
theorem iommuApart_holds : Rows.IommuApartSaid :=
  OpenClaim.holds_of_wide 6 Try.f6 rfl rfl rfl rfl rfl rfl rfl ⟨rfl, rfl, rfl, rfl, rfl⟩ rfl rfl rfl rfl rfl IommuApartRow.fnamed Try.func6 IommuApartRow.joined
    IommuApartRow.inst IommuApartRow.wrapper
    (fun os started H enc _ => IommuApartRow.lifted os started H enc)
#print axioms iommuApart_holds
end Go.Proofs.Ytnallfehffhaeaa
