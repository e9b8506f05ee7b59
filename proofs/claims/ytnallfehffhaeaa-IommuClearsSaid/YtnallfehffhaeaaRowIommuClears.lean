/- The law IommuClears returns true for every input, and its arguments read as before. No condition. -/
import Derived.Test.YtnallfehffhaeaaIommuClears
import Derived.Test.YtnallfehffhaeaaInts
import Derived.Test.YtnallfehffhaeaaFacts
import Derived.ProofKit
import Derived.SizedLaws
import Derived.OpenShut
import Derived.ShutString
import Derived.ChangeOld
set_option linter.unusedSimpArgs false
set_option linter.unusedVariables false
namespace Go.Proofs.Ytnallfehffhaeaa
open Go.ChangeShapes Go.WideShapes Go.ChangeAt Go.RowKit
open Go.ChangeMaps (open_string shut_string)
namespace IommuClearsRow
theorem own : ownKnob Try.prog.godebug = none := by kernel_rfl
theorem laidOut : laidOutB Try.prog = true := fact1
set_option maxRecDepth 100000 in
theorem lifted (os : Os) (started : os.Started) (H : Type) (enc : TypeId × Value → H) :
    ReturnsInHanded {} Try.checked os 7 .any (Rows.iommuClearsSpec.pre6 enc Try.prog Try.f7 Rows.iommuClearsRow.domain false) (Rows.iommuClearsSpec.post enc Try.prog Try.f7 false true false false) := by
  refine returnsInHanded_of_change_sized (C := Try.checked) own started (by kernel_rfl) Try.func7
    (ChangeSpec.witness6 (enc := enc) (C := Try.checked) false ⟨#[], #[.slice none 0 0], []⟩ 8 (by kernel_rfl) (by kernel_rfl) (by kernel_rfl) (by kernel_rfl)) ?_
  intro W base args ds gs before hval0 hW hcnd hsz0 _
  have hval : ∀ (j : Nat) t v, Try.f7.params[j]? = some t → args[j]? = some v → Value.okWide Try.prog W .any base t v := hval0
  have hW' := hW
  obtain ⟨p, q, hA0, hV, rfl, hfz, hnd⟩ := hW
  have hA : DataW.TrodAll enc Try.prog W 0 (fun _ => true) true Try.f7.params.toList args.toList ds p := hA0
  rw [Try.params7] at hA hval
  obtain ⟨v0, vs0, d0, ds0, p0, q0, hargs, rfl, rfl, h0, r0⟩ := trodAll_cons hA
  obtain ⟨rfl, rfl, rfl⟩ := trodAll_nil r0
  obtain rfl : args = #[v0] := by cases args; simp_all
  obtain ⟨rfl, rfl⟩ := trodVars_none hV
  have k0 := h0
  have lt0 : ∀ x ∈ p0, x.block < W.heap.size := by obtain ⟨m, hm⟩ := k0; exact DataW.trod_lt m _ _ _ hm
  obtain ⟨A0, n0, c0, rfl⟩ := okWide_slice Try.underlying22 (hval 0 22 v0 rfl rfl)
  obtain ⟨hm0, l0, rfl, hr0, hw0⟩ := open_list (cells := icell) (Wf := fun _ => True) Try.underlying22 (C := 1) (by kernel_rfl) (by decide) (fun m cs y h => trod_icell h) (fun _ => rfl) h0
  clear hA0 hval0 hsz0
  refine (iommuClears_walk W A0 c0 l0 hm0 hr0 hw0).mono fun e W' ⟨he, bel⟩ => ?_
  subst he
  exact ⟨_, rfl, _, _, _, [], _, [], hW', trodAll_mk1 (shut_bool Try.underlying4 _), (trodAll_cons_mk (Below.trod laidOut (by kernel_rfl) (of_decide_eq_true (by kernel_rfl)) k0 bel lt0) trodAll_mk0), rfl, bel.frame _, fun h => by cases h⟩
theorem k0 : (Rows.iommuClearsRow.wf (OpenSpec.ofChange Rows.iommuClearsSpec)) = true := by kernel_rfl
theorem k3 : (Try.f7.params.all (Try.prog.readableRec ·)) = true := by kernel_rfl
theorem k4 : (namedTie Try.prog Rows.iommuClearsRow.named Rows.iommuClearsSpec.vars) = true := by kernel_rfl
theorem k5 : ((Rows.iommuClearsRow.stops == [])) = true := by kernel_rfl
theorem k7 : ((Rows.iommuClearsRow.knobs == [])) = true := by kernel_rfl
theorem k9 : ((Rows.iommuClearsRow.inPlace == Try.prog.inPlace 7)) = true := by kernel_rfl
theorem k10 : ((Rows.iommuClearsRow.unfollowed == Try.prog.unfollowed 7)) = true := by kernel_rfl
theorem k11 : ((Rows.iommuClearsRow.recurses == Try.prog.recurses 7)) = true := by kernel_rfl
theorem k12 : ((Rows.iommuClearsRow.named == Try.prog.varsNamed 7)) = true := by kernel_rfl
theorem k13 : ((Rows.iommuClearsRow.maps == (Try.f7.params.toList ++ Rows.iommuClearsSpec.plain.varTypes Try.prog).any (Try.prog.mapsRec ·))) = true := by kernel_rfl
theorem k14 : ((Rows.iommuClearsRow.ifaces == (Try.f7.params.toList ++ Rows.iommuClearsSpec.plain.varTypes Try.prog).any (Try.prog.ifacesRec ·))) = true := by kernel_rfl
theorem k15 : ((Rows.iommuClearsRow.mapsOut == Try.prog.mapsAmong Try.f7.resultTypes.toList)) = true := by kernel_rfl
theorem k16 : ((Rows.iommuClearsRow.loops == (Try.f7.params.toList ++ Rows.iommuClearsSpec.plain.varTypes Try.prog).any (Try.prog.loopsFrom ·))) = true := by kernel_rfl
theorem k17 : ((Rows.iommuClearsRow.wideKeys == (Try.f7.params.toList ++ Rows.iommuClearsSpec.plain.varTypes Try.prog ++ Try.f7.resultTypes.toList).any (Try.prog.wideKeysFrom ·))) = true := by kernel_rfl
theorem k18 : (Rows.iommuClearsSpec.vars.all (Try.prog.varReadable ·)) = true := by kernel_rfl
theorem k19 : (Try.f7.resultTypes.all (fun t => Try.prog.readableRec t && decide (t < Try.prog.types.size))) = true := by kernel_rfl
theorem k20 : ((Rows.iommuClearsRow.ifacesOut == Try.f7.resultTypes.toList.any (Try.prog.ifacesRec ·))) = true := by kernel_rfl
theorem k21 : ((Rows.iommuClearsRow.loopsOut == Try.f7.resultTypes.toList.any (Try.prog.loopsFrom ·))) = true := by kernel_rfl
theorem k22 : ((Rows.iommuClearsRow.plainKeys == Try.prog.plainKeys)) = true := fact22
theorem k23 : (Rows.iommuClearsRow.shortTexts.isNone) = true := by kernel_rfl
theorem k26 : ((Rows.iommuClearsRow.lifted == Try.prog.liftsFinal)) = true := fact26
theorem k27 : ((Try.prog.make == some Rows.iommuClearsRow.make)) = true := fact27
theorem k28 : ((Rows.iommuClearsRow.kinds == (if Rows.iommuClearsRow.domain.isEmpty then [] else Try.f7.params.toList.map fun t => match Try.prog.underlying t with | some (.int k) => some k | _ => none))) = true := by kernel_rfl
theorem k29 : ((Rows.iommuClearsRow.pinned == Rows.iommuClearsRow.pinnedBy)) = true := by kernel_rfl
theorem k30 : ((Rows.iommuClearsRow.veiled == (Try.f7.params.toList ++ Rows.iommuClearsSpec.plain.varTypes Try.prog ++ Try.f7.resultTypes.toList).any (Try.prog.veiledRec ·))) = true := by kernel_rfl
theorem k31 : (Rows.iommuClearsRow.veiledFits Try.prog Try.f7.params.toList (Try.f7.params.toList ++ Rows.iommuClearsSpec.plain.varTypes Try.prog ++ Try.f7.resultTypes.toList)) = true := by kernel_rfl
set_option maxRecDepth 100000 in
theorem joined : joinedFacts Try.prog 7 Try.f7 Rows.iommuClearsSpec Rows.iommuClearsRow = true := joined_mk k0 fact1 fact2 k3 k4 k5 fact6 k7 fact8 k9 k10 k11 k12 k13 k14 k15 k16 k17 k18 k19 k20 k21 k22 k23 fact24 fact25 k26 k27 k28 k29 k30 k31
theorem inst : Try.f7.isInstance Try.prog Rows.iommuClearsRow.origin Rows.iommuClearsRow.targs := of_decide_eq_true (by kernel_rfl)
theorem wrapper : Try.f7.isWrapper Try.prog Rows.iommuClearsRow.wrapper Rows.iommuClearsRow.mainSum := by unfold Func.isWrapper; first | (rw [if_pos (by decide +kernel)]; kernel_rfl) | (rw [if_neg (by decide +kernel)]; exact ⟨rfl, rfl⟩)
theorem fnamed : Try.prog.funcNamed Rows.iommuClearsRow.func = some 7 := by kernel_rfl
end IommuClearsRow
/-- The row. -/
theorem iommuClears_holds : Rows.IommuClearsSaid :=
  OpenClaim.holds_of_wide 7 Try.f7 rfl rfl rfl rfl rfl rfl rfl ⟨rfl, rfl, rfl, rfl, rfl⟩ rfl rfl rfl rfl rfl IommuClearsRow.fnamed Try.func7 IommuClearsRow.joined
    IommuClearsRow.inst IommuClearsRow.wrapper
    (fun os started H enc _ => IommuClearsRow.lifted os started H enc)
#print axioms iommuClears_holds
end Go.Proofs.Ytnallfehffhaeaa
