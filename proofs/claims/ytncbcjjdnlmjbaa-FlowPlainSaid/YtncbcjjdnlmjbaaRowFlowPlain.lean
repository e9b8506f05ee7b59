/- The law FlowPlain returns true for every input, and its arguments read as before. No condition. -/
import Derived.Test.YtncbcjjdnlmjbaaFlowPlain
import Derived.Test.YtncbcjjdnlmjbaaOpen
import Derived.Test.YtncbcjjdnlmjbaaFacts
import Derived.ProofKit
import Derived.SizedLaws
import Derived.OpenShut
import Derived.ShutString
import Derived.ChangeOld
set_option linter.unusedSimpArgs false
set_option linter.unusedVariables false
namespace Go.Proofs.Ytncbcjjdnlmjbaa
open Go.ChangeShapes Go.WideShapes Go.ChangeAt Go.RowKit
open Go.ChangeMaps (open_string shut_string)
namespace FlowPlainRow
theorem own : ownKnob Try.prog.godebug = none := by kernel_rfl
theorem laidOut : laidOutB Try.prog = true := fact1
set_option maxRecDepth 100000 in
theorem lifted (os : Os) (started : os.Started) (H : Type) (enc : TypeId × Value → H) :
    ReturnsInHanded {} Try.checked os 11 .any (Rows.flowPlainSpec.pre6 enc Try.prog Try.f11 Rows.flowPlainRow.domain false) (Rows.flowPlainSpec.post enc Try.prog Try.f11 false true false false) := by
  refine returnsInHanded_of_change_sized (C := Try.checked) own started (by kernel_rfl) Try.func11
    (ChangeSpec.witness6 (enc := enc) (C := Try.checked) false ⟨#[], #[.int .i64 0, .int .i64 0], []⟩ 8 (by kernel_rfl) (by kernel_rfl) (by kernel_rfl) (by kernel_rfl)) ?_
  intro W base args ds gs before hval0 hW hcnd hsz0 _
  have hval : ∀ (j : Nat) t v, Try.f11.params[j]? = some t → args[j]? = some v → Value.okWide Try.prog W .any base t v := hval0
  have hW' := hW
  obtain ⟨p, q, hA0, hV, rfl, hfz, hnd⟩ := hW
  have hA : DataW.TrodAll enc Try.prog W 0 (fun _ => true) true Try.f11.params.toList args.toList ds p := hA0
  rw [Try.params11] at hA hval
  obtain ⟨v0, vs0, d0, ds0, p0, q0, hargs, rfl, rfl, h0, r0⟩ := trodAll_cons hA
  obtain ⟨v1, vs1, d1, ds1, p1, q1, rfl, rfl, rfl, h1, r1⟩ := trodAll_cons r0
  obtain ⟨rfl, rfl, rfl⟩ := trodAll_nil r1
  obtain rfl : args = #[v0, v1] := by cases args; simp_all
  obtain ⟨rfl, rfl⟩ := trodVars_none hV
  obtain ⟨a0, rfl, rfl, rfl, w0⟩ := open_int Try.underlying3 (hval 0 3 v0 rfl rfl) h0
  obtain ⟨a1, rfl, rfl, rfl, w1⟩ := open_int Try.underlying3 (hval 1 3 v1 rfl rfl) h1
  clear hA0 hval0 hsz0
  refine (flowPlain_walk W a0 a1).mono fun e W' ⟨he, bel⟩ => ?_
  subst he
  exact ⟨_, rfl, _, _, _, [], _, [], hW', trodAll_mk1 (shut_bool Try.underlying4 _), (trodAll_cons_mk (shut_int Try.underlying3 w0) (trodAll_cons_mk (shut_int Try.underlying3 w1) trodAll_mk0)), rfl, bel.frame _, fun h => by cases h⟩
theorem k0 : (Rows.flowPlainRow.wf (OpenSpec.ofChange Rows.flowPlainSpec)) = true := by kernel_rfl
theorem k3 : (Try.f11.params.all (Try.prog.readableRec ·)) = true := by kernel_rfl
theorem k4 : (namedTie Try.prog Rows.flowPlainRow.named Rows.flowPlainSpec.vars) = true := by kernel_rfl
theorem k5 : ((Rows.flowPlainRow.stops == [])) = true := by kernel_rfl
theorem k7 : ((Rows.flowPlainRow.knobs == [])) = true := by kernel_rfl
theorem k9 : ((Rows.flowPlainRow.inPlace == Try.prog.inPlace 11)) = true := by kernel_rfl
theorem k10 : ((Rows.flowPlainRow.unfollowed == Try.prog.unfollowed 11)) = true := by kernel_rfl
theorem k11 : ((Rows.flowPlainRow.recurses == Try.prog.recurses 11)) = true := by kernel_rfl
theorem k12 : ((Rows.flowPlainRow.named == Try.prog.varsNamed 11)) = true := by kernel_rfl
theorem k13 : ((Rows.flowPlainRow.maps == (Try.f11.params.toList ++ Rows.flowPlainSpec.plain.varTypes Try.prog).any (Try.prog.mapsRec ·))) = true := by kernel_rfl
theorem k14 : ((Rows.flowPlainRow.ifaces == (Try.f11.params.toList ++ Rows.flowPlainSpec.plain.varTypes Try.prog).any (Try.prog.ifacesRec ·))) = true := by kernel_rfl
theorem k15 : ((Rows.flowPlainRow.mapsOut == Try.prog.mapsAmong Try.f11.resultTypes.toList)) = true := by kernel_rfl
theorem k16 : ((Rows.flowPlainRow.loops == (Try.f11.params.toList ++ Rows.flowPlainSpec.plain.varTypes Try.prog).any (Try.prog.loopsFrom ·))) = true := by kernel_rfl
theorem k17 : ((Rows.flowPlainRow.wideKeys == (Try.f11.params.toList ++ Rows.flowPlainSpec.plain.varTypes Try.prog ++ Try.f11.resultTypes.toList).any (Try.prog.wideKeysFrom ·))) = true := by kernel_rfl
theorem k18 : (Rows.flowPlainSpec.vars.all (Try.prog.varReadable ·)) = true := by kernel_rfl
theorem k19 : (Try.f11.resultTypes.all (fun t => Try.prog.readableRec t && decide (t < Try.prog.types.size))) = true := by kernel_rfl
theorem k20 : ((Rows.flowPlainRow.ifacesOut == Try.f11.resultTypes.toList.any (Try.prog.ifacesRec ·))) = true := by kernel_rfl
theorem k21 : ((Rows.flowPlainRow.loopsOut == Try.f11.resultTypes.toList.any (Try.prog.loopsFrom ·))) = true := by kernel_rfl
theorem k22 : ((Rows.flowPlainRow.plainKeys == Try.prog.plainKeys)) = true := fact22
theorem k23 : (Rows.flowPlainRow.shortTexts.isNone) = true := by kernel_rfl
theorem k26 : ((Rows.flowPlainRow.lifted == Try.prog.liftsFinal)) = true := fact26
theorem k27 : ((Try.prog.make == some Rows.flowPlainRow.make)) = true := fact27
theorem k28 : ((Rows.flowPlainRow.kinds == (if Rows.flowPlainRow.domain.isEmpty then [] else Try.f11.params.toList.map fun t => match Try.prog.underlying t with | some (.int k) => some k | _ => none))) = true := by kernel_rfl
theorem k29 : ((Rows.flowPlainRow.pinned == Rows.flowPlainRow.pinnedBy)) = true := by kernel_rfl
theorem k30 : ((Rows.flowPlainRow.veiled == (Try.f11.params.toList ++ Rows.flowPlainSpec.plain.varTypes Try.prog ++ Try.f11.resultTypes.toList).any (Try.prog.veiledRec ·))) = true := by kernel_rfl
theorem k31 : (Rows.flowPlainRow.veiledFits Try.prog Try.f11.params.toList (Try.f11.params.toList ++ Rows.flowPlainSpec.plain.varTypes Try.prog ++ Try.f11.resultTypes.toList)) = true := by kernel_rfl
set_option maxRecDepth 100000 in
theorem joined : joinedFacts Try.prog 11 Try.f11 Rows.flowPlainSpec Rows.flowPlainRow = true := joined_mk k0 fact1 fact2 k3 k4 k5 fact6 k7 fact8 k9 k10 k11 k12 k13 k14 k15 k16 k17 k18 k19 k20 k21 k22 k23 fact24 fact25 k26 k27 k28 k29 k30 k31
theorem inst : Try.f11.isInstance Try.prog Rows.flowPlainRow.origin Rows.flowPlainRow.targs := of_decide_eq_true (by kernel_rfl)
theorem wrapper : Try.f11.isWrapper Try.prog Rows.flowPlainRow.wrapper Rows.flowPlainRow.mainSum := by unfold Func.isWrapper; first | (rw [if_pos (by decide +kernel)]; kernel_rfl) | (rw [if_neg (by decide +kernel)]; exact ⟨rfl, rfl⟩)
theorem fnamed : Try.prog.funcNamed Rows.flowPlainRow.func = some 11 := by kernel_rfl
end FlowPlainRow
/-- The row. -/
theorem flowPlain_holds : Rows.FlowPlainSaid :=
  OpenClaim.holds_of_wide 11 Try.f11 rfl rfl rfl rfl rfl rfl rfl ⟨rfl, rfl, rfl, rfl, rfl⟩ rfl rfl rfl rfl rfl FlowPlainRow.fnamed Try.func11 FlowPlainRow.joined
    FlowPlainRow.inst FlowPlainRow.wrapper
    (fun os started H enc _ => FlowPlainRow.lifted os started H enc)
#print axioms flowPlain_holds
end Go.Proofs.Ytncbcjjdnlmjbaa
