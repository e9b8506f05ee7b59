/- The law PendingApart returns true for every input, and its arguments read as before. No condition. -/
import Derived.Test.YtpnhdiajiieonaaPendApart
import Derived.Test.YtpnhdiajiieonaaFacts
import Derived.ProofKit
import Derived.SizedLaws
import Derived.OpenShut
import Derived.ShutString
import Derived.ChangeOld
set_option linter.unusedSimpArgs false
set_option linter.unusedVariables false
namespace Go.Proofs.Ytpnhdiajiieonaa
open Go.ChangeShapes Go.WideShapes Go.ChangeAt Go.RowKit
open Go.ChangeMaps (open_string shut_string)
namespace PendingApartRow
theorem own : ownKnob Try.prog.godebug = none := by kernel_rfl
theorem laidOut : laidOutB Try.prog = true := fact1
set_option maxRecDepth 100000 in
theorem lifted (os : Os) (started : os.Started) (H : Type) (enc : TypeId × Value → H) :
    ReturnsInHanded {} Try.checked os 13 .any (Rows.pendingApartSpec.pre6 enc Try.prog Try.f13 Rows.pendingApartRow.domain false) (Rows.pendingApartSpec.post enc Try.prog Try.f13 false true false false) := by
  refine returnsInHanded_of_change_sized (C := Try.checked) own started (by kernel_rfl) Try.func13
    (ChangeSpec.witness6 (enc := enc) (C := Try.checked) false ⟨#[], #[.slice none 0 0], []⟩ 8 (by kernel_rfl) (by kernel_rfl) (by kernel_rfl) (by kernel_rfl)) ?_
  intro W base args ds gs before hval0 hW hcnd hsz0 _
  have hval : ∀ (j : Nat) t v, Try.f13.params[j]? = some t → args[j]? = some v → Value.okWide Try.prog W .any base t v := hval0
  have hW' := hW
  obtain ⟨p, q, hA0, hV, rfl, hfz, hnd⟩ := hW
  have hA : DataW.TrodAll enc Try.prog W 0 (fun _ => true) true Try.f13.params.toList args.toList ds p := hA0
  rw [Try.params13] at hA hval
  obtain ⟨v0, vs0, d0, ds0, p0, q0, hargs, rfl, rfl, h0, r0⟩ := trodAll_cons hA
  obtain ⟨rfl, rfl, rfl⟩ := trodAll_nil r0
  obtain rfl : args = #[v0] := by cases args; simp_all
  obtain ⟨rfl, rfl⟩ := trodVars_none hV
  have k0 := h0
  have lt0 : ∀ x ∈ p0, x.block < W.heap.size := by obtain ⟨m, hm⟩ := k0; exact DataW.trod_lt m _ _ _ hm
  obtain ⟨A0, n0, c0, rfl⟩ := okWide_slice Try.underlying54 (hval 0 54 v0 rfl rfl)
  obtain ⟨hm0, l0, rfl, hr0, hw0⟩ := open_list (cells := icell) (Wf := fun _ => True) Try.underlying54 (C := 1) (by kernel_rfl) (by decide) (fun m cs y h => trod_icell h) (fun _ => rfl) h0
  clear hA0 hval0 hsz0
  refine (pendingApart_walk W A0 c0 l0 hm0 hr0 hw0).mono fun e W' ⟨he, bel⟩ => ?_
  subst he
  exact ⟨_, rfl, _, _, _, [], _, [], hW', trodAll_mk1 (shut_bool Try.underlying4 _), (trodAll_cons_mk (Below.trod laidOut (by kernel_rfl) (of_decide_eq_true (by kernel_rfl)) k0 bel lt0) trodAll_mk0), rfl, bel.frame _, fun h => by cases h⟩
theorem k0 : (Rows.pendingApartRow.wf (OpenSpec.ofChange Rows.pendingApartSpec)) = true := by kernel_rfl
theorem k3 : (Try.f13.params.all (Try.prog.readableRec ·)) = true := by kernel_rfl
theorem k4 : (namedTie Try.prog Rows.pendingApartRow.named Rows.pendingApartSpec.vars) = true := by kernel_rfl
theorem k5 : ((Rows.pendingApartRow.stops == [])) = true := by kernel_rfl
theorem k7 : ((Rows.pendingApartRow.knobs == [])) = true := by kernel_rfl
theorem k9 : ((Rows.pendingApartRow.inPlace == Try.prog.inPlace 13)) = true := by kernel_rfl
theorem k10 : ((Rows.pendingApartRow.unfollowed == Try.prog.unfollowed 13)) = true := by kernel_rfl
theorem k11 : ((Rows.pendingApartRow.recurses == Try.prog.recurses 13)) = true := by kernel_rfl
theorem k12 : ((Rows.pendingApartRow.named == Try.prog.varsNamed 13)) = true := by kernel_rfl
theorem k13 : ((Rows.pendingApartRow.maps == (Try.f13.params.toList ++ Rows.pendingApartSpec.plain.varTypes Try.prog).any (Try.prog.mapsRec ·))) = true := by kernel_rfl
theorem k14 : ((Rows.pendingApartRow.ifaces == (Try.f13.params.toList ++ Rows.pendingApartSpec.plain.varTypes Try.prog).any (Try.prog.ifacesRec ·))) = true := by kernel_rfl
theorem k15 : ((Rows.pendingApartRow.mapsOut == Try.prog.mapsAmong Try.f13.resultTypes.toList)) = true := by kernel_rfl
theorem k16 : ((Rows.pendingApartRow.loops == (Try.f13.params.toList ++ Rows.pendingApartSpec.plain.varTypes Try.prog).any (Try.prog.loopsFrom ·))) = true := by kernel_rfl
theorem k17 : ((Rows.pendingApartRow.wideKeys == (Try.f13.params.toList ++ Rows.pendingApartSpec.plain.varTypes Try.prog ++ Try.f13.resultTypes.toList).any (Try.prog.wideKeysFrom ·))) = true := by kernel_rfl
theorem k18 : (Rows.pendingApartSpec.vars.all (Try.prog.varReadable ·)) = true := by kernel_rfl
theorem k19 : (Try.f13.resultTypes.all (fun t => Try.prog.readableRec t && decide (t < Try.prog.types.size))) = true := by kernel_rfl
theorem k20 : ((Rows.pendingApartRow.ifacesOut == Try.f13.resultTypes.toList.any (Try.prog.ifacesRec ·))) = true := by kernel_rfl
theorem k21 : ((Rows.pendingApartRow.loopsOut == Try.f13.resultTypes.toList.any (Try.prog.loopsFrom ·))) = true := by kernel_rfl
theorem k22 : ((Rows.pendingApartRow.plainKeys == Try.prog.plainKeys)) = true := fact22
theorem k23 : (Rows.pendingApartRow.shortTexts.isNone) = true := by kernel_rfl
theorem k26 : ((Rows.pendingApartRow.lifted == Try.prog.liftsFinal)) = true := fact26
theorem k27 : ((Try.prog.make == some Rows.pendingApartRow.make)) = true := fact27
theorem k28 : ((Rows.pendingApartRow.kinds == (if Rows.pendingApartRow.domain.isEmpty then [] else Try.f13.params.toList.map fun t => match Try.prog.underlying t with | some (.int k) => some k | _ => none))) = true := by kernel_rfl
theorem k29 : ((Rows.pendingApartRow.pinned == Rows.pendingApartRow.pinnedBy)) = true := by kernel_rfl
theorem k30 : ((Rows.pendingApartRow.veiled == (Try.f13.params.toList ++ Rows.pendingApartSpec.plain.varTypes Try.prog ++ Try.f13.resultTypes.toList).any (Try.prog.veiledRec ·))) = true := by kernel_rfl
theorem k31 : (Rows.pendingApartRow.veiledFits Try.prog Try.f13.params.toList (Try.f13.params.toList ++ Rows.pendingApartSpec.plain.varTypes Try.prog ++ Try.f13.resultTypes.toList)) = true := by kernel_rfl
set_option maxRecDepth 100000 in
theorem joined : joinedFacts Try.prog 13 Try.f13 Rows.pendingApartSpec Rows.pendingApartRow = true := joined_mk k0 fact1 fact2 k3 k4 k5 fact6 k7 fact8 k9 k10 k11 k12 k13 k14 k15 k16 k17 k18 k19 k20 k21 k22 k23 fact24 fact25 k26 k27 k28 k29 k30 k31
theorem inst : Try.f13.isInstance Try.prog Rows.pendingApartRow.origin Rows.pendingApartRow.targs := of_decide_eq_true (by kernel_rfl)
theorem wrapper : Try.f13.isWrapper Try.prog Rows.pendingApartRow.wrapper Rows.pendingApartRow.mainSum := by unfold Func.isWrapper; first | (rw [if_pos (by decide +kernel)]; kernel_rfl) | (rw [if_neg (by decide +kernel)]; exact ⟨rfl, rfl⟩)
theorem fnamed : Try.prog.funcNamed Rows.pendingApartRow.func = some 13 := by kernel_rfl
end PendingApartRow
/-- The row. -/
theorem pendingApart_holds : Rows.PendingApartSaid :=
  OpenClaim.holds_of_wide 13 Try.f13 rfl rfl rfl rfl rfl rfl rfl ⟨rfl, rfl, rfl, rfl, rfl⟩ rfl rfl rfl rfl rfl PendingApartRow.fnamed Try.func13 PendingApartRow.joined
    PendingApartRow.inst PendingApartRow.wrapper
    (fun os started H enc _ => PendingApartRow.lifted os started H enc)
#print axioms pendingApart_holds
end Go.Proofs.Ytpnhdiajiieonaa
