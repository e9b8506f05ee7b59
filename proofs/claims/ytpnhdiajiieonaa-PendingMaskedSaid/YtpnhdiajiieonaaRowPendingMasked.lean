/- The law PendingMasked returns true for every input, and its arguments read as before. No condition. -/
import Derived.Test.YtpnhdiajiieonaaPendMasked
import Derived.Test.YtpnhdiajiieonaaFacts
import Derived.ProofKit
import Derived.SizedLaws
import Derived.OpenShut
import Derived.ShutString
import Derived.ChangeOld
set_option linter.unusedSimpArgs false
set_option linter.unusedVariables false
namespace Go.Proofs.Ytpnhdiajiieonaa
open Go.ChangeShapes Go.WideShapes Go.ChangeAt Go.RowKit
open Go.ChangeMaps (open_string shut_string)
namespace PendingMaskedRow
theorem own : ownKnob Try.prog.godebug = none := by kernel_rfl
theorem laidOut : laidOutB Try.prog = true := fact1
set_option maxRecDepth 100000 in
theorem lifted (os : Os) (started : os.Started) (H : Type) (enc : TypeId × Value → H) :
    ReturnsInHanded {} Try.checked os 11 .any (Rows.pendingMaskedSpec.pre6 enc Try.prog Try.f11 Rows.pendingMaskedRow.domain false) (Rows.pendingMaskedSpec.post enc Try.prog Try.f11 false true false false) := by
  refine returnsInHanded_of_change_sized (C := Try.checked) own started (by kernel_rfl) Try.func11
    (ChangeSpec.witness6 (enc := enc) (C := Try.checked) false ⟨#[], #[.slice none 0 0, .slice none 0 0], []⟩ 8 (by kernel_rfl) (by kernel_rfl) (by kernel_rfl) (by kernel_rfl)) ?_
  intro W base args ds gs before hval0 hW hcnd hsz0 _
  have hval : ∀ (j : Nat) t v, Try.f11.params[j]? = some t → args[j]? = some v → Value.okWide Try.prog W .any base t v := hval0
  have hW' := hW
  obtain ⟨p, q, hA0, hV, rfl, hfz, hnd⟩ := hW
  have hA : DataW.TrodAll enc Try.prog W 0 (fun _ => true) true Try.f11.params.toList args.toList ds p := hA0
  rw [Try.params11] at hA hval
  obtain ⟨v0, vs0, d0, ds0, p0, q0, hargs, rfl, rfl, h0, r0⟩ := trodAll_cons hA
  obtain ⟨v1, vs1, d1, ds1, p1, q1, rfl, rfl, rfl, h1, r1⟩ := trodAll_cons r0
  obtain ⟨rfl, rfl, rfl⟩ := trodAll_nil r1
  obtain rfl : args = #[v0, v1] := by cases args; simp_all
  obtain ⟨rfl, rfl⟩ := trodVars_none hV
  have k0 := h0
  have lt0 : ∀ x ∈ p0, x.block < W.heap.size := by obtain ⟨m, hm⟩ := k0; exact DataW.trod_lt m _ _ _ hm
  obtain ⟨A0, n0, c0, rfl⟩ := okWide_slice Try.underlying54 (hval 0 54 v0 rfl rfl)
  obtain ⟨hm0, l0, rfl, hr0, hw0⟩ := open_list (cells := icell) (Wf := fun _ => True) Try.underlying54 (C := 1) (by kernel_rfl) (by decide) (fun m cs y h => trod_icell h) (fun _ => rfl) h0
  have k1 := h1
  have lt1 : ∀ x ∈ p1, x.block < W.heap.size := by obtain ⟨m, hm⟩ := k1; exact DataW.trod_lt m _ _ _ hm
  obtain ⟨A1, n1, c1, rfl⟩ := okWide_slice Try.underlying54 (hval 1 54 v1 rfl rfl)
  obtain ⟨hm1, l1, rfl, hr1, hw1⟩ := open_list (cells := icell) (Wf := fun _ => True) Try.underlying54 (C := 1) (by kernel_rfl) (by decide) (fun m cs y h => trod_icell h) (fun _ => rfl) h1
  clear hA0 hval0 hsz0
  refine (pendingMasked_walk W A0 c0 l0 hm0 hr0 hw0 A1 c1 l1 hm1 hr1 hw1).mono fun e W' ⟨he, bel⟩ => ?_
  subst he
  exact ⟨_, rfl, _, _, _, [], _, [], hW', trodAll_mk1 (shut_bool Try.underlying4 _), (trodAll_cons_mk (Below.trod laidOut (by kernel_rfl) (of_decide_eq_true (by kernel_rfl)) k0 bel lt0) (trodAll_cons_mk (Below.trod laidOut (by kernel_rfl) (of_decide_eq_true (by kernel_rfl)) k1 bel lt1) trodAll_mk0)), rfl, bel.frame _, fun h => by cases h⟩
theorem k0 : (Rows.pendingMaskedRow.wf (OpenSpec.ofChange Rows.pendingMaskedSpec)) = true := by kernel_rfl
theorem k3 : (Try.f11.params.all (Try.prog.readableRec ·)) = true := by kernel_rfl
theorem k4 : (namedTie Try.prog Rows.pendingMaskedRow.named Rows.pendingMaskedSpec.vars) = true := by kernel_rfl
theorem k5 : ((Rows.pendingMaskedRow.stops == [])) = true := by kernel_rfl
theorem k7 : ((Rows.pendingMaskedRow.knobs == [])) = true := by kernel_rfl
theorem k9 : ((Rows.pendingMaskedRow.inPlace == Try.prog.inPlace 11)) = true := by kernel_rfl
theorem k10 : ((Rows.pendingMaskedRow.unfollowed == Try.prog.unfollowed 11)) = true := by kernel_rfl
theorem k11 : ((Rows.pendingMaskedRow.recurses == Try.prog.recurses 11)) = true := by kernel_rfl
theorem k12 : ((Rows.pendingMaskedRow.named == Try.prog.varsNamed 11)) = true := by kernel_rfl
theorem k13 : ((Rows.pendingMaskedRow.maps == (Try.f11.params.toList ++ Rows.pendingMaskedSpec.plain.varTypes Try.prog).any (Try.prog.mapsRec ·))) = true := by kernel_rfl
theorem k14 : ((Rows.pendingMaskedRow.ifaces == (Try.f11.params.toList ++ Rows.pendingMaskedSpec.plain.varTypes Try.prog).any (Try.prog.ifacesRec ·))) = true := by kernel_rfl
theorem k15 : ((Rows.pendingMaskedRow.mapsOut == Try.prog.mapsAmong Try.f11.resultTypes.toList)) = true := by kernel_rfl
theorem k16 : ((Rows.pendingMaskedRow.loops == (Try.f11.params.toList ++ Rows.pendingMaskedSpec.plain.varTypes Try.prog).any (Try.prog.loopsFrom ·))) = true := by kernel_rfl
theorem k17 : ((Rows.pendingMaskedRow.wideKeys == (Try.f11.params.toList ++ Rows.pendingMaskedSpec.plain.varTypes Try.prog ++ Try.f11.resultTypes.toList).any (Try.prog.wideKeysFrom ·))) = true := by kernel_rfl
theorem k18 : (Rows.pendingMaskedSpec.vars.all (Try.prog.varReadable ·)) = true := by kernel_rfl
theorem k19 : (Try.f11.resultTypes.all (fun t => Try.prog.readableRec t && decide (t < Try.prog.types.size))) = true := by kernel_rfl
theorem k20 : ((Rows.pendingMaskedRow.ifacesOut == Try.f11.resultTypes.toList.any (Try.prog.ifacesRec ·))) = true := by kernel_rfl
theorem k21 : ((Rows.pendingMaskedRow.loopsOut == Try.f11.resultTypes.toList.any (Try.prog.loopsFrom ·))) = true := by kernel_rfl
theorem k22 : ((Rows.pendingMaskedRow.plainKeys == Try.prog.plainKeys)) = true := fact22
theorem k23 : (Rows.pendingMaskedRow.shortTexts.isNone) = true := by kernel_rfl
theorem k26 : ((Rows.pendingMaskedRow.lifted == Try.prog.liftsFinal)) = true := fact26
theorem k27 : ((Try.prog.make == some Rows.pendingMaskedRow.make)) = true := fact27
theorem k28 : ((Rows.pendingMaskedRow.kinds == (if Rows.pendingMaskedRow.domain.isEmpty then [] else Try.f11.params.toList.map fun t => match Try.prog.underlying t with | some (.int k) => some k | _ => none))) = true := by kernel_rfl
theorem k29 : ((Rows.pendingMaskedRow.pinned == Rows.pendingMaskedRow.pinnedBy)) = true := by kernel_rfl
theorem k30 : ((Rows.pendingMaskedRow.veiled == (Try.f11.params.toList ++ Rows.pendingMaskedSpec.plain.varTypes Try.prog ++ Try.f11.resultTypes.toList).any (Try.prog.veiledRec ·))) = true := by kernel_rfl
theorem k31 : (Rows.pendingMaskedRow.veiledFits Try.prog Try.f11.params.toList (Try.f11.params.toList ++ Rows.pendingMaskedSpec.plain.varTypes Try.prog ++ Try.f11.resultTypes.toList)) = true := by kernel_rfl
set_option maxRecDepth 100000 in
theorem joined : joinedFacts Try.prog 11 Try.f11 Rows.pendingMaskedSpec Rows.pendingMaskedRow = true := joined_mk k0 fact1 fact2 k3 k4 k5 fact6 k7 fact8 k9 k10 k11 k12 k13 k14 k15 k16 k17 k18 k19 k20 k21 k22 k23 fact24 fact25 k26 k27 k28 k29 k30 k31
theorem inst : Try.f11.isInstance Try.prog Rows.pendingMaskedRow.origin Rows.pendingMaskedRow.targs := of_decide_eq_true (by kernel_rfl)
theorem wrapper : Try.f11.isWrapper Try.prog Rows.pendingMaskedRow.wrapper Rows.pendingMaskedRow.mainSum := by unfold Func.isWrapper; first | (rw [if_pos (by decide +kernel)]; kernel_rfl) | (rw [if_neg (by decide +kernel)]; exact ⟨rfl, rfl⟩)
theorem fnamed : Try.prog.funcNamed Rows.pendingMaskedRow.func = some 11 := by kernel_rfl
end PendingMaskedRow
/-- The row. -/
theorem pendingMasked_holds : Rows.PendingMaskedSaid :=
  OpenClaim.holds_of_wide 11 Try.f11 rfl rfl rfl rfl rfl rfl rfl ⟨rfl, rfl, rfl, rfl, rfl⟩ rfl rfl rfl rfl rfl PendingMaskedRow.fnamed Try.func11 PendingMaskedRow.joined
    PendingMaskedRow.inst PendingMaskedRow.wrapper
    (fun os started H enc _ => PendingMaskedRow.lifted os started H enc)
#print axioms pendingMasked_holds
end Go.Proofs.Ytpnhdiajiieonaa
