/- The law PurgeAll returns true for every input, and its arguments read as before. No condition. -/
import Derived.Test.YtncbcjjdnlmjbaaPurgeAll
import Derived.Test.YtncbcjjdnlmjbaaOpenS
import Derived.Test.YtncbcjjdnlmjbaaFacts
import Derived.ProofKit
import Derived.SizedLaws
import Derived.OpenShut
import Derived.ShutString
import Derived.ChangeOld
set_option linter.unusedSimpArgs false
set_option linter.unusedVariables false
namespace Go.Proofs.Ytncbcjjdnlmjbaa
open Go.ChangeShapes Go.WideShapes Go.ChangeAt Go.RowKit
open Go.ChangeMaps (open_string shut_string)
namespace PurgeAllRow
theorem own : ownKnob Try.prog.godebug = none := by kernel_rfl
theorem laidOut : laidOutB Try.prog = true := fact1
set_option maxRecDepth 100000 in
theorem lifted (os : Os) (started : os.Started) (H : Type) (enc : TypeId × Value → H) :
    ReturnsInHanded {} Try.checked os 15 .any (Rows.purgeAllSpec.pre6 enc Try.prog Try.f15 Rows.purgeAllRow.domain false) (Rows.purgeAllSpec.post enc Try.prog Try.f15 false true false false) := by
  refine returnsInHanded_of_change_sized (C := Try.checked) own started (by kernel_rfl) Try.func15
    (ChangeSpec.witness6 (enc := enc) (C := Try.checked) false ⟨#[], #[.slice none 0 0], []⟩ 8 (by kernel_rfl) (by kernel_rfl) (by kernel_rfl) (by kernel_rfl)) ?_
  intro W base args ds gs before hval0 hW hcnd hsz0 _
  have hsz : (DataW.weightsEach Try.prog (Try.f15.params.toList ++ Rows.purgeAllSpec.plain.varTypes Try.prog) (ds ++ gs)).all (· ≤ reachBytes) = true := hsz0
  have hval : ∀ (j : Nat) t v, Try.f15.params[j]? = some t → args[j]? = some v → Value.okWide Try.prog W .any base t v := hval0
  have hW' := hW
  obtain ⟨p, q, hA0, hV, rfl, hfz, hnd⟩ := hW
  have hA : DataW.TrodAll enc Try.prog W 0 (fun _ => true) true Try.f15.params.toList args.toList ds p := hA0
  rw [Try.params15] at hA hval hsz
  obtain ⟨v0, vs0, d0, ds0, p0, q0, hargs, rfl, rfl, h0, r0⟩ := trodAll_cons hA
  obtain ⟨rfl, rfl, rfl⟩ := trodAll_nil r0
  obtain rfl : args = #[v0] := by cases args; simp_all
  obtain ⟨rfl, rfl⟩ := trodVars_none hV
  have k0 := h0
  have lt0 : ∀ x ∈ p0, x.block < W.heap.size := by obtain ⟨m, hm⟩ := k0; exact DataW.trod_lt m _ _ _ hm
  obtain ⟨A0, n0, c0, rfl⟩ := okWide_slice Try.underlying49 (hval 0 49 v0 rfl rfl)
  have hz0 : ∀ k ∈ DataW.weights Try.prog 49 d0, k ≤ reachBytes := fun k hk => by simpa using List.all_eq_true.1 hsz k (DataW.weights_mem_each (j := 0) (t := 49) rfl rfl k hk)
  obtain ⟨hm0, hb0, l0, rfl, hr0, hw0⟩ := open_listW (cells := stcell) (Wf := fun x => x.data.size ≤ maxLen) Try.underlying49 (C := 7) (by kernel_rfl) (by decide) hz0 (fun m cs y h hw => trod_step h) stcell_len h0
  clear hA0 hval0 hsz0 hsz
  refine (purgeAll_walk W A0 c0 l0 hm0 hb0 hr0 hw0).mono fun e W' ⟨he, bel⟩ => ?_
  subst he
  exact ⟨_, rfl, _, _, _, [], _, [], hW', trodAll_mk1 (shut_bool Try.underlying4 _), (trodAll_cons_mk (Below.trod laidOut (by kernel_rfl) (of_decide_eq_true (by kernel_rfl)) k0 bel lt0) trodAll_mk0), rfl, bel.frame _, fun h => by cases h⟩
theorem k0 : (Rows.purgeAllRow.wf (OpenSpec.ofChange Rows.purgeAllSpec)) = true := by kernel_rfl
theorem k3 : (Try.f15.params.all (Try.prog.readableRec ·)) = true := by kernel_rfl
theorem k4 : (namedTie Try.prog Rows.purgeAllRow.named Rows.purgeAllSpec.vars) = true := by kernel_rfl
theorem k5 : ((Rows.purgeAllRow.stops == [])) = true := by kernel_rfl
theorem k7 : ((Rows.purgeAllRow.knobs == [])) = true := by kernel_rfl
theorem k9 : ((Rows.purgeAllRow.inPlace == Try.prog.inPlace 15)) = true := by kernel_rfl
theorem k10 : ((Rows.purgeAllRow.unfollowed == Try.prog.unfollowed 15)) = true := by kernel_rfl
theorem k11 : ((Rows.purgeAllRow.recurses == Try.prog.recurses 15)) = true := by kernel_rfl
theorem k12 : ((Rows.purgeAllRow.named == Try.prog.varsNamed 15)) = true := by kernel_rfl
theorem k13 : ((Rows.purgeAllRow.maps == (Try.f15.params.toList ++ Rows.purgeAllSpec.plain.varTypes Try.prog).any (Try.prog.mapsRec ·))) = true := by kernel_rfl
theorem k14 : ((Rows.purgeAllRow.ifaces == (Try.f15.params.toList ++ Rows.purgeAllSpec.plain.varTypes Try.prog).any (Try.prog.ifacesRec ·))) = true := by kernel_rfl
theorem k15 : ((Rows.purgeAllRow.mapsOut == Try.prog.mapsAmong Try.f15.resultTypes.toList)) = true := by kernel_rfl
theorem k16 : ((Rows.purgeAllRow.loops == (Try.f15.params.toList ++ Rows.purgeAllSpec.plain.varTypes Try.prog).any (Try.prog.loopsFrom ·))) = true := by kernel_rfl
theorem k17 : ((Rows.purgeAllRow.wideKeys == (Try.f15.params.toList ++ Rows.purgeAllSpec.plain.varTypes Try.prog ++ Try.f15.resultTypes.toList).any (Try.prog.wideKeysFrom ·))) = true := by kernel_rfl
theorem k18 : (Rows.purgeAllSpec.vars.all (Try.prog.varReadable ·)) = true := by kernel_rfl
theorem k19 : (Try.f15.resultTypes.all (fun t => Try.prog.readableRec t && decide (t < Try.prog.types.size))) = true := by kernel_rfl
theorem k20 : ((Rows.purgeAllRow.ifacesOut == Try.f15.resultTypes.toList.any (Try.prog.ifacesRec ·))) = true := by kernel_rfl
theorem k21 : ((Rows.purgeAllRow.loopsOut == Try.f15.resultTypes.toList.any (Try.prog.loopsFrom ·))) = true := by kernel_rfl
theorem k22 : ((Rows.purgeAllRow.plainKeys == Try.prog.plainKeys)) = true := fact22
theorem k23 : (Rows.purgeAllRow.shortTexts.isNone) = true := by kernel_rfl
theorem k26 : ((Rows.purgeAllRow.lifted == Try.prog.liftsFinal)) = true := fact26
theorem k27 : ((Try.prog.make == some Rows.purgeAllRow.make)) = true := fact27
theorem k28 : ((Rows.purgeAllRow.kinds == (if Rows.purgeAllRow.domain.isEmpty then [] else Try.f15.params.toList.map fun t => match Try.prog.underlying t with | some (.int k) => some k | _ => none))) = true := by kernel_rfl
theorem k29 : ((Rows.purgeAllRow.pinned == Rows.purgeAllRow.pinnedBy)) = true := by kernel_rfl
theorem k30 : ((Rows.purgeAllRow.veiled == (Try.f15.params.toList ++ Rows.purgeAllSpec.plain.varTypes Try.prog ++ Try.f15.resultTypes.toList).any (Try.prog.veiledRec ·))) = true := by kernel_rfl
theorem k31 : (Rows.purgeAllRow.veiledFits Try.prog Try.f15.params.toList (Try.f15.params.toList ++ Rows.purgeAllSpec.plain.varTypes Try.prog ++ Try.f15.resultTypes.toList)) = true := by kernel_rfl
set_option maxRecDepth 100000 in
theorem joined : joinedFacts Try.prog 15 Try.f15 Rows.purgeAllSpec Rows.purgeAllRow = true := joined_mk k0 fact1 fact2 k3 k4 k5 fact6 k7 fact8 k9 k10 k11 k12 k13 k14 k15 k16 k17 k18 k19 k20 k21 k22 k23 fact24 fact25 k26 k27 k28 k29 k30 k31
theorem inst : Try.f15.isInstance Try.prog Rows.purgeAllRow.origin Rows.purgeAllRow.targs := of_decide_eq_true (by kernel_rfl)
theorem wrapper : Try.f15.isWrapper Try.prog Rows.purgeAllRow.wrapper Rows.purgeAllRow.mainSum := by unfold Func.isWrapper; first | (rw [if_pos (by decide +kernel)]; kernel_rfl) | (rw [if_neg (by decide +kernel)]; exact ⟨rfl, rfl⟩)
theorem fnamed : Try.prog.funcNamed Rows.purgeAllRow.func = some 15 := by kernel_rfl
end PurgeAllRow
/-- The row. -/
theorem purgeAll_holds : Rows.PurgeAllSaid :=
  OpenClaim.holds_of_wide 15 Try.f15 rfl rfl rfl rfl rfl rfl rfl ⟨rfl, rfl, rfl, rfl, rfl⟩ rfl rfl rfl rfl rfl PurgeAllRow.fnamed Try.func15 PurgeAllRow.joined
    PurgeAllRow.inst PurgeAllRow.wrapper
    (fun os started H enc _ => PurgeAllRow.lifted os started H enc)
#print axioms purgeAll_holds
end Go.Proofs.Ytncbcjjdnlmjbaa
