/- The law PurgeAgain returns true for every input, and its arguments read as before. No condition. -/
import Derived.Test.YtncbcjjdnlmjbaaPurgeAgain
import Derived.Test.YtncbcjjdnlmjbaaOpenC
import Derived.Test.YtncbcjjdnlmjbaaOpenS
import Derived.Test.YtncbcjjdnlmjbaaFacts
import Derived.ProofKit
import Derived.SizedLaws
import Derived.OpenShut
import Derived.ShutString
import Derived.ChangeOld
set_option linter.unusedSimpArgs false
set_option linter.unusedVariables false
namespace Go.Proofs.Ytncbcjjdnlmjbaa
open Go.ChangeShapes Go.WideShapes Go.ChangeAt Go.RowKit
open Go.ChangeMaps (open_string shut_string)
namespace PurgeAgainRow
theorem own : ownKnob Try.prog.godebug = none := by kernel_rfl
theorem laidOut : laidOutB Try.prog = true := fact1
set_option maxRecDepth 100000 in
theorem lifted (os : Os) (started : os.Started) (H : Type) (enc : TypeId × Value → H) :
    ReturnsInHanded {} Try.checked os 10 .any (Rows.purgeAgainSpec.pre6 enc Try.prog Try.f10 Rows.purgeAgainRow.domain false) (Rows.purgeAgainSpec.post enc Try.prog Try.f10 false true false false) := by
  refine returnsInHanded_of_change_sized (C := Try.checked) own started (by kernel_rfl) Try.func10
    (ChangeSpec.witness6 (enc := enc) (C := Try.checked) false ⟨#[], #[.agg #[.int .i64 0, .slice none 0 0, .slice none 0 0, .int .i64 0, .slice none 0 0, .slice none 0 0, .int .i64 0, .int .i64 0, .int .i64 0], .slice none 0 0, .int .i64 0], []⟩ 8 (by kernel_rfl) (by kernel_rfl) (by kernel_rfl) (by kernel_rfl)) ?_
  intro W base args ds gs before hval0 hW hcnd hsz0 _
  have hsz : (DataW.weightsEach Try.prog (Try.f10.params.toList ++ Rows.purgeAgainSpec.plain.varTypes Try.prog) (ds ++ gs)).all (· ≤ reachBytes) = true := hsz0
  have hval : ∀ (j : Nat) t v, Try.f10.params[j]? = some t → args[j]? = some v → Value.okWide Try.prog W .any base t v := hval0
  have hW' := hW
  obtain ⟨p, q, hA0, hV, rfl, hfz, hnd⟩ := hW
  have hA : DataW.TrodAll enc Try.prog W 0 (fun _ => true) true Try.f10.params.toList args.toList ds p := hA0
  rw [Try.params10] at hA hval hsz
  obtain ⟨v0, vs0, d0, ds0, p0, q0, hargs, rfl, rfl, h0, r0⟩ := trodAll_cons hA
  obtain ⟨v1, vs1, d1, ds1, p1, q1, rfl, rfl, rfl, h1, r1⟩ := trodAll_cons r0
  obtain ⟨v2, vs2, d2, ds2, p2, q2, rfl, rfl, rfl, h2, r2⟩ := trodAll_cons r1
  obtain ⟨rfl, rfl, rfl⟩ := trodAll_nil r2
  obtain rfl : args = #[v0, v1, v2] := by cases args; simp_all
  obtain ⟨rfl, rfl⟩ := trodVars_none hV
  have k0 := h0
  have lt0 : ∀ x ∈ p0, x.block < W.heap.size := by obtain ⟨m, hm⟩ := k0; exact DataW.trod_lt m _ _ _ hm
  obtain ⟨cs0, rfl, hsz0⟩ := okWide_struct Try.underlying27 (hval 0 27 v0 rfl rfl)
  have hz0 : ∀ k ∈ DataW.weights Try.prog 27 d0, k ≤ reachBytes := fun k hk => by simpa using List.all_eq_true.1 hsz k (DataW.weights_mem_each (j := 0) (t := 27) rfl rfl k hk)
  obtain ⟨C0, S0, rfl, hr0, hb0⟩ := open_cfg h0 hz0
  have k1 := h1
  have lt1 : ∀ x ∈ p1, x.block < W.heap.size := by obtain ⟨m, hm⟩ := k1; exact DataW.trod_lt m _ _ _ hm
  obtain ⟨A1, n1, c1, rfl⟩ := okWide_slice Try.underlying49 (hval 1 49 v1 rfl rfl)
  have hz1 : ∀ k ∈ DataW.weights Try.prog 49 d1, k ≤ reachBytes := fun k hk => by simpa using List.all_eq_true.1 hsz k (DataW.weights_mem_each (j := 1) (t := 49) rfl rfl k hk)
  obtain ⟨hm1, hb1, l1, rfl, hr1, hw1⟩ := open_listW (cells := stcell) (Wf := fun x => x.data.size ≤ maxLen) Try.underlying49 (C := 7) (by kernel_rfl) (by decide) hz1 (fun m cs y h hw => trod_step h) stcell_len h1
  obtain ⟨a2, rfl, rfl, rfl, w2⟩ := open_int Try.underlying3 (hval 2 3 v2 rfl rfl) h2
  clear hA0 hval0 hsz0 hsz
  refine (purgeAgain_walk W C0 S0 hr0 trivial A1 c1 l1 hm1 hb1 hr1 hw1 a2).mono fun e W' ⟨he, bel⟩ => ?_
  subst he
  exact ⟨_, rfl, _, _, _, [], _, [], hW', trodAll_mk1 (shut_bool Try.underlying4 _), (trodAll_cons_mk (Below.trod laidOut (by kernel_rfl) (of_decide_eq_true (by kernel_rfl)) k0 bel lt0) (trodAll_cons_mk (Below.trod laidOut (by kernel_rfl) (of_decide_eq_true (by kernel_rfl)) k1 bel lt1) (trodAll_cons_mk (shut_int Try.underlying3 w2) trodAll_mk0))), rfl, bel.frame _, fun h => by cases h⟩
theorem k0 : (Rows.purgeAgainRow.wf (OpenSpec.ofChange Rows.purgeAgainSpec)) = true := by kernel_rfl
theorem k3 : (Try.f10.params.all (Try.prog.readableRec ·)) = true := by kernel_rfl
theorem k4 : (namedTie Try.prog Rows.purgeAgainRow.named Rows.purgeAgainSpec.vars) = true := by kernel_rfl
theorem k5 : ((Rows.purgeAgainRow.stops == [])) = true := by kernel_rfl
theorem k7 : ((Rows.purgeAgainRow.knobs == [])) = true := by kernel_rfl
theorem k9 : ((Rows.purgeAgainRow.inPlace == Try.prog.inPlace 10)) = true := by kernel_rfl
theorem k10 : ((Rows.purgeAgainRow.unfollowed == Try.prog.unfollowed 10)) = true := by kernel_rfl
theorem k11 : ((Rows.purgeAgainRow.recurses == Try.prog.recurses 10)) = true := by kernel_rfl
theorem k12 : ((Rows.purgeAgainRow.named == Try.prog.varsNamed 10)) = true := by kernel_rfl
theorem k13 : ((Rows.purgeAgainRow.maps == (Try.f10.params.toList ++ Rows.purgeAgainSpec.plain.varTypes Try.prog).any (Try.prog.mapsRec ·))) = true := by kernel_rfl
theorem k14 : ((Rows.purgeAgainRow.ifaces == (Try.f10.params.toList ++ Rows.purgeAgainSpec.plain.varTypes Try.prog).any (Try.prog.ifacesRec ·))) = true := by kernel_rfl
theorem k15 : ((Rows.purgeAgainRow.mapsOut == Try.prog.mapsAmong Try.f10.resultTypes.toList)) = true := by kernel_rfl
theorem k16 : ((Rows.purgeAgainRow.loops == (Try.f10.params.toList ++ Rows.purgeAgainSpec.plain.varTypes Try.prog).any (Try.prog.loopsFrom ·))) = true := by kernel_rfl
theorem k17 : ((Rows.purgeAgainRow.wideKeys == (Try.f10.params.toList ++ Rows.purgeAgainSpec.plain.varTypes Try.prog ++ Try.f10.resultTypes.toList).any (Try.prog.wideKeysFrom ·))) = true := by kernel_rfl
theorem k18 : (Rows.purgeAgainSpec.vars.all (Try.prog.varReadable ·)) = true := by kernel_rfl
theorem k19 : (Try.f10.resultTypes.all (fun t => Try.prog.readableRec t && decide (t < Try.prog.types.size))) = true := by kernel_rfl
theorem k20 : ((Rows.purgeAgainRow.ifacesOut == Try.f10.resultTypes.toList.any (Try.prog.ifacesRec ·))) = true := by kernel_rfl
theorem k21 : ((Rows.purgeAgainRow.loopsOut == Try.f10.resultTypes.toList.any (Try.prog.loopsFrom ·))) = true := by kernel_rfl
theorem k22 : ((Rows.purgeAgainRow.plainKeys == Try.prog.plainKeys)) = true := fact22
theorem k23 : (Rows.purgeAgainRow.shortTexts.isNone) = true := by kernel_rfl
theorem k26 : ((Rows.purgeAgainRow.lifted == Try.prog.liftsFinal)) = true := fact26
theorem k27 : ((Try.prog.make == some Rows.purgeAgainRow.make)) = true := fact27
theorem k28 : ((Rows.purgeAgainRow.kinds == (if Rows.purgeAgainRow.domain.isEmpty then [] else Try.f10.params.toList.map fun t => match Try.prog.underlying t with | some (.int k) => some k | _ => none))) = true := by kernel_rfl
theorem k29 : ((Rows.purgeAgainRow.pinned == Rows.purgeAgainRow.pinnedBy)) = true := by kernel_rfl
theorem k30 : ((Rows.purgeAgainRow.veiled == (Try.f10.params.toList ++ Rows.purgeAgainSpec.plain.varTypes Try.prog ++ Try.f10.resultTypes.toList).any (Try.prog.veiledRec ·))) = true := by kernel_rfl
theorem k31 : (Rows.purgeAgainRow.veiledFits Try.prog Try.f10.params.toList (Try.f10.params.toList ++ Rows.purgeAgainSpec.plain.varTypes Try.prog ++ Try.f10.resultTypes.toList)) = true := by kernel_rfl
set_option maxRecDepth 100000 in
theorem joined : joinedFacts Try.prog 10 Try.f10 Rows.purgeAgainSpec Rows.purgeAgainRow = true := joined_mk k0 fact1 fact2 k3 k4 k5 fact6 k7 fact8 k9 k10 k11 k12 k13 k14 k15 k16 k17 k18 k19 k20 k21 k22 k23 fact24 fact25 k26 k27 k28 k29 k30 k31
theorem inst : Try.f10.isInstance Try.prog Rows.purgeAgainRow.origin Rows.purgeAgainRow.targs := of_decide_eq_true (by kernel_rfl)
theorem wrapper : Try.f10.isWrapper Try.prog Rows.purgeAgainRow.wrapper Rows.purgeAgainRow.mainSum := by unfold Func.isWrapper; first | (rw [if_pos (by decide +kernel)]; kernel_rfl) | (rw [if_neg (by decide +kernel)]; exact ⟨rfl, rfl⟩)
theorem fnamed : Try.prog.funcNamed Rows.purgeAgainRow.func = some 10 := by kernel_rfl
end PurgeAgainRow
/-- The row. -/
theorem purgeAgain_holds : Rows.PurgeAgainSaid :=
  OpenClaim.holds_of_wide 10 Try.f10 rfl rfl rfl rfl rfl rfl rfl ⟨rfl, rfl, rfl, rfl, rfl⟩ rfl rfl rfl rfl rfl PurgeAgainRow.fnamed Try.func10 PurgeAgainRow.joined
    PurgeAgainRow.inst PurgeAgainRow.wrapper
    (fun os started H enc _ => PurgeAgainRow.lifted os started H enc)
#print axioms purgeAgain_holds
end Go.Proofs.Ytncbcjjdnlmjbaa
