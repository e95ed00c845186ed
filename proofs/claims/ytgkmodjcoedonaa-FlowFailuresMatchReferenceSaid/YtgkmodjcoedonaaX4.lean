/- FlowFailuresMatchReference: for every input the law returns true, and each argument reads behind the call as it read before. -/
import Derived.Test.YtgkmodjcoedonaaRows
import Derived.Test.YtgkmodjcoedonaaM9
import Derived.Test.YtgkmodjcoedonaaM7
import Derived.WalkKit
import Derived.ProofKit
import Derived.OpenShut
namespace Go.Proofs.Ytgkmodjcoedonaa.flowFailuresMatchReference
open Go Go.Eng Go.ChangeShapes Go.WideShapes Go.ChangeAt Go.RowKit
set_option linter.unusedVariables false
set_option maxRecDepth 100000
theorem own : ownKnob Try.prog.godebug = none := by kernel_rfl
theorem laid : laidOutB Try.prog = true := by kernel_rfl
theorem law_f : FOk Try.prog 4 (pureR law27_FlowFailuresMatchReference_S) := law27_FlowFailuresMatchReference_ok TT43_ok.1 TT43_ok.2 rfl rfl rfl rfl rfl rfl rfl rfl rfl rfl rfl rfl rfl rfl rfl rfl rfl
theorem readable : ∀ t ∈ Try.f4.params.toList, Try.prog.readableRec t = true ∧ t < Try.prog.types.size := by
  rw [Try.params4]
  have h : ([3, 22, 23, 3, 3, 3, 53, 27, 27, 55]).all (fun t => Try.prog.readableRec t && decide (t < Try.prog.types.size)) = true := by kernel_rfl
  intro t ht
  have := List.all_eq_true.1 h t ht
  simpa using this
theorem lifted (os : Os) (started : os.Started) (H : Type) (enc : TypeId × Value → H) :
    ReturnsInHanded {} Try.checked os 4 .any (Rows.flowFailuresMatchReferenceSpec.pre6 enc Try.prog Try.f4 Rows.flowFailuresMatchReferenceRow.domain false) (Rows.flowFailuresMatchReferenceSpec.post enc Try.prog Try.f4 false true false false) := by
  refine returnsInHanded_of_change (C := Try.checked) own started (by kernel_rfl) Try.func4
    (ChangeSpec.witness6 (enc := enc) (C := Try.checked) false ⟨#[], #[.int .i64 0, .slice none 0 0, .agg #[.int .i64 0, .int .i64 0, .int .i64 0], .int .i64 0, .int .i64 0, .int .i64 0, .agg #[.int .i64 0, .int .i64 0, .int .i64 0], .slice none 0 0, .slice none 0 0, .agg #[.bool false, .slice none 0 0, .int .i64 0]], []⟩ 8 (by kernel_rfl) (by kernel_rfl) (by kernel_rfl) (by kernel_rfl)) ?_
  intro W base args ds gs before hval0 hW hcnd _
  have hval : ∀ (j : Nat) t v, Try.f4.params[j]? = some t → args[j]? = some v → Value.okWide Try.prog W .any base t v := hval0
  have hW' := hW
  obtain ⟨p, q, hA0, hV, rfl, hfz, hnd⟩ := hW
  have hA : DataW.TrodAll enc Try.prog W 0 (fun _ => true) true Try.f4.params.toList args.toList ds p := hA0
  rw [Try.params4] at hA hval
  obtain ⟨v0, vs0, d0, ds0, p0, q0, hargs, hds, hps, h0, r0⟩ := trodAll_cons hA
  obtain ⟨v1, vs1, d1, ds1, p1, q1, rfl, rfl, rfl, h1, r1⟩ := trodAll_cons r0
  obtain ⟨v2, vs2, d2, ds2, p2, q2, rfl, rfl, rfl, h2, r2⟩ := trodAll_cons r1
  obtain ⟨v3, vs3, d3, ds3, p3, q3, rfl, rfl, rfl, h3, r3⟩ := trodAll_cons r2
  obtain ⟨v4, vs4, d4, ds4, p4, q4, rfl, rfl, rfl, h4, r4⟩ := trodAll_cons r3
  obtain ⟨v5, vs5, d5, ds5, p5, q5, rfl, rfl, rfl, h5, r5⟩ := trodAll_cons r4
  obtain ⟨v6, vs6, d6, ds6, p6, q6, rfl, rfl, rfl, h6, r6⟩ := trodAll_cons r5
  obtain ⟨v7, vs7, d7, ds7, p7, q7, rfl, rfl, rfl, h7, r7⟩ := trodAll_cons r6
  obtain ⟨v8, vs8, d8, ds8, p8, q8, rfl, rfl, rfl, h8, r8⟩ := trodAll_cons r7
  obtain ⟨v9, vs9, d9, ds9, p9, q9, rfl, rfl, rfl, h9, r9⟩ := trodAll_cons r8
  obtain ⟨rfl, rfl, rfl⟩ := trodAll_nil r9
  obtain rfl : args = #[v0, v1, v2, v3, v4, v5, v6, v7, v8, v9] := by cases args; simp_all
  obtain ⟨rfl, rfl⟩ := trodVars_none hV
  obtain ⟨a0, o0, e0⟩ := opv_3 enc W _ _ v0 d0 p0 (hval 0 3 v0 rfl rfl) h0
  obtain ⟨a1, o1, e1⟩ := opv_22 enc W _ _ v1 d1 p1 (hval 1 22 v1 rfl rfl) h1
  obtain ⟨a2, o2, e2⟩ := opv_23 enc W _ _ v2 d2 p2 (hval 2 23 v2 rfl rfl) h2
  obtain ⟨a3, o3, e3⟩ := opv_3 enc W _ _ v3 d3 p3 (hval 3 3 v3 rfl rfl) h3
  obtain ⟨a4, o4, e4⟩ := opv_3 enc W _ _ v4 d4 p4 (hval 4 3 v4 rfl rfl) h4
  obtain ⟨a5, o5, e5⟩ := opv_3 enc W _ _ v5 d5 p5 (hval 5 3 v5 rfl rfl) h5
  obtain ⟨a6, o6, e6⟩ := opv_53 enc W _ _ v6 d6 p6 (hval 6 53 v6 rfl rfl) h6
  obtain ⟨a7, o7, e7⟩ := opv_27 enc W _ _ v7 d7 p7 (hval 7 27 v7 rfl rfl) h7
  obtain ⟨a8, o8, e8⟩ := opv_27 enc W _ _ v8 d8 p8 (hval 8 27 v8 rfl rfl) h8
  obtain ⟨a9, o9, e9⟩ := opv_55 enc W _ _ v9 d9 p9 (hval 9 55 v9 rfl rfl) h9
  simp only [List.append_nil] at hW'
  refine (call_of law_f (args := [eI a0, (eL 3 eA23 default) a1, eA23 a2, eI a3, eI a4, eI a5, eTFailure a6, (eL 1 eI default) a7, (eL 1 eI default) a8, eTSupply a9]) (r := eB true) ⟨a0, a1, a2, a3, a4, a5, a6, a7, a8, a9, rfl, W_of (plain4 a0 a1 a2 a3 a4 a5 a6 a7 a8 a9 o0 o1 o2 o3 o4 o5 o6 o7 o8 o9) rfl⟩ (lsB _) W [v0, v1, v2, v3, v4, v5, v6, v7, v8, v9] ⟨v0, _, rfl, e0, ⟨v1, _, rfl, e1, ⟨v2, _, rfl, e2, ⟨v3, _, rfl, e3, ⟨v4, _, rfl, e4, ⟨v5, _, rfl, e5, ⟨v6, _, rfl, e6, ⟨v7, _, rfl, e7, ⟨v8, _, rfl, e8, ⟨v9, _, rfl, e9, rfl⟩⟩⟩⟩⟩⟩⟩⟩⟩⟩).mono fun e W2 ⟨v, β, he, hv, hg⟩ => ?_
  subst he
  obtain rfl : v = .bool true := by simpa [eB, V] using hv
  subst hds
  exact ⟨_, rfl, post_law laid hW' rfl readable hg (fun _ _ _ => trodAll_cons_mk (shut_bool Try.underlying4 _) trodAll_mk0) rfl rfl (ok_one (by kernel_rfl) rfl (okWide_bool_mk Try.underlying4 _))⟩
theorem over : Rows.flowFailuresMatchReferenceRow.holds Try.pinned (OpenSpec.ofChange Rows.flowFailuresMatchReferenceSpec) :=
  OpenClaim.holds_of_wide 4 Try.f4 rfl rfl rfl rfl rfl rfl rfl ⟨rfl, rfl, rfl, rfl, rfl⟩ rfl rfl rfl rfl rfl (by kernel_rfl) Try.func4 (by kernel_rfl)
    (of_decide_eq_true (by kernel_rfl)) (by unfold Func.isWrapper; first | (rw [if_pos (by decide +kernel)]; kernel_rfl) | (rw [if_neg (by decide +kernel)]; exact ⟨rfl, rfl⟩))
    (fun os started H enc _ => lifted os started H enc)
theorem proved : Rows.FlowFailuresMatchReferenceSaid := over
end Go.Proofs.Ytgkmodjcoedonaa.flowFailuresMatchReference
