/- ReserveMatchesReference: for every input the law returns true, and each argument reads behind the call as it read before. -/
import Derived.Test.YtkjccabdpeldhaaGreatRows
import Derived.Test.YtkjccabdpeldhaaGreatM11
import Derived.Test.YtkjccabdpeldhaaGreatM8
import Derived.WalkKit
import Derived.ProofKit
import Derived.OpenShut
namespace Go.Proofs.YtkjccabdpeldhaaGreat.reserveMatchesReference
open Go Go.Eng Go.ChangeShapes Go.WideShapes Go.ChangeAt Go.RowKit
set_option linter.unusedVariables false
set_option maxRecDepth 100000
theorem own : ownKnob Tryz.prog.godebug = none := by kernel_rfl
theorem laid : laidOutB Tryz.prog = true := by kernel_rfl
theorem law_f : FOk Tryz.prog 3 (aH kW) := qP aJo.1 aJo.2 rfl rfl rfl rfl rfl rfl rfl rfl rfl rfl rfl rfl rfl rfl rfl rfl rfl rfl rfl rfl rfl rfl rfl
theorem readable : ∀ t ∈ Tryz.f3.params.toList, Tryz.prog.readableRec t = true ∧ t < Tryz.prog.types.size := by
  rw [Tryz.params3]
  have h : ([26, 27, 33, 3, 35, 3]).all (fun t => Tryz.prog.readableRec t && decide (t < Tryz.prog.types.size)) = true := by kernel_rfl
  intro t ht
  have := List.all_eq_true.1 h t ht
  simpa using this
theorem lifted (os : Os) (started : os.Started) (H : Type) (enc : TypeId × Value → H) :
    ReturnsInHanded {} Tryz.checked os 3 .any (Rows.reserveMatchesReferenceSpec.pre6 enc Tryz.prog Tryz.f3 Rows.reserveMatchesReferenceRow.domain false) (Rows.reserveMatchesReferenceSpec.post enc Tryz.prog Tryz.f3 false true false false) := by
  refine returnsInHanded_of_change (C := Tryz.checked) own started (by kernel_rfl) Tryz.func3
    (ChangeSpec.witness6 (enc := enc) (C := Tryz.checked) false ⟨#[], #[.agg #[.int .i64 0, .slice none 0 0, .slice none 0 0, .slice none 0 0, .int .i64 0, .slice none 0 0], .agg #[.int .i64 0, .int .i64 0, .int .i64 0], .agg #[.int .i64 0, .slice none 0 0, .slice none 0 0, .slice none 0 0, .int .i64 0, .slice none 0 0], .int .i64 0, .agg #[.int .i64 0, .int .i64 0, .int .i64 0, .int .i64 0], .int .i64 0], []⟩ 8 (by kernel_rfl) (by kernel_rfl) (by kernel_rfl) (by kernel_rfl)) ?_
  intro W base args ds gs before hval0 hW hcnd _
  have hval : ∀ (j : Nat) t v, Tryz.f3.params[j]? = some t → args[j]? = some v → Value.okWide Tryz.prog W .any base t v := hval0
  have hW' := hW
  obtain ⟨p, q, hA0, hV, rfl, hfz, hnd⟩ := hW
  have hA : DataW.TrodAll enc Tryz.prog W 0 (fun _ => true) true Tryz.f3.params.toList args.toList ds p := hA0
  rw [Tryz.params3] at hA hval
  obtain ⟨v0, vs0, d0, ds0, p0, q0, hargs, hds, hps, h0, r0⟩ := trodAll_cons hA
  obtain ⟨v1, vs1, d1, ds1, p1, q1, rfl, rfl, rfl, h1, r1⟩ := trodAll_cons r0
  obtain ⟨v2, vs2, d2, ds2, p2, q2, rfl, rfl, rfl, h2, r2⟩ := trodAll_cons r1
  obtain ⟨v3, vs3, d3, ds3, p3, q3, rfl, rfl, rfl, h3, r3⟩ := trodAll_cons r2
  obtain ⟨v4, vs4, d4, ds4, p4, q4, rfl, rfl, rfl, h4, r4⟩ := trodAll_cons r3
  obtain ⟨v5, vs5, d5, ds5, p5, q5, rfl, rfl, rfl, h5, r5⟩ := trodAll_cons r4
  obtain ⟨rfl, rfl, rfl⟩ := trodAll_nil r5
  obtain rfl : args = #[v0, v1, v2, v3, v4, v5] := by cases args; simp_all
  obtain ⟨rfl, rfl⟩ := trodVars_none hV
  obtain ⟨a0, o0, e0⟩ := aPi enc W _ _ v0 d0 p0 (hval 0 26 v0 rfl rfl) h0
  obtain ⟨a1, o1, e1⟩ := aQE enc W _ _ v1 d1 p1 (hval 1 27 v1 rfl rfl) h1
  obtain ⟨a2, o2, e2⟩ := aPE enc W _ _ v2 d2 p2 (hval 2 33 v2 rfl rfl) h2
  obtain ⟨a3, o3, e3⟩ := aQh enc W _ _ v3 d3 p3 (hval 3 3 v3 rfl rfl) h3
  obtain ⟨a4, o4, e4⟩ := aOG enc W _ _ v4 d4 p4 (hval 4 35 v4 rfl rfl) h4
  obtain ⟨a5, o5, e5⟩ := aQh enc W _ _ v5 d5 p5 (hval 5 3 v5 rfl rfl) h5
  simp only [List.append_nil] at hW'
  refine (aNH law_f (args := [rS a0, aKU a1, bD a2, eI a3, fE a4, eI a5]) (r := eB true) ⟨a0, a1, a2, a3, a4, a5, rfl, kS (aPU a0 a1 a2 a3 a4 a5 o0 o1 o2 o3 o4 o5) rfl⟩ (lsB _) W [v0, v1, v2, v3, v4, v5] ⟨v0, _, rfl, e0, ⟨v1, _, rfl, e1, ⟨v2, _, rfl, e2, ⟨v3, _, rfl, e3, ⟨v4, _, rfl, e4, ⟨v5, _, rfl, e5, rfl⟩⟩⟩⟩⟩⟩).mono fun e W2 ⟨v, β, he, hv, hg⟩ => ?_
  subst he
  obtain rfl : v = .bool true := by simpa [eB, V] using hv
  subst hds
  exact ⟨_, rfl, aLD laid hW' rfl readable hg (fun _ _ _ => trodAll_cons_mk (shut_bool Tryz.underlying4 _) trodAll_mk0) rfl rfl (ok_one (by kernel_rfl) rfl (okWide_bool_mk Tryz.underlying4 _))⟩
theorem aTE : Rows.reserveMatchesReferenceRow.holds Tryz.pinned (OpenSpec.ofChange Rows.reserveMatchesReferenceSpec) :=
  OpenClaim.holds_of_wide 3 Tryz.f3 rfl rfl rfl rfl rfl rfl rfl ⟨rfl, rfl, rfl, rfl, rfl⟩ rfl rfl rfl rfl rfl (by kernel_rfl) Tryz.func3 (by kernel_rfl)
    (of_decide_eq_true (by kernel_rfl)) (by unfold Func.isWrapper; first | (rw [if_pos (by decide +kernel)]; kernel_rfl) | (rw [if_neg (by decide +kernel)]; exact ⟨rfl, rfl⟩))
    (fun os started H enc _ => lifted os started H enc)
theorem proved : Rows.ReserveMatchesReferenceSaid := aTE
end Go.Proofs.YtkjccabdpeldhaaGreat.reserveMatchesReference
