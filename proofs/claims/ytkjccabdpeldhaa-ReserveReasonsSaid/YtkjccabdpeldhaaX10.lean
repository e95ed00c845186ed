/- ReserveReasons: for every input the law returns true, and each argument reads behind the call as it read before. -/
import Derived.Test.YtkjccabdpeldhaaRows
import Derived.Test.YtkjccabdpeldhaaM9
import Derived.Test.YtkjccabdpeldhaaM7
import Derived.WalkKit
import Derived.ProofKit
import Derived.OpenShut
namespace Go.Proofs.Ytkjccabdpeldhaa.reserveReasons
open Go Go.Eng Go.ChangeShapes Go.WideShapes Go.ChangeAt Go.RowKit
set_option linter.unusedVariables false
set_option maxRecDepth 100000
theorem own : ownKnob Try.prog.godebug = none := by kernel_rfl
theorem laid : laidOutB Try.prog = true := by kernel_rfl
theorem law_f : FOk Try.prog 10 (pureR law33_ReserveReasons_S) := law33_ReserveReasons_ok TT19_ok.1 TT19_ok.2 rfl rfl rfl rfl rfl rfl rfl rfl rfl rfl rfl rfl rfl rfl
theorem readable : ∀ t ∈ Try.f10.params.toList, Try.prog.readableRec t = true ∧ t < Try.prog.types.size := by
  rw [Try.params10]
  have h : ([26, 3, 3, 3]).all (fun t => Try.prog.readableRec t && decide (t < Try.prog.types.size)) = true := by kernel_rfl
  intro t ht
  have := List.all_eq_true.1 h t ht
  simpa using this
theorem lifted (os : Os) (started : os.Started) (H : Type) (enc : TypeId × Value → H) :
    ReturnsInHanded {} Try.checked os 10 .any (Rows.reserveReasonsSpec.pre6 enc Try.prog Try.f10 Rows.reserveReasonsRow.domain false) (Rows.reserveReasonsSpec.post enc Try.prog Try.f10 false true false false) := by
  refine returnsInHanded_of_change (C := Try.checked) own started (by kernel_rfl) Try.func10
    (ChangeSpec.witness6 (enc := enc) (C := Try.checked) false ⟨#[], #[.agg #[.int .i64 0, .slice none 0 0, .slice none 0 0, .slice none 0 0, .int .i64 0, .slice none 0 0], .int .i64 0, .int .i64 0, .int .i64 0], []⟩ 8 (by kernel_rfl) (by kernel_rfl) (by kernel_rfl) (by kernel_rfl)) ?_
  intro W base args ds gs before hval0 hW hcnd _
  have hval : ∀ (j : Nat) t v, Try.f10.params[j]? = some t → args[j]? = some v → Value.okWide Try.prog W .any base t v := hval0
  have hW' := hW
  obtain ⟨p, q, hA0, hV, rfl, hfz, hnd⟩ := hW
  have hA : DataW.TrodAll enc Try.prog W 0 (fun _ => true) true Try.f10.params.toList args.toList ds p := hA0
  rw [Try.params10] at hA hval
  obtain ⟨v0, vs0, d0, ds0, p0, q0, hargs, hds, hps, h0, r0⟩ := trodAll_cons hA
  obtain ⟨v1, vs1, d1, ds1, p1, q1, rfl, rfl, rfl, h1, r1⟩ := trodAll_cons r0
  obtain ⟨v2, vs2, d2, ds2, p2, q2, rfl, rfl, rfl, h2, r2⟩ := trodAll_cons r1
  obtain ⟨v3, vs3, d3, ds3, p3, q3, rfl, rfl, rfl, h3, r3⟩ := trodAll_cons r2
  obtain ⟨rfl, rfl, rfl⟩ := trodAll_nil r3
  obtain rfl : args = #[v0, v1, v2, v3] := by cases args; simp_all
  obtain ⟨rfl, rfl⟩ := trodVars_none hV
  obtain ⟨a0, o0, e0⟩ := opv_26 enc W _ _ v0 d0 p0 (hval 0 26 v0 rfl rfl) h0
  obtain ⟨a1, o1, e1⟩ := opv_3 enc W _ _ v1 d1 p1 (hval 1 3 v1 rfl rfl) h1
  obtain ⟨a2, o2, e2⟩ := opv_3 enc W _ _ v2 d2 p2 (hval 2 3 v2 rfl rfl) h2
  obtain ⟨a3, o3, e3⟩ := opv_3 enc W _ _ v3 d3 p3 (hval 3 3 v3 rfl rfl) h3
  simp only [List.append_nil] at hW'
  refine (call_of law_f (args := [eTNumbers a0, eI a1, eI a2, eI a3]) (r := eB true) ⟨a0, a1, a2, a3, rfl, W_of (plain10 a0 a1 a2 a3 o0 o1 o2 o3) rfl⟩ (lsB _) W [v0, v1, v2, v3] ⟨v0, _, rfl, e0, ⟨v1, _, rfl, e1, ⟨v2, _, rfl, e2, ⟨v3, _, rfl, e3, rfl⟩⟩⟩⟩).mono fun e W2 ⟨v, β, he, hv, hg⟩ => ?_
  subst he
  obtain rfl : v = .bool true := by simpa [eB, V] using hv
  subst hds
  exact ⟨_, rfl, post_law laid hW' rfl readable hg (fun _ _ _ => trodAll_cons_mk (shut_bool Try.underlying4 _) trodAll_mk0) rfl rfl (ok_one (by kernel_rfl) rfl (okWide_bool_mk Try.underlying4 _))⟩
theorem over : Rows.reserveReasonsRow.holds Try.pinned (OpenSpec.ofChange Rows.reserveReasonsSpec) :=
  OpenClaim.holds_of_wide 10 Try.f10 rfl rfl rfl rfl rfl rfl rfl ⟨rfl, rfl, rfl, rfl, rfl⟩ rfl rfl rfl rfl rfl (by kernel_rfl) Try.func10 (by kernel_rfl)
    (of_decide_eq_true (by kernel_rfl)) (by unfold Func.isWrapper; first | (rw [if_pos (by decide +kernel)]; kernel_rfl) | (rw [if_neg (by decide +kernel)]; exact ⟨rfl, rfl⟩))
    (fun os started H enc _ => lifted os started H enc)
theorem proved : Rows.ReserveReasonsSaid := over
end Go.Proofs.Ytkjccabdpeldhaa.reserveReasons
