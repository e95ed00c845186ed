/- OrderMatchesReference: for every input the law returns true, and each argument reads behind the call as it read before. -/
import Derived.Test.YtlmboonbfhkfnaaDoorRows
import Derived.Test.YtlmboonbfhkfnaaDoorCards
import Derived.Test.YtlmboonbfhkfnaaDoorTie
import Derived.Test.YtlmboonbfhkfnaaDoorM4
import Derived.Test.YtlmboonbfhkfnaaDoorM9
import Derived.Test.YtlmboonbfhkfnaaDoorM7
import Derived.WalkKit
import Derived.ProofKit
import Derived.OpenShut
namespace Go.Proofs.YtlmboonbfhkfnaaDoor.orderMatchesReference
open Go Go.Eng Go.ChangeShapes Go.WideShapes Go.ChangeAt Go.RowKit
set_option linter.unusedVariables false
set_option maxRecDepth 100000
theorem own : ownKnob Tryd.prog.godebug = none := by kernel_rfl
theorem laid : laidOutB Tryd.prog = true := by kernel_rfl
theorem law_f : FOk Tryd.prog 3 (aH lN) := qO aHi.1 aHi.2 rfl rfl rfl rfl rfl rfl rfl
theorem readable : ∀ t ∈ Tryd.f3.params.toList, Tryd.prog.readableRec t = true ∧ t < Tryd.prog.types.size := by
  rw [Tryd.params3]
  have h : ([3, 22, 3, 23, 25, 26, 3, 3]).all (fun t => Tryd.prog.readableRec t && decide (t < Tryd.prog.types.size)) = true := by kernel_rfl
  intro t ht
  have := List.all_eq_true.1 h t ht
  simpa using this
theorem lifted (os : Os) (started : os.Started) (H : Type) (enc : TypeId × Value → H) :
    ReturnsInHanded {} Tryd.checked os 3 .any (fun w args => (Rows.orderMatchesReferenceSpec.pre enc Tryd.prog Tryd.f3 [] false w args ∧ laidMetH Tryd.prog aIM w) ∧ sizedMet enc Tryd.prog Tryd.f3 (OpenSpec.ofChange Rows.orderMatchesReferenceSpec) false w args) (Rows.orderMatchesReferenceSpec.post enc Tryd.prog Tryd.f3 false true false false) := by
  refine returnsInHanded_of_change_and (C := Tryd.checked) (X := fun w _ => laidMetH Tryd.prog aIM w) (fun _ _ _ hh h => h.of_heap hh) own started (by kernel_rfl) Tryd.func3
    (ChangeSpec.witness_shaped (enc := enc) (C := Tryd.checked) (os := os) (X := fun w _ => laidMetH Tryd.prog aIM w) false (World.doorLaid Tryd.prog 400 os) #[.int .i64 0, .slice none 0 0, .int .i64 0, .agg #[.int .i64 0, .int .i64 0, .int .i64 0], .agg #[.int .i64 0, .slice none 0 0], .slice none 0 0, .int .i64 0, .int .i64 0] 8 rfl (World.shaped_of_RefB (by kernel_rfl) (by kernel_rfl)) (by kernel_rfl) (by kernel_rfl) (by kernel_rfl) (aLF os _)) ?_
  intro W base args ds gs before hval0 hW _ _ hL _
  have hval : ∀ (j : Nat) t v, Tryd.f3.params[j]? = some t → args[j]? = some v → Value.okWide Tryd.prog W .any base t v := hval0
  have hW' := hW
  obtain ⟨p, q, hA0, hV, rfl, hfz, hnd⟩ := hW
  have hA : DataW.TrodAll enc Tryd.prog W 0 (fun _ => true) true Tryd.f3.params.toList args.toList ds p := hA0
  rw [Tryd.params3] at hA hval
  obtain ⟨v0, vs0, d0, ds0, p0, q0, hargs, hds, hps, h0, r0⟩ := trodAll_cons hA
  obtain ⟨v1, vs1, d1, ds1, p1, q1, rfl, rfl, rfl, h1, r1⟩ := trodAll_cons r0
  obtain ⟨v2, vs2, d2, ds2, p2, q2, rfl, rfl, rfl, h2, r2⟩ := trodAll_cons r1
  obtain ⟨v3, vs3, d3, ds3, p3, q3, rfl, rfl, rfl, h3, r3⟩ := trodAll_cons r2
  obtain ⟨v4, vs4, d4, ds4, p4, q4, rfl, rfl, rfl, h4, r4⟩ := trodAll_cons r3
  obtain ⟨v5, vs5, d5, ds5, p5, q5, rfl, rfl, rfl, h5, r5⟩ := trodAll_cons r4
  obtain ⟨v6, vs6, d6, ds6, p6, q6, rfl, rfl, rfl, h6, r6⟩ := trodAll_cons r5
  obtain ⟨v7, vs7, d7, ds7, p7, q7, rfl, rfl, rfl, h7, r7⟩ := trodAll_cons r6
  obtain ⟨rfl, rfl, rfl⟩ := trodAll_nil r7
  obtain rfl : args = #[v0, v1, v2, v3, v4, v5, v6, v7] := by cases args; simp_all
  obtain ⟨rfl, rfl⟩ := trodVars_none hV
  obtain ⟨a0, o0, e0⟩ := aLY enc W _ _ v0 d0 p0 (hval 0 3 v0 rfl rfl) h0
  obtain ⟨a1, o1, e1⟩ := aON enc W _ _ v1 d1 p1 (hval 1 22 v1 rfl rfl) h1
  obtain ⟨a2, o2, e2⟩ := aLY enc W _ _ v2 d2 p2 (hval 2 3 v2 rfl rfl) h2
  obtain ⟨a3, o3, e3⟩ := aPC enc W _ _ v3 d3 p3 (hval 3 23 v3 rfl rfl) h3
  obtain ⟨a4, o4, e4⟩ := aQn enc W _ _ v4 d4 p4 (hval 4 25 v4 rfl rfl) h4
  obtain ⟨a5, o5, e5⟩ := aPQ enc W _ _ v5 d5 p5 (hval 5 26 v5 rfl rfl) h5
  obtain ⟨a6, o6, e6⟩ := aLY enc W _ _ v6 d6 p6 (hval 6 3 v6 rfl rfl) h6
  obtain ⟨a7, o7, e7⟩ := aLY enc W _ _ v7 d7 p7 (hval 7 3 v7 rfl rfl) h7
  simp only [List.append_nil] at hW'
  refine (aND law_f (args := [eI a0, (eL 2 kT default) a1, eI a2, aOz a3, bF a4, (eL 1 eI default) a5, eI a6, eI a7]) (r := eB true) ⟨a0, a1, a2, a3, a4, a5, a6, a7, rfl, lR (aPW a0 a1 a2 a3 a4 a5 a6 a7 o0 o1 o2 o3 o4 o5 o6 o7) rfl⟩ (lsB _) W (aIn hL) [v0, v1, v2, v3, v4, v5, v6, v7] ⟨v0, _, rfl, e0, ⟨v1, _, rfl, e1, ⟨v2, _, rfl, e2, ⟨v3, _, rfl, e3, ⟨v4, _, rfl, e4, ⟨v5, _, rfl, e5, ⟨v6, _, rfl, e6, ⟨v7, _, rfl, e7, rfl⟩⟩⟩⟩⟩⟩⟩⟩).mono fun e W2 ⟨v, β, he, hv, hg⟩ => ?_
  subst he
  obtain rfl : v = .bool true := by simpa [eB, V] using hv
  subst hds
  exact ⟨_, rfl, aLW laid hW' rfl readable hg (fun _ _ _ => trodAll_cons_mk (shut_bool Tryd.underlying4 _) trodAll_mk0) rfl rfl (ok_one (by kernel_rfl) rfl (okWide_bool_mk Tryd.underlying4 _))⟩
theorem aTA : Rows.orderMatchesReferenceRow.holds Tryd.pinned (OpenSpec.ofChange Rows.orderMatchesReferenceSpec) :=
  OpenClaim.holds_of_wide 3 Tryd.f3 rfl rfl rfl rfl rfl rfl rfl ⟨rfl, rfl, rfl, rfl, rfl⟩ rfl rfl rfl rfl rfl (by kernel_rfl) Tryd.func3 (by kernel_rfl)
    (of_decide_eq_true (by kernel_rfl)) (by unfold Func.isWrapper; first | (rw [if_pos (by decide +kernel)]; kernel_rfl) | (rw [if_neg (by decide +kernel)]; exact ⟨rfl, rfl⟩))
    (fun os started H enc _ => lifted os started H enc)
/-- The tied card. -/
theorem proved : Rows.OrderMatchesReferenceCardSaid :=
  Claim7.holds_tied_plain_at .later [] [.data, .data] true (true, "d896a57165b65a85e4cca9f4f7b2ffb4b24985655986b4ce832e605d5f7d7e2d") false
    aTA (fun _ h => by cases h) (by kernel_rfl) (fun _ h => by cases h) orderMatchesReference_row_tie rfl ⟨rfl, rfl⟩ (by kernel_rfl) rfl
    (fun f fn hf hfn => by
      obtain rfl : f = 3 := Option.some.inj ((show Tryd.prog.funcNamed "dialtone/dialtonelaw07.OrderMatchesReference" = some 3 by kernel_rfl).symm.trans hf) |>.symm
      obtain rfl : fn = Tryd.f3 := (Option.some.inj (Tryd.func3.symm.trans hfn)).symm
      refine ⟨by kernel_rfl, fun j t ht => ?_⟩
      rw [Tryd.params3] at ht
      have h := List.all_eq_true.1 (show ([3, 22, 3, 23, 25, 26, 3, 3]).all (fun t => Tryd.prog.wantsStandIn t == false) = true by kernel_rfl) t (by
        have := List.mem_of_getElem? (show ([3, 22, 3, 23, 25, 26, 3, 3])[j]? = some t by simpa using ht)
        exact this)
      exact beq_iff_eq.1 h)
    (by kernel_rfl)
end Go.Proofs.YtlmboonbfhkfnaaDoor.orderMatchesReference
