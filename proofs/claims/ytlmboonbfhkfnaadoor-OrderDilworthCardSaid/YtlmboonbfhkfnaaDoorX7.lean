/- OrderDilworth: for every input the law returns true, and each argument reads behind the call as it read before. -/
import Derived.Test.YtlmboonbfhkfnaaDoorRows
import Derived.Test.YtlmboonbfhkfnaaDoorCards
import Derived.Test.YtlmboonbfhkfnaaDoorTie
import Derived.Test.YtlmboonbfhkfnaaDoorM4
import Derived.Test.YtlmboonbfhkfnaaDoorM7
import Derived.Test.YtlmboonbfhkfnaaDoorM5
import Derived.WalkKit
import Derived.ProofKit
import Derived.OpenShut
namespace Go.Proofs.YtlmboonbfhkfnaaDoor.orderDilworth
open Go Go.Eng Go.ChangeShapes Go.WideShapes Go.ChangeAt Go.RowKit
set_option linter.unusedVariables false
set_option maxRecDepth 100000
theorem own : ownKnob Tryd.prog.godebug = none := by kernel_rfl
theorem laid : laidOutB Tryd.prog = true := by kernel_rfl
theorem law_f : FOk Tryd.prog 7 (aK jZ) := oX aFe.1 aFe.2 rfl rfl rfl rfl rfl rfl
theorem readable : ∀ t ∈ Tryd.f7.params.toList, Tryd.prog.readableRec t = true ∧ t < Tryd.prog.types.size := by
  rw [Tryd.params7]
  have h : ([3, 22, 3, 3]).all (fun t => Tryd.prog.readableRec t && decide (t < Tryd.prog.types.size)) = true := by kernel_rfl
  intro t ht
  have := List.all_eq_true.1 h t ht
  simpa using this
theorem lifted (os : Os) (started : os.Started) (H : Type) (enc : TypeId × Value → H) :
    ReturnsInHanded {} Tryd.checked os 7 .any (fun w args => (Rows.orderDilworthSpec.pre enc Tryd.prog Tryd.f7 [] false w args ∧ laidMetH Tryd.prog aEt w) ∧ sizedMet enc Tryd.prog Tryd.f7 (OpenSpec.ofChange Rows.orderDilworthSpec) false w args) (Rows.orderDilworthSpec.post enc Tryd.prog Tryd.f7 false true false false) := by
  refine returnsInHanded_of_change_and (C := Tryd.checked) (X := fun w _ => laidMetH Tryd.prog aEt w) (fun _ _ _ hh h => h.of_heap hh) own started (by kernel_rfl) Tryd.func7
    (ChangeSpec.witness_shaped (enc := enc) (C := Tryd.checked) (os := os) (X := fun w _ => laidMetH Tryd.prog aEt w) false (World.doorLaid Tryd.prog 400 os) #[.int .i64 0, .slice none 0 0, .int .i64 0, .int .i64 0] 8 rfl (World.shaped_of_RefB (by kernel_rfl) (by kernel_rfl)) (by kernel_rfl) (by kernel_rfl) (by kernel_rfl) (aGp os _)) ?_
  intro W base args ds gs before hval0 hW _ _ hL _
  have hval : ∀ (j : Nat) t v, Tryd.f7.params[j]? = some t → args[j]? = some v → Value.okWide Tryd.prog W .any base t v := hval0
  have hW' := hW
  obtain ⟨p, q, hA0, hV, rfl, hfz, hnd⟩ := hW
  have hA : DataW.TrodAll enc Tryd.prog W 0 (fun _ => true) true Tryd.f7.params.toList args.toList ds p := hA0
  rw [Tryd.params7] at hA hval
  obtain ⟨v0, vs0, d0, ds0, p0, q0, hargs, hds, hps, h0, r0⟩ := trodAll_cons hA
  obtain ⟨v1, vs1, d1, ds1, p1, q1, rfl, rfl, rfl, h1, r1⟩ := trodAll_cons r0
  obtain ⟨v2, vs2, d2, ds2, p2, q2, rfl, rfl, rfl, h2, r2⟩ := trodAll_cons r1
  obtain ⟨v3, vs3, d3, ds3, p3, q3, rfl, rfl, rfl, h3, r3⟩ := trodAll_cons r2
  obtain ⟨rfl, rfl, rfl⟩ := trodAll_nil r3
  obtain rfl : args = #[v0, v1, v2, v3] := by cases args; simp_all
  obtain ⟨rfl, rfl⟩ := trodVars_none hV
  obtain ⟨a0, o0, e0⟩ := aHL enc W _ _ v0 d0 p0 (hval 0 3 v0 rfl rfl) h0
  obtain ⟨a1, o1, e1⟩ := aJi enc W _ _ v1 d1 p1 (hval 1 22 v1 rfl rfl) h1
  obtain ⟨a2, o2, e2⟩ := aHL enc W _ _ v2 d2 p2 (hval 2 3 v2 rfl rfl) h2
  obtain ⟨a3, o3, e3⟩ := aHL enc W _ _ v3 d3 p3 (hval 3 3 v3 rfl rfl) h3
  simp only [List.append_nil] at hW'
  refine (aHF law_f (args := [eI a0, (eL 2 jW default) a1, eI a2, eI a3]) (r := eB true) ⟨a0, a1, a2, a3, rfl, kY (aJk a0 a1 a2 a3 o0 o1 o2 o3) rfl⟩ (lsB _) W (aDi hL) [v0, v1, v2, v3] ⟨v0, _, rfl, e0, ⟨v1, _, rfl, e1, ⟨v2, _, rfl, e2, ⟨v3, _, rfl, e3, rfl⟩⟩⟩⟩).mono fun e W2 ⟨v, β, he, hv, hg⟩ => ?_
  subst he
  obtain rfl : v = .bool true := by simpa [eB, V] using hv
  subst hds
  exact ⟨_, rfl, aF1 laid hW' rfl readable hg (fun _ _ _ => trodAll_cons_mk (shut_bool Tryd.underlying4 _) trodAll_mk0) rfl rfl (ok_one (by kernel_rfl) rfl (okWide_bool_mk Tryd.underlying4 _))⟩
theorem aM0 : Rows.orderDilworthRow.holds Tryd.pinned (OpenSpec.ofChange Rows.orderDilworthSpec) :=
  OpenClaim.holds_of_wide 7 Tryd.f7 rfl rfl rfl rfl rfl rfl rfl ⟨rfl, rfl, rfl, rfl, rfl⟩ rfl rfl rfl rfl rfl (by kernel_rfl) Tryd.func7 (by kernel_rfl)
    (of_decide_eq_true (by kernel_rfl)) (by unfold Func.isWrapper; first | (rw [if_pos (by decide +kernel)]; kernel_rfl) | (rw [if_neg (by decide +kernel)]; exact ⟨rfl, rfl⟩))
    (fun os started H enc _ => lifted os started H enc)
/-- The tied card. -/
theorem proved : Rows.OrderDilworthCardSaid :=
  Claim7.holds_tied_plain_at .later [] [.data, .data] true (true, "d896a57165b65a85e4cca9f4f7b2ffb4b24985655986b4ce832e605d5f7d7e2d") false
    aM0 (fun _ h => by cases h) (by kernel_rfl) (fun _ h => by cases h) orderDilworth_row_tie rfl ⟨rfl, rfl⟩ (by kernel_rfl) rfl
    (fun f fn hf hfn => by
      obtain rfl : f = 7 := Option.some.inj ((show Tryd.prog.funcNamed "dialtone/dialtonelaw07.OrderDilworth" = some 7 by kernel_rfl).symm.trans hf) |>.symm
      obtain rfl : fn = Tryd.f7 := (Option.some.inj (Tryd.func7.symm.trans hfn)).symm
      refine ⟨by kernel_rfl, fun j t ht => ?_⟩
      rw [Tryd.params7] at ht
      have h := List.all_eq_true.1 (show ([3, 22, 3, 3]).all (fun t => Tryd.prog.wantsStandIn t == false) = true by kernel_rfl) t (by
        have := List.mem_of_getElem? (show ([3, 22, 3, 3])[j]? = some t by simpa using ht)
        exact this)
      exact beq_iff_eq.1 h)
    (by kernel_rfl)
end Go.Proofs.YtlmboonbfhkfnaaDoor.orderDilworth
