import Derived.Test.YtgkmodjcoedonaaM7
set_option linter.unusedVariables false
set_option linter.unusedSimpArgs false
set_option linter.unusedSectionVars false
namespace Go.Proofs.Ytgkmodjcoedonaa
open Go Go.Eng
set_option maxHeartbeats 0
set_option maxRecDepth 100000
def law27_FlowThrough_F (a0 : Int) (a1 : List (Int × Int × Int)) (a2 : Int) (a3 : Int) (a4 : Int) : Option Bool := bd (law27_sane_F ) fun y1 =>
    cn (!y1) (some false) (bd (ref27_Made_F a0 a1) fun y2 => bd (law27_ends_F y2 a2 a3) fun y3 => bd (law27_pick_F a4 y2.N) fun y4 => bd (law27_greatest_F y2 y3.1 y3.2) fun y5 =>
    jn (fun p6 : Bool => cn p6 (some y5.2.2) (bd (law27_greatest_F y2 y3.1 y4) fun y8 => bd (law27_greatest_F y2 y4 y3.2) fun y9 => jn (fun p10 : Bool => some p10) fun k11 =>
    cn y5.2.2 (cn y8.2.2 (cn y9.2.2 (let v12 := (decide (y5.1 ≥ (imin y8.1 y9.1))); k11 v12) (k11 false)) (k11 false)) (k11 false))) fun k7 => cn (y4 == y3.1) (k7 true) (k7 (y4 ==
    y3.2)))
def law27_FlowThrough_S : List AV → AV → Prop := fun args r => ∃ a0 a1 a2 a3 a4, args = [eI a0, (eL 3 eA23 default) a1, eI a2, eI a3, eI a4] ∧ W (law27_FlowThrough_F a0 a1 a2 a3 a4) fun y => r = (eB y)
theorem law27_FlowThrough_ok {T : Tbl} (hT : TOk Try.prog T) (hpf : PfOk T PF) (h14 : T 14 = pureR law27_sane_S) (h15 : T 15 = pureR ref27_Made_S) (h16 : T 16 = pureR law27_ends_S) (h27 : T 27 = pureR law27_pick_S) (h43 : T 43 = pureR law27_greatest_S) : FOk Try.prog 13 (pureR law27_FlowThrough_S) := by
  refine FOk_pure hT hpf Try.func13 rfl Try.ntmps13 Try.results13 (by decide) ?_
  rintro args r ⟨a0, a1, a2, a3, a4, rfl, h⟩
  refine ⟨nle rfl, ?_, ?_⟩
  · exact (loose_cons (loose_int _ _) (loose_cons (loose_lst fun _ => (lo_A23 _)) (loose_cons (loose_int _ _) (loose_cons (loose_int _ _) (loose_cons (loose_int _ _) loose_nil)))))
  rw [law27_FlowThrough_F.eq_1] at h
  refine HT_fr DC_ok rfl fun K hK => ?_; (conv => whnf)
  refine hK _ _ _ ?_; clear hK K
  refine HT_seq ?_
  refine HT_fr DC_ok rfl fun K hK => ?_; (conv => whnf)
  replace h := W_bd h
  refine law27_sane_call h14 h (WkL.refl _) (fun _ h => ?_); (conv => whnf)
  refine hK _ _ _ ?_; clear hK K
  refine HT_if fun K1 K2 hK1 hK2 => ?_; (conv => whnf)
  refine cond_lk h (fun _ h => ?_) (fun _ h => ?_)
  · refine hK1 ?_; clear hK1 hK2 K1 K2
    refine HT_fr DC_ok rfl fun K hK => ?_; (conv => whnf)
    refine hK _ _ _ ?_; clear hK K
    refine HT_ret ?_
    refine Then_r ?_
    replace h := W_some h
    refine PostP_r DC_ok fun K hK => ?_; (conv => whnf)
    refine hK _ ?_; clear hK K
    cases h
    exact Wk.refl _
  refine hK2 ?_; clear hK1 hK2 K1 K2
  refine HT_skip ?_
  refine Then_n ?_
  refine HT_fr DC_ok rfl fun K hK => ?_; (conv => whnf)
  replace h := W_bd h
  refine ref27_Made_call h15 h (WkL.refl _) (fun _ h => ?_); (conv => whnf)
  refine blkK_of rfl ?_; (conv => whnf)
  refine And.intro rfl (And.intro (nle rfl) (And.intro rfl ?_)); (conv => whnf)
  refine hK _ _ _ ?_; clear hK K
  refine HT_fr DC_ok rfl fun K hK => ?_; (conv => whnf)
  refine nlA rfl ?_; (conv => whnf)
  refine blkK_of rfl ?_; (conv => whnf)
  refine nlA rfl ?_; (conv => whnf)
  replace h := W_bd h
  refine law27_ends_call h16 h (WkL.refl _) (fun _ h => ?_); (conv => whnf)
  refine hK _ _ _ ?_; clear hK K
  refine HT_fr DC_ok rfl fun K hK => ?_; (conv => whnf)
  refine nlA rfl ?_; (conv => whnf)
  refine blkK_of rfl ?_; (conv => whnf)
  refine getK_of rfl ?_; (conv => whnf)
  replace h := W_bd h
  refine law27_pick_call h27 h (WkL.refl _) (fun _ h => ?_); (conv => whnf)
  refine hK _ _ _ ?_; clear hK K
  refine HT_fr DC_ok rfl fun K hK => ?_; (conv => whnf)
  refine nlA rfl ?_; (conv => whnf)
  refine blkK_of rfl ?_; (conv => whnf)
  refine nlA rfl ?_; (conv => whnf)
  replace h := W_bd h
  refine law27_greatest_call h43 h (WkL.refl _) (fun _ h => ?_); (conv => whnf)
  refine hK _ _ _ ?_; clear hK K
  refine HT_seq ?_
  refine HT_fr DC_ok rfl fun K hK => ?_; (conv => whnf)
  replace h := W_jn h
  refine cond_lk h (fun _ h => ?_) (fun _ h => ?_) <;> (conv => whnf)
  · refine hK _ _ _ ?_; clear hK K
    refine HT_if fun K1 K2 hK1 hK2 => ?_; (conv => whnf)
    refine hK1 ?_; clear hK1 hK2 K1 K2
    replace h := W_cnT h
    refine HT_fr DC_ok rfl fun K hK => ?_; (conv => whnf)
    refine hK _ _ _ ?_; clear hK K
    refine HT_ret ?_
    refine Then_r ?_
    replace h := W_some h
    refine PostP_r DC_ok fun K hK => ?_; (conv => whnf)
    refine hK _ ?_; clear hK K
    cases h
    exact Wk.refl _
  refine hK _ _ _ ?_; clear hK K
  refine HT_if fun K1 K2 hK1 hK2 => ?_; (conv => whnf)
  refine cond_lk h (fun _ h => ?_) (fun _ h => ?_)
  · refine hK1 ?_; clear hK1 hK2 K1 K2
    refine HT_fr DC_ok rfl fun K hK => ?_; (conv => whnf)
    refine hK _ _ _ ?_; clear hK K
    refine HT_ret ?_
    refine Then_r ?_
    replace h := W_some h
    refine PostP_r DC_ok fun K hK => ?_; (conv => whnf)
    refine hK _ ?_; clear hK K
    cases h
    exact Wk.refl _
  refine hK2 ?_; clear hK1 hK2 K1 K2
  refine HT_skip ?_
  refine Then_n ?_
  refine HT_fr DC_ok rfl fun K hK => ?_; (conv => whnf)
  refine nlA rfl ?_; (conv => whnf)
  refine blkK_of rfl ?_; (conv => whnf)
  refine nlA rfl ?_; (conv => whnf)
  replace h := W_bd h
  refine law27_greatest_call h43 h (WkL.refl _) (fun _ h => ?_); (conv => whnf)
  refine hK _ _ _ ?_; clear hK K
  refine HT_fr DC_ok rfl fun K hK => ?_; (conv => whnf)
  refine nlA rfl ?_; (conv => whnf)
  refine blkK_of rfl ?_; (conv => whnf)
  refine nlA rfl ?_; (conv => whnf)
  replace h := W_bd h
  refine law27_greatest_call h43 h (WkL.refl _) (fun _ h => ?_); (conv => whnf)
  refine hK _ _ _ ?_; clear hK K
  refine HT_fr DC_ok rfl fun K hK => ?_; (conv => whnf)
  replace h := W_jn h
  refine cond_lk h (fun _ h => ?_) (fun _ h => ?_) <;> (conv => whnf)
  · refine cond_lk h (fun _ h => ?_) (fun _ h => ?_) <;> (conv => whnf)
    · refine cond_lk h (fun _ h => ?_) (fun _ h => ?_) <;> (conv => whnf)
      · refine hK _ _ _ ?_; clear hK K
        refine HT_ret ?_
        replace h := W_some h
        refine PostP_r DC_ok fun K hK => ?_; (conv => whnf)
        refine hK _ ?_; clear hK K
        cases h
        exact Wk.refl _
      refine hK _ _ _ ?_; clear hK K
      refine HT_ret ?_
      replace h := W_some h
      refine PostP_r DC_ok fun K hK => ?_; (conv => whnf)
      refine hK _ ?_; clear hK K
      cases h
      exact Wk.refl _
    refine hK _ _ _ ?_; clear hK K
    refine HT_ret ?_
    replace h := W_some h
    refine PostP_r DC_ok fun K hK => ?_; (conv => whnf)
    refine hK _ ?_; clear hK K
    cases h
    exact Wk.refl _
  refine hK _ _ _ ?_; clear hK K
  refine HT_ret ?_
  replace h := W_some h
  refine PostP_r DC_ok fun K hK => ?_; (conv => whnf)
  refine hK _ ?_; clear hK K
  cases h
  exact Wk.refl _
end Go.Proofs.Ytgkmodjcoedonaa
namespace Go.Proofs.Ytgkmodjcoedonaa
open Go Go.Eng
theorem plain13 (a0 : Int) (a1 : List (Int × Int × Int)) (a2 a3 a4 : Int) (o0 : okI a0) (o1 : okL okA23 a1) (o2 : okI a2) (o3 : okI a3) (o4 : okI a4) : law27_FlowThrough_F a0 a1 a2 a3 a4 = some true := by
  obtain ⟨n, en, hn⟩ := made_ok a0 a1 o0 o1
  obtain ⟨s, t, ee, he⟩ := ends_ok hn o2 o3
  have hN := hn.nn
  obtain ⟨m1, m2⟩ := pickZ_lt a4 (n := n.N) (by omega)
  obtain ⟨v, C, eg, hv⟩ := greatest_ok he
  unfold law27_FlowThrough_F
  rw [sane_ok, bd_s, Bool.not_true, cn_f, en, bd_s, ee, bd_s, pick_law _ _ o4 (by omega), bd_s]
  simp only
  rw [eg, bd_s]
  simp only [jn_d]
  obtain ⟨m, hm⟩ : ∃ m : Nat, pickZ a4 n.N = (m : Int) := ⟨_, (Int.toNat_of_nonneg m1).symm⟩
  rw [hm, cn_beq]
  by_cases c1 : (m : Int) = (s : Int)
  · rw [if_pos c1, cn_t]
  · rw [if_neg c1]
    by_cases c2 : (m : Int) = (t : Int)
    · have : ((m : Int) == (t : Int)) = true := by simp [c2]
      rw [this, cn_t]
    · have : ((m : Int) == (t : Int)) = false := by simp [c2]
      rw [this, cn_f]
      obtain ⟨v1, C1, eg1, hv1⟩ := greatest_ok (n := n) (s := s) (t := m) ⟨hn.v, he.hs, by omega, by omega⟩
      obtain ⟨v2, C2, eg2, hv2⟩ := greatest_ok (n := n) (s := m) (t := t) ⟨hn.v, by omega, he.ht, by omega⟩
      rw [eg1, bd_s, eg2, bd_s]
      simp only [cn_t]
      congr 1
      refine decide_eq_true ?_
      have key : v1 ≤ v ∨ v2 ≤ v := by
        cases c : C.testBit m with
        | true => right; rw [hv.eq]; exact hv2.le _ c hv.ct
        | false => left; rw [hv.eq]; exact hv1.le _ hv.cs c
      unfold imin
      split <;> omega
end Go.Proofs.Ytgkmodjcoedonaa
