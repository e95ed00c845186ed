import Derived.Test.YtgkmodjcoedonaaM7
set_option linter.unusedVariables false
set_option linter.unusedSimpArgs false
set_option linter.unusedSectionVars false
namespace Go.Proofs.Ytgkmodjcoedonaa
open Go Go.Eng
set_option maxHeartbeats 0
set_option maxRecDepth 100000
def law27_FlowCuts_F (a0 : Int) (a1 : List (Int × Int × Int)) (a2 : Int) (a3 : Int) (a4 : Int) (a5 : Int) (a6 : Int × Int × Int) : Option Bool := bd (law27_sane_F ) fun y1 =>
    cn (!y1) (some false) (bd (ref27_Made_F a0 a1) fun y2 => bd (law27_ends_F y2 a2 a3) fun y3 => bd (law27_greatest_F y2 y3.1 y3.2) fun y4 =>
    cn (!y4.2.2) (some false) (gd (0 ≤ (y2.Edges.length : Int)) (bd (law27_pick_F a4 (bshl .i64 1 (y2.Edges.length : Int))) fun y5 => bd (flow_Without_F y2 y5) fun y6 =>
    bd (flow_Max_F y6.1 y3.1 y3.2) fun y7 => jn (fun p8 : Bool => cn p8 (some false) (bd (flow_CheckFlow_F y2 y3.1 y3.2 y7.1) fun y10 =>
    bd (ref27_BentList_F y7.1 a6.1 a6.2.1 a6.2.2) fun y11 => bd (flow_CheckFlow_F y2 y3.1 y3.2 y11) fun y12 => gd (0 ≤ y2.N) (bd (law27_pick_F a5 (bshl .i64 1 y2.N)) fun y13 =>
    gd (0 ≤ y3.1) (bd (flow_CheckCut_F y2 y3.1 y3.2 (bor .i64 y13 (bshl .i64 1 y3.1))) fun y14 => jn (fun p15 : Bool => cn p15 (some false) (jn (fun p17 : Bool =>
    some p17) fun k18 => gd (0 ≤ y3.1) (cn ((Int.tmod (bshr .i64 y4.2.1 y3.1) 2) == 1) (gd (0 ≤ y3.2) (let v19 := ((Int.tmod (bshr .i64 y4.2.1 y3.2) 2) == 0);
    k18 v19)) (k18 false)))) fun k16 => cn (!y10.2) (k16 true) (cn (decide (y10.1 > y4.1)) (k16 true) (cn y12.2 (cn (decide (y12.1 >
    y4.1)) (k16 true) (cn y14.2 (cn (decide (y14.1 < y4.1)) (k16 true) (k16 (decide (y14.1 < y10.1)))) (k16 false))) (cn y14.2 (cn (decide (y14.1 < y4.1)) (k16 true) (k16 (decide (y14.1 < y10.1)))) (k16 false)))))))) fun k9 =>
    cn (y6.2 != 0) (k9 true) (k9 (y7.2.2 != 0)))))
def law27_FlowCuts_S : List AV → AV → Prop := fun args r => ∃ a0 a1 a2 a3 a4 a5 a6, args = [eI a0, (eL 3 eA23 default) a1, eI a2, eI a3, eI a4, eI a5, eA23 a6] ∧ W (law27_FlowCuts_F a0 a1 a2 a3 a4 a5 a6) fun y => r = (eB y)
theorem law27_FlowCuts_ok {T : Tbl} (hT : TOk Try.prog T) (hpf : PfOk T PF) (h14 : T 14 = pureR law27_sane_S) (h15 : T 15 = pureR ref27_Made_S) (h16 : T 16 = pureR law27_ends_S) (h21 : T 21 = pureR flow_Max_S) (h25 : T 25 = pureR ref27_BentList_S) (h26 : T 26 = pureR flow_CheckFlow_S) (h27 : T 27 = pureR law27_pick_S) (h28 : T 28 = pureR flow_CheckCut_S) (h30 : T 30 = pureR flow_Without_S) (h43 : T 43 = pureR law27_greatest_S) : FOk Try.prog 5 (pureR law27_FlowCuts_S) := by
  refine FOk_pure hT hpf Try.func5 rfl Try.ntmps5 Try.results5 (by decide) ?_
  rintro args r ⟨a0, a1, a2, a3, a4, a5, a6, rfl, h⟩
  refine ⟨nle rfl, ?_, ?_⟩
  · exact (loose_cons (loose_int _ _) (loose_cons (loose_lst fun _ => (lo_A23 _)) (loose_cons (loose_int _ _) (loose_cons (loose_int _ _) (loose_cons (loose_int _ _) (loose_cons (loose_int _ _) (loose_cons (lo_A23 _) loose_nil)))))))
  rw [law27_FlowCuts_F.eq_1] at h
  refine HT_fr DC_ok rfl fun K hK => ?_; (conv => whnf)
  refine hK _ _ _ ?_; clear hK K
  refine HT_seq ?_
  refine HT_fr DC_ok rfl fun K hK => ?_; (conv => whnf)
  replace h := W_bd h
  refine law27_sane_call h14 h (WkL.refl _) (fun _ h => ?_); (conv => whnf)
  refine hK _ _ _ ?_; clear hK K
  refine HT_if fun K1 K2 hK1 hK2 => ?_; (conv => whnf)
  refine cond_lk h (fun _ h => ?_) (fun _ h => ?_)
  · refine hK1 ?_; clear hK1 hK2 K1 K2
    refine HT_fr DC_ok rfl fun K hK => ?_; (conv => whnf)
    refine hK _ _ _ ?_; clear hK K
    refine HT_ret ?_
    refine Then_r ?_
    replace h := W_some h
    refine PostP_r DC_ok fun K hK => ?_; (conv => whnf)
    refine hK _ ?_; clear hK K
    cases h
    exact Wk.refl _
  refine hK2 ?_; clear hK1 hK2 K1 K2
  refine HT_skip ?_
  refine Then_n ?_
  refine HT_fr DC_ok rfl fun K hK => ?_; (conv => whnf)
  replace h := W_bd h
  refine ref27_Made_call h15 h (WkL.refl _) (fun _ h => ?_); (conv => whnf)
  refine blkK_of rfl ?_; (conv => whnf)
  refine And.intro rfl (And.intro (nle rfl) (And.intro rfl ?_)); (conv => whnf)
  refine hK _ _ _ ?_; clear hK K
  refine HT_fr DC_ok rfl fun K hK => ?_; (conv => whnf)
  refine nlA rfl ?_; (conv => whnf)
  refine blkK_of rfl ?_; (conv => whnf)
  refine nlA rfl ?_; (conv => whnf)
  replace h := W_bd h
  refine law27_ends_call h16 h (WkL.refl _) (fun _ h => ?_); (conv => whnf)
  refine hK _ _ _ ?_; clear hK K
  refine HT_fr DC_ok rfl fun K hK => ?_; (conv => whnf)
  refine nlA rfl ?_; (conv => whnf)
  refine blkK_of rfl ?_; (conv => whnf)
  refine nlA rfl ?_; (conv => whnf)
  replace h := W_bd h
  refine law27_greatest_call h43 h (WkL.refl _) (fun _ h => ?_); (conv => whnf)
  refine hK _ _ _ ?_; clear hK K
  refine HT_seq ?_
  refine HT_fr DC_ok rfl fun K hK => ?_; (conv => whnf)
  refine hK _ _ _ ?_; clear hK K
  refine HT_if fun K1 K2 hK1 hK2 => ?_; (conv => whnf)
  refine cond_lk h (fun _ h => ?_) (fun _ h => ?_)
  · refine hK1 ?_; clear hK1 hK2 K1 K2
    refine HT_fr DC_ok rfl fun K hK => ?_; (conv => whnf)
    refine hK _ _ _ ?_; clear hK K
    refine HT_ret ?_
    refine Then_r ?_
    replace h := W_some h
    refine PostP_r DC_ok fun K hK => ?_; (conv => whnf)
    refine hK _ ?_; clear hK K
    cases h
    exact Wk.refl _
  refine hK2 ?_; clear hK1 hK2 K1 K2
  refine HT_skip ?_
  refine Then_n ?_
  refine HT_fd DC_ok mix_ok rfl (by kernel_rfl) fun K hK => ?_; (conv => whnf)
  refine nlA rfl ?_; (conv => whnf)
  refine blkK_of rfl ?_; (conv => whnf)
  refine nlA rfl ?_; (conv => whnf)
  refine nlA rfl ?_; (conv => whnf)
  refine blkK_of rfl ?_; (conv => whnf)
  refine getK_of rfl ?_; (conv => whnf)
  refine gd_lk h fun _ h => ?_; (conv => whnf)
  replace h := W_bd h
  refine law27_pick_call h27 h (WkL.refl _) (fun _ h => ?_); (conv => whnf)
  replace h := W_bd h
  refine flow_Without_call h30 h (WkL.refl _) (fun _ h => ?_); (conv => whnf)
  refine blkK_of rfl ?_; (conv => whnf)
  refine And.intro rfl (And.intro (nle rfl) (And.intro rfl ?_)); (conv => whnf)
  refine hK _ _ _ ?_; clear hK K
  refine HT_fr DC_ok rfl fun K hK => ?_; (conv => whnf)
  refine nlA rfl ?_; (conv => whnf)
  refine blkK_of rfl ?_; (conv => whnf)
  refine nlA rfl ?_; (conv => whnf)
  replace h := W_bd h
  refine flow_Max_call h21 h (WkL.refl _) (fun _ h => ?_); (conv => whnf)
  refine hK _ _ _ ?_; clear hK K
  refine HT_seq ?_
  refine HT_fr DC_ok rfl fun K hK => ?_; (conv => whnf)
  replace h := W_jn h
  refine cond_lk h (fun _ h => ?_) (fun _ h => ?_) <;> (conv => whnf)
  · refine hK _ _ _ ?_; clear hK K
    refine HT_if fun K1 K2 hK1 hK2 => ?_; (conv => whnf)
    refine hK1 ?_; clear hK1 hK2 K1 K2
    replace h := W_cnT h
    refine HT_fr DC_ok rfl fun K hK => ?_; (conv => whnf)
    refine hK _ _ _ ?_; clear hK K
    refine HT_ret ?_
    refine Then_r ?_
    replace h := W_some h
    refine PostP_r DC_ok fun K hK => ?_; (conv => whnf)
    refine hK _ ?_; clear hK K
    cases h
    exact Wk.refl _
  refine hK _ _ _ ?_; clear hK K
  refine HT_if fun K1 K2 hK1 hK2 => ?_; (conv => whnf)
  refine cond_lk h (fun _ h => ?_) (fun _ h => ?_)
  · refine hK1 ?_; clear hK1 hK2 K1 K2
    refine HT_fr DC_ok rfl fun K hK => ?_; (conv => whnf)
    refine hK _ _ _ ?_; clear hK K
    refine HT_ret ?_
    refine Then_r ?_
    replace h := W_some h
    refine PostP_r DC_ok fun K hK => ?_; (conv => whnf)
    refine hK _ ?_; clear hK K
    cases h
    exact Wk.refl _
  refine hK2 ?_; clear hK1 hK2 K1 K2
  refine HT_skip ?_
  refine Then_n ?_
  refine HT_fr DC_ok rfl fun K hK => ?_; (conv => whnf)
  refine nlA rfl ?_; (conv => whnf)
  refine blkK_of rfl ?_; (conv => whnf)
  refine nlA rfl ?_; (conv => whnf)
  replace h := W_bd h
  refine flow_CheckFlow_call h26 h (WkL.refl _) (fun _ h => ?_); (conv => whnf)
  refine hK _ _ _ ?_; clear hK K
  refine HT_fd DC_ok mix_ok rfl (by kernel_rfl) fun K hK => ?_; (conv => whnf)
  refine nlA rfl ?_; (conv => whnf)
  refine blkK_of rfl ?_; (conv => whnf)
  refine nlA rfl ?_; (conv => whnf)
  refine And.intro (by decide) ?_; (conv => whnf)
  refine nlA rfl ?_; (conv => whnf)
  refine blkK_of rfl ?_; (conv => whnf)
  refine getK_of rfl ?_; (conv => whnf)
  refine And.intro (by decide) ?_; (conv => whnf)
  refine nlA rfl ?_; (conv => whnf)
  refine blkK_of rfl ?_; (conv => whnf)
  refine getK_of rfl ?_; (conv => whnf)
  refine And.intro (by decide) ?_; (conv => whnf)
  refine nlA rfl ?_; (conv => whnf)
  refine blkK_of rfl ?_; (conv => whnf)
  refine getK_of rfl ?_; (conv => whnf)
  replace h := W_bd h
  refine ref27_BentList_call h25 h (WkL.refl _) (fun _ h => ?_); (conv => whnf)
  replace h := W_bd h
  refine flow_CheckFlow_call h26 h (WkL.refl _) (fun _ h => ?_); (conv => whnf)
  refine hK _ _ _ ?_; clear hK K
  refine HT_fd DC_ok mix_ok rfl (by kernel_rfl) fun K hK => ?_; (conv => whnf)
  refine nlA rfl ?_; (conv => whnf)
  refine blkK_of rfl ?_; (conv => whnf)
  refine nlA rfl ?_; (conv => whnf)
  refine nlA rfl ?_; (conv => whnf)
  refine blkK_of rfl ?_; (conv => whnf)
  refine getK_of rfl ?_; (conv => whnf)
  refine gd_lk h fun _ h => ?_; (conv => whnf)
  replace h := W_bd h
  refine law27_pick_call h27 h (WkL.refl _) (fun _ h => ?_); (conv => whnf)
  refine gd_lk h fun _ h => ?_; (conv => whnf)
  replace h := W_bd h
  refine flow_CheckCut_call h28 h (WkL.refl _) (fun _ h => ?_); (conv => whnf)
  refine hK _ _ _ ?_; clear hK K
  refine HT_seq ?_
  refine HT_jnK rfl h [16, 17, 19] [] [] (fun kl kh ids b s => ⟨ofL ([(144, eB s)] ++ kl), ofH ([] ++ kh), b + 64⟩) ?_; (conv => whnf); refine And.intro (fun s h => HT_st ?_) (fun k h => ?_)
  · refine HT_if fun K1 K2 hK1 hK2 => ?_; (conv => whnf)
    refine cond_lk h (fun _ h => ?_) (fun _ h => ?_)
    · refine hK1 ?_; clear hK1 hK2 K1 K2
      refine HT_fr DC_ok rfl fun K hK => ?_; (conv => whnf)
      refine hK _ _ _ ?_; clear hK K
      refine HT_ret ?_
      refine Then_r ?_
      replace h := W_some h
      refine PostP_r DC_ok fun K hK => ?_; (conv => whnf)
      refine hK _ ?_; clear hK K
      cases h
      exact Wk.refl _
    refine hK2 ?_; clear hK1 hK2 K1 K2
    refine HT_skip ?_
    refine Then_n ?_
    refine HT_fr DC_ok rfl fun K hK => ?_; (conv => whnf)
    replace h := W_jn h
    refine gd_lk h fun _ h => ?_; (conv => whnf)
    refine And.intro (by decide) ?_; (conv => whnf)
    refine cond_lk h (fun _ h => ?_) (fun _ h => ?_) <;> (conv => whnf)
    · refine gd_lk h fun _ h => ?_; (conv => whnf)
      refine And.intro (by decide) ?_; (conv => whnf)
      refine hK _ _ _ ?_; clear hK K
      refine HT_ret ?_
      replace h := W_some h
      refine PostP_r DC_ok fun K hK => ?_; (conv => whnf)
      refine hK _ ?_; clear hK K
      cases h
      exact Wk.refl _
    refine hK _ _ _ ?_; clear hK K
    refine HT_ret ?_
    replace h := W_some h
    refine PostP_r DC_ok fun K hK => ?_; (conv => whnf)
    refine hK _ ?_; clear hK K
    cases h
    exact Wk.refl _
  refine HT_f DC_ok rfl fun K hK => ?_; (conv => whnf)
  refine cond_lk h (fun _ h => ?_) (fun _ h => ?_) <;> (conv => whnf)
  · refine hK _ _ _ ?_; clear hK K
    refine Then_n ?_
    refine ⟨_, h, ?_⟩
    refine weak_k ?_; (conv => whnf)
    exact And.intro rfl (And.intro (allL_c (wkr (loose_bool _)) (allL_c wkI (allL_c wkI (allL_c wkI allL_n)))) allL_n)
  refine cond_lk h (fun _ h => ?_) (fun _ h => ?_) <;> (conv => whnf)
  · refine hK _ _ _ ?_; clear hK K
    refine Then_n ?_
    refine ⟨_, h, ?_⟩
    refine weak_k ?_; (conv => whnf)
    exact And.intro rfl (And.intro (allL_c (wkr (loose_bool _)) (allL_c wkI (allL_c wkI (allL_c wkI allL_n)))) allL_n)
  refine cond_lk h (fun _ h => ?_) (fun _ h => ?_) <;> (conv => whnf)
  · refine cond_lk h (fun _ h => ?_) (fun _ h => ?_) <;> (conv => whnf)
    · refine hK _ _ _ ?_; clear hK K
      refine Then_n ?_
      refine ⟨_, h, ?_⟩
      refine weak_k ?_; (conv => whnf)
      exact And.intro rfl (And.intro (allL_c (wkr (loose_bool _)) (allL_c wkI (allL_c wkI (allL_c wkI allL_n)))) allL_n)
    refine cond_lk h (fun _ h => ?_) (fun _ h => ?_) <;> (conv => whnf)
    · refine cond_lk h (fun _ h => ?_) (fun _ h => ?_) <;> (conv => whnf)
      · refine hK _ _ _ ?_; clear hK K
        refine Then_n ?_
        refine ⟨_, h, ?_⟩
        refine weak_k ?_; (conv => whnf)
        exact And.intro rfl (And.intro (allL_c (wkr (loose_bool _)) (allL_c wkI (allL_c wkI (allL_c wkI allL_n)))) allL_n)
      refine hK _ _ _ ?_; clear hK K
      refine Then_n ?_
      refine ⟨_, h, ?_⟩
      refine weak_k ?_; (conv => whnf)
      exact And.intro rfl (And.intro (allL_c (wkr (loose_bool _)) (allL_c wkI (allL_c wkI (allL_c wkI allL_n)))) allL_n)
    refine hK _ _ _ ?_; clear hK K
    refine Then_n ?_
    refine ⟨_, h, ?_⟩
    refine weak_k ?_; (conv => whnf)
    exact And.intro rfl (And.intro (allL_c (wkr (loose_bool _)) (allL_c wkI (allL_c wkI (allL_c wkI allL_n)))) allL_n)
  refine cond_lk h (fun _ h => ?_) (fun _ h => ?_) <;> (conv => whnf)
  · refine cond_lk h (fun _ h => ?_) (fun _ h => ?_) <;> (conv => whnf)
    · refine hK _ _ _ ?_; clear hK K
      refine Then_n ?_
      refine ⟨_, h, ?_⟩
      refine weak_k ?_; (conv => whnf)
      exact And.intro rfl (And.intro (allL_c (wkr (loose_bool _)) (allL_c wkI (allL_c wkI (allL_c wkI allL_n)))) allL_n)
    refine hK _ _ _ ?_; clear hK K
    refine Then_n ?_
    refine ⟨_, h, ?_⟩
    refine weak_k ?_; (conv => whnf)
    exact And.intro rfl (And.intro (allL_c (wkr (loose_bool _)) (allL_c wkI (allL_c wkI (allL_c wkI allL_n)))) allL_n)
  refine hK _ _ _ ?_; clear hK K
  refine Then_n ?_
  refine ⟨_, h, ?_⟩
  refine weak_k ?_; (conv => whnf)
  exact And.intro rfl (And.intro (allL_c (wkr (loose_bool _)) (allL_c wkI (allL_c wkI (allL_c wkI allL_n)))) allL_n)
end Go.Proofs.Ytgkmodjcoedonaa
namespace Go.Proofs.Ytgkmodjcoedonaa
open Go Go.Eng
set_option maxHeartbeats 0
set_option maxRecDepth 100000
def law27_FlowLeast_F (a0 : Int) (a1 : List (Int × Int × Int)) (a2 : Int) (a3 : Int) (a4 : Int) (a5 : Int) : Option Bool := bd (law27_sane_F ) fun y1 =>
    cn (!y1) (some false) (bd (ref27_Made_F a0 a1) fun y2 => bd (law27_ends_F y2 a2 a3) fun y3 => bd (law27_greatest_F y2 y3.1 y3.2) fun y4 =>
    gd (0 ≤ y2.N) (bd (law27_pick_F a4 (bshl .i64 1 y2.N)) fun y5 => bd (flow_CheckCut_F y2 y3.1 y3.2 y5) fun y6 => jn (fun p7 : Bool =>
    cn p7 (some false) (cn ((y2.Edges.length : Int) == 0) (some (y4.1 == 0)) (bd (law27_pick_F a5 (y2.Edges.length : Int)) fun y9 => lt ([] : List TEdge) fun l10 =>
    gd (y2.Edges.length ≤ 1048576) (lt y2.Edges fun l11 =>
    gd ((0 : Int) ≤ y9 ∧ y9 < (l11.length : Int)) (gd ((0 : Int) ≤ y9 ∧ y9 < (l11.length : Int)) (st l11 (y9) (⟨(l11.getD (y9).toNat default).From, (l11.getD (y9).toNat default).To, (wr (((l11.getD (y9).toNat default).Capacity) + 1))⟩ : TEdge) fun l12 =>
    bd (law27_greatest_F (⟨y2.N, l12⟩ : TNet) y3.1 y3.2) fun y13 => jn (fun p14 : Bool => jn (fun p19 : Bool => some p19) fun k20 =>
    cn y13.2.2 (cn (decide (y13.1 ≥ y4.1)) (cn (decide (y13.1 ≤ (wr (y4.1 + 1)))) (cn p14 (k20 true) (k20 (y13.1 == y4.1))) (k20 false)) (k20 false)) (k20 false)) fun k15 =>
    ix y2.Edges default y9 fun e16 => gd (0 ≤ e16.From) (cn ((Int.tmod (bshr .i64 y4.2.1 e16.From) 2) == 1) (ix y2.Edges default y9 fun e17 =>
    gd (0 ≤ e17.To) (let v18 := ((Int.tmod (bshr .i64 y4.2.1 e17.To) 2) == 0); k15 v18)) (k15 false)))))))) fun k8 => cn (!y4.2.2) (k8 true) (cn y6.2 (cn (y6.1 ==
    y4.1) (k8 ((band .i64 y5 y4.2.1) != y4.2.1)) (k8 false)) (k8 false))))
def law27_FlowLeast_S : List AV → AV → Prop := fun args r => ∃ a0 a1 a2 a3 a4 a5, args = [eI a0, (eL 3 eA23 default) a1, eI a2, eI a3, eI a4, eI a5] ∧ W (law27_FlowLeast_F a0 a1 a2 a3 a4 a5) fun y => r = (eB y)
end Go.Proofs.Ytgkmodjcoedonaa
namespace Go.Proofs.Ytgkmodjcoedonaa
open Go Go.Eng
set_option maxRecDepth 100000
def tmE (e : TEdge) (p : Nat → Bool) : Int := if (p e.From.toNat && !p e.To.toNat) = true then e.Capacity else 0
theorem nat_bit (a i : Nat) : ((a >>> i) % 2 == 1) = a.testBit i := by
  rw [Nat.testBit_eq_decide_div_mod_eq, Nat.shiftRight_eq_div_pow]
  rfl
theorem tmod_bit {a i : Nat} (hi : i ≤ 60) : (Int.tmod (bshr .i64 (a : Int) (i : Int)) 2 == 1) = a.testBit i := by
  rw [bshr_nat (by omega) hi, Int.toNat_natCast, Int.tmod_eq_emod_of_nonneg (Int.natCast_nonneg _), show (2 : Int) = ((2 : Nat) : Int) from rfl, ← Int.natCast_emod, ← nat_bit]
  rw [Bool.eq_iff_iff]; simp only [beq_iff_eq]; omega
theorem tmod_bit0 {a i : Nat} (hi : i ≤ 60) : (Int.tmod (bshr .i64 (a : Int) (i : Int)) 2 == 0) = !a.testBit i := by
  rw [bshr_nat (by omega) hi, Int.toNat_natCast, Int.tmod_eq_emod_of_nonneg (Int.natCast_nonneg _), show (2 : Int) = ((2 : Nat) : Int) from rfl, ← Int.natCast_emod, ← nat_bit]
  rw [Bool.eq_iff_iff]; simp only [beq_iff_eq, Bool.not_eq_true', beq_eq_false_iff_ne]; omega
theorem shl_N {n : TNet} (hn : MN n) : bshl .i64 1 n.N = 2 ^ n.N.toNat := by
  have hN := hn.nn
  conv => lhs; rw [show n.N = ((n.N.toNat : Nat) : Int) by omega]
  exact bshl_one (by omega)
end Go.Proofs.Ytgkmodjcoedonaa
namespace Go.Proofs.Ytgkmodjcoedonaa
open Go Go.Eng
set_option maxRecDepth 100000
theorem bentL_ok (l : List Int) (hl : l.length ≤ 1000) {a b c : Int} (oa : okI a) (ob : okI b) (oc : okI c) : ∃ l', ref27_BentList_F l a b c = some l' := by
  unfold ref27_BentList_F
  simp only [jn_d, lt_d, st_dd]
  rw [gd_p _ (by omega)]
  by_cases h : l.length = 0
  · rw [cn_beq, if_pos (by omega)]; exact ⟨_, rfl⟩
  · rw [cn_beq, if_neg (by omega)]
    obtain ⟨p1, p2⟩ := pickZ_lt c (n := (l.length : Int)) (by omega)
    obtain ⟨q1, q2⟩ := pickZ_lt a (n := 4) (by omega)
    rw [pick_r27 _ _ oc (by omega), bd_s, pick_r27 _ _ oa (by omega), bd_s]
    simp only [cn_beq]
    rw [gd_p _ ⟨p1, p2⟩, gd_p _ ⟨p1, p2⟩, gd_p _ ⟨p1, p2⟩, gd_p _ ⟨p1, p2⟩, gd_p _ ⟨p1, p2⟩, ap_p (by simp; omega)]
    split
    · exact ⟨_, rfl⟩
    · split
      · exact ⟨_, rfl⟩
      · split <;> exact ⟨_, rfl⟩
theorem plain5 (a0 : Int) (a1 : List (Int × Int × Int)) (a2 a3 a4 a5 : Int) (a6 : Int × Int × Int) (o0 : okI a0) (o1 : okL okA23 a1) (o2 : okI a2) (o3 : okI a3) (o4 : okI a4) (o5 : okI a5) (o6 : okA23 a6) : law27_FlowCuts_F a0 a1 a2 a3 a4 a5 a6 = some true := by
  obtain ⟨n, en, hn⟩ := made_ok a0 a1 o0 o1
  obtain ⟨s, t, ee, he⟩ := ends_ok hn o2 o3
  obtain ⟨v, C, eg, hv⟩ := greatest_ok he
  have hN := hn.nn; have hel := hn.el; have hs := he.hs; have ht := he.ht
  have hp0 := two_pow_pos n.N.toNat
  have hp1 : (2 : Int) ^ n.N.toNat ≤ 2 ^ 12 := two_pow_le (by omega)
  have hq0 := two_pow_pos n.Edges.length
  have hq1 : (2 : Int) ^ n.Edges.length ≤ 2 ^ 16 := two_pow_le (by omega)
  have hC : (C : Int) < 2 ^ n.N.toNat := by have := hv.lt; exact_mod_cast this
  obtain ⟨p1, p2⟩ := pickZ_lt a4 (n := 2 ^ n.Edges.length) hq0
  obtain ⟨r1, r2⟩ := pickZ_lt a5 (n := 2 ^ n.N.toNat) hp0
  unfold law27_FlowCuts_F
  rw [sane_ok, bd_s, Bool.not_true, cn_f, en, bd_s, ee, bd_s]
  simp only
  rw [eg, bd_s]
  simp only [Bool.not_true, cn_f, jn_d]
  rw [gd_p _ (by omega), bshl_one (by omega), pick_law _ _ o4 hq0, bd_s]
  obtain ⟨F, hF⟩ : ∃ F : Nat, pickZ a4 (2 ^ n.Edges.length) = (F : Int) := ⟨_, (Int.toNat_of_nonneg p1).symm⟩
  rw [hF] at p1 p2 ⊢
  rw [Without_ok hn.v p2, bd_s]
  simp only
  obtain ⟨l, v', C', em, hM, hfl, hg⟩ := max_ok (n := wo n F) (s := s) (t := t) ⟨hn.v.wo F, hs, ht, he.ne⟩
  rw [em, bd_s]
  have hfl' := flow_wo hn.v hfl
  have hle := fun (S : Nat → Bool) h1 h2 => flow_le_cut he hfl' (S := S) h1 h2
  have hlen : l.length ≤ 40 := by rw [hfl'.ok.1]; exact hn.v.el
  obtain ⟨l', eb⟩ := bentL_ok l (by omega) o6.1 o6.2.1 o6.2.2
  simp only [bne_self_eq_false, cn_f]
  rw [(checkFlow_ok he l).1 hfl', bd_s, eb, bd_s]
  have hb : ∃ w ok, flow_CheckFlow_F n (s : Int) (t : Int) l' = some (w, ok) ∧ (ok = true → w ≤ v) := by
    by_cases h : IsFlow n s t l'
    · refine ⟨_, _, (checkFlow_ok he l').1 h, fun _ => ?_⟩
      rw [hv.eq]; exact flow_le_cut he h hv.cs hv.ct
    · exact ⟨_, _, (checkFlow_ok he l').2 h, fun q => (Bool.false_ne_true q).elim⟩
  obtain ⟨w, ok, ew, hw⟩ := hb
  have hgv : give n.Edges l s ≤ v := by rw [hv.eq]; exact hle _ hv.cs hv.ct
  have end_ : gd (0 ≤ (s : Int)) (cn ((Int.tmod (bshr .i64 (C : Int) (s : Int)) 2) == 1) (gd (0 ≤ (t : Int)) (some ((Int.tmod (bshr .i64 (C : Int) (t : Int)) 2) == 0))) (some false)) = some true := by
    rw [gd_p _ (by omega), tmod_bit (by omega), hv.cs, cn_t, gd_p _ (by omega), tmod_bit0 (by omega), hv.ct]; rfl
  rw [ew, bd_s, gd_p _ (by omega), shl_N hn, pick_law _ _ o5 hp0, bd_s, gd_p _ (by omega), checkCut_ok he, bd_s]
  simp only [Bool.not_true, cn_f, cn_dec]
  rw [if_neg (by omega)]
  generalize bor .i64 (pickZ a5 (2 ^ n.N.toNat)) (bshl .i64 1 (s : Int)) = S
  by_cases hc : 0 ≤ S ∧ S < 2 ^ n.N.toNat ∧ S.toNat.testBit s = true ∧ S.toNat.testBit t = false
  · rw [if_pos hc]
    have h1 := hv.le _ hc.2.2.1 hc.2.2.2
    have h2 := hle _ hc.2.2.1 hc.2.2.2
    cases ok with
    | false =>
      simp only [cn_f, cn_t, cn_dec]
      rw [if_neg (show ¬ cutE n.Edges S.toNat.testBit < v by omega), if_neg (show ¬ cutE n.Edges S.toNat.testBit < give n.Edges l s by omega)]
      exact end_
    | true =>
      have := hw rfl
      simp only [cn_f, cn_t, cn_dec]
      rw [if_neg (show ¬ w > v by omega), if_neg (show ¬ cutE n.Edges S.toNat.testBit < v by omega), if_neg (show ¬ cutE n.Edges S.toNat.testBit < give n.Edges l s by omega)]
      exact end_
  · rw [if_neg hc]
    cases ok with
    | false =>
      simp only [cn_f]
      exact end_
    | true =>
      have := hw rfl
      simp only [cn_f, cn_t, cn_dec]
      rw [if_neg (show ¬ w > v by omega)]
      exact end_
end Go.Proofs.Ytgkmodjcoedonaa
