import Derived.Test.YtgkmodjcoedonaaM7
set_option linter.unusedVariables false
set_option linter.unusedSimpArgs false
set_option linter.unusedSectionVars false
namespace Go.Proofs.Ytgkmodjcoedonaa
open Go Go.Eng
set_option maxHeartbeats 0
set_option maxRecDepth 100000

    def law27_FlowFails_b1 (y2 : TNet) (y3 : Int × Int) (y4 : Int × Int × Bool) (s5 : Int × Int) : Option (Ct (Int × Int) Bool) := cn (decide (s5.2 ≤ 3)) (bd (flow_Worst_F y2 y3.1 y3.2 s5.2) fun y6 =>
    jn (fun p7 : Bool => cn p7 (some (.rt false)) (some (.nx (y6.1.Value, (wr (s5.2 + 1)))))) fun k8 => cn (y6.2 != 0) (k8 true) (cn (decide (y6.1.Value >
    s5.1)) (k8 true) (cn (s5.2 == 0) (cn (y6.1.Value != y4.1) (k8 true) (k8 (decide (y6.1.Value < 0)))) (k8 (decide (y6.1.Value < 0)))))) (some (.bk (s5.1, s5.2)))
theorem W_blaw27_FlowFails_b1 {y2 : TNet} {y3 : Int × Int} {y4 : Int × Int × Bool} {s5 : Int × Int} {Φ : Ct (Int × Int) Bool → Prop} (h : W (law27_FlowFails_b1 y2 y3 y4 s5) Φ) : W (cn (decide (s5.2 ≤ 3)) (bd (flow_Worst_F y2 y3.1 y3.2 s5.2) fun y6 => jn (fun p7 : Bool => cn p7 (some (.rt false)) (some (.nx (y6.1.Value, (wr (s5.2 + 1)))))) fun k8 => cn (y6.2 !=
    0) (k8 true) (cn (decide (y6.1.Value > s5.1)) (k8 true) (cn (s5.2 == 0) (cn (y6.1.Value !=
    y4.1) (k8 true) (k8 (decide (y6.1.Value < 0)))) (k8 (decide (y6.1.Value < 0)))))) (some (.bk (s5.1, s5.2)))) Φ := h
def law27_FlowFails_F (a0 : Int) (a1 : List (Int × Int × Int)) (a2 : Int) (a3 : Int) (a4 : Int) : Option Bool := bd (law27_sane_F ) fun y1 =>
    cn (!y1) (some false) (bd (ref27_Made_F a0 a1) fun y2 => bd (law27_ends_F y2 a2 a3) fun y3 => bd (law27_greatest_F y2 y3.1 y3.2) fun y4 =>
    bd (lp (law27_FlowFails_b1 y2 y3 y4) FU (y4.1, 0)) fun c9 => smK c9 (fun s10 => cn ((y2.Edges.length : Int) == 0) (jn (fun p12 : Bool => some p12) fun k13 =>
    cn y4.2.2 (k13 (y4.1 == 0)) (k13 false)) (bd (law27_pick_F a4 (y2.Edges.length : Int)) fun y14 => gd (0 ≤ y14) (bd (flow_Without_F y2 (bshl .i64 1 y14)) fun y15 =>
    bd (law27_greatest_F y15.1 y3.1 y3.2) fun y16 => jn (fun p17 : Bool => some p17) fun k18 => cn y4.2.2 (cn y16.2.2 (cn (y15.2 ==
    0) (cn (decide (y16.1 ≤ y4.1)) (ix y2.Edges default y14 fun e19 => let v20 := (decide (y16.1 ≥ (wr (y4.1 - e19.Capacity))));
    k18 v20) (k18 false)) (k18 false)) (k18 false)) (k18 false)))) (fun r11 => some r11))
def law27_FlowFails_S : List AV → AV → Prop := fun args r => ∃ a0 a1 a2 a3 a4, args = [eI a0, (eL 3 eA23 default) a1, eI a2, eI a3, eI a4] ∧ W (law27_FlowFails_F a0 a1 a2 a3 a4) fun y => r = (eB y)
theorem law27_FlowFails_ok {T : Tbl} (hT : TOk Try.prog T) (hpf : PfOk T PF) (h14 : T 14 = pureR law27_sane_S) (h15 : T 15 = pureR ref27_Made_S) (h16 : T 16 = pureR law27_ends_S) (h27 : T 27 = pureR law27_pick_S) (h30 : T 30 = pureR flow_Without_S) (h33 : T 33 = pureR flow_Worst_S) (h43 : T 43 = pureR law27_greatest_S) : FOk Try.prog 8 (pureR law27_FlowFails_S) := by
  refine FOk_pure hT hpf Try.func8 rfl Try.ntmps8 Try.results8 (by decide) ?_
  rintro args r ⟨a0, a1, a2, a3, a4, rfl, h⟩
  refine ⟨nle rfl, ?_, ?_⟩
  · exact (loose_cons (loose_int _ _) (loose_cons (loose_lst fun _ => (lo_A23 _)) (loose_cons (loose_int _ _) (loose_cons (loose_int _ _) (loose_cons (loose_int _ _) loose_nil)))))
  rw [law27_FlowFails_F.eq_1] at h
  refine HT_fr DC_ok rfl fun K hK => ?_; (conv => whnf)
  refine hK _ _ _ ?_; clear hK K
  refine HT_seq ?_
  refine HT_fr DC_ok rfl fun K hK => ?_; (conv => whnf)
  replace h := W_bd h
  refine law27_sane_call h14 h (WkL.refl _) (fun _ h => ?_); (conv => whnf)
  refine hK _ _ _ ?_; clear hK K
  refine HT_if fun K1 K2 hK1 hK2 => ?_; (conv => whnf)
  refine cond_lk h (fun _ h => ?_) (fun _ h => ?_)
  · refine hK1 ?_; clear hK1 hK2 K1 K2
    refine HT_fr DC_ok rfl fun K hK => ?_; (conv => whnf)
    refine hK _ _ _ ?_; clear hK K
    refine HT_ret ?_
    refine Then_r ?_
    replace h := W_some h
    refine PostP_r DC_ok fun K hK => ?_; (conv => whnf)
    refine hK _ ?_; clear hK K
    cases h
    exact Wk.refl _
  refine hK2 ?_; clear hK1 hK2 K1 K2
  refine HT_skip ?_
  refine Then_n ?_
  refine HT_fr DC_ok rfl fun K hK => ?_; (conv => whnf)
  replace h := W_bd h
  refine ref27_Made_call h15 h (WkL.refl _) (fun _ h => ?_); (conv => whnf)
  refine blkK_of rfl ?_; (conv => whnf)
  refine And.intro rfl (And.intro (nle rfl) (And.intro rfl ?_)); (conv => whnf)
  refine hK _ _ _ ?_; clear hK K
  refine HT_fr DC_ok rfl fun K hK => ?_; (conv => whnf)
  refine nlA rfl ?_; (conv => whnf)
  refine blkK_of rfl ?_; (conv => whnf)
  refine nlA rfl ?_; (conv => whnf)
  replace h := W_bd h
  refine law27_ends_call h16 h (WkL.refl _) (fun _ h => ?_); (conv => whnf)
  refine hK _ _ _ ?_; clear hK K
  refine HT_fr DC_ok rfl fun K hK => ?_; (conv => whnf)
  refine nlA rfl ?_; (conv => whnf)
  refine blkK_of rfl ?_; (conv => whnf)
  refine nlA rfl ?_; (conv => whnf)
  replace h := W_bd h
  refine law27_greatest_call h43 h (WkL.refl _) (fun _ h => ?_); (conv => whnf)
  refine hK _ _ _ ?_; clear hK K
  refine HT_fr DC_ok rfl fun K hK => ?_; (conv => whnf)
  refine hK _ _ _ ?_; clear hK K
  refine HT_seq ?_
  refine HT_fr DC_ok rfl fun K hK => ?_; (conv => whnf)
  refine hK _ _ _ ?_; clear hK K
  refine HT_block ?_
  replace h := W_bd h
  refine HT_lpK (body := law27_FlowFails_b1 _ _ _) rfl h [4, 11, 12, 13, 14, 16] [11] [] (fun kl kh ids b s => ⟨ofL ([(17, eI s.1), (18, eI s.2)] ++ kl), ofH ([] ++ kh), b + 64⟩) ?_; (conv => whnf); refine And.intro ?_ (fun s m h => HT_st ?_)
  · refine weak_k ?_; (conv => whnf)
    exact And.intro rfl (And.intro (allL_c wkI (allL_c wkI (allL_c wkI (allL_c (WkR.ptr (fun _ => rfl)) (allL_c wkI (allL_c wkI (allL_c wkI (allL_c (wkr (loose_bool _)) allL_n)))))))) (allL_c ⟨some _, rfl, BkR_c rfl (CkR_cons wkI (CkR_cons (wkr (loose_lst fun _ => (lo_TEdge _))) CkR_nil))⟩ allL_n))
  replace h := W_blaw27_FlowFails_b1 (W_bd h)
  refine HT_seq ?_
  refine HT_fr DC_ok rfl fun K hK => ?_; (conv => whnf)
  refine hK _ _ _ ?_; clear hK K
  refine HT_if fun K1 K2 hK1 hK2 => ?_; (conv => whnf)
  refine cond_lk h (fun _ h => ?_) (fun _ h => ?_)
  · refine hK1 ?_; clear hK1 hK2 K1 K2
    refine HT_skip ?_
    refine Then_n ?_
    refine HT_seq ?_
    refine HT_block ?_
    refine HT_fr DC_ok rfl fun K hK => ?_; (conv => whnf)
    refine nlA rfl ?_; (conv => whnf)
    refine blkK_of rfl ?_; (conv => whnf)
    refine nlA rfl ?_; (conv => whnf)
    replace h := W_bd h
    refine flow_Worst_call h33 h (WkL.refl _) (fun _ h => ?_); (conv => whnf)
    refine blkK_of rfl ?_; (conv => whnf)
    refine And.intro rfl (And.intro (nle rfl) (And.intro rfl ?_)); (conv => whnf)
    refine hK _ _ _ ?_; clear hK K
    refine HT_seq ?_
    refine HT_jnK rfl h [4, 11, 12, 13, 14, 16, 18, 19] [11, 19] [] (fun kl kh ids b s => ⟨ofL ([(82, eB s)] ++ kl), ofH ([] ++ kh), b + 64⟩) ?_; (conv => whnf); refine And.intro (fun s h => HT_st ?_) (fun k h => ?_)
    · refine HT_if fun K1 K2 hK1 hK2 => ?_; (conv => whnf)
      refine cond_lk h (fun _ h => ?_) (fun _ h => ?_)
      · refine hK1 ?_; clear hK1 hK2 K1 K2
        refine HT_fr DC_ok rfl fun K hK => ?_; (conv => whnf)
        refine hK _ _ _ ?_; clear hK K
        refine HT_ret ?_
        refine Then_r ?_
        refine InBlock_r ?_
        refine Then_r ?_
        refine Then_r ?_
        refine InBlock_r ?_
        refine Then_r ?_
        replace h := W_xrt h
        replace h := W_inr h
        replace h := W_some h
        refine PostP_r DC_ok fun K hK => ?_; (conv => whnf)
        refine hK _ ?_; clear hK K
        cases h
        exact Wk.refl _
      refine hK2 ?_; clear hK1 hK2 K1 K2
      refine HT_skip ?_
      refine Then_n ?_
      refine HT_f DC_ok rfl fun K hK => ?_; (conv => whnf)
      refine nlA rfl ?_; (conv => whnf)
      refine blkK_of rfl ?_; (conv => whnf)
      refine getK_of rfl ?_; (conv => whnf)
      refine hK _ _ _ ?_; clear hK K
      refine InBlock_n ?_
      refine Then_n ?_
      refine HT_f DC_ok rfl fun K hK => ?_; (conv => whnf)
      refine hK _ _ _ ?_; clear hK K
      refine Then_n ?_
      replace h := W_xnx h
      refine ⟨_, h, ?_⟩
      refine weak_k ?_; (conv => whnf)
      exact And.intro rfl (And.intro (allL_c wkI (allL_c wkI (allL_c wkI (allL_c (WkR.ptr (fun _ => rfl)) (allL_c wkI (allL_c wkI (allL_c wkI (allL_c (wkr (loose_bool _)) allL_n)))))))) (allL_c ⟨some _, rfl, BkR_c rfl (CkR_cons wkI (CkR_cons (wkr (loose_lst fun _ => (lo_TEdge _))) CkR_nil))⟩ allL_n))
    refine HT_f DC_ok rfl fun K hK => ?_; (conv => whnf)
    refine cond_lk h (fun _ h => ?_) (fun _ h => ?_) <;> (conv => whnf)
    · refine hK _ _ _ ?_; clear hK K
      refine Then_n ?_
      refine ⟨_, h, ?_⟩
      refine weak_k ?_; (conv => whnf)
      exact And.intro rfl (And.intro (allL_c (wkr (loose_bool _)) (allL_c wkI (allL_c (WkR.ptr (fun _ => rfl)) (allL_c wkI (allL_c wkI (allL_c wkI (allL_c (wkr (loose_bool _)) (allL_c wkI (allL_c (WkR.ptr (fun _ => rfl)) allL_n))))))))) (allL_c ⟨some _, rfl, BkR_c rfl (CkR_cons wkI (CkR_cons (wkr (loose_lst fun _ => (lo_TEdge _))) CkR_nil))⟩ (allL_c ⟨some _, rfl, BkR_c rfl (CkR_cons wkI (CkR_cons wkI (CkR_cons wkI CkR_nil)))⟩ allL_n)))
    refine nlA rfl ?_; (conv => whnf)
    refine blkK_of rfl ?_; (conv => whnf)
    refine getK_of rfl ?_; (conv => whnf)
    refine cond_lk h (fun _ h => ?_) (fun _ h => ?_) <;> (conv => whnf)
    · refine hK _ _ _ ?_; clear hK K
      refine Then_n ?_
      refine ⟨_, h, ?_⟩
      refine weak_k ?_; (conv => whnf)
      exact And.intro rfl (And.intro (allL_c (wkr (loose_bool _)) (allL_c wkI (allL_c (WkR.ptr (fun _ => rfl)) (allL_c wkI (allL_c wkI (allL_c wkI (allL_c (wkr (loose_bool _)) (allL_c wkI (allL_c (WkR.ptr (fun _ => rfl)) allL_n))))))))) (allL_c ⟨some _, rfl, BkR_c rfl (CkR_cons wkI (CkR_cons (wkr (loose_lst fun _ => (lo_TEdge _))) CkR_nil))⟩ (allL_c ⟨some _, rfl, BkR_c rfl (CkR_cons wkI (CkR_cons wkI (CkR_cons wkI CkR_nil)))⟩ allL_n)))
    refine cond_lk h (fun _ h => ?_) (fun _ h => ?_) <;> (conv => whnf)
    · refine nlA rfl ?_; (conv => whnf)
      refine blkK_of rfl ?_; (conv => whnf)
      refine getK_of rfl ?_; (conv => whnf)
      refine cond_lk h (fun _ h => ?_) (fun _ h => ?_) <;> (conv => whnf)
      · refine hK _ _ _ ?_; clear hK K
        refine Then_n ?_
        refine ⟨_, h, ?_⟩
        refine weak_k ?_; (conv => whnf)
        exact And.intro rfl (And.intro (allL_c (wkr (loose_bool _)) (allL_c wkI (allL_c (WkR.ptr (fun _ => rfl)) (allL_c wkI (allL_c wkI (allL_c wkI (allL_c (wkr (loose_bool _)) (allL_c wkI (allL_c (WkR.ptr (fun _ => rfl)) allL_n))))))))) (allL_c ⟨some _, rfl, BkR_c rfl (CkR_cons wkI (CkR_cons (wkr (loose_lst fun _ => (lo_TEdge _))) CkR_nil))⟩ (allL_c ⟨some _, rfl, BkR_c rfl (CkR_cons wkI (CkR_cons wkI (CkR_cons wkI CkR_nil)))⟩ allL_n)))
      refine nlA rfl ?_; (conv => whnf)
      refine blkK_of rfl ?_; (conv => whnf)
      refine getK_of rfl ?_; (conv => whnf)
      refine hK _ _ _ ?_; clear hK K
      refine Then_n ?_
      refine ⟨_, h, ?_⟩
      refine weak_k ?_; (conv => whnf)
      exact And.intro rfl (And.intro (allL_c (wkr (loose_bool _)) (allL_c wkI (allL_c (WkR.ptr (fun _ => rfl)) (allL_c wkI (allL_c wkI (allL_c wkI (allL_c (wkr (loose_bool _)) (allL_c wkI (allL_c (WkR.ptr (fun _ => rfl)) allL_n))))))))) (allL_c ⟨some _, rfl, BkR_c rfl (CkR_cons wkI (CkR_cons (wkr (loose_lst fun _ => (lo_TEdge _))) CkR_nil))⟩ (allL_c ⟨some _, rfl, BkR_c rfl (CkR_cons wkI (CkR_cons wkI (CkR_cons wkI CkR_nil)))⟩ allL_n)))
    refine nlA rfl ?_; (conv => whnf)
    refine blkK_of rfl ?_; (conv => whnf)
    refine getK_of rfl ?_; (conv => whnf)
    refine hK _ _ _ ?_; clear hK K
    refine Then_n ?_
    refine ⟨_, h, ?_⟩
    refine weak_k ?_; (conv => whnf)
    exact And.intro rfl (And.intro (allL_c (wkr (loose_bool _)) (allL_c wkI (allL_c (WkR.ptr (fun _ => rfl)) (allL_c wkI (allL_c wkI (allL_c wkI (allL_c (wkr (loose_bool _)) (allL_c wkI (allL_c (WkR.ptr (fun _ => rfl)) allL_n))))))))) (allL_c ⟨some _, rfl, BkR_c rfl (CkR_cons wkI (CkR_cons (wkr (loose_lst fun _ => (lo_TEdge _))) CkR_nil))⟩ (allL_c ⟨some _, rfl, BkR_c rfl (CkR_cons wkI (CkR_cons wkI (CkR_cons wkI CkR_nil)))⟩ allL_n)))
  refine hK2 ?_; clear hK1 hK2 K1 K2
  refine HT_exit ?_
  refine Then_e ?_
  refine Then_e ?_
  refine InBlock_e ?_
  replace h := W_xbk h
  replace h := W_inl h
  refine Then_n ?_
  refine HT_seq ?_
  refine HT_fr DC_ok rfl fun K hK => ?_; (conv => whnf)
  refine nlA rfl ?_; (conv => whnf)
  refine blkK_of rfl ?_; (conv => whnf)
  refine getK_of rfl ?_; (conv => whnf)
  refine hK _ _ _ ?_; clear hK K
  refine HT_if fun K1 K2 hK1 hK2 => ?_; (conv => whnf)
  refine cond_lk h (fun _ h => ?_) (fun _ h => ?_)
  · refine hK1 ?_; clear hK1 hK2 K1 K2
    refine HT_fr DC_ok rfl fun K hK => ?_; (conv => whnf)
    replace h := W_jn h
    refine cond_lk h (fun _ h => ?_) (fun _ h => ?_) <;> (conv => whnf)
    · refine hK _ _ _ ?_; clear hK K
      refine HT_ret ?_
      refine Then_r ?_
      replace h := W_some h
      refine PostP_r DC_ok fun K hK => ?_; (conv => whnf)
      refine hK _ ?_; clear hK K
      cases h
      exact Wk.refl _
    refine hK _ _ _ ?_; clear hK K
    refine HT_ret ?_
    refine Then_r ?_
    replace h := W_some h
    refine PostP_r DC_ok fun K hK => ?_; (conv => whnf)
    refine hK _ ?_; clear hK K
    cases h
    exact Wk.refl _
  refine hK2 ?_; clear hK1 hK2 K1 K2
  refine HT_skip ?_
  refine Then_n ?_
  refine HT_fr DC_ok rfl fun K hK => ?_; (conv => whnf)
  refine nlA rfl ?_; (conv => whnf)
  refine blkK_of rfl ?_; (conv => whnf)
  refine getK_of rfl ?_; (conv => whnf)
  replace h := W_bd h
  refine law27_pick_call h27 h (WkL.refl _) (fun _ h => ?_); (conv => whnf)
  refine hK _ _ _ ?_; clear hK K
  refine HT_fd DC_ok mix_ok rfl (by kernel_rfl) fun K hK => ?_; (conv => whnf)
  refine nlA rfl ?_; (conv => whnf)
  refine blkK_of rfl ?_; (conv => whnf)
  refine nlA rfl ?_; (conv => whnf)
  refine gd_lk h fun _ h => ?_; (conv => whnf)
  replace h := W_bd h
  refine flow_Without_call h30 h (WkL.refl _) (fun _ h => ?_); (conv => whnf)
  refine blkK_of rfl ?_; (conv => whnf)
  refine And.intro rfl (And.intro (nle rfl) (And.intro rfl ?_)); (conv => whnf)
  refine hK _ _ _ ?_; clear hK K
  refine HT_fr DC_ok rfl fun K hK => ?_; (conv => whnf)
  refine nlA rfl ?_; (conv => whnf)
  refine blkK_of rfl ?_; (conv => whnf)
  refine nlA rfl ?_; (conv => whnf)
  replace h := W_bd h
  refine law27_greatest_call h43 h (WkL.refl _) (fun _ h => ?_); (conv => whnf)
  refine hK _ _ _ ?_; clear hK K
  refine HT_fr DC_ok rfl fun K hK => ?_; (conv => whnf)
  replace h := W_jn h
  refine cond_lk h (fun _ h => ?_) (fun _ h => ?_) <;> (conv => whnf)
  · refine cond_lk h (fun _ h => ?_) (fun _ h => ?_) <;> (conv => whnf)
    · refine cond_lk h (fun _ h => ?_) (fun _ h => ?_) <;> (conv => whnf)
      · refine cond_lk h (fun _ h => ?_) (fun _ h => ?_) <;> (conv => whnf)
        · refine nlA rfl ?_; (conv => whnf)
          refine blkK_of rfl ?_; (conv => whnf)
          refine getK_of rfl ?_; (conv => whnf)
          refine ix_lk h fun _ h => ?_; (conv => whnf)
          refine getK_of rfl ?_; (conv => whnf)
          refine hK _ _ _ ?_; clear hK K
          refine HT_ret ?_
          replace h := W_some h
          refine PostP_r DC_ok fun K hK => ?_; (conv => whnf)
          refine hK _ ?_; clear hK K
          cases h
          exact Wk.refl _
        refine hK _ _ _ ?_; clear hK K
        refine HT_ret ?_
        replace h := W_some h
        refine PostP_r DC_ok fun K hK => ?_; (conv => whnf)
        refine hK _ ?_; clear hK K
        cases h
        exact Wk.refl _
      refine hK _ _ _ ?_; clear hK K
      refine HT_ret ?_
      replace h := W_some h
      refine PostP_r DC_ok fun K hK => ?_; (conv => whnf)
      refine hK _ ?_; clear hK K
      cases h
      exact Wk.refl _
    refine hK _ _ _ ?_; clear hK K
    refine HT_ret ?_
    replace h := W_some h
    refine PostP_r DC_ok fun K hK => ?_; (conv => whnf)
    refine hK _ ?_; clear hK K
    cases h
    exact Wk.refl _
  refine hK _ _ _ ?_; clear hK K
  refine HT_ret ?_
  replace h := W_some h
  refine PostP_r DC_ok fun K hK => ?_; (conv => whnf)
  refine hK _ ?_; clear hK K
  cases h
  exact Wk.refl _
end Go.Proofs.Ytgkmodjcoedonaa
namespace Go.Proofs.Ytgkmodjcoedonaa
open Go Go.Eng
set_option maxHeartbeats 0
set_option maxRecDepth 100000
def law27_FlowLeast_F (a0 : Int) (a1 : List (Int × Int × Int)) (a2 : Int) (a3 : Int) (a4 : Int) (a5 : Int) : Option Bool := bd (law27_sane_F ) fun y1 =>
    cn (!y1) (some false) (bd (ref27_Made_F a0 a1) fun y2 => bd (law27_ends_F y2 a2 a3) fun y3 => bd (law27_greatest_F y2 y3.1 y3.2) fun y4 =>
    gd (0 ≤ y2.N) (bd (law27_pick_F a4 (bshl .i64 1 y2.N)) fun y5 => bd (flow_CheckCut_F y2 y3.1 y3.2 y5) fun y6 => jn (fun p7 : Bool =>
    cn p7 (some false) (cn ((y2.Edges.length : Int) == 0) (some (y4.1 == 0)) (bd (law27_pick_F a5 (y2.Edges.length : Int)) fun y9 => lt ([] : List TEdge) fun l10 =>
    gd (y2.Edges.length ≤ 1048576) (lt y2.Edges fun l11 =>
    gd ((0 : Int) ≤ y9 ∧ y9 < (l11.length : Int)) (gd ((0 : Int) ≤ y9 ∧ y9 < (l11.length : Int)) (st l11 (y9) (⟨(l11.getD (y9).toNat default).From, (l11.getD (y9).toNat default).To, (wr (((l11.getD (y9).toNat default).Capacity) + 1))⟩ : TEdge) fun l12 =>
    bd (law27_greatest_F (⟨y2.N, l12⟩ : TNet) y3.1 y3.2) fun y13 => jn (fun p14 : Bool => jn (fun p19 : Bool => some p19) fun k20 =>
    cn y13.2.2 (cn (decide (y13.1 ≥ y4.1)) (cn (decide (y13.1 ≤ (wr (y4.1 + 1)))) (cn p14 (k20 true) (k20 (y13.1 == y4.1))) (k20 false)) (k20 false)) (k20 false)) fun k15 =>
    ix y2.Edges default y9 fun e16 => gd (0 ≤ e16.From) (cn ((Int.tmod (bshr .i64 y4.2.1 e16.From) 2) == 1) (ix y2.Edges default y9 fun e17 =>
    gd (0 ≤ e17.To) (let v18 := ((Int.tmod (bshr .i64 y4.2.1 e17.To) 2) == 0); k15 v18)) (k15 false)))))))) fun k8 => cn (!y4.2.2) (k8 true) (cn y6.2 (cn (y6.1 ==
    y4.1) (k8 ((band .i64 y5 y4.2.1) != y4.2.1)) (k8 false)) (k8 false))))
def law27_FlowLeast_S : List AV → AV → Prop := fun args r => ∃ a0 a1 a2 a3 a4 a5, args = [eI a0, (eL 3 eA23 default) a1, eI a2, eI a3, eI a4, eI a5] ∧ W (law27_FlowLeast_F a0 a1 a2 a3 a4 a5) fun y => r = (eB y)
end Go.Proofs.Ytgkmodjcoedonaa
namespace Go.Proofs.Ytgkmodjcoedonaa
open Go Go.Eng
set_option maxRecDepth 100000
def tmE (e : TEdge) (p : Nat → Bool) : Int := if (p e.From.toNat && !p e.To.toNat) = true then e.Capacity else 0
theorem cutE_set : ∀ {E : List TEdge} {k : Nat} (e : TEdge) (p : Nat → Bool), k < E.length → cutE (E.set k e) p = cutE E p + (tmE e p - tmE (E.getD k default) p)
  | [], k, _, _, h => by simp at h
  | a :: E, 0, e, p, _ => by simp only [List.set_cons_zero, cutE, List.getD_cons_zero, tmE]; omega
  | a :: E, k + 1, e, p, h => by
    simp only [List.set_cons_succ, cutE, List.getD_cons_succ, cutE_set (E := E) e p (by simpa using h)]; omega
end Go.Proofs.Ytgkmodjcoedonaa
namespace Go.Proofs.Ytgkmodjcoedonaa
open Go Go.Eng
set_option maxRecDepth 100000
theorem wV_anti {n : TNet} (h : NV n) (f nd : Nat) : wV n (f + 1) nd ≤ wV n f nd := by
  unfold wV
  refine rest_anti f fun x hx => ?_
  obtain ⟨i, hi, rfl⟩ := List.mem_map.1 hx
  exact (nv_get h (List.mem_range.1 (List.mem_filter.1 hi).1)).cp.1
theorem wo_one {n : TNet} {k : Nat} (hk : k < n.Edges.length) : (wo n (2 ^ k)).Edges = n.Edges.set k ⟨(n.Edges.getD k default).From, (n.Edges.getD k default).To, 0⟩ := by
  refine List.ext_getElem (by rw [wo_len, List.length_set]) fun i h1 h2 => ?_
  rw [wo_len] at h1
  rw [← getD_ltD, wo_get h1, List.getElem_set, Nat.testBit_two_pow]
  by_cases q : k = i
  · subst q; simp
  · rw [if_neg q, decide_eq_false q, ← getD_ltD]; rfl
theorem plain8 (a0 : Int) (a1 : List (Int × Int × Int)) (a2 a3 a4 : Int) (o0 : okI a0) (o1 : okL okA23 a1) (o2 : okI a2) (o3 : okI a3) (o4 : okI a4) : law27_FlowFails_F a0 a1 a2 a3 a4 = some true := by
  obtain ⟨n, en, hn⟩ := made_ok a0 a1 o0 o1
  obtain ⟨s, t, ee, he⟩ := ends_ok hn o2 o3
  obtain ⟨v, C, eg, hv⟩ := greatest_ok he
  have hN := hn.nn; have hel := hn.el; have hs := he.hs; have ht := he.ht
  have hgC : Good n s t C := ⟨hv.lt, hv.cs, hv.ct⟩
  have hv0 := hv.nn
  have hvb : v ≤ 400000 := by rw [hv.eq, cutE_self]; exact (wV_bd hn.v 0 C).2
  obtain ⟨s', e, -, -⟩ := lp_fold (body := law27_FlowFails_b1 n ((s : Int), (t : Int)) (v, (C : Int), true)) (fun k x => x.2 = (k : Int) ∧ ∃ nd, Good n s t nd ∧ x.1 = wV n (k - 1) nd ∧ (∀ nd', Good n s t nd' → wV n (k - 1) nd ≤ wV n (k - 1) nd') ) 4 (by omega) (fun k x hk hx => by
    obtain ⟨p, i⟩ := x
    obtain ⟨rfl, nd0, g0, rfl, m0⟩ := hx
    obtain ⟨nd, g, ew, m⟩ := Worst_ok he (f := k) (by omega)
    have hb := wV_bd hn.v k nd
    have hval : (wF n k nd).Value = wV n k nd := rfl
    have hle : wV n k nd ≤ wV n (k - 1) nd0 := by
      refine Int.le_trans (m nd0 g0) ?_
      cases k with
      | zero => exact Int.le_refl _
      | succ k => exact wV_anti hn.v k nd0
    unfold law27_FlowFails_b1
    simp only [cn_dec, jn_d]
    rw [if_pos (by omega), ew, bd_s]
    simp only [bne_self_eq_false, cn_f, hval]
    rw [if_neg (by omega), cn_beq, wr_id (x := (k : Int) + 1) (by omega) (by omega), if_neg (show ¬ wV n k nd < 0 by omega)]
    refine ⟨(wV n k nd, (k : Int) + 1), ?_, by simp only; omega, nd, g, rfl, m⟩
    by_cases q : k = 0
    · subst q
      rw [if_pos (by omega), cn_bne, if_pos]
      have h1 : v ≤ wV n 0 nd := by rw [← cutE_self]; exact hv.le _ g.2.1 g.2.2
      have h2 := m C hgC
      rw [← cutE_self n C, ← hv.eq] at h2
      omega
    · rw [if_neg (by omega)]) (fun x hx => by
    obtain ⟨h1, _⟩ := hx
    unfold law27_FlowFails_b1
    simp only [cn_dec]
    rw [if_neg (by omega)]) (v, 0) ⟨rfl, C, hgC, by rw [hv.eq, cutE_self], fun nd' g => by rw [← cutE_self, ← cutE_self, ← hv.eq]; exact hv.le _ g.2.1 g.2.2⟩
  unfold law27_FlowFails_F
  rw [sane_ok, bd_s, Bool.not_true, cn_f, en, bd_s, ee, bd_s]
  simp only
  rw [eg, bd_s, e, bd_s, smK_l, cn_beq]
  simp only [jn_d, cn_t]
  by_cases hl : n.Edges.length = 0
  · rw [if_pos (by omega)]
    have hE : n.Edges = [] := List.length_eq_zero_iff.1 hl
    have : v = 0 := by rw [hv.eq, hE]; rfl
    rw [this]; rfl
  · rw [if_neg (by omega)]
    obtain ⟨p1, p2⟩ := pickZ_lt a4 (n := (n.Edges.length : Int)) (by omega)
    rw [pick_law _ _ o4 (by omega), bd_s]
    obtain ⟨k, hk⟩ : ∃ k : Nat, pickZ a4 (n.Edges.length : Int) = (k : Int) := ⟨_, (Int.toNat_of_nonneg p1).symm⟩
    rw [hk] at p1 p2 ⊢
    have hkl : k < n.Edges.length := by omega
    have hev := hn.v.ev _ (getD_memD hkl)
    have hcp := hev.cp
    have h2k : (2 : Int) ^ k = ((2 ^ k : Nat) : Int) := by norm_cast
    have hlt : ((2 ^ k : Nat) : Int) < 2 ^ n.Edges.length := by
      have := Nat.pow_lt_pow_right (a := 2) (by omega) hkl
      exact_mod_cast this
    rw [gd_p _ p1, bshl_one (by omega), h2k, Without_ok hn.v hlt, bd_s]
    simp only
    obtain ⟨v', C', eg', hv'⟩ := greatest_ok (n := wo n (2 ^ k)) (s := s) (t := t) ⟨hn.v.wo _, hs, ht, he.ne⟩
    rw [eg', bd_s]
    have hcs : ∀ p, cutE (wo n (2 ^ k)).Edges p = cutE n.Edges p - tmE (n.Edges.getD k default) p := fun p => by
      rw [wo_one hkl, cutE_set _ _ hkl]
      have : tmE ⟨(n.Edges.getD k default).From, (n.Edges.getD k default).To, 0⟩ p = 0 := by unfold tmE; split <;> rfl
      omega
    have htm : ∀ p, 0 ≤ tmE (n.Edges.getD k default) p ∧ tmE (n.Edges.getD k default) p ≤ (n.Edges.getD k default).Capacity := fun p => by unfold tmE; split <;> omega
    have h1 : v' ≤ v := by
      have h2 := hv'.le _ hv.cs hv.ct
      rw [hcs, ← hv.eq] at h2
      have := htm C.testBit; omega
    have h3 : v - (n.Edges.getD k default).Capacity ≤ v' := by
      have h2 := hv.le _ hv'.cs hv'.ct
      have h4 := hv'.eq
      rw [hcs] at h4
      have := htm C'.testBit; omega
    simp only [cn_t, beq_self_eq_true, cn_dec]
    rw [if_pos h1, ix_n hkl, wr_id (by omega) (by omega), decide_eq_true (show v' ≥ v - (n.Edges.getD k default).Capacity from h3)]
end Go.Proofs.Ytgkmodjcoedonaa
