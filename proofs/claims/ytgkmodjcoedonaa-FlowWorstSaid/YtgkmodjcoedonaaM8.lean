import Derived.Test.YtgkmodjcoedonaaM7
set_option linter.unusedVariables false
set_option linter.unusedSimpArgs false
set_option linter.unusedSectionVars false
namespace Go.Proofs.Ytgkmodjcoedonaa
open Go Go.Eng
set_option maxHeartbeats 0
set_option maxRecDepth 100000
def law27_FlowWorst_b1 (a5 : Int × Int × Int) (y2 : TNet) (y4 : Int) (s9 : Int × Int) : Option (Ct (Int × Int) Bool) := jn (fun p10 : Bool =>
    cn p10 (gd (0 ≤ s9.2 ∧ s9.2 < (3 : Int)) (bd (law27_pick_F (([a5.1, a5.2.1, a5.2.2] : List Int).getD (s9.2).toNat default) (y2.Edges.length : Int)) fun y12 =>
    gd (0 ≤ y12) (let v13 := (bor .i64 s9.1 (bshl .i64 1 y12)); some (.nx (v13, (wr (s9.2 + 1))))))) (some (.bk (s9.1, s9.2)))) fun k11 =>
    cn (decide (s9.2 < y4)) (k11 (decide ((y2.Edges.length : Int) > 0))) (k11 false)
theorem W_blaw27_FlowWorst_b1 {a5 : Int × Int × Int} {y2 : TNet} {y4 : Int} {s9 : Int × Int} {Φ : Ct (Int × Int) Bool → Prop} (h : W (law27_FlowWorst_b1 a5 y2 y4 s9) Φ) : W (jn (fun p10 : Bool => cn p10 (gd (0 ≤ s9.2 ∧ s9.2 < (3 : Int)) (bd (law27_pick_F (([a5.1, a5.2.1, a5.2.2] : List Int).getD (s9.2).toNat default) (y2.Edges.length : Int)) fun y12 =>
    gd (0 ≤ y12) (let v13 := (bor .i64 s9.1 (bshl .i64 1 y12)); some (.nx (v13, (wr (s9.2 + 1))))))) (some (.bk (s9.1, s9.2)))) fun k11 =>
    cn (decide (s9.2 < y4)) (k11 (decide ((y2.Edges.length : Int) > 0))) (k11 false)) Φ := h
def law27_FlowWorst_F (a0 : Int) (a1 : List (Int × Int × Int)) (a2 : Int) (a3 : Int) (a4 : Int) (a5 : Int × Int × Int) (a6 : Int) : Option Bool := bd (law27_sane_F ) fun y1 =>
    cn (!y1) (some false) (bd (ref27_Made_F a0 a1) fun y2 => bd (law27_ends_F y2 a2 a3) fun y3 => bd (law27_pick_F a4 4) fun y4 => bd (flow_Worst_F y2 y3.1 y3.2 y4) fun y5 =>
    jn (fun p6 : Bool => cn p6 (some false) (bd (lp (law27_FlowWorst_b1 a5 y2 y4) FU (0, 0)) fun c14 => smK c14 (fun s15 => bd (flow_Without_F y2 s15.1) fun y17 =>
    bd (law27_greatest_F y17.1 y3.1 y3.2) fun y18 => jn (fun p19 : Bool => cn p19 (some false) (bd (flow_Without_F y2 y5.1.Failed) fun y21 =>
    bd (law27_greatest_F y21.1 y3.1 y3.2) fun y22 => jn (fun p23 : Bool => cn p23 (some false) (gd (0 ≤ y2.N) (bd (law27_pick_F a6 (bshl .i64 1 y2.N)) fun y25 =>
    bd (flow_CheckCut_F y17.1 y3.1 y3.2 y25) fun y26 => jn (fun p27 : Bool => some p27) fun k28 => cn (!y26.2) (k28 true) (let v29 := (decide (y26.1 ≥ y5.1.Value));
    k28 v29)))) fun k24 => cn (y21.2 != 0) (k24 true) (cn (!y22.2.2) (k24 true) (k24 (y22.1 != y5.1.Value))))) fun k20 => cn (y17.2 !=
    0) (k20 true) (cn (!y18.2.2) (k20 true) (k20 (decide (y18.1 < y5.1.Value))))) (fun r16 => some r16))) fun k7 => cn (y5.2 !=
    0) (k7 true) (bd (flow_CheckWorst_F y2 y3.1 y3.2 y4 y5.1) fun y8 => k7 (!y8)))
def law27_FlowWorst_S : List AV → AV → Prop := fun args r => ∃ a0 a1 a2 a3 a4 a5 a6, args = [eI a0, (eL 3 eA23 default) a1, eI a2, eI a3, eI a4, eA23 a5, eI a6] ∧ W (law27_FlowWorst_F a0 a1 a2 a3 a4 a5 a6) fun y => r = (eB y)
theorem law27_FlowWorst_ok {T : Tbl} (hT : TOk Try.prog T) (hpf : PfOk T PF) (h14 : T 14 = pureR law27_sane_S) (h15 : T 15 = pureR ref27_Made_S) (h16 : T 16 = pureR law27_ends_S) (h27 : T 27 = pureR law27_pick_S) (h28 : T 28 = pureR flow_CheckCut_S) (h30 : T 30 = pureR flow_Without_S) (h33 : T 33 = pureR flow_Worst_S) (h35 : T 35 = pureR flow_CheckWorst_S) (h43 : T 43 = pureR law27_greatest_S) : FOk Try.prog 7 (pureR law27_FlowWorst_S) := by
  refine FOk_pure hT hpf Try.func7 rfl Try.ntmps7 Try.results7 (by decide) ?_
  rintro args r ⟨a0, a1, a2, a3, a4, a5, a6, rfl, h⟩
  refine ⟨nle rfl, ?_, ?_⟩
  · exact (loose_cons (loose_int _ _) (loose_cons (loose_lst fun _ => (lo_A23 _)) (loose_cons (loose_int _ _) (loose_cons (loose_int _ _) (loose_cons (loose_int _ _) (loose_cons (lo_A23 _) (loose_cons (loose_int _ _) loose_nil)))))))
  rw [law27_FlowWorst_F.eq_1] at h
  refine HT_fr DC_ok rfl fun K hK => ?_; (conv => whnf)
  refine hK _ _ _ ?_; clear hK K
  refine HT_seq ?_
  refine HT_fr DC_ok rfl fun K hK => ?_; (conv => whnf)
  replace h := W_bd h
  refine law27_sane_call h14 h (WkL.refl _) (fun _ h => ?_); (conv => whnf)
  refine hK _ _ _ ?_; clear hK K
  refine HT_if fun K1 K2 hK1 hK2 => ?_; (conv => whnf)
  refine cond_lk h (fun _ h => ?_) (fun _ h => ?_)
  · refine hK1 ?_; clear hK1 hK2 K1 K2
    refine HT_fr DC_ok rfl fun K hK => ?_; (conv => whnf)
    refine hK _ _ _ ?_; clear hK K
    refine HT_ret ?_
    refine Then_r ?_
    replace h := W_some h
    refine PostP_r DC_ok fun K hK => ?_; (conv => whnf)
    refine hK _ ?_; clear hK K
    cases h
    exact Wk.refl _
  refine hK2 ?_; clear hK1 hK2 K1 K2
  refine HT_skip ?_
  refine Then_n ?_
  refine HT_fr DC_ok rfl fun K hK => ?_; (conv => whnf)
  replace h := W_bd h
  refine ref27_Made_call h15 h (WkL.refl _) (fun _ h => ?_); (conv => whnf)
  refine blkK_of rfl ?_; (conv => whnf)
  refine And.intro rfl (And.intro (nle rfl) (And.intro rfl ?_)); (conv => whnf)
  refine hK _ _ _ ?_; clear hK K
  refine HT_fr DC_ok rfl fun K hK => ?_; (conv => whnf)
  refine nlA rfl ?_; (conv => whnf)
  refine blkK_of rfl ?_; (conv => whnf)
  refine nlA rfl ?_; (conv => whnf)
  replace h := W_bd h
  refine law27_ends_call h16 h (WkL.refl _) (fun _ h => ?_); (conv => whnf)
  refine hK _ _ _ ?_; clear hK K
  refine HT_fr DC_ok rfl fun K hK => ?_; (conv => whnf)
  replace h := W_bd h
  refine law27_pick_call h27 h (WkL.refl _) (fun _ h => ?_); (conv => whnf)
  refine hK _ _ _ ?_; clear hK K
  refine HT_fr DC_ok rfl fun K hK => ?_; (conv => whnf)
  refine nlA rfl ?_; (conv => whnf)
  refine blkK_of rfl ?_; (conv => whnf)
  refine nlA rfl ?_; (conv => whnf)
  replace h := W_bd h
  refine flow_Worst_call h33 h (WkL.refl _) (fun _ h => ?_); (conv => whnf)
  refine blkK_of rfl ?_; (conv => whnf)
  refine And.intro rfl (And.intro (nle rfl) (And.intro rfl ?_)); (conv => whnf)
  refine hK _ _ _ ?_; clear hK K
  refine HT_seq ?_
  refine HT_fr DC_ok rfl fun K hK => ?_; (conv => whnf)
  replace h := W_jn h
  refine cond_lk h (fun _ h => ?_) (fun _ h => ?_) <;> (conv => whnf)
  · refine hK _ _ _ ?_; clear hK K
    refine HT_if fun K1 K2 hK1 hK2 => ?_; (conv => whnf)
    refine hK1 ?_; clear hK1 hK2 K1 K2
    replace h := W_cnT h
    refine HT_fr DC_ok rfl fun K hK => ?_; (conv => whnf)
    refine hK _ _ _ ?_; clear hK K
    refine HT_ret ?_
    refine Then_r ?_
    replace h := W_some h
    refine PostP_r DC_ok fun K hK => ?_; (conv => whnf)
    refine hK _ ?_; clear hK K
    cases h
    exact Wk.refl _
  refine nlA rfl ?_; (conv => whnf)
  refine blkK_of rfl ?_; (conv => whnf)
  refine nlA rfl ?_; (conv => whnf)
  refine nlA rfl ?_; (conv => whnf)
  refine blkK_of rfl ?_; (conv => whnf)
  refine nlA rfl ?_; (conv => whnf)
  replace h := W_bd h
  refine flow_CheckWorst_call h35 h (WkL.refl _) (fun _ h => ?_); (conv => whnf)
  refine hK _ _ _ ?_; clear hK K
  refine HT_if fun K1 K2 hK1 hK2 => ?_; (conv => whnf)
  refine cond_lk h (fun _ h => ?_) (fun _ h => ?_)
  · refine hK1 ?_; clear hK1 hK2 K1 K2
    refine HT_fr DC_ok rfl fun K hK => ?_; (conv => whnf)
    refine hK _ _ _ ?_; clear hK K
    refine HT_ret ?_
    refine Then_r ?_
    replace h := W_some h
    refine PostP_r DC_ok fun K hK => ?_; (conv => whnf)
    refine hK _ ?_; clear hK K
    cases h
    exact Wk.refl _
  refine hK2 ?_; clear hK1 hK2 K1 K2
  refine HT_skip ?_
  refine Then_n ?_
  refine HT_fr DC_ok rfl fun K hK => ?_; (conv => whnf)
  refine hK _ _ _ ?_; clear hK K
  refine HT_seq ?_
  refine HT_fr DC_ok rfl fun K hK => ?_; (conv => whnf)
  refine hK _ _ _ ?_; clear hK K
  refine HT_block ?_
  replace h := W_bd h
  refine HT_lpK (body := law27_FlowWorst_b1 _ _ _) rfl h [6, 12, 15, 16, 17, 18, 19] [12, 15, 19] [] (fun kl kh ids b s => ⟨ofL ([(21, eI s.1), (22, eI s.2)] ++ kl), ofH ([] ++ kh), b + 64⟩) ?_; (conv => whnf); refine And.intro ?_ (fun s m h => HT_st ?_)
  · refine weak_k ?_; (conv => whnf)
    exact And.intro rfl (And.intro (allL_c wkI (allL_c wkI (allL_c wkI (allL_c (WkR.ptr (fun _ => rfl)) (allL_c (WkR.ptr (fun _ => rfl)) (allL_c wkI (allL_c wkI (allL_c wkI (allL_c (WkR.ptr (fun _ => rfl)) allL_n))))))))) (allL_c ⟨some _, rfl, BkR_c rfl (CkR_cons wkI (CkR_cons wkI (CkR_cons wkI CkR_nil)))⟩ (allL_c ⟨some _, rfl, BkR_c rfl (CkR_cons wkI (CkR_cons (wkr (loose_lst fun _ => (lo_TEdge _))) CkR_nil))⟩ (allL_c ⟨some _, rfl, BkR_c rfl (CkR_cons wkI (CkR_cons wkI (CkR_cons wkI CkR_nil)))⟩ allL_n))))
  replace h := W_blaw27_FlowWorst_b1 (W_bd h)
  refine HT_seq ?_
  refine HT_fr DC_ok rfl fun K hK => ?_; (conv => whnf)
  replace h := W_jn h
  refine cond_lk h (fun _ h => ?_) (fun _ h => ?_) <;> (conv => whnf)
  · refine nlA rfl ?_; (conv => whnf)
    refine blkK_of rfl ?_; (conv => whnf)
    refine getK_of rfl ?_; (conv => whnf)
    refine hK _ _ _ ?_; clear hK K
    refine HT_if fun K1 K2 hK1 hK2 => ?_; (conv => whnf)
    refine cond_lk h (fun _ h => ?_) (fun _ h => ?_)
    · refine hK1 ?_; clear hK1 hK2 K1 K2
      refine HT_skip ?_
      refine Then_n ?_
      refine HT_seq ?_
      refine HT_block ?_
      refine HT_fD DC_ok mix_ok rfl (by kernel_rfl) fun K hK => ?_; (conv => whnf)
      refine gd_lk h fun hx14 h => ?_; (conv => whnf)
      refine nlA rfl ?_; (conv => whnf)
      refine blkK_of rfl ?_; (conv => whnf)
      refine get_arr (enc := eI) (d := default) (l := [_, _, _]) (pre := []) (post := []) rfl rfl hx14 ?_; (conv => whnf)
      refine nlA rfl ?_; (conv => whnf)
      refine blkK_of rfl ?_; (conv => whnf)
      refine getK_of rfl ?_; (conv => whnf)
      replace h := W_bd h
      refine law27_pick_call h27 h (WkL.refl _) (fun _ h => ?_); (conv => whnf)
      refine gd_lk h fun _ h => ?_; (conv => whnf)
      refine hK _ _ _ ?_; clear hK K
      refine InBlock_n ?_
      refine Then_n ?_
      refine HT_f DC_ok rfl fun K hK => ?_; (conv => whnf)
      refine hK _ _ _ ?_; clear hK K
      refine Then_n ?_
      replace h := W_xnx h
      refine ⟨_, h, ?_⟩
      refine weak_k ?_; (conv => whnf)
      exact And.intro rfl (And.intro (allL_c wkI (allL_c wkI (allL_c wkI (allL_c (WkR.ptr (fun _ => rfl)) (allL_c (WkR.ptr (fun _ => rfl)) (allL_c wkI (allL_c wkI (allL_c wkI (allL_c (WkR.ptr (fun _ => rfl)) allL_n))))))))) (allL_c ⟨some _, rfl, BkR_c rfl (CkR_cons wkI (CkR_cons wkI (CkR_cons wkI CkR_nil)))⟩ (allL_c ⟨some _, rfl, BkR_c rfl (CkR_cons wkI (CkR_cons (wkr (loose_lst fun _ => (lo_TEdge _))) CkR_nil))⟩ (allL_c ⟨some _, rfl, BkR_c rfl (CkR_cons wkI (CkR_cons wkI (CkR_cons wkI CkR_nil)))⟩ allL_n))))
    refine hK2 ?_; clear hK1 hK2 K1 K2
    refine HT_exit ?_
    refine Then_e ?_
    refine Then_e ?_
    refine InBlock_e ?_
    replace h := W_xbk h
    replace h := W_inl h
    refine Then_n ?_
    refine HT_fr DC_ok rfl fun K hK => ?_; (conv => whnf)
    refine nlA rfl ?_; (conv => whnf)
    refine blkK_of rfl ?_; (conv => whnf)
    refine nlA rfl ?_; (conv => whnf)
    replace h := W_bd h
    refine flow_Without_call h30 h (WkL.refl _) (fun _ h => ?_); (conv => whnf)
    refine blkK_of rfl ?_; (conv => whnf)
    refine And.intro rfl (And.intro (nle rfl) (And.intro rfl ?_)); (conv => whnf)
    refine hK _ _ _ ?_; clear hK K
    refine HT_fr DC_ok rfl fun K hK => ?_; (conv => whnf)
    refine nlA rfl ?_; (conv => whnf)
    refine blkK_of rfl ?_; (conv => whnf)
    refine nlA rfl ?_; (conv => whnf)
    replace h := W_bd h
    refine law27_greatest_call h43 h (WkL.refl _) (fun _ h => ?_); (conv => whnf)
    refine hK _ _ _ ?_; clear hK K
    refine HT_seq ?_
    refine HT_fr DC_ok rfl fun K hK => ?_; (conv => whnf)
    replace h := W_jn h
    refine cond_lk h (fun _ h => ?_) (fun _ h => ?_) <;> (conv => whnf)
    · refine hK _ _ _ ?_; clear hK K
      refine HT_if fun K1 K2 hK1 hK2 => ?_; (conv => whnf)
      refine hK1 ?_; clear hK1 hK2 K1 K2
      replace h := W_cnT h
      refine HT_fr DC_ok rfl fun K hK => ?_; (conv => whnf)
      refine hK _ _ _ ?_; clear hK K
      refine HT_ret ?_
      refine Then_r ?_
      replace h := W_some h
      refine PostP_r DC_ok fun K hK => ?_; (conv => whnf)
      refine hK _ ?_; clear hK K
      cases h
      exact Wk.refl _
    refine cond_lk h (fun _ h => ?_) (fun _ h => ?_) <;> (conv => whnf)
    · refine hK _ _ _ ?_; clear hK K
      refine HT_if fun K1 K2 hK1 hK2 => ?_; (conv => whnf)
      refine hK1 ?_; clear hK1 hK2 K1 K2
      replace h := W_cnT h
      refine HT_fr DC_ok rfl fun K hK => ?_; (conv => whnf)
      refine hK _ _ _ ?_; clear hK K
      refine HT_ret ?_
      refine Then_r ?_
      replace h := W_some h
      refine PostP_r DC_ok fun K hK => ?_; (conv => whnf)
      refine hK _ ?_; clear hK K
      cases h
      exact Wk.refl _
    refine nlA rfl ?_; (conv => whnf)
    refine blkK_of rfl ?_; (conv => whnf)
    refine getK_of rfl ?_; (conv => whnf)
    refine hK _ _ _ ?_; clear hK K
    refine HT_if fun K1 K2 hK1 hK2 => ?_; (conv => whnf)
    refine cond_lk h (fun _ h => ?_) (fun _ h => ?_)
    · refine hK1 ?_; clear hK1 hK2 K1 K2
      refine HT_fr DC_ok rfl fun K hK => ?_; (conv => whnf)
      refine hK _ _ _ ?_; clear hK K
      refine HT_ret ?_
      refine Then_r ?_
      replace h := W_some h
      refine PostP_r DC_ok fun K hK => ?_; (conv => whnf)
      refine hK _ ?_; clear hK K
      cases h
      exact Wk.refl _
    refine hK2 ?_; clear hK1 hK2 K1 K2
    refine HT_skip ?_
    refine Then_n ?_
    refine HT_fr DC_ok rfl fun K hK => ?_; (conv => whnf)
    refine nlA rfl ?_; (conv => whnf)
    refine blkK_of rfl ?_; (conv => whnf)
    refine nlA rfl ?_; (conv => whnf)
    refine nlA rfl ?_; (conv => whnf)
    refine blkK_of rfl ?_; (conv => whnf)
    refine getK_of rfl ?_; (conv => whnf)
    replace h := W_bd h
    refine flow_Without_call h30 h (WkL.refl _) (fun _ h => ?_); (conv => whnf)
    refine blkK_of rfl ?_; (conv => whnf)
    refine And.intro rfl (And.intro (nle rfl) (And.intro rfl ?_)); (conv => whnf)
    refine hK _ _ _ ?_; clear hK K
    refine HT_fr DC_ok rfl fun K hK => ?_; (conv => whnf)
    refine nlA rfl ?_; (conv => whnf)
    refine blkK_of rfl ?_; (conv => whnf)
    refine nlA rfl ?_; (conv => whnf)
    replace h := W_bd h
    refine law27_greatest_call h43 h (WkL.refl _) (fun _ h => ?_); (conv => whnf)
    refine hK _ _ _ ?_; clear hK K
    refine HT_seq ?_
    refine HT_fr DC_ok rfl fun K hK => ?_; (conv => whnf)
    replace h := W_jn h
    refine cond_lk h (fun _ h => ?_) (fun _ h => ?_) <;> (conv => whnf)
    · refine hK _ _ _ ?_; clear hK K
      refine HT_if fun K1 K2 hK1 hK2 => ?_; (conv => whnf)
      refine hK1 ?_; clear hK1 hK2 K1 K2
      replace h := W_cnT h
      refine HT_fr DC_ok rfl fun K hK => ?_; (conv => whnf)
      refine hK _ _ _ ?_; clear hK K
      refine HT_ret ?_
      refine Then_r ?_
      replace h := W_some h
      refine PostP_r DC_ok fun K hK => ?_; (conv => whnf)
      refine hK _ ?_; clear hK K
      cases h
      exact Wk.refl _
    refine cond_lk h (fun _ h => ?_) (fun _ h => ?_) <;> (conv => whnf)
    · refine hK _ _ _ ?_; clear hK K
      refine HT_if fun K1 K2 hK1 hK2 => ?_; (conv => whnf)
      refine hK1 ?_; clear hK1 hK2 K1 K2
      replace h := W_cnT h
      refine HT_fr DC_ok rfl fun K hK => ?_; (conv => whnf)
      refine hK _ _ _ ?_; clear hK K
      refine HT_ret ?_
      refine Then_r ?_
      replace h := W_some h
      refine PostP_r DC_ok fun K hK => ?_; (conv => whnf)
      refine hK _ ?_; clear hK K
      cases h
      exact Wk.refl _
    refine nlA rfl ?_; (conv => whnf)
    refine blkK_of rfl ?_; (conv => whnf)
    refine getK_of rfl ?_; (conv => whnf)
    refine hK _ _ _ ?_; clear hK K
    refine HT_if fun K1 K2 hK1 hK2 => ?_; (conv => whnf)
    refine cond_lk h (fun _ h => ?_) (fun _ h => ?_)
    · refine hK1 ?_; clear hK1 hK2 K1 K2
      refine HT_fr DC_ok rfl fun K hK => ?_; (conv => whnf)
      refine hK _ _ _ ?_; clear hK K
      refine HT_ret ?_
      refine Then_r ?_
      replace h := W_some h
      refine PostP_r DC_ok fun K hK => ?_; (conv => whnf)
      refine hK _ ?_; clear hK K
      cases h
      exact Wk.refl _
    refine hK2 ?_; clear hK1 hK2 K1 K2
    refine HT_skip ?_
    refine Then_n ?_
    refine HT_fd DC_ok mix_ok rfl (by kernel_rfl) fun K hK => ?_; (conv => whnf)
    refine nlA rfl ?_; (conv => whnf)
    refine blkK_of rfl ?_; (conv => whnf)
    refine nlA rfl ?_; (conv => whnf)
    refine nlA rfl ?_; (conv => whnf)
    refine blkK_of rfl ?_; (conv => whnf)
    refine getK_of rfl ?_; (conv => whnf)
    refine gd_lk h fun _ h => ?_; (conv => whnf)
    replace h := W_bd h
    refine law27_pick_call h27 h (WkL.refl _) (fun _ h => ?_); (conv => whnf)
    replace h := W_bd h
    refine flow_CheckCut_call h28 h (WkL.refl _) (fun _ h => ?_); (conv => whnf)
    refine hK _ _ _ ?_; clear hK K
    refine HT_fr DC_ok rfl fun K hK => ?_; (conv => whnf)
    replace h := W_jn h
    refine cond_lk h (fun _ h => ?_) (fun _ h => ?_) <;> (conv => whnf)
    · refine hK _ _ _ ?_; clear hK K
      refine HT_ret ?_
      replace h := W_some h
      refine PostP_r DC_ok fun K hK => ?_; (conv => whnf)
      refine hK _ ?_; clear hK K
      cases h
      exact Wk.refl _
    refine nlA rfl ?_; (conv => whnf)
    refine blkK_of rfl ?_; (conv => whnf)
    refine getK_of rfl ?_; (conv => whnf)
    refine hK _ _ _ ?_; clear hK K
    refine HT_ret ?_
    replace h := W_some h
    refine PostP_r DC_ok fun K hK => ?_; (conv => whnf)
    refine hK _ ?_; clear hK K
    cases h
    exact Wk.refl _
  refine hK _ _ _ ?_; clear hK K
  refine HT_if fun K1 K2 hK1 hK2 => ?_; (conv => whnf)
  refine hK2 ?_; clear hK1 hK2 K1 K2
  replace h := W_cnF h
  refine HT_exit ?_
  refine Then_e ?_
  refine Then_e ?_
  refine InBlock_e ?_
  replace h := W_xbk h
  replace h := W_inl h
  refine Then_n ?_
  refine HT_fr DC_ok rfl fun K hK => ?_; (conv => whnf)
  refine nlA rfl ?_; (conv => whnf)
  refine blkK_of rfl ?_; (conv => whnf)
  refine nlA rfl ?_; (conv => whnf)
  replace h := W_bd h
  refine flow_Without_call h30 h (WkL.refl _) (fun _ h => ?_); (conv => whnf)
  refine blkK_of rfl ?_; (conv => whnf)
  refine And.intro rfl (And.intro (nle rfl) (And.intro rfl ?_)); (conv => whnf)
  refine hK _ _ _ ?_; clear hK K
  refine HT_fr DC_ok rfl fun K hK => ?_; (conv => whnf)
  refine nlA rfl ?_; (conv => whnf)
  refine blkK_of rfl ?_; (conv => whnf)
  refine nlA rfl ?_; (conv => whnf)
  replace h := W_bd h
  refine law27_greatest_call h43 h (WkL.refl _) (fun _ h => ?_); (conv => whnf)
  refine hK _ _ _ ?_; clear hK K
  refine HT_seq ?_
  refine HT_fr DC_ok rfl fun K hK => ?_; (conv => whnf)
  replace h := W_jn h
  refine cond_lk h (fun _ h => ?_) (fun _ h => ?_) <;> (conv => whnf)
  · refine hK _ _ _ ?_; clear hK K
    refine HT_if fun K1 K2 hK1 hK2 => ?_; (conv => whnf)
    refine hK1 ?_; clear hK1 hK2 K1 K2
    replace h := W_cnT h
    refine HT_fr DC_ok rfl fun K hK => ?_; (conv => whnf)
    refine hK _ _ _ ?_; clear hK K
    refine HT_ret ?_
    refine Then_r ?_
    replace h := W_some h
    refine PostP_r DC_ok fun K hK => ?_; (conv => whnf)
    refine hK _ ?_; clear hK K
    cases h
    exact Wk.refl _
  refine cond_lk h (fun _ h => ?_) (fun _ h => ?_) <;> (conv => whnf)
  · refine hK _ _ _ ?_; clear hK K
    refine HT_if fun K1 K2 hK1 hK2 => ?_; (conv => whnf)
    refine hK1 ?_; clear hK1 hK2 K1 K2
    replace h := W_cnT h
    refine HT_fr DC_ok rfl fun K hK => ?_; (conv => whnf)
    refine hK _ _ _ ?_; clear hK K
    refine HT_ret ?_
    refine Then_r ?_
    replace h := W_some h
    refine PostP_r DC_ok fun K hK => ?_; (conv => whnf)
    refine hK _ ?_; clear hK K
    cases h
    exact Wk.refl _
  refine nlA rfl ?_; (conv => whnf)
  refine blkK_of rfl ?_; (conv => whnf)
  refine getK_of rfl ?_; (conv => whnf)
  refine hK _ _ _ ?_; clear hK K
  refine HT_if fun K1 K2 hK1 hK2 => ?_; (conv => whnf)
  refine cond_lk h (fun _ h => ?_) (fun _ h => ?_)
  · refine hK1 ?_; clear hK1 hK2 K1 K2
    refine HT_fr DC_ok rfl fun K hK => ?_; (conv => whnf)
    refine hK _ _ _ ?_; clear hK K
    refine HT_ret ?_
    refine Then_r ?_
    replace h := W_some h
    refine PostP_r DC_ok fun K hK => ?_; (conv => whnf)
    refine hK _ ?_; clear hK K
    cases h
    exact Wk.refl _
  refine hK2 ?_; clear hK1 hK2 K1 K2
  refine HT_skip ?_
  refine Then_n ?_
  refine HT_fr DC_ok rfl fun K hK => ?_; (conv => whnf)
  refine nlA rfl ?_; (conv => whnf)
  refine blkK_of rfl ?_; (conv => whnf)
  refine nlA rfl ?_; (conv => whnf)
  refine nlA rfl ?_; (conv => whnf)
  refine blkK_of rfl ?_; (conv => whnf)
  refine getK_of rfl ?_; (conv => whnf)
  replace h := W_bd h
  refine flow_Without_call h30 h (WkL.refl _) (fun _ h => ?_); (conv => whnf)
  refine blkK_of rfl ?_; (conv => whnf)
  refine And.intro rfl (And.intro (nle rfl) (And.intro rfl ?_)); (conv => whnf)
  refine hK _ _ _ ?_; clear hK K
  refine HT_fr DC_ok rfl fun K hK => ?_; (conv => whnf)
  refine nlA rfl ?_; (conv => whnf)
  refine blkK_of rfl ?_; (conv => whnf)
  refine nlA rfl ?_; (conv => whnf)
  replace h := W_bd h
  refine law27_greatest_call h43 h (WkL.refl _) (fun _ h => ?_); (conv => whnf)
  refine hK _ _ _ ?_; clear hK K
  refine HT_seq ?_
  refine HT_fr DC_ok rfl fun K hK => ?_; (conv => whnf)
  replace h := W_jn h
  refine cond_lk h (fun _ h => ?_) (fun _ h => ?_) <;> (conv => whnf)
  · refine hK _ _ _ ?_; clear hK K
    refine HT_if fun K1 K2 hK1 hK2 => ?_; (conv => whnf)
    refine hK1 ?_; clear hK1 hK2 K1 K2
    replace h := W_cnT h
    refine HT_fr DC_ok rfl fun K hK => ?_; (conv => whnf)
    refine hK _ _ _ ?_; clear hK K
    refine HT_ret ?_
    refine Then_r ?_
    replace h := W_some h
    refine PostP_r DC_ok fun K hK => ?_; (conv => whnf)
    refine hK _ ?_; clear hK K
    cases h
    exact Wk.refl _
  refine cond_lk h (fun _ h => ?_) (fun _ h => ?_) <;> (conv => whnf)
  · refine hK _ _ _ ?_; clear hK K
    refine HT_if fun K1 K2 hK1 hK2 => ?_; (conv => whnf)
    refine hK1 ?_; clear hK1 hK2 K1 K2
    replace h := W_cnT h
    refine HT_fr DC_ok rfl fun K hK => ?_; (conv => whnf)
    refine hK _ _ _ ?_; clear hK K
    refine HT_ret ?_
    refine Then_r ?_
    replace h := W_some h
    refine PostP_r DC_ok fun K hK => ?_; (conv => whnf)
    refine hK _ ?_; clear hK K
    cases h
    exact Wk.refl _
  refine nlA rfl ?_; (conv => whnf)
  refine blkK_of rfl ?_; (conv => whnf)
  refine getK_of rfl ?_; (conv => whnf)
  refine hK _ _ _ ?_; clear hK K
  refine HT_if fun K1 K2 hK1 hK2 => ?_; (conv => whnf)
  refine cond_lk h (fun _ h => ?_) (fun _ h => ?_)
  · refine hK1 ?_; clear hK1 hK2 K1 K2
    refine HT_fr DC_ok rfl fun K hK => ?_; (conv => whnf)
    refine hK _ _ _ ?_; clear hK K
    refine HT_ret ?_
    refine Then_r ?_
    replace h := W_some h
    refine PostP_r DC_ok fun K hK => ?_; (conv => whnf)
    refine hK _ ?_; clear hK K
    cases h
    exact Wk.refl _
  refine hK2 ?_; clear hK1 hK2 K1 K2
  refine HT_skip ?_
  refine Then_n ?_
  refine HT_fd DC_ok mix_ok rfl (by kernel_rfl) fun K hK => ?_; (conv => whnf)
  refine nlA rfl ?_; (conv => whnf)
  refine blkK_of rfl ?_; (conv => whnf)
  refine nlA rfl ?_; (conv => whnf)
  refine nlA rfl ?_; (conv => whnf)
  refine blkK_of rfl ?_; (conv => whnf)
  refine getK_of rfl ?_; (conv => whnf)
  refine gd_lk h fun _ h => ?_; (conv => whnf)
  replace h := W_bd h
  refine law27_pick_call h27 h (WkL.refl _) (fun _ h => ?_); (conv => whnf)
  replace h := W_bd h
  refine flow_CheckCut_call h28 h (WkL.refl _) (fun _ h => ?_); (conv => whnf)
  refine hK _ _ _ ?_; clear hK K
  refine HT_fr DC_ok rfl fun K hK => ?_; (conv => whnf)
  replace h := W_jn h
  refine cond_lk h (fun _ h => ?_) (fun _ h => ?_) <;> (conv => whnf)
  · refine hK _ _ _ ?_; clear hK K
    refine HT_ret ?_
    replace h := W_some h
    refine PostP_r DC_ok fun K hK => ?_; (conv => whnf)
    refine hK _ ?_; clear hK K
    cases h
    exact Wk.refl _
  refine nlA rfl ?_; (conv => whnf)
  refine blkK_of rfl ?_; (conv => whnf)
  refine getK_of rfl ?_; (conv => whnf)
  refine hK _ _ _ ?_; clear hK K
  refine HT_ret ?_
  replace h := W_some h
  refine PostP_r DC_ok fun K hK => ?_; (conv => whnf)
  refine hK _ ?_; clear hK K
  cases h
  exact Wk.refl _
end Go.Proofs.Ytgkmodjcoedonaa
namespace Go.Proofs.Ytgkmodjcoedonaa
open Go Go.Eng
set_option maxHeartbeats 0
set_option maxRecDepth 100000
def law27_FlowLeast_F (a0 : Int) (a1 : List (Int × Int × Int)) (a2 : Int) (a3 : Int) (a4 : Int) (a5 : Int) : Option Bool := bd (law27_sane_F ) fun y1 =>
    cn (!y1) (some false) (bd (ref27_Made_F a0 a1) fun y2 => bd (law27_ends_F y2 a2 a3) fun y3 => bd (law27_greatest_F y2 y3.1 y3.2) fun y4 =>
    gd (0 ≤ y2.N) (bd (law27_pick_F a4 (bshl .i64 1 y2.N)) fun y5 => bd (flow_CheckCut_F y2 y3.1 y3.2 y5) fun y6 => jn (fun p7 : Bool =>
    cn p7 (some false) (cn ((y2.Edges.length : Int) == 0) (some (y4.1 == 0)) (bd (law27_pick_F a5 (y2.Edges.length : Int)) fun y9 => lt ([] : List TEdge) fun l10 =>
    gd (y2.Edges.length ≤ 1048576) (lt y2.Edges fun l11 =>
    gd ((0 : Int) ≤ y9 ∧ y9 < (l11.length : Int)) (gd ((0 : Int) ≤ y9 ∧ y9 < (l11.length : Int)) (st l11 (y9) (⟨(l11.getD (y9).toNat default).From, (l11.getD (y9).toNat default).To, (wr (((l11.getD (y9).toNat default).Capacity) + 1))⟩ : TEdge) fun l12 =>
    bd (law27_greatest_F (⟨y2.N, l12⟩ : TNet) y3.1 y3.2) fun y13 => jn (fun p14 : Bool => jn (fun p19 : Bool => some p19) fun k20 =>
    cn y13.2.2 (cn (decide (y13.1 ≥ y4.1)) (cn (decide (y13.1 ≤ (wr (y4.1 + 1)))) (cn p14 (k20 true) (k20 (y13.1 == y4.1))) (k20 false)) (k20 false)) (k20 false)) fun k15 =>
    ix y2.Edges default y9 fun e16 => gd (0 ≤ e16.From) (cn ((Int.tmod (bshr .i64 y4.2.1 e16.From) 2) == 1) (ix y2.Edges default y9 fun e17 =>
    gd (0 ≤ e17.To) (let v18 := ((Int.tmod (bshr .i64 y4.2.1 e17.To) 2) == 0); k15 v18)) (k15 false)))))))) fun k8 => cn (!y4.2.2) (k8 true) (cn y6.2 (cn (y6.1 ==
    y4.1) (k8 ((band .i64 y5 y4.2.1) != y4.2.1)) (k8 false)) (k8 false))))
def law27_FlowLeast_S : List AV → AV → Prop := fun args r => ∃ a0 a1 a2 a3 a4 a5, args = [eI a0, (eL 3 eA23 default) a1, eI a2, eI a3, eI a4, eI a5] ∧ W (law27_FlowLeast_F a0 a1 a2 a3 a4 a5) fun y => r = (eB y)
end Go.Proofs.Ytgkmodjcoedonaa
namespace Go.Proofs.Ytgkmodjcoedonaa
open Go Go.Eng
set_option maxRecDepth 100000
def tmE (e : TEdge) (p : Nat → Bool) : Int := if (p e.From.toNat && !p e.To.toNat) = true then e.Capacity else 0
theorem shl_N {n : TNet} (hn : MN n) : bshl .i64 1 n.N = 2 ^ n.N.toNat := by
  have hN := hn.nn
  conv => lhs; rw [show n.N = ((n.N.toNat : Nat) : Int) by omega]
  exact bshl_one (by omega)
end Go.Proofs.Ytgkmodjcoedonaa
namespace Go.Proofs.Ytgkmodjcoedonaa
open Go Go.Eng
set_option maxRecDepth 100000
theorem okA_i {a : Int × Int × Int} (h : okA23 a) {k : Nat} (hk : k < 3) : okI (([a.1, a.2.1, a.2.2] : List Int).getD k default) := by
  obtain ⟨h1, h2, h3⟩ := h
  match k, hk with
  | 0, _ => exact h1
  | 1, _ => exact h2
  | 2, _ => exact h3
theorem fails_loop {n : TNet} (hn : MN n) {a5 : Int × Int × Int} (o5 : okA23 a5) {m : Nat} (hm : m ≤ 3) : ∃ F i, lp (law27_FlowWorst_b1 a5 n (m : Int)) FU (0, 0) = some (.inl ((F : Nat), i)) ∧ lpop F ≤ m ∧ F < 2 ^ n.Edges.length := by
  have hel := hn.el
  by_cases hl : n.Edges.length = 0
  · refine ⟨0, 0, ?_, Nat.le_trans (Nat.le_of_eq (by decide : lpop 0 = 0)) (Nat.zero_le m), Nat.two_pow_pos _⟩
    obtain ⟨o, e, ho⟩ := lp_runF (body := law27_FlowWorst_b1 a5 n (m : Int)) (fun z => z = (0, 0)) (fun _ => 0) (fun o => o = .inl (0, 0)) (fun z hz => by
      subst hz
      refine .inr (.inl ⟨_, ?_, rfl⟩)
      unfold law27_FlowWorst_b1
      simp only [cn_dec, jn_d]
      rw [if_neg (show ¬ (n.Edges.length : Int) > 0 by omega)]
      split
      · rfl
      · simp only [cn_f]) (0, 0) rfl (by simp)
    rw [e, ho]; rfl
  · obtain ⟨s', e, h1, l, h2, h3, h4⟩ := lp_fold (body := law27_FlowWorst_b1 a5 n (m : Int)) (fun k x => x.2 = (k : Int) ∧ ∃ l : List Int, l.length = k ∧ (∀ e ∈ l, 0 ≤ e ∧ e < (n.Edges.length : Int)) ∧ x.1 = ((loR l : Nat) : Int)) m (by omega) (fun k x hk hx => by
      obtain ⟨F, i⟩ := x
      obtain ⟨rfl, l, h2, h3, rfl⟩ := hx
      unfold law27_FlowWorst_b1
      simp only [cn_dec, jn_d]
      rw [if_pos (show (k : Int) < (m : Int) by omega), if_pos (show (n.Edges.length : Int) > 0 by omega), gd_p _ (by omega), Int.toNat_natCast]
      have ok := okA_i o5 (k := k) (by omega)
      generalize ([a5.1, a5.2.1, a5.2.2] : List Int).getD k default = c at ok ⊢
      obtain ⟨p1, p2⟩ := pickZ_lt c (n := (n.Edges.length : Int)) (by omega)
      rw [pick_law _ _ ok (by omega), bd_s, gd_p _ p1]
      obtain ⟨j, hj⟩ : ∃ j : Nat, pickZ c (n.Edges.length : Int) = (j : Int) := ⟨_, (Int.toNat_of_nonneg p1).symm⟩
      rw [hj] at p1 p2 ⊢
      have hlt : loR l < 2 ^ 16 := Nat.lt_of_lt_of_le (loR_lt h3) (Nat.pow_le_pow_right (by omega) hel)
      have hj3 : 2 ^ j < 2 ^ 16 := Nat.pow_lt_pow_right (by omega) (by omega)
      obtain ⟨z, hz⟩ : ∃ z : Nat, z = 2 ^ j := ⟨_, rfl⟩
      have h2j : (2 : Int) ^ j = (z : Int) := by rw [hz]; norm_cast
      rw [bshl_one (by omega), h2j, wr_id (x := (k : Int) + 1) (by omega) (by omega)]
      refine ⟨_, rfl, by simp only; omega, (j : Int) :: l, by simp [h2], fun e he => ?_, ?_⟩
      · rcases List.mem_cons.1 he with rfl | he
        · exact ⟨p1, p2⟩
        · exact h3 e he
      · simp only
        rw [bor_nat (by omega) (by omega) (by omega) (by omega), Int.toNat_natCast, Int.toNat_natCast, loR, Int.toNat_natCast, hz, Nat.or_comm]) (fun x hx => by
      obtain ⟨h1, _⟩ := hx
      unfold law27_FlowWorst_b1
      simp only [cn_dec, jn_d]
      rw [if_neg (by omega), cn_f]) (0, 0) ⟨rfl, [], rfl, by simp, rfl⟩
    refine ⟨loR l, s'.2, by rw [e, ← h4], loR_pop' (by omega), loR_lt h3⟩
theorem plain7 (a0 : Int) (a1 : List (Int × Int × Int)) (a2 a3 a4 : Int) (a5 : Int × Int × Int) (a6 : Int) (o0 : okI a0) (o1 : okL okA23 a1) (o2 : okI a2) (o3 : okI a3) (o4 : okI a4) (o5 : okA23 a5) (o6 : okI a6) : law27_FlowWorst_F a0 a1 a2 a3 a4 a5 a6 = some true := by
  obtain ⟨n, en, hn⟩ := made_ok a0 a1 o0 o1
  obtain ⟨s, t, ee, he⟩ := ends_ok hn o2 o3
  have hN := hn.nn; have hel := hn.el; have hs := he.hs; have ht := he.ht
  have hp0 := two_pow_pos n.N.toNat
  have hp1 : (2 : Int) ^ n.N.toNat ≤ 2 ^ 12 := two_pow_le (by omega)
  obtain ⟨p1, p2⟩ := pickZ_lt a4 (n := 4) (by omega)
  obtain ⟨m, hm⟩ : ∃ m : Nat, pickZ a4 4 = (m : Int) := ⟨_, (Int.toNat_of_nonneg p1).symm⟩
  rw [hm] at p1 p2
  obtain ⟨nd, g, ew, mm⟩ := Worst_ok he (f := m) (by omega)
  have w : WorstV n s t m nd := ⟨g, mm⟩
  obtain ⟨F, i, el, hF, hF2⟩ := fails_loop hn o5 (m := m) (by omega)
  have hFi : (F : Int) < 2 ^ n.Edges.length := by exact_mod_cast hF2
  obtain ⟨v1, C1, eg1, hv1⟩ := greatest_ok (n := wo n F) (s := s) (t := t) ⟨hn.v.wo _, hs, ht, he.ne⟩
  have hf2 : ((loR ((loS n nd).take m) : Nat) : Int) < 2 ^ n.Edges.length := by have := fail_lt hn.v m nd; exact_mod_cast this
  obtain ⟨v2, C2, eg2, hv2⟩ := greatest_ok (n := wo n (loR ((loS n nd).take m))) (s := s) (t := t) ⟨hn.v.wo _, hs, ht, he.ne⟩
  have k1 := w.low hn.v (by omega) hF hv1
  have k2 := w.eq hn.v (by omega) hv2
  obtain ⟨r1, r2⟩ := pickZ_lt a6 (n := 2 ^ n.N.toNat) hp0
  have hval : (wF n m nd).Value = wV n m nd := rfl
  have hfl : (wF n m nd).Failed = ((loR ((loS n nd).take m) : Nat) : Int) := rfl
  unfold law27_FlowWorst_F
  rw [sane_ok, bd_s, Bool.not_true, cn_f, en, bd_s, ee, bd_s, pick_law _ _ o4 (by omega), bd_s, hm]
  simp only
  rw [ew, bd_s]
  simp only [jn_d, bne_self_eq_false, cn_f, hval, hfl]
  rw [Worst_checked he (by omega) (by omega) g, bd_s]
  simp only [Bool.not_true, cn_f]
  rw [el, bd_s, smK_l]
  simp only
  rw [Without_ok hn.v hFi, bd_s, Without_ok hn.v hf2]
  simp only
  rw [eg1, bd_s, bd_s]
  simp only
  rw [eg2, bd_s, gd_p _ (by omega), shl_N hn, pick_law _ _ o6 hp0, bd_s, checkCut_ok (n := wo n F) ⟨hn.v.wo _, hs, ht, he.ne⟩, bd_s]
  simp only [bne_self_eq_false, Bool.not_true, cn_f]
  rw [decide_eq_false (show ¬ v1 < wV n m nd by omega), cn_f, k2]
  simp only [bne_self_eq_false, cn_f]
  generalize pickZ a6 (2 ^ n.N.toNat) = S at r1 r2 ⊢
  by_cases hc : 0 ≤ S ∧ S < 2 ^ (wo n F).N.toNat ∧ S.toNat.testBit s = true ∧ S.toNat.testBit t = false
  · rw [if_pos hc]
    have hlt : S.toNat < 2 ^ n.N.toNat := by
      have h1 : S < 2 ^ n.N.toNat := r2
      rw [← Int.toNat_of_nonneg r1] at h1
      exact_mod_cast h1
    have := w.least hn.v (by omega) hF (nd' := S.toNat) ⟨hlt, hc.2.2.1, hc.2.2.2⟩
    simp only [Bool.not_true, cn_f]
    rw [decide_eq_true (show cutE (wo n F).Edges S.toNat.testBit ≥ wV n m nd from this)]
  · rw [if_neg hc]; simp only [Bool.not_false, cn_t]
end Go.Proofs.Ytgkmodjcoedonaa
