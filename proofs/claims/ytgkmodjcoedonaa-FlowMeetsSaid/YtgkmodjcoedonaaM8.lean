import Derived.Test.YtgkmodjcoedonaaM7
set_option linter.unusedVariables false
set_option linter.unusedSimpArgs false
set_option linter.unusedSectionVars false
namespace Go.Proofs.Ytgkmodjcoedonaa
open Go Go.Eng
set_option maxHeartbeats 0
set_option maxRecDepth 100000

    def law27_FlowMeets_b1 (y2 : TNet) (y3 : List Int) (s11 : Int × (List Int)) : Option (Ct (Int × (List Int)) Bool) := cn (decide ((wr (s11.1 + 1)) < y2.N)) (ix y3 default s11.1 fun e12 =>
    gd ((0 : Int) ≤ s11.1 ∧ s11.1 < (s11.2.length : Int)) (st s11.2 (s11.1) (wr (Int.tdiv e12 2)) fun l13 =>
    gd ((0 : Int) ≤ (wr (y2.N - 1)) ∧ (wr (y2.N - 1)) < (l13.length : Int)) (gd ((0 : Int) ≤ s11.1 ∧ s11.1 < (l13.length : Int)) (gd ((0 : Int) ≤ (wr (y2.N - 1)) ∧ (wr (y2.N - 1)) < (l13.length : Int)) (st l13 ((wr (y2.N - 1))) (wr ((l13.getD ((wr (y2.N - 1))).toNat default) - (l13.getD (s11.1).toNat default))) fun l14 =>
    some (.nx ((wr (s11.1 + 1)), l14))))))) (some (.bk (s11.1, s11.2)))
theorem W_blaw27_FlowMeets_b1 {y2 : TNet} {y3 : List Int} {s11 : Int × (List Int)} {Φ : Ct (Int × (List Int)) Bool → Prop} (h : W (law27_FlowMeets_b1 y2 y3 s11) Φ) : W (cn (decide ((wr (s11.1 + 1)) < y2.N)) (ix y3 default s11.1 fun e12 => gd ((0 : Int) ≤ s11.1 ∧ s11.1 < (s11.2.length : Int)) (st s11.2 (s11.1) (wr (Int.tdiv e12 2)) fun l13 =>
    gd ((0 : Int) ≤ (wr (y2.N - 1)) ∧ (wr (y2.N - 1)) < (l13.length : Int)) (gd ((0 : Int) ≤ s11.1 ∧ s11.1 < (l13.length : Int)) (gd ((0 : Int) ≤ (wr (y2.N - 1)) ∧ (wr (y2.N - 1)) < (l13.length : Int)) (st l13 ((wr (y2.N - 1))) (wr ((l13.getD ((wr (y2.N - 1))).toNat default) - (l13.getD (s11.1).toNat default))) fun l14 =>
    some (.nx ((wr (s11.1 + 1)), l14))))))) (some (.bk (s11.1, s11.2)))) Φ := h
def law27_FlowMeets_F (a0 : Int) (a1 : List (Int × Int × Int)) (a2 : List Int) (a3 : Int) (a4 : Int × Int × Int) : Option Bool := bd (law27_sane_F ) fun y1 =>
    cn (!y1) (some false) (bd (ref27_Made_F a0 a1) fun y2 => bd (ref27_Supplied_F y2 a2) fun y3 => bd (flow_Meet_F y2 y3) fun y4 => jn (fun p5 : Bool =>
    cn p5 (some false) (gd (0 ≤ y2.N) (bd (law27_pick_F a3 (bshl .i64 1 y2.N)) fun y8 => bd (flow_CheckMeet_F y2 y3 (⟨false, [], y8⟩ : TSupply)) fun y9 =>
    cn y4.1.Met (some (!y9)) (gd ((0 : Int) ≤ y2.N ∧ y2.N ≤ (1048576 : Int)) (lt (List.replicate (y2.N).toNat (0 : Int)) fun l10 =>
    bd (lp (law27_FlowMeets_b1 y2 y3) FU (0, l10)) fun c15 => smK c15 (fun s16 => bd (flow_Meet_F y2 s16.2) fun y18 => jn (fun p19 : Bool =>
    cn p19 (some false) (jn (fun p22 : Bool => some p22) fun k23 => bd (flow_CheckMeet_F y2 y3 (⟨true, y18.1.Amounts, 0⟩ : TSupply)) fun y24 =>
    cn (!y24) (bd (ref27_BentList_F y18.1.Amounts a4.1 a4.2.1 a4.2.2) fun y25 => bd (flow_CheckMeet_F y2 y3 (⟨true, y25, 0⟩ : TSupply)) fun y26 =>
    k23 (!y26)) (k23 false))) fun k20 => cn (y18.2 != 0) (k20 true) (bd (flow_CheckMeet_F y2 s16.2 y18.1) fun y21 => k20 (!y21))) (fun r17 => some r17)))))) fun k6 => cn (y4.2 !=
    0) (k6 true) (bd (flow_CheckMeet_F y2 y3 y4.1) fun y7 => k6 (!y7)))
def law27_FlowMeets_S : List AV → AV → Prop := fun args r => ∃ a0 a1 a2 a3 a4, args = [eI a0, (eL 3 eA23 default) a1, (eL 1 eI default) a2, eI a3, eA23 a4] ∧ W (law27_FlowMeets_F a0 a1 a2 a3 a4) fun y => r = (eB y)
theorem law27_FlowMeets_ok {T : Tbl} (hT : TOk Try.prog T) (hpf : PfOk T PF) (h14 : T 14 = pureR law27_sane_S) (h15 : T 15 = pureR ref27_Made_S) (h25 : T 25 = pureR ref27_BentList_S) (h27 : T 27 = pureR law27_pick_S) (h37 : T 37 = pureR ref27_Supplied_S) (h38 : T 38 = pureR flow_Meet_S) (h41 : T 41 = pureR flow_CheckMeet_S) : FOk Try.prog 9 (pureR law27_FlowMeets_S) := by
  refine FOk_pure hT hpf Try.func9 rfl Try.ntmps9 Try.results9 (by decide) ?_
  rintro args r ⟨a0, a1, a2, a3, a4, rfl, h⟩
  refine ⟨nle rfl, ?_, ?_⟩
  · exact (loose_cons (loose_int _ _) (loose_cons (loose_lst fun _ => (lo_A23 _)) (loose_cons (loose_lst fun _ => (loose_int _ _)) (loose_cons (loose_int _ _) (loose_cons (lo_A23 _) loose_nil)))))
  rw [law27_FlowMeets_F.eq_1] at h
  refine HT_fr DC_ok rfl fun K hK => ?_; (conv => whnf)
  refine hK _ _ _ ?_; clear hK K
  refine HT_seq ?_
  refine HT_fr DC_ok rfl fun K hK => ?_; (conv => whnf)
  replace h := W_bd h
  refine law27_sane_call h14 h (WkL.refl _) (fun _ h => ?_); (conv => whnf)
  refine hK _ _ _ ?_; clear hK K
  refine HT_if fun K1 K2 hK1 hK2 => ?_; (conv => whnf)
  refine cond_lk h (fun _ h => ?_) (fun _ h => ?_)
  · refine hK1 ?_; clear hK1 hK2 K1 K2
    refine HT_fr DC_ok rfl fun K hK => ?_; (conv => whnf)
    refine hK _ _ _ ?_; clear hK K
    refine HT_ret ?_
    refine Then_r ?_
    replace h := W_some h
    refine PostP_r DC_ok fun K hK => ?_; (conv => whnf)
    refine hK _ ?_; clear hK K
    cases h
    exact Wk.refl _
  refine hK2 ?_; clear hK1 hK2 K1 K2
  refine HT_skip ?_
  refine Then_n ?_
  refine HT_fr DC_ok rfl fun K hK => ?_; (conv => whnf)
  replace h := W_bd h
  refine ref27_Made_call h15 h (WkL.refl _) (fun _ h => ?_); (conv => whnf)
  refine blkK_of rfl ?_; (conv => whnf)
  refine And.intro rfl (And.intro (nle rfl) (And.intro rfl ?_)); (conv => whnf)
  refine hK _ _ _ ?_; clear hK K
  refine HT_fr DC_ok rfl fun K hK => ?_; (conv => whnf)
  refine nlA rfl ?_; (conv => whnf)
  refine blkK_of rfl ?_; (conv => whnf)
  refine nlA rfl ?_; (conv => whnf)
  replace h := W_bd h
  refine ref27_Supplied_call h37 h (WkL.refl _) (fun _ h => ?_); (conv => whnf)
  refine hK _ _ _ ?_; clear hK K
  refine HT_fr DC_ok rfl fun K hK => ?_; (conv => whnf)
  refine nlA rfl ?_; (conv => whnf)
  refine blkK_of rfl ?_; (conv => whnf)
  refine nlA rfl ?_; (conv => whnf)
  replace h := W_bd h
  refine flow_Meet_call h38 h (WkL.refl _) (fun _ h => ?_); (conv => whnf)
  refine blkK_of rfl ?_; (conv => whnf)
  refine And.intro rfl (And.intro (nle rfl) (And.intro rfl ?_)); (conv => whnf)
  refine hK _ _ _ ?_; clear hK K
  refine HT_seq ?_
  refine HT_fr DC_ok rfl fun K hK => ?_; (conv => whnf)
  replace h := W_jn h
  refine cond_lk h (fun _ h => ?_) (fun _ h => ?_) <;> (conv => whnf)
  · refine hK _ _ _ ?_; clear hK K
    refine HT_if fun K1 K2 hK1 hK2 => ?_; (conv => whnf)
    refine hK1 ?_; clear hK1 hK2 K1 K2
    replace h := W_cnT h
    refine HT_fr DC_ok rfl fun K hK => ?_; (conv => whnf)
    refine hK _ _ _ ?_; clear hK K
    refine HT_ret ?_
    refine Then_r ?_
    replace h := W_some h
    refine PostP_r DC_ok fun K hK => ?_; (conv => whnf)
    refine hK _ ?_; clear hK K
    cases h
    exact Wk.refl _
  refine nlA rfl ?_; (conv => whnf)
  refine blkK_of rfl ?_; (conv => whnf)
  refine nlA rfl ?_; (conv => whnf)
  refine nlA rfl ?_; (conv => whnf)
  refine blkK_of rfl ?_; (conv => whnf)
  refine nlA rfl ?_; (conv => whnf)
  replace h := W_bd h
  refine flow_CheckMeet_call h41 h (WkL.refl _) (fun _ h => ?_); (conv => whnf)
  refine hK _ _ _ ?_; clear hK K
  refine HT_if fun K1 K2 hK1 hK2 => ?_; (conv => whnf)
  refine cond_lk h (fun _ h => ?_) (fun _ h => ?_)
  · refine hK1 ?_; clear hK1 hK2 K1 K2
    refine HT_fr DC_ok rfl fun K hK => ?_; (conv => whnf)
    refine hK _ _ _ ?_; clear hK K
    refine HT_ret ?_
    refine Then_r ?_
    replace h := W_some h
    refine PostP_r DC_ok fun K hK => ?_; (conv => whnf)
    refine hK _ ?_; clear hK K
    cases h
    exact Wk.refl _
  refine hK2 ?_; clear hK1 hK2 K1 K2
  refine HT_skip ?_
  refine Then_n ?_
  refine HT_fd DC_ok mix_ok rfl (by kernel_rfl) fun K hK => ?_; (conv => whnf)
  refine nlA rfl ?_; (conv => whnf)
  refine blkK_of rfl ?_; (conv => whnf)
  refine nlA rfl ?_; (conv => whnf)
  refine nlA rfl ?_; (conv => whnf)
  refine blkK_of rfl ?_; (conv => whnf)
  refine getK_of rfl ?_; (conv => whnf)
  refine gd_lk h fun _ h => ?_; (conv => whnf)
  replace h := W_bd h
  refine law27_pick_call h27 h (WkL.refl _) (fun _ h => ?_); (conv => whnf)
  replace h := W_bd h
  refine flow_CheckMeet_call h41 h (WkL_cons (Wk.refl _) (WkL_cons (Wk.refl _) (WkL_cons (Wk_agg (WkL_cons (Wk.refl _) (WkL_cons Wk_nil (WkL_cons (Wk.refl _) WkL_nil)))) WkL_nil))) (fun _ h => ?_); (conv => whnf)
  refine hK _ _ _ ?_; clear hK K
  refine HT_seq ?_
  refine HT_fr DC_ok rfl fun K hK => ?_; (conv => whnf)
  refine nlA rfl ?_; (conv => whnf)
  refine blkK_of rfl ?_; (conv => whnf)
  refine getK_of rfl ?_; (conv => whnf)
  refine hK _ _ _ ?_; clear hK K
  refine HT_if fun K1 K2 hK1 hK2 => ?_; (conv => whnf)
  refine cond_lk h (fun _ h => ?_) (fun _ h => ?_)
  · refine hK1 ?_; clear hK1 hK2 K1 K2
    refine HT_fr DC_ok rfl fun K hK => ?_; (conv => whnf)
    refine hK _ _ _ ?_; clear hK K
    refine HT_ret ?_
    refine Then_r ?_
    replace h := W_some h
    refine PostP_r DC_ok fun K hK => ?_; (conv => whnf)
    refine hK _ ?_; clear hK K
    cases h
    exact Wk.refl _
  refine hK2 ?_; clear hK1 hK2 K1 K2
  refine HT_skip ?_
  refine Then_n ?_
  refine HT_fr DC_ok rfl fun K hK => ?_; (conv => whnf)
  refine nlA rfl ?_; (conv => whnf)
  refine blkK_of rfl ?_; (conv => whnf)
  refine getK_of rfl ?_; (conv => whnf)
  refine mks_lk (enc := eI) DC_ok (0 : Int) h rfl rfl ⟨nle rfl, nle rfl, rfl⟩ rfl (fun h => ?_); (conv => whnf)
  refine hK _ _ _ ?_; clear hK K
  refine HT_seq ?_
  refine HT_fr DC_ok rfl fun K hK => ?_; (conv => whnf)
  refine hK _ _ _ ?_; clear hK K
  refine HT_block ?_
  replace h := W_bd h
  refine HT_lpR (body := law27_FlowMeets_b1 _ _) rfl h [9, 11, 12] [9, 11] [] [] (fun kl kh kr ids b s => ⟨ofL ([(17, eI s.1), (16, .so (b + 0) 0 s.2.length 1)] ++ kl), ofH (([] ++ kh) ++ ([(b + 0, .cells (flE (ceE eI) s.2))] ++ kr)), b + 128⟩) ?_; (conv => whnf); refine And.intro ?_ (fun s m h => HT_st ?_)
  · refine weak_r ?_; (conv => whnf)
    exact And.intro rfl (And.intro (allL_c wkI (allL_c (WkR.so (fun _ => rfl)) (allL_c (WkR.ptr (fun _ => rfl)) (allL_c (WkR.ptr (fun _ => rfl)) (allL_c (wkr (loose_lst fun _ => (loose_int _ _))) allL_n))))) (allL_c ⟨some _, rfl, BkR_c rfl (CkR_cons wkI (CkR_cons wkI (CkR_cons wkI CkR_nil)))⟩ (allL_c ⟨some _, rfl, BkR_c rfl (CkR_cons wkI (CkR_cons (wkr (loose_lst fun _ => (lo_TEdge _))) CkR_nil))⟩ (allL_c ⟨some _, rfl, BkR_r rfl (fun _ => (loose_cons (loose_int _ _) loose_nil))⟩ allL_n))))
  replace h := W_blaw27_FlowMeets_b1 (W_bd h)
  refine HT_seq ?_
  refine HT_fr DC_ok rfl fun K hK => ?_; (conv => whnf)
  refine nlA rfl ?_; (conv => whnf)
  refine blkK_of rfl ?_; (conv => whnf)
  refine getK_of rfl ?_; (conv => whnf)
  refine hK _ _ _ ?_; clear hK K
  refine HT_if fun K1 K2 hK1 hK2 => ?_; (conv => whnf)
  refine cond_lk h (fun _ h => ?_) (fun _ h => ?_)
  · refine hK1 ?_; clear hK1 hK2 K1 K2
    refine HT_skip ?_
    refine Then_n ?_
    refine HT_seq ?_
    refine HT_block ?_
    refine HT_fr DC_ok rfl fun K hK => ?_; (conv => whnf)
    refine ix_lk h fun _ h => ?_; (conv => whnf)
    refine getK_of rfl ?_; (conv => whnf)
    refine And.intro (by decide) ?_; (conv => whnf)
    refine gd_lkN h (rfl) fun hx89 h => ?_; (conv => whnf)
    refine blkK_of rfl ?_; (conv => whnf)
    refine st_lk (enc := eI) (d := default) (q := 0) h (fun _ => rfl) (rfl) hx89 rfl (nle rfl) rfl rfl (fun h => ?_); (conv => whnf)
    refine hK _ _ _ ?_; clear hK K
    refine HT_fD DC_ok mix_ok rfl (by kernel_rfl) fun K hK => ?_; (conv => whnf)
    refine nlA rfl ?_; (conv => whnf)
    refine blkK_of rfl ?_; (conv => whnf)
    refine getK_of rfl ?_; (conv => whnf)
    refine nlA rfl ?_; (conv => whnf)
    refine blkK_of rfl ?_; (conv => whnf)
    refine getK_of rfl ?_; (conv => whnf)
    refine gd_lkN h (lenset rfl) fun hx90 h => ?_; (conv => whnf)
    refine nlA rfl ?_; (conv => whnf)
    refine blkK_of rfl ?_; (conv => whnf)
    refine get_flN (enc := eI) (d := default) (q := 0) (fun _ => rfl) (lenset rfl) hx90 (nle rfl) rfl ?_; (conv => whnf)
    refine gd_lkN h (lenset rfl) fun hx91 h => ?_; (conv => whnf)
    refine nlA rfl ?_; (conv => whnf)
    refine blkK_of rfl ?_; (conv => whnf)
    refine get_flN (enc := eI) (d := default) (q := 0) (fun _ => rfl) (lenset rfl) hx91 (nle rfl) rfl ?_; (conv => whnf)
    refine gd_lkN h (lenset rfl) fun hx92 h => ?_; (conv => whnf)
    refine blkK_of rfl ?_; (conv => whnf)
    refine st_lk (enc := eI) (d := default) (q := 0) h (fun _ => rfl) (lenset rfl) hx92 rfl (nle rfl) rfl rfl (fun h => ?_); (conv => whnf)
    refine hK _ _ _ ?_; clear hK K
    refine InBlock_n ?_
    refine Then_n ?_
    refine HT_f DC_ok rfl fun K hK => ?_; (conv => whnf)
    refine hK _ _ _ ?_; clear hK K
    refine Then_n ?_
    replace h := W_xnx h
    refine ⟨_, h, ?_⟩
    refine weak_r ?_; (conv => whnf)
    exact And.intro rfl (And.intro (allL_c wkI (allL_c (WkR.soN (fun _ => rfl) (lenset (lenset rfl)).symm) (allL_c (WkR.ptr (fun _ => rfl)) (allL_c (WkR.ptr (fun _ => rfl)) (allL_c (wkr (loose_lst fun _ => (loose_int _ _))) allL_n))))) (allL_c ⟨some _, rfl, BkR_c rfl (CkR_cons wkI (CkR_cons wkI (CkR_cons wkI CkR_nil)))⟩ (allL_c ⟨some _, rfl, BkR_c rfl (CkR_cons wkI (CkR_cons (wkr (loose_lst fun _ => (lo_TEdge _))) CkR_nil))⟩ (allL_c ⟨some _, rfl, BkR_r rfl (fun _ => (loose_cons (loose_int _ _) loose_nil))⟩ allL_n))))
  refine hK2 ?_; clear hK1 hK2 K1 K2
  refine HT_exit ?_
  refine Then_e ?_
  refine Then_e ?_
  refine InBlock_e ?_
  replace h := W_xbk h
  replace h := W_inl h
  refine Then_n ?_
  refine HT_frzSK 16 (enc := eI) (e := 3) default (ElOk_one DC_ok rfl rfl rfl (fun _ => ⟨rfl, rfl⟩)) ?_; (conv => whnf); refine ⟨_, _, rfl, rfl, rfl, ?_⟩
  refine HT_fr DC_ok rfl fun K hK => ?_; (conv => whnf)
  refine nlA rfl ?_; (conv => whnf)
  refine blkK_of rfl ?_; (conv => whnf)
  refine nlA rfl ?_; (conv => whnf)
  replace h := W_bd h
  refine flow_Meet_call h38 h (WkL.refl _) (fun _ h => ?_); (conv => whnf)
  refine blkK_of rfl ?_; (conv => whnf)
  refine And.intro rfl (And.intro (nle rfl) (And.intro rfl ?_)); (conv => whnf)
  refine hK _ _ _ ?_; clear hK K
  refine HT_seq ?_
  refine HT_fr DC_ok rfl fun K hK => ?_; (conv => whnf)
  replace h := W_jn h
  refine cond_lk h (fun _ h => ?_) (fun _ h => ?_) <;> (conv => whnf)
  · refine hK _ _ _ ?_; clear hK K
    refine HT_if fun K1 K2 hK1 hK2 => ?_; (conv => whnf)
    refine hK1 ?_; clear hK1 hK2 K1 K2
    replace h := W_cnT h
    refine HT_fr DC_ok rfl fun K hK => ?_; (conv => whnf)
    refine hK _ _ _ ?_; clear hK K
    refine HT_ret ?_
    refine Then_r ?_
    replace h := W_some h
    refine PostP_r DC_ok fun K hK => ?_; (conv => whnf)
    refine hK _ ?_; clear hK K
    cases h
    exact Wk.refl _
  refine nlA rfl ?_; (conv => whnf)
  refine blkK_of rfl ?_; (conv => whnf)
  refine nlA rfl ?_; (conv => whnf)
  refine nlA rfl ?_; (conv => whnf)
  refine blkK_of rfl ?_; (conv => whnf)
  refine nlA rfl ?_; (conv => whnf)
  replace h := W_bd h
  refine flow_CheckMeet_call h41 h (WkL.refl _) (fun _ h => ?_); (conv => whnf)
  refine hK _ _ _ ?_; clear hK K
  refine HT_if fun K1 K2 hK1 hK2 => ?_; (conv => whnf)
  refine cond_lk h (fun _ h => ?_) (fun _ h => ?_)
  · refine hK1 ?_; clear hK1 hK2 K1 K2
    refine HT_fr DC_ok rfl fun K hK => ?_; (conv => whnf)
    refine hK _ _ _ ?_; clear hK K
    refine HT_ret ?_
    refine Then_r ?_
    replace h := W_some h
    refine PostP_r DC_ok fun K hK => ?_; (conv => whnf)
    refine hK _ ?_; clear hK K
    cases h
    exact Wk.refl _
  refine hK2 ?_; clear hK1 hK2 K1 K2
  refine HT_skip ?_
  refine Then_n ?_
  refine HT_fd DC_ok mix_ok rfl (by kernel_rfl) fun K hK => ?_; (conv => whnf)
  replace h := W_jn h
  refine nlA rfl ?_; (conv => whnf)
  refine blkK_of rfl ?_; (conv => whnf)
  refine nlA rfl ?_; (conv => whnf)
  refine nlA rfl ?_; (conv => whnf)
  refine blkK_of rfl ?_; (conv => whnf)
  refine getK_of rfl ?_; (conv => whnf)
  replace h := W_bd h
  refine flow_CheckMeet_call h41 h (WkL.refl _) (fun _ h => ?_); (conv => whnf)
  refine cond_lk h (fun _ h => ?_) (fun _ h => ?_) <;> (conv => whnf)
  · refine nlA rfl ?_; (conv => whnf)
    refine blkK_of rfl ?_; (conv => whnf)
    refine nlA rfl ?_; (conv => whnf)
    refine nlA rfl ?_; (conv => whnf)
    refine blkK_of rfl ?_; (conv => whnf)
    refine getK_of rfl ?_; (conv => whnf)
    refine And.intro (by decide) ?_; (conv => whnf)
    refine nlA rfl ?_; (conv => whnf)
    refine blkK_of rfl ?_; (conv => whnf)
    refine getK_of rfl ?_; (conv => whnf)
    refine And.intro (by decide) ?_; (conv => whnf)
    refine nlA rfl ?_; (conv => whnf)
    refine blkK_of rfl ?_; (conv => whnf)
    refine getK_of rfl ?_; (conv => whnf)
    refine And.intro (by decide) ?_; (conv => whnf)
    refine nlA rfl ?_; (conv => whnf)
    refine blkK_of rfl ?_; (conv => whnf)
    refine getK_of rfl ?_; (conv => whnf)
    replace h := W_bd h
    refine ref27_BentList_call h25 h (WkL.refl _) (fun _ h => ?_); (conv => whnf)
    replace h := W_bd h
    refine flow_CheckMeet_call h41 h (WkL.refl _) (fun _ h => ?_); (conv => whnf)
    refine hK _ _ _ ?_; clear hK K
    refine HT_ret ?_
    replace h := W_some h
    refine PostP_r DC_ok fun K hK => ?_; (conv => whnf)
    refine hK _ ?_; clear hK K
    cases h
    exact Wk.refl _
  refine hK _ _ _ ?_; clear hK K
  refine HT_ret ?_
  replace h := W_some h
  refine PostP_r DC_ok fun K hK => ?_; (conv => whnf)
  refine hK _ ?_; clear hK K
  cases h
  exact Wk.refl _
end Go.Proofs.Ytgkmodjcoedonaa
namespace Go.Proofs.Ytgkmodjcoedonaa
open Go Go.Eng
set_option maxRecDepth 100000
theorem half_bd {x : Int} (h : -12 ≤ x ∧ x ≤ 12) : -12 ≤ Int.tdiv x 2 ∧ Int.tdiv x 2 ≤ 12 := by
  by_cases q : 0 ≤ x
  · rw [Int.tdiv_eq_ediv_of_nonneg q]; omega
  · obtain ⟨y, rfl⟩ : ∃ y, x = -y := ⟨-x, by omega⟩
    rw [Int.neg_tdiv, Int.tdiv_eq_ediv_of_nonneg (by omega)]; omega
theorem halves {n : TNet} (hn : MN n) {l : List Int} (hl : (l.length : Int) = n.N) (hr : ∀ i, i + 1 < n.N.toNat → -12 ≤ sp l i ∧ sp l i ≤ 12) : ∃ i L, lp (law27_FlowMeets_b1 n l) FU (0, List.replicate n.N.toNat 0) = some (.inl (i, L)) ∧ SupV n L := by
  have hN := hn.nn
  obtain ⟨m, hm⟩ : ∃ m, n.N.toNat = m + 1 := ⟨n.N.toNat - 1, by omega⟩
  obtain ⟨s', e, h1, h2, h3, h4, h5⟩ := lp_fold (body := law27_FlowMeets_b1 n l) (fun k z => z.1 = (k : Int) ∧ z.2.length = m + 1 ∧ (∀ i, i < k → -12 ≤ sp z.2 i ∧ sp z.2 i ≤ 12) ∧ (∀ i, k ≤ i → i < m → sp z.2 i = 0) ∧ sp z.2 m = - sm k (sp z.2)) m (by omega) (fun k z hk hz => by
    obtain ⟨i, L⟩ := z
    obtain ⟨rfl, h2, h3, h4, h5⟩ := hz
    simp only at h2 h3 h4 h5
    have hb := sm_abs (f := sp L) (B := 12) (k := k) h3
    have hx := half_bd (hr k (by omega))
    have hspk : l.getD k default = sp l k := rfl
    unfold law27_FlowMeets_b1
    simp only [cn_dec]
    rw [wr_id (x := (k : Int) + 1) (by omega) (by omega), if_pos (by omega), ix_n (by omega), gd_p _ (by omega), st_dd, Int.toNat_natCast, hspk, wr_id (x := Int.tdiv (sp l k) 2) (by omega) (by omega)]
    generalize Int.tdiv (sp l k) 2 = x at hx ⊢
    have e1 : ∀ j, sp (L.set k x) j = if j = k then x else sp L j := sp_set (by omega) _
    have g1 : (L.set k x).getD k default = x := by have := e1 k; rw [if_pos rfl] at this; exact this
    have g2 : (L.set k x).getD m default = - sm k (sp L) := by
      have := e1 m; rw [if_neg (by omega), h5] at this; exact this
    rw [wr_id (x := n.N - 1) (by omega) (by omega), gd_p _ (by rw [List.length_set]; omega), gd_p _ (by rw [List.length_set]; omega), gd_p _ (by rw [List.length_set]; omega), st_dd, show (n.N - 1).toNat = m by omega, g1, g2, wr_id (x := - sm k (sp L) - x) (by omega) (by omega)]
    have e2 : ∀ j, sp ((L.set k x).set m (- sm k (sp L) - x)) j = if j = m then - sm k (sp L) - x else if j = k then x else sp L j := fun j => by rw [sp_set (by rw [List.length_set]; omega), e1]
    refine ⟨_, rfl, by simp only; omega, by simp only [List.length_set]; exact h2, fun i hi => ?_, fun i hi hi2 => ?_, ?_⟩
    · simp only; rw [e2, if_neg (by omega)]
      by_cases q : i = k
      · rw [if_pos q]; exact hx
      · rw [if_neg q]; exact h3 i (by omega)
    · simp only; rw [e2, if_neg (by omega), if_neg (by omega)]; exact h4 i (by omega) hi2
    · simp only
      show _ = - (sm k (sp ((L.set k x).set m (- sm k (sp L) - x))) + sp ((L.set k x).set m (- sm k (sp L) - x)) k)
      rw [e2 m, if_pos rfl, e2 k, if_neg (by omega), if_pos rfl, show sm k (sp ((L.set k x).set m (- sm k (sp L) - x))) = sm k (sp L) from sm_congr fun i hi => by rw [e2, if_neg (by omega), if_neg (by omega)]]
      omega) (fun z hz => by
    obtain ⟨i, L⟩ := z
    obtain ⟨rfl, _⟩ := hz
    unfold law27_FlowMeets_b1
    simp only [cn_dec]
    rw [wr_id (x := (m : Int) + 1) (by omega) (by omega), if_neg (by omega)]) (0, List.replicate n.N.toNat 0) ⟨rfl, by simp [hm], fun i hi => by omega, fun i _ _ => sp_rep _ i, by rw [sp_rep]; rfl⟩
  obtain ⟨i, L⟩ := s'
  exact ⟨i, L, e, sup_last hn.v hm h2 (B := 12) (by decide) h3 h5⟩
theorem plain9 (a0 : Int) (a1 : List (Int × Int × Int)) (a2 : List Int) (a3 : Int) (a4 : Int × Int × Int) (o0 : okI a0) (o1 : okL okA23 a1) (o2 : okL okI a2) (o3 : okI a3) (o4 : okA23 a4) : law27_FlowMeets_F a0 a1 a2 a3 a4 = some true := by
  obtain ⟨n, en, hn⟩ := made_ok a0 a1 o0 o1
  obtain ⟨l, el, hs, hr⟩ := supplied_ok hn o2
  have hN := hn.nn; have hel := hn.el
  obtain ⟨u, eu, ec, hul, hmet, hnot⟩ := Meet_checked hs
  have hp0 := two_pow_pos n.N.toNat
  have hp1 : (2 : Int) ^ n.N.toNat ≤ 2 ^ 12 := two_pow_le (by omega)
  have hsh : bshl .i64 1 n.N = 2 ^ n.N.toNat := by
    conv => lhs; rw [show n.N = ((n.N.toNat : Nat) : Int) by omega]
    exact bshl_one (by omega)
  obtain ⟨c2, e2, hc2⟩ := checkMeet_iff n l ⟨false, [], pickZ a3 (2 ^ n.N.toNat)⟩ (by simp)
  unfold law27_FlowMeets_F
  rw [sane_ok, bd_s, Bool.not_true, cn_f, en, bd_s, el, bd_s, eu, bd_s]
  simp only [jn_d, bne_self_eq_false, cn_f]
  rw [ec, bd_s]
  simp only [Bool.not_true, cn_f]
  rw [gd_p _ (by omega), hsh, pick_law _ _ o3 hp0, bd_s, e2, bd_s]
  cases hm : u.Met with
  | true =>
    rw [cn_t]
    have hA := hmet hm
    cases c2 with
    | false => rfl
    | true =>
      have := (hc2.1 rfl).2
      simp only [Bool.false_eq_true, if_false] at this
      have h2 := hA.cut hs (pickZ a3 (2 ^ n.N.toNat)).toNat.testBit
      omega
  | false =>
    obtain ⟨S, hS⟩ := hnot hm
    have no : ∀ A : List Int, A.length ≤ 1000 → flow_CheckMeet_F n l ⟨true, A, 0⟩ = some false := fun A hA => by
      obtain ⟨c, e, hc⟩ := checkMeet_iff n l ⟨true, A, 0⟩ (by simp only; omega)
      cases c with
      | false => exact e
      | true =>
        have := (hc.1 rfl).2
        simp only [if_true] at this
        have := this.1.cut hs S.testBit
        omega
    obtain ⟨i, L, eL, hL⟩ := halves hn hs.ll hr
    obtain ⟨w, ew, ecw, hwl, -, -⟩ := Meet_checked hL
    obtain ⟨b, eb, hbl⟩ := bentL_ok1 w.Amounts (by omega) o4.1 o4.2.1 o4.2.2
    rw [cn_f, gd_p _ (by omega), lt_d, eL, bd_s, smK_l]
    simp only
    rw [ew, bd_s]
    simp only [bne_self_eq_false, cn_f]
    rw [ecw, bd_s]
    simp only [Bool.not_true, cn_f]
    rw [no _ (by omega), bd_s]
    simp only [Bool.not_false, cn_t]
    rw [eb, bd_s, no _ (by omega), bd_s]
    rfl
end Go.Proofs.Ytgkmodjcoedonaa
