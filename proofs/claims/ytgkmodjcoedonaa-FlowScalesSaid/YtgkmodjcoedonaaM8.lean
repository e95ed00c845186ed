import Derived.Test.YtgkmodjcoedonaaM7
set_option linter.unusedVariables false
set_option linter.unusedSimpArgs false
set_option linter.unusedSectionVars false
namespace Go.Proofs.Ytgkmodjcoedonaa
open Go Go.Eng
set_option maxHeartbeats 0
set_option maxRecDepth 100000

    def law27_FlowScales_b1 (a5 : List Int) (y2 : TNet) (y4 : Int) (s5 : Int × TNet × TNet × TNet) : Option (Ct (Int × TNet × TNet × TNet) Bool) := cn (decide (s5.1 < (y2.Edges.length : Int))) (ix y2.Edges default s5.1 fun e6 =>
    jn (fun p7 : TEdge => lt ([(⟨e6.From, e6.To, (wr (e6.Capacity * (wr (1 + y4))))⟩ : TEdge)] : List TEdge) fun l11 => ap s5.2.1.Edges l11 fun l12 =>
    lt ([p7] : List TEdge) fun l13 => ap s5.2.2.1.Edges l13 fun l14 => lt ([(⟨e6.From, e6.To, (wr (e6.Capacity + p7.Capacity))⟩ : TEdge)] : List TEdge) fun l15 =>
    ap s5.2.2.2.Edges l15 fun l16 => some (.nx ((wr (s5.1 + 1)), (⟨s5.2.1.N, l12⟩ : TNet), (⟨s5.2.2.1.N, l14⟩ : TNet), (⟨s5.2.2.2.N, l16⟩ : TNet)))) fun k8 =>
    cn (decide (s5.1 < (a5.length : Int))) (ix a5 default s5.1 fun e9 => bd (law27_pick_F e9 20) fun y10 =>
    k8 (⟨e6.From, e6.To, y10⟩ : TEdge)) (k8 (⟨e6.From, e6.To, 0⟩ : TEdge))) (some (.bk (s5.1, s5.2.1, s5.2.2.1, s5.2.2.2)))
theorem W_blaw27_FlowScales_b1 {a5 : List Int} {y2 : TNet} {y4 : Int} {s5 : Int × TNet × TNet × TNet} {Φ : Ct (Int × TNet × TNet × TNet) Bool → Prop} (h : W (law27_FlowScales_b1 a5 y2 y4 s5) Φ) : W (cn (decide (s5.1 < (y2.Edges.length : Int))) (ix y2.Edges default s5.1 fun e6 => jn (fun p7 : TEdge =>
    lt ([(⟨e6.From, e6.To, (wr (e6.Capacity * (wr (1 + y4))))⟩ : TEdge)] : List TEdge) fun l11 => ap s5.2.1.Edges l11 fun l12 => lt ([p7] : List TEdge) fun l13 =>
    ap s5.2.2.1.Edges l13 fun l14 => lt ([(⟨e6.From, e6.To, (wr (e6.Capacity + p7.Capacity))⟩ : TEdge)] : List TEdge) fun l15 => ap s5.2.2.2.Edges l15 fun l16 =>
    some (.nx ((wr (s5.1 + 1)), (⟨s5.2.1.N, l12⟩ : TNet), (⟨s5.2.2.1.N, l14⟩ : TNet), (⟨s5.2.2.2.N, l16⟩ : TNet)))) fun k8 =>
    cn (decide (s5.1 < (a5.length : Int))) (ix a5 default s5.1 fun e9 => bd (law27_pick_F e9 20) fun y10 =>
    k8 (⟨e6.From, e6.To, y10⟩ : TEdge)) (k8 (⟨e6.From, e6.To, 0⟩ : TEdge))) (some (.bk (s5.1, s5.2.1, s5.2.2.1, s5.2.2.2)))) Φ := h
def law27_FlowScales_F (a0 : Int) (a1 : List (Int × Int × Int)) (a2 : Int) (a3 : Int) (a4 : Int) (a5 : List Int) : Option Bool := bd (law27_sane_F ) fun y1 =>
    cn (!y1) (some false) (bd (ref27_Made_F a0 a1) fun y2 => bd (law27_ends_F y2 a2 a3) fun y3 => bd (law27_pick_F a4 50) fun y4 =>
    bd (lp (law27_FlowScales_b1 a5 y2 y4) FU (0, (⟨y2.N, []⟩ : TNet), (⟨y2.N, []⟩ : TNet), (⟨y2.N, []⟩ : TNet))) fun c17 => smK c17 (fun s18 =>
    bd (law27_greatest_F y2 y3.1 y3.2) fun y20 => bd (law27_greatest_F s18.2.1 y3.1 y3.2) fun y21 => bd (law27_greatest_F s18.2.2.1 y3.1 y3.2) fun y22 =>
    bd (law27_greatest_F s18.2.2.2 y3.1 y3.2) fun y23 => jn (fun p24 : Bool => some p24) fun k25 => cn y20.2.2 (cn y21.2.2 (cn y22.2.2 (cn y23.2.2 (cn (y21.1 ==
    (wr ((wr (1 + y4)) * y20.1))) (cn (y21.2.1 == y20.2.1) (let v26 := (decide ((wr (y20.1 + y22.1)) ≤ y23.1));
    k25 v26) (k25 false)) (k25 false)) (k25 false)) (k25 false)) (k25 false)) (k25 false)) (fun r19 => some r19))
def law27_FlowScales_S : List AV → AV → Prop := fun args r => ∃ a0 a1 a2 a3 a4 a5, args = [eI a0, (eL 3 eA23 default) a1, eI a2, eI a3, eI a4, (eL 1 eI default) a5] ∧ W (law27_FlowScales_F a0 a1 a2 a3 a4 a5) fun y => r = (eB y)
theorem law27_FlowScales_ok {T : Tbl} (hT : TOk Try.prog T) (hpf : PfOk T PF) (h14 : T 14 = pureR law27_sane_S) (h15 : T 15 = pureR ref27_Made_S) (h16 : T 16 = pureR law27_ends_S) (h27 : T 27 = pureR law27_pick_S) (h43 : T 43 = pureR law27_greatest_S) : FOk Try.prog 11 (pureR law27_FlowScales_S) := by
  refine FOk_pure hT hpf Try.func11 rfl Try.ntmps11 Try.results11 (by decide) ?_
  rintro args r ⟨a0, a1, a2, a3, a4, a5, rfl, h⟩
  refine ⟨nle rfl, ?_, ?_⟩
  · exact (loose_cons (loose_int _ _) (loose_cons (loose_lst fun _ => (lo_A23 _)) (loose_cons (loose_int _ _) (loose_cons (loose_int _ _) (loose_cons (loose_int _ _) (loose_cons (loose_lst fun _ => (loose_int _ _)) loose_nil))))))
  rw [law27_FlowScales_F.eq_1] at h
  refine HT_fr DC_ok rfl fun K hK => ?_; (conv => whnf)
  refine hK _ _ _ ?_; clear hK K
  refine HT_seq ?_
  refine HT_fr DC_ok rfl fun K hK => ?_; (conv => whnf)
  replace h := W_bd h
  refine law27_sane_call h14 h (WkL.refl _) (fun _ h => ?_); (conv => whnf)
  refine hK _ _ _ ?_; clear hK K
  refine HT_if fun K1 K2 hK1 hK2 => ?_; (conv => whnf)
  refine cond_lk h (fun _ h => ?_) (fun _ h => ?_)
  · refine hK1 ?_; clear hK1 hK2 K1 K2
    refine HT_fr DC_ok rfl fun K hK => ?_; (conv => whnf)
    refine hK _ _ _ ?_; clear hK K
    refine HT_ret ?_
    refine Then_r ?_
    replace h := W_some h
    refine PostP_r DC_ok fun K hK => ?_; (conv => whnf)
    refine hK _ ?_; clear hK K
    cases h
    exact Wk.refl _
  refine hK2 ?_; clear hK1 hK2 K1 K2
  refine HT_skip ?_
  refine Then_n ?_
  refine HT_fr DC_ok rfl fun K hK => ?_; (conv => whnf)
  replace h := W_bd h
  refine ref27_Made_call h15 h (WkL.refl _) (fun _ h => ?_); (conv => whnf)
  refine blkK_of rfl ?_; (conv => whnf)
  refine And.intro rfl (And.intro (nle rfl) (And.intro rfl ?_)); (conv => whnf)
  refine hK _ _ _ ?_; clear hK K
  refine HT_fr DC_ok rfl fun K hK => ?_; (conv => whnf)
  refine nlA rfl ?_; (conv => whnf)
  refine blkK_of rfl ?_; (conv => whnf)
  refine nlA rfl ?_; (conv => whnf)
  replace h := W_bd h
  refine law27_ends_call h16 h (WkL.refl _) (fun _ h => ?_); (conv => whnf)
  refine hK _ _ _ ?_; clear hK K
  refine HT_fr DC_ok rfl fun K hK => ?_; (conv => whnf)
  replace h := W_bd h
  refine law27_pick_call h27 h (WkL.refl _) (fun _ h => ?_); (conv => whnf)
  refine hK _ _ _ ?_; clear hK K
  refine HT_fr DC_ok rfl fun K hK => ?_; (conv => whnf)
  refine nlA rfl ?_; (conv => whnf)
  refine blkK_of rfl ?_; (conv => whnf)
  refine getK_of rfl ?_; (conv => whnf)
  refine blkK_of rfl ?_; (conv => whnf)
  refine And.intro rfl (And.intro (nle rfl) (And.intro rfl ?_)); (conv => whnf)
  refine hK _ _ _ ?_; clear hK K
  refine HT_fr DC_ok rfl fun K hK => ?_; (conv => whnf)
  refine nlA rfl ?_; (conv => whnf)
  refine blkK_of rfl ?_; (conv => whnf)
  refine getK_of rfl ?_; (conv => whnf)
  refine blkK_of rfl ?_; (conv => whnf)
  refine And.intro rfl (And.intro (nle rfl) (And.intro rfl ?_)); (conv => whnf)
  refine hK _ _ _ ?_; clear hK K
  refine HT_fr DC_ok rfl fun K hK => ?_; (conv => whnf)
  refine nlA rfl ?_; (conv => whnf)
  refine blkK_of rfl ?_; (conv => whnf)
  refine getK_of rfl ?_; (conv => whnf)
  refine blkK_of rfl ?_; (conv => whnf)
  refine And.intro rfl (And.intro (nle rfl) (And.intro rfl ?_)); (conv => whnf)
  refine hK _ _ _ ?_; clear hK K
  refine HT_seq ?_
  refine HT_fr DC_ok rfl fun K hK => ?_; (conv => whnf)
  refine hK _ _ _ ?_; clear hK K
  refine HT_block ?_
  replace h := W_bd h
  refine HT_lpK (body := law27_FlowScales_b1 _ _ _) rfl h [5, 13, 14, 15, 16, 17, 18, 19] [13] [17, 18, 19] (fun kl kh ids b s => ⟨ofL ([(20, eI s.1)] ++ kl), ofH ([(nthN ids 0, .cells [eI s.2.1.N, .lst (.tok (b + 0)) 3 s.2.1.Edges.length (fun j => eTEdge (s.2.1.Edges.getD j default))]), (nthN ids 1, .cells [eI s.2.2.1.N, .lst (.tok (b + 64)) 3 s.2.2.1.Edges.length (fun j => eTEdge (s.2.2.1.Edges.getD j default))]), (nthN ids 2, .cells [eI s.2.2.2.N, .lst (.tok (b + 128)) 3 s.2.2.2.Edges.length (fun j => eTEdge (s.2.2.2.Edges.getD j default))]), (b + 0, .cells []), (b + 64, .cells []), (b + 128, .cells [])] ++ kh), b + 256⟩) ?_; (conv => whnf); refine And.intro ?_ (fun s m h => HT_st ?_)
  · refine weak_k ?_; (conv => whnf)
    exact And.intro rfl (And.intro (allL_c wkI (allL_c (wkr (loose_lst fun _ => (loose_int _ _))) (allL_c (WkR.ptr (fun _ => rfl)) (allL_c wkI (allL_c wkI (allL_c wkI (allL_c (WkR.ptr (fun _ => rfl)) (allL_c (WkR.ptr (fun _ => rfl)) (allL_c (WkR.ptr (fun _ => rfl)) allL_n))))))))) (allL_c ⟨some _, rfl, BkR_c rfl (CkR_cons wkI (CkR_cons (WkR.nil (fun _ => rfl)) CkR_nil))⟩ (allL_c ⟨some _, rfl, BkR_c rfl (CkR_cons wkI (CkR_cons (WkR.nil (fun _ => rfl)) CkR_nil))⟩ (allL_c ⟨some _, rfl, BkR_c rfl (CkR_cons wkI (CkR_cons (WkR.nil (fun _ => rfl)) CkR_nil))⟩ (allL_c ⟨none, rfl, BkR_n⟩ (allL_c ⟨none, rfl, BkR_n⟩ (allL_c ⟨none, rfl, BkR_n⟩ (allL_c ⟨some _, rfl, BkR_c rfl (CkR_cons wkI (CkR_cons (wkr (loose_lst fun _ => (lo_TEdge _))) CkR_nil))⟩ allL_n))))))))
  replace h := W_blaw27_FlowScales_b1 (W_bd h)
  refine HT_seq ?_
  refine HT_fr DC_ok rfl fun K hK => ?_; (conv => whnf)
  refine nlA rfl ?_; (conv => whnf)
  refine blkK_of rfl ?_; (conv => whnf)
  refine getK_of rfl ?_; (conv => whnf)
  refine hK _ _ _ ?_; clear hK K
  refine HT_if fun K1 K2 hK1 hK2 => ?_; (conv => whnf)
  refine cond_lk h (fun _ h => ?_) (fun _ h => ?_)
  · refine hK1 ?_; clear hK1 hK2 K1 K2
    refine HT_skip ?_
    refine Then_n ?_
    refine HT_seq ?_
    refine HT_block ?_
    refine HT_fr DC_ok rfl fun K hK => ?_; (conv => whnf)
    refine nlA rfl ?_; (conv => whnf)
    refine blkK_of rfl ?_; (conv => whnf)
    refine getK_of rfl ?_; (conv => whnf)
    refine ix_lk h fun _ h => ?_; (conv => whnf)
    refine nlA rfl ?_; (conv => whnf)
    refine blkK_of rfl ?_; (conv => whnf)
    refine And.intro rfl (And.intro (nle rfl) (And.intro rfl ?_)); (conv => whnf)
    refine hK _ _ _ ?_; clear hK K
    refine HT_fr DC_ok rfl fun K hK => ?_; (conv => whnf)
    refine nlA rfl ?_; (conv => whnf)
    refine blkK_of rfl ?_; (conv => whnf)
    refine nlA rfl ?_; (conv => whnf)
    refine blkK_of rfl ?_; (conv => whnf)
    refine And.intro rfl (And.intro (nle rfl) (And.intro rfl ?_)); (conv => whnf)
    refine hK _ _ _ ?_; clear hK K
    refine HT_fr DC_ok rfl fun K hK => ?_; (conv => whnf)
    refine blkK_of rfl ?_; (conv => whnf)
    refine And.intro rfl (And.intro (nle rfl) (And.intro rfl ?_)); (conv => whnf)
    refine hK _ _ _ ?_; clear hK K
    refine HT_seq ?_
    refine HT_fr DC_ok rfl fun K hK => ?_; (conv => whnf)
    refine hK _ _ _ ?_; clear hK K
    replace h := W_jn h
    refine HT_if fun K1 K2 hK1 hK2 => ?_; (conv => whnf)
    refine cond_lk h (fun _ h => ?_) (fun _ h => ?_)
    · refine hK1 ?_; clear hK1 hK2 K1 K2
      refine HT_f DC_ok rfl fun K hK => ?_; (conv => whnf)
      refine ix_lk h fun _ h => ?_; (conv => whnf)
      refine getK_of rfl ?_; (conv => whnf)
      replace h := W_bd h
      refine law27_pick_call h27 h (WkL.refl _) (fun _ h => ?_); (conv => whnf)
      refine blkK_of rfl ?_; (conv => whnf)
      refine And.intro rfl (And.intro (nle rfl) (And.intro rfl ?_)); (conv => whnf)
      refine hK _ _ _ ?_; clear hK K
      refine Then_n ?_
      refine HT_fr DC_ok rfl fun K hK => ?_; (conv => whnf)
      refine nlA rfl ?_; (conv => whnf)
      refine blkK_of rfl ?_; (conv => whnf)
      refine nlA rfl ?_; (conv => whnf)
      refine blkK_of rfl ?_; (conv => whnf)
      refine And.intro rfl (And.intro (nle rfl) (And.intro rfl ?_)); (conv => whnf)
      refine hK _ _ _ ?_; clear hK K
      refine HT_fr DC_ok rfl fun K hK => ?_; (conv => whnf)
      refine nlA rfl ?_; (conv => whnf)
      refine blkK_of rfl ?_; (conv => whnf)
      refine getK_of rfl ?_; (conv => whnf)
      refine nlA rfl ?_; (conv => whnf)
      refine blkK_of rfl ?_; (conv => whnf)
      refine getK_of rfl ?_; (conv => whnf)
      refine blkK_of rfl ?_; (conv => whnf)
      refine And.intro rfl (And.intro (nle rfl) (And.intro rfl ?_)); (conv => whnf)
      refine hK _ _ _ ?_; clear hK K
      refine HT_fr DC_ok rfl fun K hK => ?_; (conv => whnf)
      refine nlA rfl ?_; (conv => whnf)
      refine blkK_of rfl ?_; (conv => whnf)
      refine getK_of rfl ?_; (conv => whnf)
      refine blkK_of rfl ?_; (conv => whnf)
      refine And.intro rfl (And.intro (nle rfl) (And.intro rfl ?_)); (conv => whnf)
      refine hK _ _ _ ?_; clear hK K
      refine HT_fr DC_ok rfl fun K hK => ?_; (conv => whnf)
      refine nlA rfl ?_; (conv => whnf)
      refine blkK_of rfl ?_; (conv => whnf)
      refine getK_of rfl ?_; (conv => whnf)
      refine nlA rfl ?_; (conv => whnf)
      refine blkK_of rfl ?_; (conv => whnf)
      refine nlA rfl ?_; (conv => whnf)
      refine lt_lk (enc := eTEdge) (d := default) DC_ok h rfl rfl rfl ⟨nle rfl, nle rfl, rfl⟩ rfl ⟨⟨rfl, nle rfl⟩, trivial⟩ (fun h => ?_); (conv => whnf)
      refine ap_lk (enc := eTEdge) (d := default) DC_ok h (.inl rfl) rfl rfl rfl ⟨rfl, nle rfl, nle rfl, nle rfl, rfl⟩ (fun _ => rfl) (.inr (.inr ⟨_, _, rfl, rfl, rfl⟩)) (fun h => ?_); (conv => whnf)
      refine blkK_of rfl ?_; (conv => whnf)
      refine And.intro rfl (And.intro (nle rfl) (And.intro rfl ?_)); (conv => whnf)
      refine hK _ _ _ ?_; clear hK K
      refine HT_fr DC_ok rfl fun K hK => ?_; (conv => whnf)
      refine nlA rfl ?_; (conv => whnf)
      refine blkK_of rfl ?_; (conv => whnf)
      refine getK_of rfl ?_; (conv => whnf)
      refine nlA rfl ?_; (conv => whnf)
      refine blkK_of rfl ?_; (conv => whnf)
      refine nlA rfl ?_; (conv => whnf)
      refine lt_lk (enc := eTEdge) (d := default) DC_ok h rfl rfl rfl ⟨nle rfl, nle rfl, rfl⟩ rfl ⟨⟨rfl, nle rfl⟩, trivial⟩ (fun h => ?_); (conv => whnf)
      refine ap_lk (enc := eTEdge) (d := default) DC_ok h (.inl rfl) rfl rfl rfl ⟨rfl, nle rfl, nle rfl, nle rfl, rfl⟩ (fun _ => rfl) (.inr (.inr ⟨_, _, rfl, rfl, rfl⟩)) (fun h => ?_); (conv => whnf)
      refine blkK_of rfl ?_; (conv => whnf)
      refine And.intro rfl (And.intro (nle rfl) (And.intro rfl ?_)); (conv => whnf)
      refine hK _ _ _ ?_; clear hK K
      refine HT_f DC_ok rfl fun K hK => ?_; (conv => whnf)
      refine nlA rfl ?_; (conv => whnf)
      refine blkK_of rfl ?_; (conv => whnf)
      refine getK_of rfl ?_; (conv => whnf)
      refine nlA rfl ?_; (conv => whnf)
      refine blkK_of rfl ?_; (conv => whnf)
      refine nlA rfl ?_; (conv => whnf)
      refine lt_lk (enc := eTEdge) (d := default) DC_ok h rfl rfl rfl ⟨nle rfl, nle rfl, rfl⟩ rfl ⟨⟨rfl, nle rfl⟩, trivial⟩ (fun h => ?_); (conv => whnf)
      refine ap_lk (enc := eTEdge) (d := default) DC_ok h (.inl rfl) rfl rfl rfl ⟨rfl, nle rfl, nle rfl, nle rfl, rfl⟩ (fun _ => rfl) (.inr (.inr ⟨_, _, rfl, rfl, rfl⟩)) (fun h => ?_); (conv => whnf)
      refine blkK_of rfl ?_; (conv => whnf)
      refine And.intro rfl (And.intro (nle rfl) (And.intro rfl ?_)); (conv => whnf)
      refine hK _ _ _ ?_; clear hK K
      refine InBlock_n ?_
      refine Then_n ?_
      refine HT_f DC_ok rfl fun K hK => ?_; (conv => whnf)
      refine hK _ _ _ ?_; clear hK K
      refine Then_n ?_
      replace h := W_xnx h
      refine ⟨_, h, ?_⟩
      refine weak_k ?_; (conv => whnf)
      exact And.intro rfl (And.intro (allL_c wkI (allL_c (wkr (loose_lst fun _ => (loose_int _ _))) (allL_c (WkR.ptr (fun _ => rfl)) (allL_c wkI (allL_c wkI (allL_c wkI (allL_c (WkR.ptr (fun _ => rfl)) (allL_c (WkR.ptr (fun _ => rfl)) (allL_c (WkR.ptr (fun _ => rfl)) allL_n))))))))) (allL_c ⟨some _, rfl, BkR_c rfl (CkR_cons wkI (CkR_cons (WkR.tok (fun _ => rfl) rfl (fun _ _ => Wk.refl _) (fun _ => (lo_TEdge _))) CkR_nil))⟩ (allL_c ⟨some _, rfl, BkR_c rfl (CkR_cons wkI (CkR_cons (WkR.tok (fun _ => rfl) rfl (fun _ _ => Wk.refl _) (fun _ => (lo_TEdge _))) CkR_nil))⟩ (allL_c ⟨some _, rfl, BkR_c rfl (CkR_cons wkI (CkR_cons (WkR.tok (fun _ => rfl) rfl (fun _ _ => Wk.refl _) (fun _ => (lo_TEdge _))) CkR_nil))⟩ (allL_c ⟨some _, rfl, BkR_c rfl CkR_nil⟩ (allL_c ⟨some _, rfl, BkR_c rfl CkR_nil⟩ (allL_c ⟨some _, rfl, BkR_c rfl CkR_nil⟩ (allL_c ⟨some _, rfl, BkR_c rfl (CkR_cons wkI (CkR_cons (wkr (loose_lst fun _ => (lo_TEdge _))) CkR_nil))⟩ allL_n))))))))
    refine hK2 ?_; clear hK1 hK2 K1 K2
    refine HT_skip ?_
    refine Then_n ?_
    refine HT_fr DC_ok rfl fun K hK => ?_; (conv => whnf)
    refine nlA rfl ?_; (conv => whnf)
    refine blkK_of rfl ?_; (conv => whnf)
    refine nlA rfl ?_; (conv => whnf)
    refine blkK_of rfl ?_; (conv => whnf)
    refine And.intro rfl (And.intro (nle rfl) (And.intro rfl ?_)); (conv => whnf)
    refine hK _ _ _ ?_; clear hK K
    refine HT_fr DC_ok rfl fun K hK => ?_; (conv => whnf)
    refine nlA rfl ?_; (conv => whnf)
    refine blkK_of rfl ?_; (conv => whnf)
    refine getK_of rfl ?_; (conv => whnf)
    refine nlA rfl ?_; (conv => whnf)
    refine blkK_of rfl ?_; (conv => whnf)
    refine getK_of rfl ?_; (conv => whnf)
    refine blkK_of rfl ?_; (conv => whnf)
    refine And.intro rfl (And.intro (nle rfl) (And.intro rfl ?_)); (conv => whnf)
    refine hK _ _ _ ?_; clear hK K
    refine HT_fr DC_ok rfl fun K hK => ?_; (conv => whnf)
    refine nlA rfl ?_; (conv => whnf)
    refine blkK_of rfl ?_; (conv => whnf)
    refine getK_of rfl ?_; (conv => whnf)
    refine blkK_of rfl ?_; (conv => whnf)
    refine And.intro rfl (And.intro (nle rfl) (And.intro rfl ?_)); (conv => whnf)
    refine hK _ _ _ ?_; clear hK K
    refine HT_fr DC_ok rfl fun K hK => ?_; (conv => whnf)
    refine nlA rfl ?_; (conv => whnf)
    refine blkK_of rfl ?_; (conv => whnf)
    refine getK_of rfl ?_; (conv => whnf)
    refine nlA rfl ?_; (conv => whnf)
    refine blkK_of rfl ?_; (conv => whnf)
    refine nlA rfl ?_; (conv => whnf)
    refine lt_lk (enc := eTEdge) (d := default) DC_ok h rfl rfl rfl ⟨nle rfl, nle rfl, rfl⟩ rfl ⟨⟨rfl, nle rfl⟩, trivial⟩ (fun h => ?_); (conv => whnf)
    refine ap_lk (enc := eTEdge) (d := default) DC_ok h (.inl rfl) rfl rfl rfl ⟨rfl, nle rfl, nle rfl, nle rfl, rfl⟩ (fun _ => rfl) (.inr (.inr ⟨_, _, rfl, rfl, rfl⟩)) (fun h => ?_); (conv => whnf)
    refine blkK_of rfl ?_; (conv => whnf)
    refine And.intro rfl (And.intro (nle rfl) (And.intro rfl ?_)); (conv => whnf)
    refine hK _ _ _ ?_; clear hK K
    refine HT_fr DC_ok rfl fun K hK => ?_; (conv => whnf)
    refine nlA rfl ?_; (conv => whnf)
    refine blkK_of rfl ?_; (conv => whnf)
    refine getK_of rfl ?_; (conv => whnf)
    refine nlA rfl ?_; (conv => whnf)
    refine blkK_of rfl ?_; (conv => whnf)
    refine nlA rfl ?_; (conv => whnf)
    refine lt_lk (enc := eTEdge) (d := default) DC_ok h rfl rfl rfl ⟨nle rfl, nle rfl, rfl⟩ rfl ⟨⟨rfl, nle rfl⟩, trivial⟩ (fun h => ?_); (conv => whnf)
    refine ap_lk (enc := eTEdge) (d := default) DC_ok h (.inl rfl) rfl rfl rfl ⟨rfl, nle rfl, nle rfl, nle rfl, rfl⟩ (fun _ => rfl) (.inr (.inr ⟨_, _, rfl, rfl, rfl⟩)) (fun h => ?_); (conv => whnf)
    refine blkK_of rfl ?_; (conv => whnf)
    refine And.intro rfl (And.intro (nle rfl) (And.intro rfl ?_)); (conv => whnf)
    refine hK _ _ _ ?_; clear hK K
    refine HT_f DC_ok rfl fun K hK => ?_; (conv => whnf)
    refine nlA rfl ?_; (conv => whnf)
    refine blkK_of rfl ?_; (conv => whnf)
    refine getK_of rfl ?_; (conv => whnf)
    refine nlA rfl ?_; (conv => whnf)
    refine blkK_of rfl ?_; (conv => whnf)
    refine nlA rfl ?_; (conv => whnf)
    refine lt_lk (enc := eTEdge) (d := default) DC_ok h rfl rfl rfl ⟨nle rfl, nle rfl, rfl⟩ rfl ⟨⟨rfl, nle rfl⟩, trivial⟩ (fun h => ?_); (conv => whnf)
    refine ap_lk (enc := eTEdge) (d := default) DC_ok h (.inl rfl) rfl rfl rfl ⟨rfl, nle rfl, nle rfl, nle rfl, rfl⟩ (fun _ => rfl) (.inr (.inr ⟨_, _, rfl, rfl, rfl⟩)) (fun h => ?_); (conv => whnf)
    refine blkK_of rfl ?_; (conv => whnf)
    refine And.intro rfl (And.intro (nle rfl) (And.intro rfl ?_)); (conv => whnf)
    refine hK _ _ _ ?_; clear hK K
    refine InBlock_n ?_
    refine Then_n ?_
    refine HT_f DC_ok rfl fun K hK => ?_; (conv => whnf)
    refine hK _ _ _ ?_; clear hK K
    refine Then_n ?_
    replace h := W_xnx h
    refine ⟨_, h, ?_⟩
    refine weak_k ?_; (conv => whnf)
    exact And.intro rfl (And.intro (allL_c wkI (allL_c (wkr (loose_lst fun _ => (loose_int _ _))) (allL_c (WkR.ptr (fun _ => rfl)) (allL_c wkI (allL_c wkI (allL_c wkI (allL_c (WkR.ptr (fun _ => rfl)) (allL_c (WkR.ptr (fun _ => rfl)) (allL_c (WkR.ptr (fun _ => rfl)) allL_n))))))))) (allL_c ⟨some _, rfl, BkR_c rfl (CkR_cons wkI (CkR_cons (WkR.tok (fun _ => rfl) rfl (fun _ _ => Wk.refl _) (fun _ => (lo_TEdge _))) CkR_nil))⟩ (allL_c ⟨some _, rfl, BkR_c rfl (CkR_cons wkI (CkR_cons (WkR.tok (fun _ => rfl) rfl (fun _ _ => Wk.refl _) (fun _ => (lo_TEdge _))) CkR_nil))⟩ (allL_c ⟨some _, rfl, BkR_c rfl (CkR_cons wkI (CkR_cons (WkR.tok (fun _ => rfl) rfl (fun _ _ => Wk.refl _) (fun _ => (lo_TEdge _))) CkR_nil))⟩ (allL_c ⟨some _, rfl, BkR_c rfl CkR_nil⟩ (allL_c ⟨some _, rfl, BkR_c rfl CkR_nil⟩ (allL_c ⟨some _, rfl, BkR_c rfl CkR_nil⟩ (allL_c ⟨some _, rfl, BkR_c rfl (CkR_cons wkI (CkR_cons (wkr (loose_lst fun _ => (lo_TEdge _))) CkR_nil))⟩ allL_n))))))))
  refine hK2 ?_; clear hK1 hK2 K1 K2
  refine HT_exit ?_
  refine Then_e ?_
  refine Then_e ?_
  refine InBlock_e ?_
  replace h := W_xbk h
  replace h := W_inl h
  refine Then_n ?_
  refine HT_fr DC_ok rfl fun K hK => ?_; (conv => whnf)
  refine nlA rfl ?_; (conv => whnf)
  refine blkK_of rfl ?_; (conv => whnf)
  refine nlA rfl ?_; (conv => whnf)
  replace h := W_bd h
  refine law27_greatest_call h43 h (WkL.refl _) (fun _ h => ?_); (conv => whnf)
  refine hK _ _ _ ?_; clear hK K
  refine HT_fr DC_ok rfl fun K hK => ?_; (conv => whnf)
  refine nlA rfl ?_; (conv => whnf)
  refine blkK_of rfl ?_; (conv => whnf)
  refine nlA rfl ?_; (conv => whnf)
  replace h := W_bd h
  refine law27_greatest_call h43 h (WkL_cons (Wk_agg (WkL_cons (Wk.refl _) (WkL_cons Wk_free WkL_nil))) (WkL_cons (Wk.refl _) (WkL_cons (Wk.refl _) WkL_nil))) (fun _ h => ?_); (conv => whnf)
  refine hK _ _ _ ?_; clear hK K
  refine HT_fr DC_ok rfl fun K hK => ?_; (conv => whnf)
  refine nlA rfl ?_; (conv => whnf)
  refine blkK_of rfl ?_; (conv => whnf)
  refine nlA rfl ?_; (conv => whnf)
  replace h := W_bd h
  refine law27_greatest_call h43 h (WkL_cons (Wk_agg (WkL_cons (Wk.refl _) (WkL_cons Wk_free WkL_nil))) (WkL_cons (Wk.refl _) (WkL_cons (Wk.refl _) WkL_nil))) (fun _ h => ?_); (conv => whnf)
  refine hK _ _ _ ?_; clear hK K
  refine HT_fr DC_ok rfl fun K hK => ?_; (conv => whnf)
  refine nlA rfl ?_; (conv => whnf)
  refine blkK_of rfl ?_; (conv => whnf)
  refine nlA rfl ?_; (conv => whnf)
  replace h := W_bd h
  refine law27_greatest_call h43 h (WkL_cons (Wk_agg (WkL_cons (Wk.refl _) (WkL_cons Wk_free WkL_nil))) (WkL_cons (Wk.refl _) (WkL_cons (Wk.refl _) WkL_nil))) (fun _ h => ?_); (conv => whnf)
  refine hK _ _ _ ?_; clear hK K
  refine HT_fr DC_ok rfl fun K hK => ?_; (conv => whnf)
  replace h := W_jn h
  refine cond_lk h (fun _ h => ?_) (fun _ h => ?_) <;> (conv => whnf)
  · refine cond_lk h (fun _ h => ?_) (fun _ h => ?_) <;> (conv => whnf)
    · refine cond_lk h (fun _ h => ?_) (fun _ h => ?_) <;> (conv => whnf)
      · refine cond_lk h (fun _ h => ?_) (fun _ h => ?_) <;> (conv => whnf)
        · refine cond_lk h (fun _ h => ?_) (fun _ h => ?_) <;> (conv => whnf)
          · refine cond_lk h (fun _ h => ?_) (fun _ h => ?_) <;> (conv => whnf)
            · refine hK _ _ _ ?_; clear hK K
              refine HT_ret ?_
              replace h := W_some h
              refine PostP_r DC_ok fun K hK => ?_; (conv => whnf)
              refine hK _ ?_; clear hK K
              cases h
              exact Wk.refl _
            refine hK _ _ _ ?_; clear hK K
            refine HT_ret ?_
            replace h := W_some h
            refine PostP_r DC_ok fun K hK => ?_; (conv => whnf)
            refine hK _ ?_; clear hK K
            cases h
            exact Wk.refl _
          refine hK _ _ _ ?_; clear hK K
          refine HT_ret ?_
          replace h := W_some h
          refine PostP_r DC_ok fun K hK => ?_; (conv => whnf)
          refine hK _ ?_; clear hK K
          cases h
          exact Wk.refl _
        refine hK _ _ _ ?_; clear hK K
        refine HT_ret ?_
        replace h := W_some h
        refine PostP_r DC_ok fun K hK => ?_; (conv => whnf)
        refine hK _ ?_; clear hK K
        cases h
        exact Wk.refl _
      refine hK _ _ _ ?_; clear hK K
      refine HT_ret ?_
      replace h := W_some h
      refine PostP_r DC_ok fun K hK => ?_; (conv => whnf)
      refine hK _ ?_; clear hK K
      cases h
      exact Wk.refl _
    refine hK _ _ _ ?_; clear hK K
    refine HT_ret ?_
    replace h := W_some h
    refine PostP_r DC_ok fun K hK => ?_; (conv => whnf)
    refine hK _ ?_; clear hK K
    cases h
    exact Wk.refl _
  refine hK _ _ _ ?_; clear hK K
  refine HT_ret ?_
  replace h := W_some h
  refine PostP_r DC_ok fun K hK => ?_; (conv => whnf)
  refine hK _ ?_; clear hK K
  cases h
  exact Wk.refl _
end Go.Proofs.Ytgkmodjcoedonaa
namespace Go.Proofs.Ytgkmodjcoedonaa
open Go Go.Eng
set_option maxRecDepth 100000
def recap (E : List TEdge) (c : Nat → Int) (k : Nat) : List TEdge := (List.range k).map fun i => ⟨(E.getD i default).From, (E.getD i default).To, c i⟩
theorem recap_s (E : List TEdge) (c : Nat → Int) (k : Nat) : recap E c (k + 1) = recap E c k ++ [⟨(E.getD k default).From, (E.getD k default).To, c k⟩] := by simp [recap, List.range_succ]
theorem recap_len (E : List TEdge) (c : Nat → Int) (k : Nat) : (recap E c k).length = k := by simp [recap]
theorem recap_self (E : List TEdge) : recap E (fun i => (E.getD i default).Capacity) E.length = E := by
  refine List.ext_getElem (by simp [recap]) fun i h1 h2 => ?_
  simp [recap, h2]
theorem recap_mul (E : List TEdge) (c : Nat → Int) (m : Int) (S : Nat → Bool) : ∀ k, cutE (recap E (fun i => c i * m) k) S = m * cutE (recap E c k) S
  | 0 => by simp [recap, cutE]
  | k + 1 => by
    rw [recap_s, recap_s, cutE_app, cutE_app, recap_mul E c m S k, Int.mul_add]
    congr 1
    simp only [cutE]
    split
    · rw [Int.mul_add, Int.mul_comm]; simp
    · simp
theorem recap_add (E : List TEdge) (c d : Nat → Int) (S : Nat → Bool) : ∀ k, cutE (recap E (fun i => c i + d i) k) S = cutE (recap E c k) S + cutE (recap E d k) S
  | 0 => by simp [recap, cutE]
  | k + 1 => by
    rw [recap_s, recap_s, recap_s, cutE_app, cutE_app, cutE_app, recap_add E c d S k]
    simp only [cutE]
    split <;> omega
theorem recap_nv {n : TNet} (hn : NV n) {c : Nat → Int} (hc : ∀ i, i < n.Edges.length → 0 ≤ c i ∧ c i ≤ 10000) : NV ⟨n.N, recap n.Edges c n.Edges.length⟩ where
  nn := hn.nn
  el := by simp only [recap_len]; exact hn.el
  ev e he := by
    simp only [recap, List.mem_map, List.mem_range] at he
    obtain ⟨i, hi, rfl⟩ := he
    have := hn.ev _ (by rw [getD_ltD hi]; exact List.getElem_mem hi : n.Edges.getD i default ∈ n.Edges)
    exact ⟨this.fr, this.to, this.ne, hc i hi⟩
def other (l : List Int) (i : Nat) : Int := if i < l.length then pickZ (l.getD i default) 20 else 0
theorem other_bd (l : List Int) (i : Nat) : 0 ≤ other l i ∧ other l i ≤ 19 := by
  unfold other
  split
  · have := pickZ_lt (l.getD i default) (n := 20) (by omega); omega
  · omega
theorem scales_loop {n : TNet} (hn : MN n) {l : List Int} (ol : okL okI l) {y : Int} (hy : 0 ≤ y ∧ y ≤ 49) :
    ∃ i, lp (law27_FlowScales_b1 l n y) FU (0, (⟨n.N, []⟩ : TNet), (⟨n.N, []⟩ : TNet), (⟨n.N, []⟩ : TNet)) = some (.inl (i, ⟨n.N, recap n.Edges (fun i => (n.Edges.getD i default).Capacity * (1 + y)) n.Edges.length⟩, ⟨n.N, recap n.Edges (other l) n.Edges.length⟩, ⟨n.N, recap n.Edges (fun i => (n.Edges.getD i default).Capacity + other l i) n.Edges.length⟩)) := by
  have hel := hn.el; have hN := hn.nn
  obtain ⟨s', e, h1, h2, h3, h4⟩ := lp_fold (body := law27_FlowScales_b1 l n y) (fun k z => z.1 = (k : Int) ∧ z.2.1 = ⟨n.N, recap n.Edges (fun i => (n.Edges.getD i default).Capacity * (1 + y)) k⟩ ∧ z.2.2.1 = ⟨n.N, recap n.Edges (other l) k⟩ ∧ z.2.2.2 = ⟨n.N, recap n.Edges (fun i => (n.Edges.getD i default).Capacity + other l i) k⟩) n.Edges.length (by omega)
    (fun k z hk hz => by
      obtain ⟨i, A, B, T⟩ := z
      obtain ⟨rfl, rfl, rfl, rfl⟩ := hz
      have hmem : n.Edges.getD k default ∈ n.Edges := by rw [getD_ltD hk]; exact List.getElem_mem hk
      have hcp := (hn.v.ev _ hmem).cp
      have hcp2 := hn.cp _ hmem
      have hob := other_bd l k
      unfold law27_FlowScales_b1
      simp only [cn_dec, jn_d]
      rw [if_pos (by omega), ix_n hk]
      have hmul := wr_mul 19 50 (a := (n.Edges.getD k default).Capacity) (b := 1 + y) (by omega) (by omega) (by omega) (by omega) (by omega)
      have fin : ∀ c : Int, c = other l k → ∃ s', (lt [(⟨(n.Edges.getD k default).From, (n.Edges.getD k default).To, wr ((n.Edges.getD k default).Capacity * wr (1 + y))⟩ : TEdge)] fun l11 => ap (recap n.Edges (fun i => (n.Edges.getD i default).Capacity * (1 + y)) k) l11 fun l12 =>
          lt [(⟨(n.Edges.getD k default).From, (n.Edges.getD k default).To, c⟩ : TEdge)] fun l13 => ap (recap n.Edges (other l) k) l13 fun l14 =>
          lt [(⟨(n.Edges.getD k default).From, (n.Edges.getD k default).To, wr ((n.Edges.getD k default).Capacity + c)⟩ : TEdge)] fun l15 => ap (recap n.Edges (fun i => (n.Edges.getD i default).Capacity + other l i) k) l15 fun l16 =>
          (some (.nx (wr ((k : Int) + 1), (⟨n.N, l12⟩ : TNet), (⟨n.N, l14⟩ : TNet), (⟨n.N, l16⟩ : TNet))) : Option (Ct (Int × TNet × TNet × TNet) Bool))) = some (.nx s') ∧ s'.1 = ((k + 1 : Nat) : Int) ∧ s'.2.1 = ⟨n.N, recap n.Edges (fun i => (n.Edges.getD i default).Capacity * (1 + y)) (k + 1)⟩ ∧
          s'.2.2.1 = ⟨n.N, recap n.Edges (other l) (k + 1)⟩ ∧ s'.2.2.2 = ⟨n.N, recap n.Edges (fun i => (n.Edges.getD i default).Capacity + other l i) (k + 1)⟩ := fun c hc => by
        subst hc
        rw [lt_d, ap_p (by simp [recap_len]; omega), lt_d, ap_p (by simp [recap_len]; omega), lt_d, ap_p (by simp [recap_len]; omega), wr_id (x := 1 + y) (by omega) (by omega), hmul, wr_id (x := (n.Edges.getD k default).Capacity + other l k) (by omega) (by omega), wr_id (x := (k : Int) + 1) (by omega) (by omega)]
        exact ⟨_, rfl, by simp only; omega, by simp only [recap_s], by simp only [recap_s], by simp only [recap_s]⟩
      by_cases c : (k : Int) < (l.length : Int)
      · rw [if_pos c, ix_n (by omega), pick_law _ _ (okL_get ol (by omega)) (by omega), bd_s]
        exact fin _ (by unfold other; rw [if_pos (by omega)])
      · rw [if_neg c]
        exact fin _ (by unfold other; rw [if_neg (by omega)]))
    (fun z hz => by
      obtain ⟨i, A, B, T⟩ := z
      obtain ⟨rfl, _⟩ := hz
      unfold law27_FlowScales_b1
      simp only [cn_dec]
      rw [if_neg (by omega)])
    (0, ⟨n.N, []⟩, ⟨n.N, []⟩, ⟨n.N, []⟩) ⟨rfl, by simp [recap], by simp [recap], by simp [recap]⟩
  obtain ⟨i, A, B, T⟩ := s'
  simp only at h2 h3 h4
  subst h2 h3 h4
  exact ⟨i, e⟩
theorem maxv_bd {n : TNet} (hn : MN n) {s t : Nat} {v : Int} {C : Nat} (h : MaxV n s t v C) : 0 ≤ v ∧ v ≤ 160000 := by
  have hel := hn.el
  have := cutE_bd (E := n.Edges) (B := 10000) (by omega) (fun e he => (hn.v.ev e he).cp.2) C.testBit
  rw [← h.eq] at this
  exact ⟨h.nn, by omega⟩
theorem plain11 (a0 : Int) (a1 : List (Int × Int × Int)) (a2 a3 a4 : Int) (a5 : List Int) (o0 : okI a0) (o1 : okL okA23 a1) (o2 : okI a2) (o3 : okI a3) (o4 : okI a4) (o5 : okL okI a5) : law27_FlowScales_F a0 a1 a2 a3 a4 a5 = some true := by
  obtain ⟨n, en, hn⟩ := made_ok a0 a1 o0 o1
  obtain ⟨s, t, ee, he⟩ := ends_ok hn o2 o3
  obtain ⟨v, C, eg, hv⟩ := greatest_ok he
  obtain ⟨p1, p2⟩ := pickZ_lt a4 (n := 50) (by omega)
  have hel := hn.el
  obtain ⟨i, el⟩ := scales_loop hn o5 (y := pickZ a4 50) ⟨by omega, by omega⟩
  have hcap : ∀ j, j < n.Edges.length → 0 ≤ (n.Edges.getD j default).Capacity ∧ (n.Edges.getD j default).Capacity ≤ 19 := fun j hj => by
    have hmem : n.Edges.getD j default ∈ n.Edges := by rw [getD_ltD hj]; exact List.getElem_mem hj
    exact ⟨(hn.v.ev _ hmem).cp.1, hn.cp _ hmem⟩
  generalize hy : pickZ a4 50 = y at p1 p2 el
  have nv1 := recap_nv hn.v (c := fun i => (n.Edges.getD i default).Capacity * (1 + y)) fun j hj => by
    have := hcap j hj
    have h1 : 0 ≤ (n.Edges.getD j default).Capacity * (1 + y) := Int.mul_nonneg this.1 (by omega)
    have h2 := mul_bd (a := (n.Edges.getD j default).Capacity) (b := 1 + y) (A := 19) (B := 50) (by omega) (by omega) (by omega) (by omega)
    exact ⟨h1, by omega⟩
  have nv2 := recap_nv hn.v (c := other a5) fun j hj => by have := other_bd a5 j; omega
  have nv3 := recap_nv hn.v (c := fun i => (n.Edges.getD i default).Capacity + other a5 i) fun j hj => by have := other_bd a5 j; have := hcap j hj; omega
  obtain ⟨v1, C1, eg1, hv1⟩ := greatest_ok (s := s) (t := t) ⟨nv1, he.hs, he.ht, he.ne⟩
  obtain ⟨v2, C2, eg2, hv2⟩ := greatest_ok (s := s) (t := t) ⟨nv2, he.hs, he.ht, he.ne⟩
  obtain ⟨v3, C3, eg3, hv3⟩ := greatest_ok (s := s) (t := t) ⟨nv3, he.hs, he.ht, he.ne⟩
  have hc1 : ∀ S, cutE (recap n.Edges (fun i => (n.Edges.getD i default).Capacity * (1 + y)) n.Edges.length) S = (1 + y) * cutE n.Edges S := fun S => by rw [recap_mul, recap_self]
  have hc3 : ∀ S, cutE (recap n.Edges (fun i => (n.Edges.getD i default).Capacity + other a5 i) n.Edges.length) S = cutE n.Edges S + cutE (recap n.Edges (other a5) n.Edges.length) S := fun S => by rw [recap_add, recap_self]
  have e1 : (1 + y) * v = v1 ∧ C = C1 := by
    refine MaxV.uniq (n := ⟨n.N, recap n.Edges (fun i => (n.Edges.getD i default).Capacity * (1 + y)) n.Edges.length⟩) (s := s) (t := t) ⟨hv.lt, hv.cs, hv.ct, by simp only [hc1]; rw [← hv.eq], fun S h1 h2 => ?_, fun S h1 h2 h3 => ?_, Int.mul_nonneg (by omega) hv.nn⟩ hv1
    · simp only [hc1]; exact Int.mul_le_mul_of_nonneg_left (hv.le S h1 h2) (by omega)
    · simp only [hc1] at h3
      exact hv.mn S h1 h2 (Int.eq_of_mul_eq_mul_left (by omega) h3)
  obtain ⟨e1, e2⟩ := e1
  have e3 : v + v2 ≤ v3 := by
    rw [hv3.eq]
    simp only [hc3]
    have h1 := hv.le _ hv3.cs hv3.ct
    have h2 := hv2.le _ hv3.cs hv3.ct
    simp only at h2
    omega
  have b0 := maxv_bd hn hv
  have b2 : 0 ≤ v2 ∧ v2 ≤ 160000 := by
    have h2 := cutE_bd (E := recap n.Edges (other a5) n.Edges.length) (B := 10000) (by omega) (fun e he => (nv2.ev e he).cp.2) C2.testBit
    have h3 := hv2.eq
    simp only at h3
    rw [← h3, recap_len] at h2
    exact ⟨hv2.nn, by omega⟩
  subst e1 e2
  unfold law27_FlowScales_F
  rw [sane_ok, bd_s, Bool.not_true, cn_f, en, bd_s, ee, bd_s, pick_law _ _ o4 (by omega), bd_s, hy, el, bd_s, smK_l]
  simp only
  rw [eg, bd_s, eg1, bd_s, eg2, bd_s, eg3, bd_s]
  simp only [jn_d, cn_t]
  rw [wr_id (x := 1 + y) (by omega) (by omega), wr_mul 50 160000 (by omega) (by omega) (by omega) (by omega) (by omega), wr_id (x := v + v2) (by omega) (by omega)]
  simp only [beq_self_eq_true, cn_t]
  rw [decide_eq_true e3]
end Go.Proofs.Ytgkmodjcoedonaa
