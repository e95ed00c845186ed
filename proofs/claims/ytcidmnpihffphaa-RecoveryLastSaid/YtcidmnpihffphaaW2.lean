import Derived.Test.YtcidmnpihffphaaW1
namespace Go.Proofs.Ytcidmnpihffphaa
open Go Go.Eng
set_option maxHeartbeats 0
set_option maxRecDepth 100000
/-! dialtoneref34.Made -/
def ref34_Made_b1 (a0 : List (Int × Int)) (s2 : Int × Int × Int × TRegion) : Option (Ct (Int × Int × Int × TRegion) TRegion) := jn (fun p3 : Bool => cn p3 (jn (fun p5 : Int =>
    ix a0 default s2.2.2.1 fun e10 => bd (ref34_pick_F e10.2 4) fun y11 => let v12 := (imin (wr (s2.2.1 + y11)) 20); lt ([(⟨p5, v12⟩ : TGrowth)] : List TGrowth) fun l13 =>
    ap s2.2.2.2.Steps l13 fun l14 => some (.nx (p5, v12, (wr (s2.2.2.1 + 1)), (⟨l14, s2.2.2.2.Signals⟩ : TRegion)))) fun k6 => cn (decide (s2.2.2.1 >
    0)) (ix a0 default s2.2.2.1 fun e7 => bd (ref34_pick_F e7.1 8) fun y8 => let v9 := (wr ((wr (s2.1 + 1)) + y8));
    k6 v9) (k6 s2.1)) (some (.bk (s2.1, s2.2.1, s2.2.2.1, s2.2.2.2)))) fun k4 => cn (decide (s2.2.2.1 < (a0.length : Int))) (k4 (decide (s2.2.2.1 < 5))) (k4 false)
theorem W_bref34_Made_b1 {a0 : List (Int × Int)} {s2 : Int × Int × Int × TRegion} {Φ : Ct (Int × Int × Int × TRegion) TRegion → Prop} (h : W (ref34_Made_b1 a0 s2) Φ) : W (jn (fun p3 : Bool => cn p3 (jn (fun p5 : Int => ix a0 default s2.2.2.1 fun e10 => bd (ref34_pick_F e10.2 4) fun y11 => let v12 := (imin (wr (s2.2.1 + y11)) 20);
    lt ([(⟨p5, v12⟩ : TGrowth)] : List TGrowth) fun l13 => ap s2.2.2.2.Steps l13 fun l14 => some (.nx (p5, v12, (wr (s2.2.2.1 + 1)), (⟨l14, s2.2.2.2.Signals⟩ : TRegion)))) fun k6 =>
    cn (decide (s2.2.2.1 > 0)) (ix a0 default s2.2.2.1 fun e7 => bd (ref34_pick_F e7.1 8) fun y8 => let v9 := (wr ((wr (s2.1 + 1)) + y8));
    k6 v9) (k6 s2.1)) (some (.bk (s2.1, s2.2.1, s2.2.2.1, s2.2.2.2)))) fun k4 => cn (decide (s2.2.2.1 < (a0.length : Int))) (k4 (decide (s2.2.2.1 < 5))) (k4 false)) Φ := h
def ref34_Made_F (a0 : List (Int × Int)) (a1 : Int) : Option TRegion := bd (ref34_pick_F a1 12) fun y1 =>
    bd (lp (ref34_Made_b1 a0) FU (0, 0, 0, (⟨[], (wr (1 + y1))⟩ : TRegion))) fun c15 => smK c15 (fun s16 => jn (fun p18 : TRegion => some p18) fun k19 => cn (s16.2.1 ==
    0) (jn (fun p20 : Int => lt ([(⟨p20, 1⟩ : TGrowth)] : List TGrowth) fun l22 => ap s16.2.2.2.Steps l22 fun l23 => k19 (⟨l23, s16.2.2.2.Signals⟩ : TRegion)) fun k21 =>
    cn (decide ((s16.2.2.2.Steps.length : Int) > 0)) (k21 (wr (s16.1 + 1))) (k21 s16.1)) (k19 s16.2.2.2)) (fun r17 => some r17)
def ref34_Made_S : List AV → AV → Prop := fun args r => ∃ a0 a1, args = [(eL 2 eA71 default) a0, eI a1] ∧ W (ref34_Made_F a0 a1) fun y => r = (eTRegion y)
theorem ref34_Made_ok {T : Tbl} (hT : TOk Try.prog T) (hpf : PfOk T PF) (h40 : T 40 = pureR ref34_pick_S) : FOk Try.prog 14 (pureR ref34_Made_S) := by
  refine FOk_pure hT hpf Try.func14 rfl Try.ntmps14 Try.results14 (by decide) ?_
  rintro args r ⟨a0, a1, rfl, h⟩
  refine ⟨Nat.le_of_ble_eq_true rfl, ?_, ?_⟩
  · exact (loose_cons (loose_lst fun _ => (lo_A71 _)) (loose_cons (loose_int _ _) loose_nil))
  rw [ref34_Made_F.eq_1] at h
  refine HT_fr DC_ok rfl fun K hK => ?_; (conv => whnf)
  refine hK _ _ _ ?_; clear hK K
  refine HT_fr DC_ok rfl fun K hK => ?_; (conv => whnf)
  replace h := W_bd h
  refine ref34_pick_call h40 h (WkL.refl _) (fun _ h => ?_); (conv => whnf)
  refine blkK_of rfl ?_; (conv => whnf)
  refine And.intro rfl (And.intro (Nat.le_of_ble_eq_true rfl) (And.intro rfl ?_)); (conv => whnf)
  refine hK _ _ _ ?_; clear hK K
  refine HT_fr DC_ok rfl fun K hK => ?_; (conv => whnf)
  refine hK _ _ _ ?_; clear hK K
  refine HT_fr DC_ok rfl fun K hK => ?_; (conv => whnf)
  refine hK _ _ _ ?_; clear hK K
  refine HT_seq ?_
  refine HT_fr DC_ok rfl fun K hK => ?_; (conv => whnf)
  refine hK _ _ _ ?_; clear hK K
  refine HT_block ?_
  replace h := W_bd h
  refine HT_lpK (body := ref34_Made_b1 _) rfl h [0, 4, 5] [4] [5] (fun kl kh ids b s => ⟨ofL ([(6, eI s.1), (7, eI s.2.1), (8, eI s.2.2.1)] ++ kl), ofH ([(nthN ids 0, .cells [.lst (.tok (b + 0)) 2 s.2.2.2.Steps.length (fun j => eTGrowth (s.2.2.2.Steps.getD j default)), eI s.2.2.2.Signals]), (b + 0, .cells [])] ++ kh), b + 128⟩) ?_; (conv => whnf); refine And.intro ?_ (fun s m h => HT_st ?_)
  · refine weak_k ?_; (conv => whnf)
    exact And.intro rfl (And.intro (allL_c (WkR.wk (Wk.refl _) (loose_int _ _)) (allL_c (WkR.wk (Wk.refl _) (loose_int _ _)) (allL_c (WkR.wk (Wk.refl _) (loose_int _ _)) (allL_c (WkR.wk (Wk.refl _) (loose_lst fun _ => (lo_A71 _))) (allL_c (WkR.ptr (fun _ => rfl)) (allL_c (WkR.ptr (fun _ => rfl)) allL_n)))))) (allL_c ⟨some _, rfl, BkR_c rfl (CkR_cons (WkR.nil (fun _ => rfl)) (CkR_cons (WkR.wk (Wk.refl _) (loose_int _ _)) CkR_nil))⟩ (allL_c ⟨none, rfl, BkR_n⟩ (allL_c ⟨some _, rfl, BkR_c rfl (CkR_cons (WkR.wk (Wk.refl _) loose_nils) (CkR_cons (WkR.wk (Wk.refl _) (loose_int _ _)) CkR_nil))⟩ allL_n))))
  replace h := W_bref34_Made_b1 (W_bd h)
  refine HT_seq ?_
  refine HT_fr DC_ok rfl fun K hK => ?_; (conv => whnf)
  replace h := W_jn h
  refine cond_lk h (fun _ h => ?_) (fun _ h => ?_) <;> (conv => whnf)
  · refine hK _ _ _ ?_; clear hK K
    refine HT_if fun K1 K2 hK1 hK2 => ?_; (conv => whnf)
    refine cond_lk h (fun _ h => ?_) (fun _ h => ?_)
    · refine hK1 ?_; clear hK1 hK2 K1 K2
      refine HT_skip ?_
      refine Then_n ?_
      refine HT_seq ?_
      refine HT_block ?_
      refine HT_seq ?_
      refine HT_fr DC_ok rfl fun K hK => ?_; (conv => whnf)
      refine hK _ _ _ ?_; clear hK K
      replace h := W_jn h
      refine HT_if fun K1 K2 hK1 hK2 => ?_; (conv => whnf)
      refine cond_lk h (fun _ h => ?_) (fun _ h => ?_)
      · refine hK1 ?_; clear hK1 hK2 K1 K2
        refine HT_f DC_ok rfl fun K hK => ?_; (conv => whnf)
        refine ix_lk h fun _ h => ?_; (conv => whnf)
        refine And.intro (by decide) ?_; (conv => whnf)
        refine getK_of rfl ?_; (conv => whnf)
        replace h := W_bd h
        refine ref34_pick_call h40 h (WkL.refl _) (fun _ h => ?_); (conv => whnf)
        refine hK _ _ _ ?_; clear hK K
        refine Then_n ?_
        refine HT_fr DC_ok rfl fun K hK => ?_; (conv => whnf)
        refine ix_lk h fun _ h => ?_; (conv => whnf)
        refine And.intro (by decide) ?_; (conv => whnf)
        refine getK_of rfl ?_; (conv => whnf)
        replace h := W_bd h
        refine ref34_pick_call h40 h (WkL.refl _) (fun _ h => ?_); (conv => whnf)
        refine hK _ _ _ ?_; clear hK K
        refine HT_f DC_ok rfl fun K hK => ?_; (conv => whnf)
        refine And.intro (Nat.le_of_ble_eq_true rfl) ?_; (conv => whnf)
        refine blkK_of rfl ?_; (conv => whnf)
        refine getK_of rfl ?_; (conv => whnf)
        refine lt_lk (enc := eTGrowth) (d := default) DC_ok h rfl rfl rfl ⟨Nat.le_of_ble_eq_true rfl, Nat.le_of_ble_eq_true rfl, rfl⟩ rfl ⟨⟨rfl, Nat.le_of_ble_eq_true rfl⟩, trivial⟩ (fun h => ?_); (conv => whnf)
        refine ap_lk (enc := eTGrowth) (d := default) DC_ok h (.inl rfl) rfl rfl rfl ⟨rfl, Nat.le_of_ble_eq_true rfl, Nat.le_of_ble_eq_true rfl, Nat.le_of_ble_eq_true rfl, rfl⟩ (fun _ => rfl) (.inr (.inr ⟨_, _, rfl, rfl, rfl⟩)) (fun h => ?_); (conv => whnf)
        refine blkK_of rfl ?_; (conv => whnf)
        refine And.intro rfl (And.intro (Nat.le_of_ble_eq_true rfl) (And.intro rfl ?_)); (conv => whnf)
        refine hK _ _ _ ?_; clear hK K
        refine InBlock_n ?_
        refine Then_n ?_
        refine HT_f DC_ok rfl fun K hK => ?_; (conv => whnf)
        refine hK _ _ _ ?_; clear hK K
        refine Then_n ?_
        replace h := W_xnx h
        refine ⟨_, h, ?_⟩
        refine weak_k ?_; (conv => whnf)
        exact And.intro rfl (And.intro (allL_c (WkR.wk (Wk.refl _) (loose_int _ _)) (allL_c (WkR.wk (Wk.refl _) (loose_int _ _)) (allL_c (WkR.wk (Wk.refl _) (loose_int _ _)) (allL_c (WkR.wk (Wk.refl _) (loose_lst fun _ => (lo_A71 _))) (allL_c (WkR.ptr (fun _ => rfl)) (allL_c (WkR.ptr (fun _ => rfl)) allL_n)))))) (allL_c ⟨some _, rfl, BkR_c rfl (CkR_cons (WkR.tok (fun _ => rfl) rfl (fun _ _ => Wk.refl _) (fun _ => (lo_TGrowth _))) (CkR_cons (WkR.wk (Wk.refl _) (loose_int _ _)) CkR_nil))⟩ (allL_c ⟨some _, rfl, BkR_c rfl CkR_nil⟩ (allL_c ⟨some _, rfl, BkR_c rfl (CkR_cons (WkR.wk (Wk.refl _) loose_nils) (CkR_cons (WkR.wk (Wk.refl _) (loose_int _ _)) CkR_nil))⟩ allL_n))))
      refine hK2 ?_; clear hK1 hK2 K1 K2
      refine HT_skip ?_
      refine Then_n ?_
      refine HT_fr DC_ok rfl fun K hK => ?_; (conv => whnf)
      refine ix_lk h fun _ h => ?_; (conv => whnf)
      refine And.intro (by decide) ?_; (conv => whnf)
      refine getK_of rfl ?_; (conv => whnf)
      replace h := W_bd h
      refine ref34_pick_call h40 h (WkL.refl _) (fun _ h => ?_); (conv => whnf)
      refine hK _ _ _ ?_; clear hK K
      refine HT_f DC_ok rfl fun K hK => ?_; (conv => whnf)
      refine And.intro (Nat.le_of_ble_eq_true rfl) ?_; (conv => whnf)
      refine blkK_of rfl ?_; (conv => whnf)
      refine getK_of rfl ?_; (conv => whnf)
      refine lt_lk (enc := eTGrowth) (d := default) DC_ok h rfl rfl rfl ⟨Nat.le_of_ble_eq_true rfl, Nat.le_of_ble_eq_true rfl, rfl⟩ rfl ⟨⟨rfl, Nat.le_of_ble_eq_true rfl⟩, trivial⟩ (fun h => ?_); (conv => whnf)
      refine ap_lk (enc := eTGrowth) (d := default) DC_ok h (.inl rfl) rfl rfl rfl ⟨rfl, Nat.le_of_ble_eq_true rfl, Nat.le_of_ble_eq_true rfl, Nat.le_of_ble_eq_true rfl, rfl⟩ (fun _ => rfl) (.inr (.inr ⟨_, _, rfl, rfl, rfl⟩)) (fun h => ?_); (conv => whnf)
      refine blkK_of rfl ?_; (conv => whnf)
      refine And.intro rfl (And.intro (Nat.le_of_ble_eq_true rfl) (And.intro rfl ?_)); (conv => whnf)
      refine hK _ _ _ ?_; clear hK K
      refine InBlock_n ?_
      refine Then_n ?_
      refine HT_f DC_ok rfl fun K hK => ?_; (conv => whnf)
      refine hK _ _ _ ?_; clear hK K
      refine Then_n ?_
      replace h := W_xnx h
      refine ⟨_, h, ?_⟩
      refine weak_k ?_; (conv => whnf)
      exact And.intro rfl (And.intro (allL_c (WkR.wk (Wk.refl _) (loose_int _ _)) (allL_c (WkR.wk (Wk.refl _) (loose_int _ _)) (allL_c (WkR.wk (Wk.refl _) (loose_int _ _)) (allL_c (WkR.wk (Wk.refl _) (loose_lst fun _ => (lo_A71 _))) (allL_c (WkR.ptr (fun _ => rfl)) (allL_c (WkR.ptr (fun _ => rfl)) allL_n)))))) (allL_c ⟨some _, rfl, BkR_c rfl (CkR_cons (WkR.tok (fun _ => rfl) rfl (fun _ _ => Wk.refl _) (fun _ => (lo_TGrowth _))) (CkR_cons (WkR.wk (Wk.refl _) (loose_int _ _)) CkR_nil))⟩ (allL_c ⟨some _, rfl, BkR_c rfl CkR_nil⟩ (allL_c ⟨some _, rfl, BkR_c rfl (CkR_cons (WkR.wk (Wk.refl _) loose_nils) (CkR_cons (WkR.wk (Wk.refl _) (loose_int _ _)) CkR_nil))⟩ allL_n))))
    refine hK2 ?_; clear hK1 hK2 K1 K2
    refine HT_exit ?_
    refine Then_e ?_
    refine Then_e ?_
    refine InBlock_e ?_
    replace h := W_xbk h
    replace h := W_inl h
    refine Then_n ?_
    refine HT_seq ?_
    refine HT_fr DC_ok rfl fun K hK => ?_; (conv => whnf)
    refine hK _ _ _ ?_; clear hK K
    replace h := W_jn h
    refine HT_if fun K1 K2 hK1 hK2 => ?_; (conv => whnf)
    refine cond_lk h (fun _ h => ?_) (fun _ h => ?_)
    · refine hK1 ?_; clear hK1 hK2 K1 K2
      refine HT_seq ?_
      refine HT_fr DC_ok rfl fun K hK => ?_; (conv => whnf)
      refine And.intro (Nat.le_of_ble_eq_true rfl) ?_; (conv => whnf)
      refine blkK_of rfl ?_; (conv => whnf)
      refine getK_of rfl ?_; (conv => whnf)
      refine hK _ _ _ ?_; clear hK K
      replace h := W_jn h
      refine HT_if fun K1 K2 hK1 hK2 => ?_; (conv => whnf)
      refine cond_lk h (fun _ h => ?_) (fun _ h => ?_)
      · refine hK1 ?_; clear hK1 hK2 K1 K2
        refine HT_f DC_ok rfl fun K hK => ?_; (conv => whnf)
        refine hK _ _ _ ?_; clear hK K
        refine Then_n ?_
        refine HT_f DC_ok rfl fun K hK => ?_; (conv => whnf)
        refine And.intro (Nat.le_of_ble_eq_true rfl) ?_; (conv => whnf)
        refine blkK_of rfl ?_; (conv => whnf)
        refine getK_of rfl ?_; (conv => whnf)
        refine lt_lk (enc := eTGrowth) (d := default) DC_ok h rfl rfl rfl ⟨Nat.le_of_ble_eq_true rfl, Nat.le_of_ble_eq_true rfl, rfl⟩ rfl ⟨⟨rfl, Nat.le_of_ble_eq_true rfl⟩, trivial⟩ (fun h => ?_); (conv => whnf)
        refine ap_lk (enc := eTGrowth) (d := default) DC_ok h (.inl rfl) rfl rfl rfl ⟨rfl, Nat.le_of_ble_eq_true rfl, Nat.le_of_ble_eq_true rfl, Nat.le_of_ble_eq_true rfl, rfl⟩ (fun _ => rfl) (.inr (.inr ⟨_, _, rfl, rfl, rfl⟩)) (fun h => ?_); (conv => whnf)
        refine blkK_of rfl ?_; (conv => whnf)
        refine And.intro rfl (And.intro (Nat.le_of_ble_eq_true rfl) (And.intro rfl ?_)); (conv => whnf)
        refine hK _ _ _ ?_; clear hK K
        refine Then_n ?_
        refine HT_fr DC_ok rfl fun K hK => ?_; (conv => whnf)
        refine And.intro (Nat.le_of_ble_eq_true rfl) ?_; (conv => whnf)
        refine blkK_of rfl ?_; (conv => whnf)
        refine And.intro (Nat.le_of_ble_eq_true rfl) ?_; (conv => whnf)
        refine blkK_of rfl ?_; (conv => whnf)
        refine And.intro rfl (And.intro (Nat.le_of_ble_eq_true rfl) (And.intro rfl ?_)); (conv => whnf)
        refine hK _ _ _ ?_; clear hK K
        refine HT_ret ?_
        replace h := W_some h
        refine PostP_r DC_ok fun K hK => ?_; (conv => whnf)
        refine And.intro (Nat.le_of_ble_eq_true rfl) ?_; (conv => whnf)
        refine blkK_of rfl ?_; (conv => whnf)
        refine And.intro (Nat.le_of_ble_eq_true rfl) ?_; (conv => whnf)
        refine hK _ ?_; clear hK K
        cases h
        exact (Wk_agg (WkL_cons Wk_free (WkL_cons (Wk.refl _) WkL_nil)))
      refine hK2 ?_; clear hK1 hK2 K1 K2
      refine HT_skip ?_
      refine Then_n ?_
      refine HT_f DC_ok rfl fun K hK => ?_; (conv => whnf)
      refine And.intro (Nat.le_of_ble_eq_true rfl) ?_; (conv => whnf)
      refine blkK_of rfl ?_; (conv => whnf)
      refine getK_of rfl ?_; (conv => whnf)
      refine lt_lk (enc := eTGrowth) (d := default) DC_ok h rfl rfl rfl ⟨Nat.le_of_ble_eq_true rfl, Nat.le_of_ble_eq_true rfl, rfl⟩ rfl ⟨⟨rfl, Nat.le_of_ble_eq_true rfl⟩, trivial⟩ (fun h => ?_); (conv => whnf)
      refine ap_lk (enc := eTGrowth) (d := default) DC_ok h (.inl rfl) rfl rfl rfl ⟨rfl, Nat.le_of_ble_eq_true rfl, Nat.le_of_ble_eq_true rfl, Nat.le_of_ble_eq_true rfl, rfl⟩ (fun _ => rfl) (.inr (.inr ⟨_, _, rfl, rfl, rfl⟩)) (fun h => ?_); (conv => whnf)
      refine blkK_of rfl ?_; (conv => whnf)
      refine And.intro rfl (And.intro (Nat.le_of_ble_eq_true rfl) (And.intro rfl ?_)); (conv => whnf)
      refine hK _ _ _ ?_; clear hK K
      refine Then_n ?_
      refine HT_fr DC_ok rfl fun K hK => ?_; (conv => whnf)
      refine And.intro (Nat.le_of_ble_eq_true rfl) ?_; (conv => whnf)
      refine blkK_of rfl ?_; (conv => whnf)
      refine And.intro (Nat.le_of_ble_eq_true rfl) ?_; (conv => whnf)
      refine blkK_of rfl ?_; (conv => whnf)
      refine And.intro rfl (And.intro (Nat.le_of_ble_eq_true rfl) (And.intro rfl ?_)); (conv => whnf)
      refine hK _ _ _ ?_; clear hK K
      refine HT_ret ?_
      replace h := W_some h
      refine PostP_r DC_ok fun K hK => ?_; (conv => whnf)
      refine And.intro (Nat.le_of_ble_eq_true rfl) ?_; (conv => whnf)
      refine blkK_of rfl ?_; (conv => whnf)
      refine And.intro (Nat.le_of_ble_eq_true rfl) ?_; (conv => whnf)
      refine hK _ ?_; clear hK K
      cases h
      exact (Wk_agg (WkL_cons Wk_free (WkL_cons (Wk.refl _) WkL_nil)))
    refine hK2 ?_; clear hK1 hK2 K1 K2
    refine HT_skip ?_
    refine Then_n ?_
    refine HT_fr DC_ok rfl fun K hK => ?_; (conv => whnf)
    refine And.intro (Nat.le_of_ble_eq_true rfl) ?_; (conv => whnf)
    refine blkK_of rfl ?_; (conv => whnf)
    refine And.intro (Nat.le_of_ble_eq_true rfl) ?_; (conv => whnf)
    refine blkK_of rfl ?_; (conv => whnf)
    refine And.intro rfl (And.intro (Nat.le_of_ble_eq_true rfl) (And.intro rfl ?_)); (conv => whnf)
    refine hK _ _ _ ?_; clear hK K
    refine HT_ret ?_
    replace h := W_some h
    refine PostP_r DC_ok fun K hK => ?_; (conv => whnf)
    refine And.intro (Nat.le_of_ble_eq_true rfl) ?_; (conv => whnf)
    refine blkK_of rfl ?_; (conv => whnf)
    refine And.intro (Nat.le_of_ble_eq_true rfl) ?_; (conv => whnf)
    refine hK _ ?_; clear hK K
    cases h
    exact (Wk_agg (WkL_cons Wk_free (WkL_cons (Wk.refl _) WkL_nil)))
  refine hK _ _ _ ?_; clear hK K
  refine HT_if fun K1 K2 hK1 hK2 => ?_; (conv => whnf)
  refine hK2 ?_; clear hK1 hK2 K1 K2
  replace h := W_cnF h
  refine HT_exit ?_
  refine Then_e ?_
  refine Then_e ?_
  refine InBlock_e ?_
  replace h := W_xbk h
  replace h := W_inl h
  refine Then_n ?_
  refine HT_seq ?_
  refine HT_fr DC_ok rfl fun K hK => ?_; (conv => whnf)
  refine hK _ _ _ ?_; clear hK K
  replace h := W_jn h
  refine HT_if fun K1 K2 hK1 hK2 => ?_; (conv => whnf)
  refine cond_lk h (fun _ h => ?_) (fun _ h => ?_)
  · refine hK1 ?_; clear hK1 hK2 K1 K2
    refine HT_seq ?_
    refine HT_fr DC_ok rfl fun K hK => ?_; (conv => whnf)
    refine And.intro (Nat.le_of_ble_eq_true rfl) ?_; (conv => whnf)
    refine blkK_of rfl ?_; (conv => whnf)
    refine getK_of rfl ?_; (conv => whnf)
    refine hK _ _ _ ?_; clear hK K
    replace h := W_jn h
    refine HT_if fun K1 K2 hK1 hK2 => ?_; (conv => whnf)
    refine cond_lk h (fun _ h => ?_) (fun _ h => ?_)
    · refine hK1 ?_; clear hK1 hK2 K1 K2
      refine HT_f DC_ok rfl fun K hK => ?_; (conv => whnf)
      refine hK _ _ _ ?_; clear hK K
      refine Then_n ?_
      refine HT_f DC_ok rfl fun K hK => ?_; (conv => whnf)
      refine And.intro (Nat.le_of_ble_eq_true rfl) ?_; (conv => whnf)
      refine blkK_of rfl ?_; (conv => whnf)
      refine getK_of rfl ?_; (conv => whnf)
      refine lt_lk (enc := eTGrowth) (d := default) DC_ok h rfl rfl rfl ⟨Nat.le_of_ble_eq_true rfl, Nat.le_of_ble_eq_true rfl, rfl⟩ rfl ⟨⟨rfl, Nat.le_of_ble_eq_true rfl⟩, trivial⟩ (fun h => ?_); (conv => whnf)
      refine ap_lk (enc := eTGrowth) (d := default) DC_ok h (.inl rfl) rfl rfl rfl ⟨rfl, Nat.le_of_ble_eq_true rfl, Nat.le_of_ble_eq_true rfl, Nat.le_of_ble_eq_true rfl, rfl⟩ (fun _ => rfl) (.inr (.inr ⟨_, _, rfl, rfl, rfl⟩)) (fun h => ?_); (conv => whnf)
      refine blkK_of rfl ?_; (conv => whnf)
      refine And.intro rfl (And.intro (Nat.le_of_ble_eq_true rfl) (And.intro rfl ?_)); (conv => whnf)
      refine hK _ _ _ ?_; clear hK K
      refine Then_n ?_
      refine HT_fr DC_ok rfl fun K hK => ?_; (conv => whnf)
      refine And.intro (Nat.le_of_ble_eq_true rfl) ?_; (conv => whnf)
      refine blkK_of rfl ?_; (conv => whnf)
      refine And.intro (Nat.le_of_ble_eq_true rfl) ?_; (conv => whnf)
      refine blkK_of rfl ?_; (conv => whnf)
      refine And.intro rfl (And.intro (Nat.le_of_ble_eq_true rfl) (And.intro rfl ?_)); (conv => whnf)
      refine hK _ _ _ ?_; clear hK K
      refine HT_ret ?_
      replace h := W_some h
      refine PostP_r DC_ok fun K hK => ?_; (conv => whnf)
      refine And.intro (Nat.le_of_ble_eq_true rfl) ?_; (conv => whnf)
      refine blkK_of rfl ?_; (conv => whnf)
      refine And.intro (Nat.le_of_ble_eq_true rfl) ?_; (conv => whnf)
      refine hK _ ?_; clear hK K
      cases h
      exact (Wk_agg (WkL_cons Wk_free (WkL_cons (Wk.refl _) WkL_nil)))
    refine hK2 ?_; clear hK1 hK2 K1 K2
    refine HT_skip ?_
    refine Then_n ?_
    refine HT_f DC_ok rfl fun K hK => ?_; (conv => whnf)
    refine And.intro (Nat.le_of_ble_eq_true rfl) ?_; (conv => whnf)
    refine blkK_of rfl ?_; (conv => whnf)
    refine getK_of rfl ?_; (conv => whnf)
    refine lt_lk (enc := eTGrowth) (d := default) DC_ok h rfl rfl rfl ⟨Nat.le_of_ble_eq_true rfl, Nat.le_of_ble_eq_true rfl, rfl⟩ rfl ⟨⟨rfl, Nat.le_of_ble_eq_true rfl⟩, trivial⟩ (fun h => ?_); (conv => whnf)
    refine ap_lk (enc := eTGrowth) (d := default) DC_ok h (.inl rfl) rfl rfl rfl ⟨rfl, Nat.le_of_ble_eq_true rfl, Nat.le_of_ble_eq_true rfl, Nat.le_of_ble_eq_true rfl, rfl⟩ (fun _ => rfl) (.inr (.inr ⟨_, _, rfl, rfl, rfl⟩)) (fun h => ?_); (conv => whnf)
    refine blkK_of rfl ?_; (conv => whnf)
    refine And.intro rfl (And.intro (Nat.le_of_ble_eq_true rfl) (And.intro rfl ?_)); (conv => whnf)
    refine hK _ _ _ ?_; clear hK K
    refine Then_n ?_
    refine HT_fr DC_ok rfl fun K hK => ?_; (conv => whnf)
    refine And.intro (Nat.le_of_ble_eq_true rfl) ?_; (conv => whnf)
    refine blkK_of rfl ?_; (conv => whnf)
    refine And.intro (Nat.le_of_ble_eq_true rfl) ?_; (conv => whnf)
    refine blkK_of rfl ?_; (conv => whnf)
    refine And.intro rfl (And.intro (Nat.le_of_ble_eq_true rfl) (And.intro rfl ?_)); (conv => whnf)
    refine hK _ _ _ ?_; clear hK K
    refine HT_ret ?_
    replace h := W_some h
    refine PostP_r DC_ok fun K hK => ?_; (conv => whnf)
    refine And.intro (Nat.le_of_ble_eq_true rfl) ?_; (conv => whnf)
    refine blkK_of rfl ?_; (conv => whnf)
    refine And.intro (Nat.le_of_ble_eq_true rfl) ?_; (conv => whnf)
    refine hK _ ?_; clear hK K
    cases h
    exact (Wk_agg (WkL_cons Wk_free (WkL_cons (Wk.refl _) WkL_nil)))
  refine hK2 ?_; clear hK1 hK2 K1 K2
  refine HT_skip ?_
  refine Then_n ?_
  refine HT_fr DC_ok rfl fun K hK => ?_; (conv => whnf)
  refine And.intro (Nat.le_of_ble_eq_true rfl) ?_; (conv => whnf)
  refine blkK_of rfl ?_; (conv => whnf)
  refine And.intro (Nat.le_of_ble_eq_true rfl) ?_; (conv => whnf)
  refine blkK_of rfl ?_; (conv => whnf)
  refine And.intro rfl (And.intro (Nat.le_of_ble_eq_true rfl) (And.intro rfl ?_)); (conv => whnf)
  refine hK _ _ _ ?_; clear hK K
  refine HT_ret ?_
  replace h := W_some h
  refine PostP_r DC_ok fun K hK => ?_; (conv => whnf)
  refine And.intro (Nat.le_of_ble_eq_true rfl) ?_; (conv => whnf)
  refine blkK_of rfl ?_; (conv => whnf)
  refine And.intro (Nat.le_of_ble_eq_true rfl) ?_; (conv => whnf)
  refine hK _ ?_; clear hK K
  cases h
  exact (Wk_agg (WkL_cons Wk_free (WkL_cons (Wk.refl _) WkL_nil)))
theorem ref34_Made_call {T : Tbl} (hT : T 14 = pureR ref34_Made_S) {args : List AV} {hp : Heap} {id : Nat} {k : AV → Prop} {a0 : List (Int × Int)} {a1 : Int} {Φ : TRegion → Prop} (h : W (ref34_Made_F a0 a1) Φ) (hw : WkL args [(eL 2 eA71 default) a0, eI a1]) (hk : ∀ y, Φ y → k (eTRegion y)) : callpK T 14 args hp id k := by
  obtain ⟨y, e, hy⟩ := W_inv h
  exact callpK_pure hT ⟨a0, a1, rfl, W_of e rfl⟩ (by exact (lo_TRegion _)) hw (hk y hy)
/-! dialtoneref34.Attempts -/
def ref34_Attempts_b1 (a0 : List (Int × Int)) (s1 : (List TAttempt) × Int) : Option (Ct ((List TAttempt) × Int) (List TAttempt)) := jn (fun p2 : Bool =>
    cn p2 (ix a0 default s1.2 fun e4 => bd (ref34_pick_F e4.1 25) fun y5 => ix a0 default s1.2 fun e6 => bd (ref34_pick_F e6.2 6) fun y7 =>
    lt ([(⟨(Int.tmod (wr (7 * (wr (s1.2 + 1)))) 100), y5, (y7 == 5)⟩ : TAttempt)] : List TAttempt) fun l8 => ap s1.1 l8 fun l9 =>
    some (.nx (l9, (wr (s1.2 + 1))))) (some (.bk (s1.1, s1.2)))) fun k3 => cn (decide (s1.2 < (a0.length : Int))) (k3 (decide (s1.2 < 20))) (k3 false)
theorem W_bref34_Attempts_b1 {a0 : List (Int × Int)} {s1 : (List TAttempt) × Int} {Φ : Ct ((List TAttempt) × Int) (List TAttempt) → Prop} (h : W (ref34_Attempts_b1 a0 s1) Φ) : W (jn (fun p2 : Bool => cn p2 (ix a0 default s1.2 fun e4 => bd (ref34_pick_F e4.1 25) fun y5 => ix a0 default s1.2 fun e6 => bd (ref34_pick_F e6.2 6) fun y7 =>
    lt ([(⟨(Int.tmod (wr (7 * (wr (s1.2 + 1)))) 100), y5, (y7 == 5)⟩ : TAttempt)] : List TAttempt) fun l8 => ap s1.1 l8 fun l9 =>
    some (.nx (l9, (wr (s1.2 + 1))))) (some (.bk (s1.1, s1.2)))) fun k3 => cn (decide (s1.2 < (a0.length : Int))) (k3 (decide (s1.2 < 20))) (k3 false)) Φ := h
def ref34_Attempts_F (a0 : List (Int × Int)) : Option (List TAttempt) := bd (lp (ref34_Attempts_b1 a0) FU ([], 0)) fun c10 => smK c10 (fun s11 => some s11.1) (fun r12 => some r12)
def ref34_Attempts_S : List AV → AV → Prop := fun args r => ∃ a0, args = [(eL 2 eA71 default) a0] ∧ W (ref34_Attempts_F a0) fun y => r = ((eL 3 eTAttempt default) y)
theorem ref34_Attempts_ok {T : Tbl} (hT : TOk Try.prog T) (hpf : PfOk T PF) (h40 : T 40 = pureR ref34_pick_S) : FOk Try.prog 15 (pureR ref34_Attempts_S) := by
  refine FOk_pure hT hpf Try.func15 rfl Try.ntmps15 Try.results15 (by decide) ?_
  rintro args r ⟨a0, rfl, h⟩
  refine ⟨Nat.le_of_ble_eq_true rfl, ?_, ?_⟩
  · exact (loose_cons (loose_lst fun _ => (lo_A71 _)) loose_nil)
  rw [ref34_Attempts_F.eq_1] at h
  refine HT_fr DC_ok rfl fun K hK => ?_; (conv => whnf)
  refine hK _ _ _ ?_; clear hK K
  refine HT_fr DC_ok rfl fun K hK => ?_; (conv => whnf)
  refine hK _ _ _ ?_; clear hK K
  refine HT_seq ?_
  refine HT_fr DC_ok rfl fun K hK => ?_; (conv => whnf)
  refine hK _ _ _ ?_; clear hK K
  refine HT_block ?_
  replace h := W_bd h
  refine HT_lpK (body := ref34_Attempts_b1 _) rfl h [0] [] [] (fun kl kh ids b s => ⟨ofL ([(3, .lst (.tok (b + 0)) 3 s.1.length (fun j => eTAttempt (s.1.getD j default))), (4, eI s.2)] ++ kl), ofH ([(b + 0, .cells [])] ++ kh), b + 128⟩) ?_; (conv => whnf); refine And.intro ?_ (fun s m h => HT_st ?_)
  · refine weak_k ?_; (conv => whnf)
    exact And.intro rfl (And.intro (allL_c (WkR.nil (fun _ => rfl)) (allL_c (WkR.wk (Wk.refl _) (loose_int _ _)) (allL_c (WkR.wk (Wk.refl _) (loose_lst fun _ => (lo_A71 _))) allL_n))) (allL_c ⟨none, rfl, BkR_n⟩ allL_n))
  replace h := W_bref34_Attempts_b1 (W_bd h)
  refine HT_seq ?_
  refine HT_fr DC_ok rfl fun K hK => ?_; (conv => whnf)
  replace h := W_jn h
  refine cond_lk h (fun _ h => ?_) (fun _ h => ?_) <;> (conv => whnf)
  · refine hK _ _ _ ?_; clear hK K
    refine HT_if fun K1 K2 hK1 hK2 => ?_; (conv => whnf)
    refine cond_lk h (fun _ h => ?_) (fun _ h => ?_)
    · refine hK1 ?_; clear hK1 hK2 K1 K2
      refine HT_skip ?_
      refine Then_n ?_
      refine HT_seq ?_
      refine HT_block ?_
      refine HT_fD DC_ok mix_ok rfl (by kernel_rfl) fun K hK => ?_; (conv => whnf)
      refine And.intro (by decide) ?_; (conv => whnf)
      refine ix_lk h fun _ h => ?_; (conv => whnf)
      refine And.intro (by decide) ?_; (conv => whnf)
      refine getK_of rfl ?_; (conv => whnf)
      replace h := W_bd h
      refine ref34_pick_call h40 h (WkL.refl _) (fun _ h => ?_); (conv => whnf)
      refine ix_lk h fun _ h => ?_; (conv => whnf)
      refine And.intro (by decide) ?_; (conv => whnf)
      refine getK_of rfl ?_; (conv => whnf)
      replace h := W_bd h
      refine ref34_pick_call h40 h (WkL.refl _) (fun _ h => ?_); (conv => whnf)
      refine lt_lk (enc := eTAttempt) (d := default) DC_ok h rfl rfl rfl ⟨Nat.le_of_ble_eq_true rfl, Nat.le_of_ble_eq_true rfl, rfl⟩ rfl ⟨⟨rfl, Nat.le_of_ble_eq_true rfl⟩, trivial⟩ (fun h => ?_); (conv => whnf)
      refine ap_lk (enc := eTAttempt) (d := default) DC_ok h (.inl rfl) rfl rfl rfl ⟨rfl, Nat.le_of_ble_eq_true rfl, Nat.le_of_ble_eq_true rfl, Nat.le_of_ble_eq_true rfl, rfl⟩ (fun _ => rfl) (.inr (.inr ⟨_, _, rfl, rfl, rfl⟩)) (fun h => ?_); (conv => whnf)
      refine hK _ _ _ ?_; clear hK K
      refine InBlock_n ?_
      refine Then_n ?_
      refine HT_f DC_ok rfl fun K hK => ?_; (conv => whnf)
      refine hK _ _ _ ?_; clear hK K
      refine Then_n ?_
      replace h := W_xnx h
      refine ⟨_, h, ?_⟩
      refine weak_k ?_; (conv => whnf)
      exact And.intro rfl (And.intro (allL_c (WkR.tok (fun _ => rfl) rfl (fun _ _ => Wk.refl _) (fun _ => (lo_TAttempt _))) (allL_c (WkR.wk (Wk.refl _) (loose_int _ _)) (allL_c (WkR.wk (Wk.refl _) (loose_lst fun _ => (lo_A71 _))) allL_n))) (allL_c ⟨some _, rfl, BkR_c rfl CkR_nil⟩ allL_n))
    refine hK2 ?_; clear hK1 hK2 K1 K2
    refine HT_exit ?_
    refine Then_e ?_
    refine Then_e ?_
    refine InBlock_e ?_
    replace h := W_xbk h
    replace h := W_inl h
    refine Then_n ?_
    refine HT_fr DC_ok rfl fun K hK => ?_; (conv => whnf)
    refine hK _ _ _ ?_; clear hK K
    refine HT_ret ?_
    replace h := W_some h
    refine PostP_r DC_ok fun K hK => ?_; (conv => whnf)
    refine hK _ ?_; clear hK K
    cases h
    exact Wk_free
  refine hK _ _ _ ?_; clear hK K
  refine HT_if fun K1 K2 hK1 hK2 => ?_; (conv => whnf)
  refine hK2 ?_; clear hK1 hK2 K1 K2
  replace h := W_cnF h
  refine HT_exit ?_
  refine Then_e ?_
  refine Then_e ?_
  refine InBlock_e ?_
  replace h := W_xbk h
  replace h := W_inl h
  refine Then_n ?_
  refine HT_fr DC_ok rfl fun K hK => ?_; (conv => whnf)
  refine hK _ _ _ ?_; clear hK K
  refine HT_ret ?_
  replace h := W_some h
  refine PostP_r DC_ok fun K hK => ?_; (conv => whnf)
  refine hK _ ?_; clear hK K
  cases h
  exact Wk_free
theorem ref34_Attempts_call {T : Tbl} (hT : T 15 = pureR ref34_Attempts_S) {args : List AV} {hp : Heap} {id : Nat} {k : AV → Prop} {a0 : List (Int × Int)} {Φ : List TAttempt → Prop} (h : W (ref34_Attempts_F a0) Φ) (hw : WkL args [(eL 2 eA71 default) a0]) (hk : ∀ y, Φ y → k ((eL 3 eTAttempt default) y)) : callpK T 15 args hp id k := by
  obtain ⟨y, e, hy⟩ := W_inv h
  exact callpK_pure hT ⟨a0, rfl, W_of e rfl⟩ (by exact (loose_lst fun _ => (lo_TAttempt _))) hw (hk y hy)
/-! slices.Equal[[]api.Ticket,api.Ticket] -/
def slices_Equal_Ticket_b1 (a0 : List TTicket) (a1 : List TTicket) (s1 : Int) : Option (Ct Int Bool) := cn (decide (s1 < (a0.length : Int))) (ix a0 default s1 fun e2 =>
    ix a1 default s1 fun e3 => cn (!((e2.Caller == e3.Caller) && ((e2.First == e3.First) && (e2.At == e3.At)))) (some (.rt false)) (some (.nx (wr (s1 + 1))))) (some (.bk s1))
theorem W_bslices_Equal_Ticket_b1 {a0 : List TTicket} {a1 : List TTicket} {s1 : Int} {Φ : Ct Int Bool → Prop} (h : W (slices_Equal_Ticket_b1 a0 a1 s1) Φ) : W (cn (decide (s1 < (a0.length : Int))) (ix a0 default s1 fun e2 => ix a1 default s1 fun e3 => cn (!((e2.Caller == e3.Caller) && ((e2.First == e3.First) && (e2.At ==
    e3.At)))) (some (.rt false)) (some (.nx (wr (s1 + 1))))) (some (.bk s1))) Φ := h
def slices_Equal_Ticket_F (a0 : List TTicket) (a1 : List TTicket) : Option Bool := cn ((a0.length : Int) !=
    (a1.length : Int)) (some false) (bd (lp (slices_Equal_Ticket_b1 a0 a1) FU 0) fun c4 => smK c4 (fun s5 => some true) (fun r6 => some r6))
def slices_Equal_Ticket_S : List AV → AV → Prop := fun args r => ∃ a0 a1, args = [(eL 3 eTTicket default) a0, (eL 3 eTTicket default) a1] ∧ W (slices_Equal_Ticket_F a0 a1) fun y => r = (eB y)
theorem slices_Equal_Ticket_ok {T : Tbl} (hT : TOk Try.prog T) (hpf : PfOk T PF) : FOk Try.prog 51 (pureR slices_Equal_Ticket_S) := by
  refine FOk_pure hT hpf Try.func51 rfl Try.ntmps51 Try.results51 (by decide) ?_
  rintro args r ⟨a0, a1, rfl, h⟩
  refine ⟨Nat.le_of_ble_eq_true rfl, ?_, ?_⟩
  · exact (loose_cons (loose_lst fun _ => (lo_TTicket _)) (loose_cons (loose_lst fun _ => (lo_TTicket _)) loose_nil))
  rw [slices_Equal_Ticket_F.eq_1] at h
  refine HT_fr DC_ok rfl fun K hK => ?_; (conv => whnf)
  refine hK _ _ _ ?_; clear hK K
  refine HT_seq ?_
  refine HT_fr DC_ok rfl fun K hK => ?_; (conv => whnf)
  refine hK _ _ _ ?_; clear hK K
  refine HT_if fun K1 K2 hK1 hK2 => ?_; (conv => whnf)
  refine cond_lk h (fun _ h => ?_) (fun _ h => ?_)
  · refine hK1 ?_; clear hK1 hK2 K1 K2
    refine HT_fr DC_ok rfl fun K hK => ?_; (conv => whnf)
    refine hK _ _ _ ?_; clear hK K
    refine HT_ret ?_
    refine Then_r ?_
    replace h := W_some h
    refine PostP_r DC_ok fun K hK => ?_; (conv => whnf)
    refine hK _ ?_; clear hK K
    cases h
    exact Wk.refl _
  refine hK2 ?_; clear hK1 hK2 K1 K2
  refine HT_skip ?_
  refine Then_n ?_
  refine HT_seq ?_
  refine HT_fr DC_ok rfl fun K hK => ?_; (conv => whnf)
  refine hK _ _ _ ?_; clear hK K
  refine HT_block ?_
  replace h := W_bd h
  refine HT_lpK (body := slices_Equal_Ticket_b1 _ _) rfl h [0, 1, 12] [] [] (fun kl kh ids b s => ⟨ofL ([(13, eI s)] ++ kl), ofH ([] ++ kh), b + 64⟩) ?_; (conv => whnf); refine And.intro ?_ (fun s m h => HT_st ?_)
  · refine weak_k ?_; (conv => whnf)
    exact And.intro rfl (And.intro (allL_c (WkR.wk (Wk.refl _) (loose_int _ _)) (allL_c (WkR.wk (Wk.refl _) (loose_lst fun _ => (lo_TTicket _))) (allL_c (WkR.wk (Wk.refl _) (loose_lst fun _ => (lo_TTicket _))) (allL_c (WkR.wk (Wk.refl _) (loose_int _ _)) allL_n)))) allL_n)
  replace h := W_bslices_Equal_Ticket_b1 (W_bd h)
  refine HT_fr DC_ok rfl fun K hK => ?_; (conv => whnf)
  refine hK _ _ _ ?_; clear hK K
  refine HT_seq ?_
  refine HT_if fun K1 K2 hK1 hK2 => ?_; (conv => whnf)
  refine cond_lk h (fun _ h => ?_) (fun _ h => ?_)
  · refine hK1 ?_; clear hK1 hK2 K1 K2
    refine HT_skip ?_
    refine Then_n ?_
    refine HT_seq ?_
    refine HT_block ?_
    refine HT_fr DC_ok rfl fun K hK => ?_; (conv => whnf)
    refine hK _ _ _ ?_; clear hK K
    refine HT_fd DC_ok mix_ok rfl (by kernel_rfl) fun K hK => ?_; (conv => whnf)
    refine ix_lk h fun _ h => ?_; (conv => whnf)
    refine And.intro (Nat.le_of_ble_eq_true rfl) ?_; (conv => whnf)
    refine ix_lk h fun _ h => ?_; (conv => whnf)
    refine And.intro (Nat.le_of_ble_eq_true rfl) ?_; (conv => whnf)
    refine eqK_n (eqv53 _ _ _ _ _ _) ?_; (conv => whnf)
    refine hK _ _ _ ?_; clear hK K
    refine HT_if fun K1 K2 hK1 hK2 => ?_; (conv => whnf)
    refine cond_lk h (fun _ h => ?_) (fun _ h => ?_)
    · refine hK1 ?_; clear hK1 hK2 K1 K2
      refine HT_fr DC_ok rfl fun K hK => ?_; (conv => whnf)
      refine hK _ _ _ ?_; clear hK K
      refine HT_ret ?_
      refine InBlock_r ?_
      refine Then_r ?_
      refine Then_r ?_
      refine InBlock_r ?_
      refine Then_r ?_
      replace h := W_xrt h
      replace h := W_inr h
      replace h := W_some h
      refine PostP_r DC_ok fun K hK => ?_; (conv => whnf)
      refine hK _ ?_; clear hK K
      cases h
      exact Wk.refl _
    refine hK2 ?_; clear hK1 hK2 K1 K2
    refine HT_skip ?_
    refine InBlock_n ?_
    refine Then_n ?_
    refine HT_f DC_ok rfl fun K hK => ?_; (conv => whnf)
    refine hK _ _ _ ?_; clear hK K
    refine Then_n ?_
    replace h := W_xnx h
    refine ⟨_, h, ?_⟩
    refine weak_k ?_; (conv => whnf)
    exact And.intro rfl (And.intro (allL_c (WkR.wk (Wk.refl _) (loose_int _ _)) (allL_c (WkR.wk (Wk.refl _) (loose_lst fun _ => (lo_TTicket _))) (allL_c (WkR.wk (Wk.refl _) (loose_lst fun _ => (lo_TTicket _))) (allL_c (WkR.wk (Wk.refl _) (loose_int _ _)) allL_n)))) allL_n)
  refine hK2 ?_; clear hK1 hK2 K1 K2
  refine HT_exit ?_
  refine Then_e ?_
  refine Then_e ?_
  refine InBlock_e ?_
  replace h := W_xbk h
  replace h := W_inl h
  refine Then_n ?_
  refine HT_fr DC_ok rfl fun K hK => ?_; (conv => whnf)
  refine hK _ _ _ ?_; clear hK K
  refine HT_ret ?_
  replace h := W_some h
  refine PostP_r DC_ok fun K hK => ?_; (conv => whnf)
  refine hK _ ?_; clear hK K
  cases h
  exact Wk.refl _
theorem slices_Equal_Ticket_call {T : Tbl} (hT : T 51 = pureR slices_Equal_Ticket_S) {args : List AV} {hp : Heap} {id : Nat} {k : AV → Prop} {a0 : List TTicket} {a1 : List TTicket} {Φ : Bool → Prop} (h : W (slices_Equal_Ticket_F a0 a1) Φ) (hw : WkL args [(eL 3 eTTicket default) a0, (eL 3 eTTicket default) a1]) (hk : ∀ y, Φ y → k (eB y)) : callpK T 51 args hp id k := by
  obtain ⟨y, e, hy⟩ := W_inv h
  exact callpK_pure hT ⟨a0, a1, rfl, W_of e rfl⟩ (by exact (loose_bool _)) hw (hk y hy)
/-! dialtoneref34.Ordered -/
def ref34_Ordered_b2 (a0 : List TAttempt) (s1 : (List TAttempt) × Int) (s2 : Int) : Option (Ct Int (List TAttempt)) := jn (fun p3 : Bool =>
    cn p3 (some (.nx (wr (s2 - 1)))) (some (.bk s2))) fun k4 => cn (decide (s2 > 0)) (ix a0 default s1.2 fun e5 => ix s1.1 default (wr (s2 - 1)) fun e6 =>
    bd (ref34_Before_F e5 e6) fun y7 => k4 y7) (k4 false)
theorem W_bref34_Ordered_b2 {a0 : List TAttempt} {s1 : (List TAttempt) × Int} {s2 : Int} {Φ : Ct Int (List TAttempt) → Prop} (h : W (ref34_Ordered_b2 a0 s1 s2) Φ) : W (jn (fun p3 : Bool => cn p3 (some (.nx (wr (s2 - 1)))) (some (.bk s2))) fun k4 => cn (decide (s2 > 0)) (ix a0 default s1.2 fun e5 => ix s1.1 default (wr (s2 - 1)) fun e6 =>
    bd (ref34_Before_F e5 e6) fun y7 => k4 y7) (k4 false)) Φ := h
def ref34_Ordered_b1 (a0 : List TAttempt) (s1 : (List TAttempt) × Int) : Option (Ct ((List TAttempt) × Int) (List TAttempt)) :=
    cn (decide (s1.2 < (a0.length : Int))) (bd (lp (ref34_Ordered_b2 a0 s1) FU (s1.1.length : Int)) fun c8 => smK c8 (fun s9 => slc s1.1 0 s9 fun l11 =>
    ix a0 default s1.2 fun e12 => lt ([e12] : List TAttempt) fun l13 => slc s1.1 s9 (s1.1.length : Int) fun l14 => ap l13 l14 fun l15 => ap l11 l15 fun l16 =>
    some (.nx (l16, (wr (s1.2 + 1))))) (fun r10 => some (.rt r10))) (some (.bk (s1.1, s1.2)))
theorem W_bref34_Ordered_b1 {a0 : List TAttempt} {s1 : (List TAttempt) × Int} {Φ : Ct ((List TAttempt) × Int) (List TAttempt) → Prop} (h : W (ref34_Ordered_b1 a0 s1) Φ) : W (cn (decide (s1.2 < (a0.length : Int))) (bd (lp (ref34_Ordered_b2 a0 s1) FU (s1.1.length : Int)) fun c8 => smK c8 (fun s9 => slc s1.1 0 s9 fun l11 => ix a0 default s1.2 fun e12 =>
    lt ([e12] : List TAttempt) fun l13 => slc s1.1 s9 (s1.1.length : Int) fun l14 => ap l13 l14 fun l15 => ap l11 l15 fun l16 => some (.nx (l16, (wr (s1.2 + 1))))) (fun r10 =>
    some (.rt r10))) (some (.bk (s1.1, s1.2)))) Φ := h
def ref34_Ordered_F (a0 : List TAttempt) : Option (List TAttempt) := bd (lp (ref34_Ordered_b1 a0) FU ([], 0)) fun c17 => smK c17 (fun s18 => some s18.1) (fun r19 => some r19)
def ref34_Ordered_S : List AV → AV → Prop := fun args r => ∃ a0, args = [(eL 3 eTAttempt default) a0] ∧ W (ref34_Ordered_F a0) fun y => r = ((eL 3 eTAttempt default) y)
theorem ref34_Ordered_ok {T : Tbl} (hT : TOk Try.prog T) (hpf : PfOk T PF) (h52 : T 52 = pureR ref34_Before_S) : FOk Try.prog 38 (pureR ref34_Ordered_S) := by
  refine FOk_pure hT hpf Try.func38 rfl Try.ntmps38 Try.results38 (by decide) ?_
  rintro args r ⟨a0, rfl, h⟩
  refine ⟨Nat.le_of_ble_eq_true rfl, ?_, ?_⟩
  · exact (loose_cons (loose_lst fun _ => (lo_TAttempt _)) loose_nil)
  rw [ref34_Ordered_F.eq_1] at h
  refine HT_fr DC_ok rfl fun K hK => ?_; (conv => whnf)
  refine hK _ _ _ ?_; clear hK K
  refine HT_fr DC_ok rfl fun K hK => ?_; (conv => whnf)
  refine hK _ _ _ ?_; clear hK K
  refine HT_seq ?_
  refine HT_fr DC_ok rfl fun K hK => ?_; (conv => whnf)
  refine hK _ _ _ ?_; clear hK K
  refine HT_block ?_
  replace h := W_bd h
  refine HT_lpK (body := ref34_Ordered_b1 _) rfl h [0] [] [] (fun kl kh ids b s => ⟨ofL ([(3, .lst (.tok (b + 0)) 3 s.1.length (fun j => eTAttempt (s.1.getD j default))), (4, eI s.2)] ++ kl), ofH ([(b + 0, .cells [])] ++ kh), b + 128⟩) ?_; (conv => whnf); refine And.intro ?_ (fun s m h => HT_st ?_)
  · refine weak_k ?_; (conv => whnf)
    exact And.intro rfl (And.intro (allL_c (WkR.nil (fun _ => rfl)) (allL_c (WkR.wk (Wk.refl _) (loose_int _ _)) (allL_c (WkR.wk (Wk.refl _) (loose_lst fun _ => (lo_TAttempt _))) allL_n))) (allL_c ⟨none, rfl, BkR_n⟩ allL_n))
  replace h := W_bref34_Ordered_b1 (W_bd h)
  refine HT_seq ?_
  refine HT_fr DC_ok rfl fun K hK => ?_; (conv => whnf)
  refine hK _ _ _ ?_; clear hK K
  refine HT_if fun K1 K2 hK1 hK2 => ?_; (conv => whnf)
  refine cond_lk h (fun _ h => ?_) (fun _ h => ?_)
  · refine hK1 ?_; clear hK1 hK2 K1 K2
    refine HT_skip ?_
    refine Then_n ?_
    refine HT_seq ?_
    refine HT_block ?_
    refine HT_fr DC_ok rfl fun K hK => ?_; (conv => whnf)
    refine hK _ _ _ ?_; clear hK K
    refine HT_seq ?_
    refine HT_block ?_
    replace h := W_bd h
    refine HT_lpK (body := ref34_Ordered_b2 _ _) rfl h [0, 3, 4] [3] [] (fun kl kh ids b s => ⟨ofL ([(5, eI s)] ++ kl), ofH ([] ++ kh), b + 64⟩) ?_; (conv => whnf); refine And.intro ?_ (fun s m h => HT_st ?_)
    · refine weak_k ?_; (conv => whnf)
      exact And.intro rfl (And.intro (allL_c (WkR.wk (Wk.refl _) (loose_int _ _)) (allL_c (WkR.wk (Wk.refl _) (loose_lst fun _ => (lo_TAttempt _))) (allL_c (WkR.tok (fun _ => rfl) rfl (fun _ _ => Wk.refl _) (fun _ => (lo_TAttempt _))) (allL_c (WkR.wk (Wk.refl _) (loose_int _ _)) allL_n)))) (allL_c ⟨some _, rfl, BkR_c rfl CkR_nil⟩ allL_n))
    replace h := W_bref34_Ordered_b2 (W_bd h)
    refine HT_seq ?_
    refine HT_fd DC_ok mix_ok rfl (by kernel_rfl) fun K hK => ?_; (conv => whnf)
    replace h := W_jn h
    refine cond_lk h (fun _ h => ?_) (fun _ h => ?_) <;> (conv => whnf)
    · refine ix_lk h fun _ h => ?_; (conv => whnf)
      refine And.intro (Nat.le_of_ble_eq_true rfl) ?_; (conv => whnf)
      refine ix_lk h fun _ h => ?_; (conv => whnf)
      refine And.intro (Nat.le_of_ble_eq_true rfl) ?_; (conv => whnf)
      replace h := W_bd h
      refine ref34_Before_call h52 h (WkL.refl _) (fun _ h => ?_); (conv => whnf)
      refine hK _ _ _ ?_; clear hK K
      refine HT_if fun K1 K2 hK1 hK2 => ?_; (conv => whnf)
      refine cond_lk h (fun _ h => ?_) (fun _ h => ?_)
      · refine hK1 ?_; clear hK1 hK2 K1 K2
        refine HT_skip ?_
        refine Then_n ?_
        refine HT_block ?_
        refine HT_f DC_ok rfl fun K hK => ?_; (conv => whnf)
        refine hK _ _ _ ?_; clear hK K
        refine InBlock_n ?_
        refine Then_n ?_
        replace h := W_xnx h
        refine ⟨_, h, ?_⟩
        refine weak_k ?_; (conv => whnf)
        exact And.intro rfl (And.intro (allL_c (WkR.wk (Wk.refl _) (loose_int _ _)) (allL_c (WkR.wk (Wk.refl _) (loose_lst fun _ => (lo_TAttempt _))) (allL_c (WkR.tok (fun _ => rfl) rfl (fun _ _ => Wk.refl _) (fun _ => (lo_TAttempt _))) (allL_c (WkR.wk (Wk.refl _) (loose_int _ _)) allL_n)))) (allL_c ⟨some _, rfl, BkR_c rfl CkR_nil⟩ allL_n))
      refine hK2 ?_; clear hK1 hK2 K1 K2
      refine HT_exit ?_
      refine Then_e ?_
      refine Then_e ?_
      refine InBlock_e ?_
      replace h := W_xbk h
      replace h := W_inl h
      refine Then_n ?_
      refine HT_fD DC_ok mix_ok rfl (by kernel_rfl) fun K hK => ?_; (conv => whnf)
      refine sl_lk3 h (.inl ⟨rfl, rfl⟩) (fun h => ?_); (conv => whnf)
      refine ix_lk h fun _ h => ?_; (conv => whnf)
      refine And.intro (Nat.le_of_ble_eq_true rfl) ?_; (conv => whnf)
      refine lt_lk (enc := eTAttempt) (d := default) DC_ok h rfl rfl rfl ⟨Nat.le_of_ble_eq_true rfl, Nat.le_of_ble_eq_true rfl, rfl⟩ rfl ⟨⟨rfl, Nat.le_of_ble_eq_true rfl⟩, trivial⟩ (fun h => ?_); (conv => whnf)
      refine sl_lk h (.inr ⟨_, rfl⟩) (.inl ⟨rfl, rfl⟩) (fun h => ?_); (conv => whnf)
      refine apf_lk (enc := eTAttempt) (d := default) DC_ok h rfl rfl rfl ⟨rfl, Nat.le_of_ble_eq_true rfl, Nat.le_of_ble_eq_true rfl, Nat.le_of_ble_eq_true rfl, rfl⟩ (fun _ => rfl) (fun h => ?_); (conv => whnf)
      refine ap_lk (enc := eTAttempt) (d := default) DC_ok h (.inl rfl) rfl rfl rfl ⟨rfl, Nat.le_of_ble_eq_true rfl, Nat.le_of_ble_eq_true rfl, Nat.le_of_ble_eq_true rfl, rfl⟩ (fun _ => rfl) (.inr (.inl ⟨rfl, rfl⟩)) (fun h => ?_); (conv => whnf)
      refine hK _ _ _ ?_; clear hK K
      refine InBlock_n ?_
      refine Then_n ?_
      refine HT_f DC_ok rfl fun K hK => ?_; (conv => whnf)
      refine hK _ _ _ ?_; clear hK K
      refine Then_n ?_
      replace h := W_xnx h
      refine ⟨_, h, ?_⟩
      refine weak_k ?_; (conv => whnf)
      exact And.intro rfl (And.intro (allL_c (WkR.tok (fun _ => rfl) rfl (fun _ _ => Wk.refl _) (fun _ => (lo_TAttempt _))) (allL_c (WkR.wk (Wk.refl _) (loose_int _ _)) (allL_c (WkR.wk (Wk.refl _) (loose_lst fun _ => (lo_TAttempt _))) allL_n))) (allL_c ⟨some _, rfl, BkR_c rfl CkR_nil⟩ allL_n))
    refine hK _ _ _ ?_; clear hK K
    refine HT_if fun K1 K2 hK1 hK2 => ?_; (conv => whnf)
    refine hK2 ?_; clear hK1 hK2 K1 K2
    replace h := W_cnF h
    refine HT_exit ?_
    refine Then_e ?_
    refine Then_e ?_
    refine InBlock_e ?_
    replace h := W_xbk h
    replace h := W_inl h
    refine Then_n ?_
    refine HT_fD DC_ok mix_ok rfl (by kernel_rfl) fun K hK => ?_; (conv => whnf)
    refine sl_lk3 h (.inl ⟨rfl, rfl⟩) (fun h => ?_); (conv => whnf)
    refine ix_lk h fun _ h => ?_; (conv => whnf)
    refine And.intro (Nat.le_of_ble_eq_true rfl) ?_; (conv => whnf)
    refine lt_lk (enc := eTAttempt) (d := default) DC_ok h rfl rfl rfl ⟨Nat.le_of_ble_eq_true rfl, Nat.le_of_ble_eq_true rfl, rfl⟩ rfl ⟨⟨rfl, Nat.le_of_ble_eq_true rfl⟩, trivial⟩ (fun h => ?_); (conv => whnf)
    refine sl_lk h (.inr ⟨_, rfl⟩) (.inl ⟨rfl, rfl⟩) (fun h => ?_); (conv => whnf)
    refine apf_lk (enc := eTAttempt) (d := default) DC_ok h rfl rfl rfl ⟨rfl, Nat.le_of_ble_eq_true rfl, Nat.le_of_ble_eq_true rfl, Nat.le_of_ble_eq_true rfl, rfl⟩ (fun _ => rfl) (fun h => ?_); (conv => whnf)
    refine ap_lk (enc := eTAttempt) (d := default) DC_ok h (.inl rfl) rfl rfl rfl ⟨rfl, Nat.le_of_ble_eq_true rfl, Nat.le_of_ble_eq_true rfl, Nat.le_of_ble_eq_true rfl, rfl⟩ (fun _ => rfl) (.inr (.inl ⟨rfl, rfl⟩)) (fun h => ?_); (conv => whnf)
    refine hK _ _ _ ?_; clear hK K
    refine InBlock_n ?_
    refine Then_n ?_
    refine HT_f DC_ok rfl fun K hK => ?_; (conv => whnf)
    refine hK _ _ _ ?_; clear hK K
    refine Then_n ?_
    replace h := W_xnx h
    refine ⟨_, h, ?_⟩
    refine weak_k ?_; (conv => whnf)
    exact And.intro rfl (And.intro (allL_c (WkR.tok (fun _ => rfl) rfl (fun _ _ => Wk.refl _) (fun _ => (lo_TAttempt _))) (allL_c (WkR.wk (Wk.refl _) (loose_int _ _)) (allL_c (WkR.wk (Wk.refl _) (loose_lst fun _ => (lo_TAttempt _))) allL_n))) (allL_c ⟨some _, rfl, BkR_c rfl CkR_nil⟩ allL_n))
  refine hK2 ?_; clear hK1 hK2 K1 K2
  refine HT_exit ?_
  refine Then_e ?_
  refine Then_e ?_
  refine InBlock_e ?_
  replace h := W_xbk h
  replace h := W_inl h
  refine Then_n ?_
  refine HT_fr DC_ok rfl fun K hK => ?_; (conv => whnf)
  refine hK _ _ _ ?_; clear hK K
  refine HT_ret ?_
  replace h := W_some h
  refine PostP_r DC_ok fun K hK => ?_; (conv => whnf)
  refine hK _ ?_; clear hK K
  cases h
  exact Wk_free
theorem ref34_Ordered_call {T : Tbl} (hT : T 38 = pureR ref34_Ordered_S) {args : List AV} {hp : Heap} {id : Nat} {k : AV → Prop} {a0 : List TAttempt} {Φ : List TAttempt → Prop} (h : W (ref34_Ordered_F a0) Φ) (hw : WkL args [(eL 3 eTAttempt default) a0]) (hk : ∀ y, Φ y → k ((eL 3 eTAttempt default) y)) : callpK T 38 args hp id k := by
  obtain ⟨y, e, hy⟩ := W_inv h
  exact callpK_pure hT ⟨a0, rfl, W_of e rfl⟩ (by exact (loose_lst fun _ => (lo_TAttempt _))) hw (hk y hy)
/-! dialtonelaw34.example -/
def law34_example_F (a0 : Int) : Option (TRegion × (List TAttempt)) := lt ([(⟨0, 1⟩ : TGrowth), (⟨3, 2⟩ : TGrowth)] : List TGrowth) fun l1 =>
    lt ([(⟨5, 0, false⟩ : TAttempt), (⟨6, 0, false⟩ : TAttempt), (⟨7, 0, false⟩ : TAttempt), (⟨8, 1, false⟩ : TAttempt), (⟨9, 3, false⟩ : TAttempt), (⟨4, 0, true⟩ : TAttempt)] : List TAttempt) fun l2 =>
    some ((⟨l1, a0⟩ : TRegion), l2)
def law34_example_S : List AV → AV → Prop := fun args r => ∃ a0, args = [eI a0] ∧ W (law34_example_F a0) fun y => r = (.tup [eTRegion y.1, (eL 3 eTAttempt default) y.2])
theorem law34_example_ok {T : Tbl} (hT : TOk Try.prog T) (hpf : PfOk T PF) : FOk Try.prog 39 (pureR law34_example_S) := by
  refine FOk_pure hT hpf Try.func39 rfl Try.ntmps39 Try.results39 (by decide) ?_
  rintro args r ⟨a0, rfl, h⟩
  refine ⟨Nat.le_of_ble_eq_true rfl, ?_, ?_⟩
  · exact (loose_cons (loose_int _ _) loose_nil)
  rw [law34_example_F.eq_1] at h
  refine HT_fr DC_ok rfl fun K hK => ?_; (conv => whnf)
  refine hK _ _ _ ?_; clear hK K
  refine HT_fr DC_ok rfl fun K hK => ?_; (conv => whnf)
  refine lt_lk (enc := eTGrowth) (d := default) DC_ok h rfl rfl rfl ⟨Nat.le_of_ble_eq_true rfl, Nat.le_of_ble_eq_true rfl, rfl⟩ rfl ⟨⟨rfl, Nat.le_of_ble_eq_true rfl⟩, ⟨⟨rfl, Nat.le_of_ble_eq_true rfl⟩, trivial⟩⟩ (fun h => ?_); (conv => whnf)
  refine blkK_of rfl ?_; (conv => whnf)
  refine And.intro rfl (And.intro (Nat.le_of_ble_eq_true rfl) (And.intro rfl ?_)); (conv => whnf)
  refine hK _ _ _ ?_; clear hK K
  refine HT_fr DC_ok rfl fun K hK => ?_; (conv => whnf)
  refine And.intro (Nat.le_of_ble_eq_true rfl) ?_; (conv => whnf)
  refine blkK_of rfl ?_; (conv => whnf)
  refine And.intro (Nat.le_of_ble_eq_true rfl) ?_; (conv => whnf)
  refine lt_lk (enc := eTAttempt) (d := default) DC_ok h rfl rfl rfl ⟨Nat.le_of_ble_eq_true rfl, Nat.le_of_ble_eq_true rfl, rfl⟩ rfl ⟨⟨rfl, Nat.le_of_ble_eq_true rfl⟩, ⟨⟨rfl, Nat.le_of_ble_eq_true rfl⟩, ⟨⟨rfl, Nat.le_of_ble_eq_true rfl⟩, ⟨⟨rfl, Nat.le_of_ble_eq_true rfl⟩, ⟨⟨rfl, Nat.le_of_ble_eq_true rfl⟩, ⟨⟨rfl, Nat.le_of_ble_eq_true rfl⟩, trivial⟩⟩⟩⟩⟩⟩ (fun h => ?_); (conv => whnf)
  refine blkK_of rfl ?_; (conv => whnf)
  refine And.intro rfl (And.intro (Nat.le_of_ble_eq_true rfl) (And.intro rfl ?_)); (conv => whnf)
  refine hK _ _ _ ?_; clear hK K
  refine HT_ret ?_
  replace h := W_some h
  refine PostP_r DC_ok fun K hK => ?_; (conv => whnf)
  refine And.intro (Nat.le_of_ble_eq_true rfl) ?_; (conv => whnf)
  refine blkK_of rfl ?_; (conv => whnf)
  refine And.intro (Nat.le_of_ble_eq_true rfl) ?_; (conv => whnf)
  refine hK _ ?_; clear hK K
  cases h
  exact Wk_tup (WkL_cons (Wk_agg (WkL_cons Wk_free (WkL_cons (Wk.refl _) WkL_nil))) (WkL_cons Wk_free WkL_nil))
theorem law34_example_call {T : Tbl} (hT : T 39 = pureR law34_example_S) {args : List AV} {hp : Heap} {id : Nat} {k : AV → Prop} {a0 : Int} {Φ : TRegion × (List TAttempt) → Prop} (h : W (law34_example_F a0) Φ) (hw : WkL args [eI a0]) (hk : ∀ y, Φ y → k (.tup [eTRegion y.1, (eL 3 eTAttempt default) y.2])) : callpK T 39 args hp id k := by
  obtain ⟨y, e, hy⟩ := W_inv h
  exact callpK_pure hT ⟨a0, rfl, W_of e rfl⟩ (by exact loose_tup (loose_cons (lo_TRegion _) (loose_cons (loose_lst fun _ => (lo_TAttempt _)) loose_nil))) hw (hk y hy)
end Go.Proofs.Ytcidmnpihffphaa
