import Derived.Test.YtcidmnpihffphaaM7
set_option linter.unusedVariables false
set_option linter.unusedSimpArgs false
set_option linter.unusedSectionVars false
/-! V9 -/
namespace Go.Proofs.Ytcidmnpihffphaa
open Go Go.Eng
set_option maxHeartbeats 0
set_option maxRecDepth 100000
/-! dialtonelaw34.RecoveryGrows -/

    def law34_RecoveryGrows_b3 (y4 : (List TTicket) × Int) (y28 : (List TTicket) × Int) (s31 : Int) : Option (Ct Int Bool) := cn (decide (s31 < (y4.1.length : Int))) (jn (fun p32 : Bool =>
    cn p32 (some (.rt false)) (some (.nx (wr (s31 + 1))))) fun k33 => ix y28.1 default s31 fun e34 => ix y4.1 default s31 fun e35 => cn (e34.Caller !=
    e35.Caller) (k33 true) (ix y28.1 default s31 fun e36 => ix y4.1 default s31 fun e37 => k33 (decide (e36.At > e37.At)))) (some (.bk s31))
theorem W_blaw34_RecoveryGrows_b3 {y4 : (List TTicket) × Int} {y28 : (List TTicket) × Int} {s31 : Int} {Φ : Ct Int Bool → Prop} (h : W (law34_RecoveryGrows_b3 y4 y28 s31) Φ) : W (cn (decide (s31 < (y4.1.length : Int))) (jn (fun p32 : Bool => cn p32 (some (.rt false)) (some (.nx (wr (s31 + 1))))) fun k33 => ix y28.1 default s31 fun e34 =>
    ix y4.1 default s31 fun e35 => cn (e34.Caller != e35.Caller) (k33 true) (ix y28.1 default s31 fun e36 => ix y4.1 default s31 fun e37 => k33 (decide (e36.At >
    e37.At)))) (some (.bk s31))) Φ := h

    def law34_RecoveryGrows_b2 (a5 : Int) (s22 : Int × TRegion) : Option (Ct (Int × TRegion) Bool) := cn (decide (s22.1 < (s22.2.Steps.length : Int))) (gd (0 ≤ s22.1 ∧ s22.1 < (s22.2.Steps.length : Int)) (bd (law34_pick_F a5 4) fun y23 =>
    gd (0 ≤ s22.1 ∧ s22.1 < (s22.2.Steps.length : Int)) (st s22.2.Steps (s22.1) (⟨(s22.2.Steps.getD (s22.1).toNat default).From, (imin (wr (((s22.2.Steps.getD (s22.1).toNat default).Capacity) + y23)) 20)⟩ : TGrowth) fun l24 =>
    some (.nx ((wr (s22.1 + 1)), (⟨l24, s22.2.Signals⟩ : TRegion)))))) (some (.bk (s22.1, s22.2)))
theorem W_blaw34_RecoveryGrows_b2 {a5 : Int} {s22 : Int × TRegion} {Φ : Ct (Int × TRegion) Bool → Prop} (h : W (law34_RecoveryGrows_b2 a5 s22) Φ) : W (cn (decide (s22.1 < (s22.2.Steps.length : Int))) (gd (0 ≤ s22.1 ∧ s22.1 < (s22.2.Steps.length : Int)) (bd (law34_pick_F a5 4) fun y23 =>
    gd (0 ≤ s22.1 ∧ s22.1 < (s22.2.Steps.length : Int)) (st s22.2.Steps (s22.1) (⟨(s22.2.Steps.getD (s22.1).toNat default).From, (imin (wr (((s22.2.Steps.getD (s22.1).toNat default).Capacity) + y23)) 20)⟩ : TGrowth) fun l24 =>
    some (.nx ((wr (s22.1 + 1)), (⟨l24, s22.2.Signals⟩ : TRegion)))))) (some (.bk (s22.1, s22.2)))) Φ := h
def law34_RecoveryGrows_b1 (y3 : List TAttempt) (s5 : Int × Int) : Option (Ct (Int × Int) Bool) := cn (decide (s5.2 < (y3.length : Int))) (ix y3 default s5.2 fun e6 =>
    some (.nx ((imax s5.1 e6.At), (wr (s5.2 + 1))))) (some (.bk (s5.1, s5.2)))
theorem W_blaw34_RecoveryGrows_b1 {y3 : List TAttempt} {s5 : Int × Int} {Φ : Ct (Int × Int) Bool → Prop} (h : W (law34_RecoveryGrows_b1 y3 s5) Φ) : W (cn (decide (s5.2 < (y3.length : Int))) (ix y3 default s5.2 fun e6 => some (.nx ((imax s5.1 e6.At), (wr (s5.2 + 1))))) (some (.bk (s5.1, s5.2)))) Φ := h
def law34_RecoveryGrows_F (a0 : List (Int × Int)) (a1 : Int) (a2 : List (Int × Int)) (a3 : Int) (a4 : Int) (a5 : Int) : Option Bool := bd (law34_sane_F ) fun y1 =>
    cn (!y1) (some false) (bd (ref34_Made_F a0 a1) fun y2 => bd (ref34_Attempts_F a2) fun y3 => bd (recovery_Plan_F y2 y3) fun y4 =>
    bd (lp (law34_RecoveryGrows_b1 y3) FU (0, 0)) fun c7 => smK c7 (fun s8 => bd (law34_pick_F a3 10) fun y10 =>
    lt ([(⟨99, (wr ((wr (s8.1 + 1)) + y10)), false⟩ : TAttempt)] : List TAttempt) fun l11 => ap l11 y3 fun l12 => bd (recovery_Plan_F y2 l12) fun y13 => jn (fun p14 : Bool =>
    cn p14 (some false) (lt ([] : List TGrowth) fun l19 => gd (y2.Steps.length ≤ 1048576) (lt y2.Steps fun l20 => bd (law34_pick_F a4 (l20.length : Int)) fun y21 =>
    bd (lp (law34_RecoveryGrows_b2 a5) FU (y21, (⟨l20, y2.Signals⟩ : TRegion))) fun c25 => smK c25 (fun s26 =>
    bd (recovery_Plan_F (⟨s26.2.Steps, s26.2.Signals⟩ : TRegion) y3) fun y28 => jn (fun p29 : Bool => cn p29 (some false) (bd (lp (law34_RecoveryGrows_b3 y4 y28) FU 0) fun c38 =>
    smK c38 (fun s39 => some y1) (fun r40 => some r40))) fun k30 => cn (y28.2 != 0) (k30 true) (k30 ((y28.1.length : Int) != (y4.1.length : Int)))) (fun r27 =>
    some r27)))) fun k15 => cn (y4.2 != 0) (k15 true) (cn (y13.2 != 0) (k15 true) (cn ((y13.1.length : Int) !=
    (wr ((y4.1.length : Int) + 1))) (k15 true) (slc y13.1 0 (y4.1.length : Int) fun l16 => bd (ref34_Same_F l16 y4.1) fun y17 =>
    cn (!y17) (k15 true) (ix y13.1 default (y4.1.length : Int) fun e18 => k15 (e18.Caller != 99)))))) (fun r9 => some r9))
def law34_RecoveryGrows_S : List AV → AV → Prop := fun args r => ∃ a0 a1 a2 a3 a4 a5, args = [(eL 2 eA71 default) a0, eI a1, (eL 2 eA71 default) a2, eI a3, eI a4, eI a5] ∧ W (law34_RecoveryGrows_F a0 a1 a2 a3 a4 a5) fun y => r = (eB y)
theorem law34_RecoveryGrows_ok {T : Tbl} (hT : TOk Try.prog T) (hpf : PfOk T PF) (h13 : T 13 = pureR law34_sane_S) (h14 : T 14 = pureR ref34_Made_S) (h15 : T 15 = pureR ref34_Attempts_S) (h18 : T 18 = pureR recovery_Plan_S) (h28 : T 28 = pureR ref34_Same_S) (h29 : T 29 = pureR law34_pick_S) : FOk Try.prog 9 (pureR law34_RecoveryGrows_S) := by
  refine FOk_pure hT hpf Try.func9 rfl Try.ntmps9 Try.results9 (by decide) ?_
  rintro args r ⟨a0, a1, a2, a3, a4, a5, rfl, h⟩
  refine ⟨Nat.le_of_ble_eq_true rfl, ?_, ?_⟩
  · exact (loose_cons (loose_lst fun _ => (lo_A71 _)) (loose_cons (loose_int _ _) (loose_cons (loose_lst fun _ => (lo_A71 _)) (loose_cons (loose_int _ _) (loose_cons (loose_int _ _) (loose_cons (loose_int _ _) loose_nil))))))
  rw [law34_RecoveryGrows_F.eq_1] at h
  refine HT_fr DC_ok rfl fun K hK => ?_; (conv => whnf)
  refine hK _ _ _ ?_; clear hK K
  refine HT_fr DC_ok rfl fun K hK => ?_; (conv => whnf)
  replace h := W_bd h
  refine law34_sane_call h13 h (WkL.refl _) (fun _ h => ?_); (conv => whnf)
  refine hK _ _ _ ?_; clear hK K
  refine HT_seq ?_
  refine HT_fr DC_ok rfl fun K hK => ?_; (conv => whnf)
  refine hK _ _ _ ?_; clear hK K
  refine HT_if fun K1 K2 hK1 hK2 => ?_; (conv => whnf)
  refine cond_lk h (fun _ h => ?_) (fun _ h => ?_)
  · refine hK1 ?_; clear hK1 hK2 K1 K2
    refine HT_fr DC_ok rfl fun K hK => ?_; (conv => whnf)
    refine hK _ _ _ ?_; clear hK K
    refine HT_ret ?_
    refine Then_r ?_
    replace h := W_some h
    refine PostP_r DC_ok fun K hK => ?_; (conv => whnf)
    refine hK _ ?_; clear hK K
    cases h
    exact Wk.refl _
  refine hK2 ?_; clear hK1 hK2 K1 K2
  refine HT_skip ?_
  refine Then_n ?_
  refine HT_fr DC_ok rfl fun K hK => ?_; (conv => whnf)
  replace h := W_bd h
  refine ref34_Made_call h14 h (WkL.refl _) (fun _ h => ?_); (conv => whnf)
  refine blkK_of rfl ?_; (conv => whnf)
  refine And.intro rfl (And.intro (Nat.le_of_ble_eq_true rfl) (And.intro rfl ?_)); (conv => whnf)
  refine hK _ _ _ ?_; clear hK K
  refine HT_fr DC_ok rfl fun K hK => ?_; (conv => whnf)
  replace h := W_bd h
  refine ref34_Attempts_call h15 h (WkL.refl _) (fun _ h => ?_); (conv => whnf)
  refine hK _ _ _ ?_; clear hK K
  refine HT_fr DC_ok rfl fun K hK => ?_; (conv => whnf)
  refine And.intro (Nat.le_of_ble_eq_true rfl) ?_; (conv => whnf)
  refine blkK_of rfl ?_; (conv => whnf)
  refine And.intro (Nat.le_of_ble_eq_true rfl) ?_; (conv => whnf)
  replace h := W_bd h
  refine recovery_Plan_call h18 h (WkL.refl _) (fun _ h => ?_); (conv => whnf)
  refine hK _ _ _ ?_; clear hK K
  refine HT_fr DC_ok rfl fun K hK => ?_; (conv => whnf)
  refine hK _ _ _ ?_; clear hK K
  refine HT_seq ?_
  refine HT_fr DC_ok rfl fun K hK => ?_; (conv => whnf)
  refine hK _ _ _ ?_; clear hK K
  refine HT_block ?_
  replace h := W_bd h
  refine HT_lpK (body := law34_RecoveryGrows_b1 _) rfl h [3, 4, 5, 13, 14, 15, 16, 17] [14] [] (fun kl kh ids b s => ⟨ofL ([(18, eI s.1), (19, eI s.2)] ++ kl), ofH ([] ++ kh), b + 64⟩) ?_; (conv => whnf); refine And.intro ?_ (fun s m h => HT_st ?_)
  · refine weak_k ?_; (conv => whnf)
    exact And.intro rfl (And.intro (allL_c (WkR.wk (Wk.refl _) (loose_int _ _)) (allL_c (WkR.wk (Wk.refl _) (loose_int _ _)) (allL_c (WkR.wk (Wk.refl _) (loose_int _ _)) (allL_c (WkR.wk (Wk.refl _) (loose_int _ _)) (allL_c (WkR.wk (Wk.refl _) (loose_int _ _)) (allL_c (WkR.wk (Wk.refl _) (loose_bool _)) (allL_c (WkR.ptr (fun _ => rfl)) (allL_c (WkR.wk (Wk.refl _) (loose_lst fun _ => (lo_TAttempt _))) (allL_c (WkR.wk (Wk.refl _) (loose_lst fun _ => (lo_TTicket _))) (allL_c (WkR.wk (Wk.refl _) (loose_int _ _)) allL_n)))))))))) (allL_c ⟨some _, rfl, BkR_c rfl (CkR_cons (WkR.wk (Wk.refl _) (loose_lst fun _ => (lo_TGrowth _))) (CkR_cons (WkR.wk (Wk.refl _) (loose_int _ _)) CkR_nil))⟩ allL_n))
  replace h := W_blaw34_RecoveryGrows_b1 (W_bd h)
  refine HT_seq ?_
  refine HT_fr DC_ok rfl fun K hK => ?_; (conv => whnf)
  refine hK _ _ _ ?_; clear hK K
  refine HT_if fun K1 K2 hK1 hK2 => ?_; (conv => whnf)
  refine cond_lk h (fun _ h => ?_) (fun _ h => ?_)
  · refine hK1 ?_; clear hK1 hK2 K1 K2
    refine HT_skip ?_
    refine Then_n ?_
    refine HT_seq ?_
    refine HT_block ?_
    refine HT_f DC_ok rfl fun K hK => ?_; (conv => whnf)
    refine ix_lk h fun _ h => ?_; (conv => whnf)
    refine getK_of rfl ?_; (conv => whnf)
    refine hK _ _ _ ?_; clear hK K
    refine InBlock_n ?_
    refine Then_n ?_
    refine HT_f DC_ok rfl fun K hK => ?_; (conv => whnf)
    refine hK _ _ _ ?_; clear hK K
    refine Then_n ?_
    replace h := W_xnx h
    refine ⟨_, h, ?_⟩
    refine weak_k ?_; (conv => whnf)
    exact And.intro rfl (And.intro (allL_c (WkR.wk (Wk.refl _) (loose_int _ _)) (allL_c (WkR.wk (Wk.refl _) (loose_int _ _)) (allL_c (WkR.wk (Wk.refl _) (loose_int _ _)) (allL_c (WkR.wk (Wk.refl _) (loose_int _ _)) (allL_c (WkR.wk (Wk.refl _) (loose_int _ _)) (allL_c (WkR.wk (Wk.refl _) (loose_bool _)) (allL_c (WkR.ptr (fun _ => rfl)) (allL_c (WkR.wk (Wk.refl _) (loose_lst fun _ => (lo_TAttempt _))) (allL_c (WkR.wk (Wk.refl _) (loose_lst fun _ => (lo_TTicket _))) (allL_c (WkR.wk (Wk.refl _) (loose_int _ _)) allL_n)))))))))) (allL_c ⟨some _, rfl, BkR_c rfl (CkR_cons (WkR.wk (Wk.refl _) (loose_lst fun _ => (lo_TGrowth _))) (CkR_cons (WkR.wk (Wk.refl _) (loose_int _ _)) CkR_nil))⟩ allL_n))
  refine hK2 ?_; clear hK1 hK2 K1 K2
  refine HT_exit ?_
  refine Then_e ?_
  refine Then_e ?_
  refine InBlock_e ?_
  replace h := W_xbk h
  replace h := W_inl h
  refine Then_n ?_
  refine HT_fd DC_ok mix_ok rfl (by kernel_rfl) fun K hK => ?_; (conv => whnf)
  refine And.intro (Nat.le_of_ble_eq_true rfl) ?_; (conv => whnf)
  refine blkK_of rfl ?_; (conv => whnf)
  refine And.intro (Nat.le_of_ble_eq_true rfl) ?_; (conv => whnf)
  replace h := W_bd h
  refine law34_pick_call h29 h (WkL.refl _) (fun _ h => ?_); (conv => whnf)
  refine lt_lk (enc := eTAttempt) (d := default) DC_ok h rfl rfl rfl ⟨Nat.le_of_ble_eq_true rfl, Nat.le_of_ble_eq_true rfl, rfl⟩ rfl ⟨⟨rfl, Nat.le_of_ble_eq_true rfl⟩, trivial⟩ (fun h => ?_); (conv => whnf)
  refine apf_lk (enc := eTAttempt) (d := default) DC_ok h rfl rfl rfl ⟨rfl, Nat.le_of_ble_eq_true rfl, Nat.le_of_ble_eq_true rfl, Nat.le_of_ble_eq_true rfl, rfl⟩ (fun _ => rfl) (fun h => ?_); (conv => whnf)
  replace h := W_bd h
  refine recovery_Plan_call h18 h (WkL_cons (Wk.refl _) (WkL_cons Wk_free WkL_nil)) (fun _ h => ?_); (conv => whnf)
  refine hK _ _ _ ?_; clear hK K
  refine HT_seq ?_
  refine HT_jnK rfl h [4, 5, 13, 14, 15, 16] [14] [] (fun kl kh ids b s => ⟨ofL ([(99, eB s)] ++ kl), ofH ([] ++ kh), b + 64⟩) ?_; (conv => whnf); refine And.intro (fun s h => HT_st ?_) (fun k h => ?_)
  · refine HT_if fun K1 K2 hK1 hK2 => ?_; (conv => whnf)
    refine cond_lk h (fun _ h => ?_) (fun _ h => ?_)
    · refine hK1 ?_; clear hK1 hK2 K1 K2
      refine HT_fr DC_ok rfl fun K hK => ?_; (conv => whnf)
      refine hK _ _ _ ?_; clear hK K
      refine HT_ret ?_
      refine Then_r ?_
      replace h := W_some h
      refine PostP_r DC_ok fun K hK => ?_; (conv => whnf)
      refine hK _ ?_; clear hK K
      cases h
      exact Wk.refl _
    refine hK2 ?_; clear hK1 hK2 K1 K2
    refine HT_skip ?_
    refine Then_n ?_
    refine HT_fd DC_ok mix_ok rfl (by kernel_rfl) fun K hK => ?_; (conv => whnf)
    refine lt_lk (enc := eTGrowth) (d := default) DC_ok h rfl rfl rfl ⟨Nat.le_of_ble_eq_true rfl, Nat.le_of_ble_eq_true rfl, rfl⟩ rfl trivial (fun h => ?_); (conv => whnf)
    refine And.intro (Nat.le_of_ble_eq_true rfl) ?_; (conv => whnf)
    refine blkK_of rfl ?_; (conv => whnf)
    refine getK_of rfl ?_; (conv => whnf)
    refine gd_lk_u h fun hg h => ?_
    replace h := W_lt h
    refine apcf_lk (enc := eTGrowth) (d := default) DC_ok rfl rfl rfl ⟨rfl, Nat.le_of_ble_eq_true rfl, Nat.le_of_ble_eq_true rfl, Nat.le_of_ble_eq_true rfl, rfl⟩ (fun _ => rfl) (fun _ => nofun) hg ?_; (conv => whnf)
    refine And.intro (Nat.le_of_ble_eq_true rfl) ?_; (conv => whnf)
    refine blkK_of rfl ?_; (conv => whnf)
    refine getK_of rfl ?_; (conv => whnf)
    refine blkK_of rfl ?_; (conv => whnf)
    refine And.intro rfl (And.intro (Nat.le_of_ble_eq_true rfl) (And.intro rfl ?_)); (conv => whnf)
    refine hK _ _ _ ?_; clear hK K
    refine HT_seq ?_
    refine HT_fr DC_ok rfl fun K hK => ?_; (conv => whnf)
    refine And.intro (Nat.le_of_ble_eq_true rfl) ?_; (conv => whnf)
    refine blkK_of rfl ?_; (conv => whnf)
    refine getK_of rfl ?_; (conv => whnf)
    replace h := W_bd h
    refine law34_pick_call h29 h (WkL.refl _) (fun _ h => ?_); (conv => whnf)
    refine hK _ _ _ ?_; clear hK K
    refine HT_block ?_
    replace h := W_bd h
    refine HT_lpR (body := law34_RecoveryGrows_b2 _) rfl h [5, 13, 15, 16, 22] [] [] [22] (fun kl kh kr ids b s => ⟨ofL ([(23, eI s.1)] ++ kl), ofH (([(nthN ids 0, .cells [.so (b + 0) 0 s.2.Steps.length 2, eI s.2.Signals])] ++ kh) ++ ([(b + 0, .cells (flE (ceE eTGrowth) s.2.Steps))] ++ kr)), b + 128⟩) ?_; (conv => whnf); refine And.intro ?_ (fun s m h => HT_st ?_)
    · refine weak_r ?_; (conv => whnf)
      exact And.intro rfl (And.intro (allL_c (WkR.wk (Wk.refl _) (loose_int _ _)) (allL_c (WkR.wk (Wk.refl _) (loose_int _ _)) (allL_c (WkR.wk (Wk.refl _) (loose_bool _)) (allL_c (WkR.wk (Wk.refl _) (loose_lst fun _ => (lo_TAttempt _))) (allL_c (WkR.wk (Wk.refl _) (loose_lst fun _ => (lo_TTicket _))) (allL_c (WkR.ptr (fun _ => rfl)) allL_n)))))) (allL_c ⟨some _, rfl, BkR_c rfl (CkR_cons (WkR.so (fun _ => rfl)) (CkR_cons (WkR.wk (Wk.refl _) (loose_int _ _)) CkR_nil))⟩ (allL_c ⟨some _, rfl, BkR_r rfl (fun _ => (loose_cons (loose_int _ _) (loose_cons (loose_int _ _) loose_nil)))⟩ allL_n)))
    replace h := W_blaw34_RecoveryGrows_b2 (W_bd h)
    refine HT_seq ?_
    refine HT_fr DC_ok rfl fun K hK => ?_; (conv => whnf)
    refine And.intro (Nat.le_of_ble_eq_true rfl) ?_; (conv => whnf)
    refine blkK_of rfl ?_; (conv => whnf)
    refine getK_of rfl ?_; (conv => whnf)
    refine hK _ _ _ ?_; clear hK K
    refine HT_if fun K1 K2 hK1 hK2 => ?_; (conv => whnf)
    refine cond_lk h (fun _ h => ?_) (fun _ h => ?_)
    · refine hK1 ?_; clear hK1 hK2 K1 K2
      refine HT_skip ?_
      refine Then_n ?_
      refine HT_seq ?_
      refine HT_block ?_
      refine HT_fD DC_ok mix_ok rfl (by kernel_rfl) fun K hK => ?_; (conv => whnf)
      refine And.intro (Nat.le_of_ble_eq_true rfl) ?_; (conv => whnf)
      refine blkK_of rfl ?_; (conv => whnf)
      refine getK_of rfl ?_; (conv => whnf)
      refine And.intro (Nat.le_of_ble_eq_true rfl) ?_; (conv => whnf)
      refine blkK_of rfl ?_; (conv => whnf)
      refine getK_of rfl ?_; (conv => whnf)
      refine gd_lkN h (rfl) fun hx45 h => ?_; (conv => whnf)
      refine And.intro (Nat.le_of_ble_eq_true rfl) ?_; (conv => whnf)
      refine blkK_of rfl ?_; (conv => whnf)
      refine get_flN (enc := eTGrowth) (d := default) (q := 1) (fun _ => rfl) (rfl) hx45 (Nat.le_of_ble_eq_true rfl) rfl ?_; (conv => whnf)
      replace h := W_bd h
      refine law34_pick_call h29 h (WkL.refl _) (fun _ h => ?_); (conv => whnf)
      refine gd_lkN h (rfl) fun hx46 h => ?_; (conv => whnf)
      refine blkK_of rfl ?_; (conv => whnf)
      refine st_lk (enc := eTGrowth) (d := default) (q := 1) h (fun _ => rfl) (rfl) hx46 rfl (Nat.le_of_ble_eq_true rfl) rfl rfl (fun h => ?_); (conv => whnf)
      refine hK _ _ _ ?_; clear hK K
      refine InBlock_n ?_
      refine Then_n ?_
      refine HT_f DC_ok rfl fun K hK => ?_; (conv => whnf)
      refine hK _ _ _ ?_; clear hK K
      refine Then_n ?_
      replace h := W_xnx h
      refine ⟨_, h, ?_⟩
      refine weak_r ?_; (conv => whnf)
      exact And.intro rfl (And.intro (allL_c (WkR.wk (Wk.refl _) (loose_int _ _)) (allL_c (WkR.wk (Wk.refl _) (loose_int _ _)) (allL_c (WkR.wk (Wk.refl _) (loose_bool _)) (allL_c (WkR.wk (Wk.refl _) (loose_lst fun _ => (lo_TAttempt _))) (allL_c (WkR.wk (Wk.refl _) (loose_lst fun _ => (lo_TTicket _))) (allL_c (WkR.ptr (fun _ => rfl)) allL_n)))))) (allL_c ⟨some _, rfl, BkR_c rfl (CkR_cons (WkR.soN (fun _ => rfl) (lenset rfl).symm) (CkR_cons (WkR.wk (Wk.refl _) (loose_int _ _)) CkR_nil))⟩ (allL_c ⟨some _, rfl, BkR_r rfl (fun _ => (loose_cons (loose_int _ _) (loose_cons (loose_int _ _) loose_nil)))⟩ allL_n)))
    refine hK2 ?_; clear hK1 hK2 K1 K2
    refine HT_exit ?_
    refine Then_e ?_
    refine Then_e ?_
    refine InBlock_e ?_
    replace h := W_xbk h
    replace h := W_inl h
    refine Then_n ?_
    refine HT_frzBK 22 0 (enc := eTGrowth) (e := 65) default (ElOk_agg DC_ok rfl rfl (fun _ => rfl) (fun _ => rfl)) ?_; (conv => whnf); refine ⟨_, _, _, nofun, rfl, rfl, rfl, rfl, ?_⟩; (conv => whnf)
    refine HT_fr DC_ok rfl fun K hK => ?_; (conv => whnf)
    refine And.intro (Nat.le_of_ble_eq_true rfl) ?_; (conv => whnf)
    refine blkK_of rfl ?_; (conv => whnf)
    refine And.intro (Nat.le_of_ble_eq_true rfl) ?_; (conv => whnf)
    replace h := W_bd h
    refine recovery_Plan_call h18 h (WkL.refl _) (fun _ h => ?_); (conv => whnf)
    refine hK _ _ _ ?_; clear hK K
    refine HT_seq ?_
    refine HT_fr DC_ok rfl fun K hK => ?_; (conv => whnf)
    replace h := W_jn h
    refine cond_lk h (fun _ h => ?_) (fun _ h => ?_) <;> (conv => whnf)
    · refine hK _ _ _ ?_; clear hK K
      refine HT_if fun K1 K2 hK1 hK2 => ?_; (conv => whnf)
      refine hK1 ?_; clear hK1 hK2 K1 K2
      replace h := W_cnT h
      refine HT_fr DC_ok rfl fun K hK => ?_; (conv => whnf)
      refine hK _ _ _ ?_; clear hK K
      refine HT_ret ?_
      refine Then_r ?_
      replace h := W_some h
      refine PostP_r DC_ok fun K hK => ?_; (conv => whnf)
      refine hK _ ?_; clear hK K
      cases h
      exact Wk.refl _
    refine hK _ _ _ ?_; clear hK K
    refine HT_if fun K1 K2 hK1 hK2 => ?_; (conv => whnf)
    refine cond_lk h (fun _ h => ?_) (fun _ h => ?_)
    · refine hK1 ?_; clear hK1 hK2 K1 K2
      refine HT_fr DC_ok rfl fun K hK => ?_; (conv => whnf)
      refine hK _ _ _ ?_; clear hK K
      refine HT_ret ?_
      refine Then_r ?_
      replace h := W_some h
      refine PostP_r DC_ok fun K hK => ?_; (conv => whnf)
      refine hK _ ?_; clear hK K
      cases h
      exact Wk.refl _
    refine hK2 ?_; clear hK1 hK2 K1 K2
    refine HT_skip ?_
    refine Then_n ?_
    refine HT_seq ?_
    refine HT_fr DC_ok rfl fun K hK => ?_; (conv => whnf)
    refine hK _ _ _ ?_; clear hK K
    refine HT_block ?_
    replace h := W_bd h
    refine HT_lpK (body := law34_RecoveryGrows_b3 _ _) rfl h [13, 16, 24] [] [] (fun kl kh ids b s => ⟨ofL ([(26, eI s)] ++ kl), ofH ([] ++ kh), b + 64⟩) ?_; (conv => whnf); refine And.intro ?_ (fun s m h => HT_st ?_)
    · refine weak_k ?_; (conv => whnf)
      exact And.intro rfl (And.intro (allL_c (WkR.wk (Wk.refl _) (loose_int _ _)) (allL_c (WkR.wk (Wk.refl _) (loose_bool _)) (allL_c (WkR.wk (Wk.refl _) (loose_lst fun _ => (lo_TTicket _))) (allL_c (WkR.wk (Wk.refl _) (loose_lst fun _ => (lo_TTicket _))) allL_n)))) allL_n)
    replace h := W_blaw34_RecoveryGrows_b3 (W_bd h)
    refine HT_seq ?_
    refine HT_fr DC_ok rfl fun K hK => ?_; (conv => whnf)
    refine hK _ _ _ ?_; clear hK K
    refine HT_if fun K1 K2 hK1 hK2 => ?_; (conv => whnf)
    refine cond_lk h (fun _ h => ?_) (fun _ h => ?_)
    · refine hK1 ?_; clear hK1 hK2 K1 K2
      refine HT_skip ?_
      refine Then_n ?_
      refine HT_seq ?_
      refine HT_block ?_
      refine HT_fd DC_ok mix_ok rfl (by kernel_rfl) fun K hK => ?_; (conv => whnf)
      replace h := W_jn h
      refine ix_lk h fun _ h => ?_; (conv => whnf)
      refine getK_of rfl ?_; (conv => whnf)
      refine ix_lk h fun _ h => ?_; (conv => whnf)
      refine getK_of rfl ?_; (conv => whnf)
      refine cond_lk h (fun _ h => ?_) (fun _ h => ?_) <;> (conv => whnf)
      · refine hK _ _ _ ?_; clear hK K
        refine HT_if fun K1 K2 hK1 hK2 => ?_; (conv => whnf)
        refine hK1 ?_; clear hK1 hK2 K1 K2
        replace h := W_cnT h
        refine HT_fr DC_ok rfl fun K hK => ?_; (conv => whnf)
        refine hK _ _ _ ?_; clear hK K
        refine HT_ret ?_
        refine InBlock_r ?_
        refine Then_r ?_
        refine Then_r ?_
        refine InBlock_r ?_
        refine Then_r ?_
        replace h := W_xrt h
        replace h := W_inr h
        replace h := W_some h
        refine PostP_r DC_ok fun K hK => ?_; (conv => whnf)
        refine hK _ ?_; clear hK K
        cases h
        exact Wk.refl _
      refine ix_lk h fun _ h => ?_; (conv => whnf)
      refine getK_of rfl ?_; (conv => whnf)
      refine ix_lk h fun _ h => ?_; (conv => whnf)
      refine getK_of rfl ?_; (conv => whnf)
      refine hK _ _ _ ?_; clear hK K
      refine HT_if fun K1 K2 hK1 hK2 => ?_; (conv => whnf)
      refine cond_lk h (fun _ h => ?_) (fun _ h => ?_)
      · refine hK1 ?_; clear hK1 hK2 K1 K2
        refine HT_fr DC_ok rfl fun K hK => ?_; (conv => whnf)
        refine hK _ _ _ ?_; clear hK K
        refine HT_ret ?_
        refine InBlock_r ?_
        refine Then_r ?_
        refine Then_r ?_
        refine InBlock_r ?_
        refine Then_r ?_
        replace h := W_xrt h
        replace h := W_inr h
        replace h := W_some h
        refine PostP_r DC_ok fun K hK => ?_; (conv => whnf)
        refine hK _ ?_; clear hK K
        cases h
        exact Wk.refl _
      refine hK2 ?_; clear hK1 hK2 K1 K2
      refine HT_skip ?_
      refine InBlock_n ?_
      refine Then_n ?_
      refine HT_f DC_ok rfl fun K hK => ?_; (conv => whnf)
      refine hK _ _ _ ?_; clear hK K
      refine Then_n ?_
      replace h := W_xnx h
      refine ⟨_, h, ?_⟩
      refine weak_k ?_; (conv => whnf)
      exact And.intro rfl (And.intro (allL_c (WkR.wk (Wk.refl _) (loose_int _ _)) (allL_c (WkR.wk (Wk.refl _) (loose_bool _)) (allL_c (WkR.wk (Wk.refl _) (loose_lst fun _ => (lo_TTicket _))) (allL_c (WkR.wk (Wk.refl _) (loose_lst fun _ => (lo_TTicket _))) allL_n)))) allL_n)
    refine hK2 ?_; clear hK1 hK2 K1 K2
    refine HT_exit ?_
    refine Then_e ?_
    refine Then_e ?_
    refine InBlock_e ?_
    replace h := W_xbk h
    replace h := W_inl h
    refine Then_n ?_
    refine HT_fr DC_ok rfl fun K hK => ?_; (conv => whnf)
    refine hK _ _ _ ?_; clear hK K
    refine HT_ret ?_
    replace h := W_some h
    refine PostP_r DC_ok fun K hK => ?_; (conv => whnf)
    refine hK _ ?_; clear hK K
    cases h
    exact Wk.refl _
  refine HT_f DC_ok rfl fun K hK => ?_; (conv => whnf)
  refine cond_lk h (fun _ h => ?_) (fun _ h => ?_) <;> (conv => whnf)
  · refine hK _ _ _ ?_; clear hK K
    refine Then_n ?_
    refine ⟨_, h, ?_⟩
    refine weak_k ?_; (conv => whnf)
    exact And.intro rfl (And.intro (allL_c (WkR.wk (Wk.refl _) (loose_bool _)) (allL_c (WkR.wk (Wk.refl _) (loose_int _ _)) (allL_c (WkR.wk (Wk.refl _) (loose_int _ _)) (allL_c (WkR.wk (Wk.refl _) (loose_bool _)) (allL_c (WkR.ptr (fun _ => rfl)) (allL_c (WkR.wk (Wk.refl _) (loose_lst fun _ => (lo_TAttempt _))) (allL_c (WkR.wk (Wk.refl _) (loose_lst fun _ => (lo_TTicket _))) allL_n))))))) (allL_c ⟨some _, rfl, BkR_c rfl (CkR_cons (WkR.wk (Wk.refl _) (loose_lst fun _ => (lo_TGrowth _))) (CkR_cons (WkR.wk (Wk.refl _) (loose_int _ _)) CkR_nil))⟩ allL_n))
  refine cond_lk h (fun _ h => ?_) (fun _ h => ?_) <;> (conv => whnf)
  · refine hK _ _ _ ?_; clear hK K
    refine Then_n ?_
    refine ⟨_, h, ?_⟩
    refine weak_k ?_; (conv => whnf)
    exact And.intro rfl (And.intro (allL_c (WkR.wk (Wk.refl _) (loose_bool _)) (allL_c (WkR.wk (Wk.refl _) (loose_int _ _)) (allL_c (WkR.wk (Wk.refl _) (loose_int _ _)) (allL_c (WkR.wk (Wk.refl _) (loose_bool _)) (allL_c (WkR.ptr (fun _ => rfl)) (allL_c (WkR.wk (Wk.refl _) (loose_lst fun _ => (lo_TAttempt _))) (allL_c (WkR.wk (Wk.refl _) (loose_lst fun _ => (lo_TTicket _))) allL_n))))))) (allL_c ⟨some _, rfl, BkR_c rfl (CkR_cons (WkR.wk (Wk.refl _) (loose_lst fun _ => (lo_TGrowth _))) (CkR_cons (WkR.wk (Wk.refl _) (loose_int _ _)) CkR_nil))⟩ allL_n))
  refine cond_lk h (fun _ h => ?_) (fun _ h => ?_) <;> (conv => whnf)
  · refine hK _ _ _ ?_; clear hK K
    refine Then_n ?_
    refine ⟨_, h, ?_⟩
    refine weak_k ?_; (conv => whnf)
    exact And.intro rfl (And.intro (allL_c (WkR.wk (Wk.refl _) (loose_bool _)) (allL_c (WkR.wk (Wk.refl _) (loose_int _ _)) (allL_c (WkR.wk (Wk.refl _) (loose_int _ _)) (allL_c (WkR.wk (Wk.refl _) (loose_bool _)) (allL_c (WkR.ptr (fun _ => rfl)) (allL_c (WkR.wk (Wk.refl _) (loose_lst fun _ => (lo_TAttempt _))) (allL_c (WkR.wk (Wk.refl _) (loose_lst fun _ => (lo_TTicket _))) allL_n))))))) (allL_c ⟨some _, rfl, BkR_c rfl (CkR_cons (WkR.wk (Wk.refl _) (loose_lst fun _ => (lo_TGrowth _))) (CkR_cons (WkR.wk (Wk.refl _) (loose_int _ _)) CkR_nil))⟩ allL_n))
  refine sl_lk h (.inl ⟨rfl, rfl⟩) (.inr ⟨_, rfl⟩) (fun h => ?_); (conv => whnf)
  replace h := W_bd h
  refine ref34_Same_call h28 h (WkL.refl _) (fun _ h => ?_); (conv => whnf)
  refine cond_lk h (fun _ h => ?_) (fun _ h => ?_) <;> (conv => whnf)
  · refine hK _ _ _ ?_; clear hK K
    refine Then_n ?_
    refine ⟨_, h, ?_⟩
    refine weak_k ?_; (conv => whnf)
    exact And.intro rfl (And.intro (allL_c (WkR.wk (Wk.refl _) (loose_bool _)) (allL_c (WkR.wk (Wk.refl _) (loose_int _ _)) (allL_c (WkR.wk (Wk.refl _) (loose_int _ _)) (allL_c (WkR.wk (Wk.refl _) (loose_bool _)) (allL_c (WkR.ptr (fun _ => rfl)) (allL_c (WkR.wk (Wk.refl _) (loose_lst fun _ => (lo_TAttempt _))) (allL_c (WkR.wk (Wk.refl _) (loose_lst fun _ => (lo_TTicket _))) allL_n))))))) (allL_c ⟨some _, rfl, BkR_c rfl (CkR_cons (WkR.wk (Wk.refl _) (loose_lst fun _ => (lo_TGrowth _))) (CkR_cons (WkR.wk (Wk.refl _) (loose_int _ _)) CkR_nil))⟩ allL_n))
  refine ix_lk h fun _ h => ?_; (conv => whnf)
  refine getK_of rfl ?_; (conv => whnf)
  refine hK _ _ _ ?_; clear hK K
  refine Then_n ?_
  refine ⟨_, h, ?_⟩
  refine weak_k ?_; (conv => whnf)
  exact And.intro rfl (And.intro (allL_c (WkR.wk (Wk.refl _) (loose_bool _)) (allL_c (WkR.wk (Wk.refl _) (loose_int _ _)) (allL_c (WkR.wk (Wk.refl _) (loose_int _ _)) (allL_c (WkR.wk (Wk.refl _) (loose_bool _)) (allL_c (WkR.ptr (fun _ => rfl)) (allL_c (WkR.wk (Wk.refl _) (loose_lst fun _ => (lo_TAttempt _))) (allL_c (WkR.wk (Wk.refl _) (loose_lst fun _ => (lo_TTicket _))) allL_n))))))) (allL_c ⟨some _, rfl, BkR_c rfl (CkR_cons (WkR.wk (Wk.refl _) (loose_lst fun _ => (lo_TGrowth _))) (CkR_cons (WkR.wk (Wk.refl _) (loose_int _ _)) CkR_nil))⟩ allL_n))
theorem law34_RecoveryGrows_call {T : Tbl} (hT : T 9 = pureR law34_RecoveryGrows_S) {args : List AV} {hp : Heap} {id : Nat} {k : AV → Prop} {a0 : List (Int × Int)} {a1 : Int} {a2 : List (Int × Int)} {a3 : Int} {a4 : Int} {a5 : Int} {Φ : Bool → Prop} (h : W (law34_RecoveryGrows_F a0 a1 a2 a3 a4 a5) Φ) (hw : WkL args [(eL 2 eA71 default) a0, eI a1, (eL 2 eA71 default) a2, eI a3, eI a4, eI a5]) (hk : ∀ y, Φ y → k (eB y)) : callpK T 9 args hp id k := by
  obtain ⟨y, e, hy⟩ := W_inv h
  exact callpK_pure hT ⟨a0, a1, a2, a3, a4, a5, rfl, W_of e rfl⟩ (by exact (loose_bool _)) hw (hk y hy)
end Go.Proofs.Ytcidmnpihffphaa
/-! P9 -/
namespace Go.Proofs.Ytcidmnpihffphaa
open Go Go.Eng
set_option maxRecDepth 100000
theorem last_at {l : List TAttempt} (hl : l.length ≤ 40) (hb : ∀ j, j < l.length → 0 ≤ (l.getD j default).At ∧ (l.getD j default).At ≤ 24) : ∃ m x, lp (law34_RecoveryGrows_b1 l) FU (0, 0) = some (.inl (m, x)) ∧ 0 ≤ m ∧ m ≤ 24 ∧ ∀ j, j < l.length → (l.getD j default).At ≤ m := by
  obtain ⟨s, e, h1, h2, h3, h4⟩ := lp_fold (body := law34_RecoveryGrows_b1 l) (fun k s => s.2 = (k : Int) ∧ 0 ≤ s.1 ∧ s.1 ≤ 24 ∧ ∀ j, j < k → (l.getD j default).At ≤ s.1) l.length (by omega) (fun k s hk ⟨h1, h2, h3, h4⟩ => by
    obtain ⟨m, i⟩ := s
    simp only at h1 h2 h3 h4
    subst h1
    have := hb k hk
    unfold law34_RecoveryGrows_b1
    simp only [cn_dec]
    rw [if_pos (by omega), ix_n hk, wr_id (by omega) (by omega)]
    have hm : imax m (l.getD k default).At = max m (l.getD k default).At := by unfold imax; omega
    rw [hm]
    refine ⟨_, rfl, by simp, by simp only; omega, by simp only; omega, fun j hj => ?_⟩
    simp only
    by_cases e : j < k
    · have := h4 j e; omega
    · have : j = k := by omega
      subst this; omega) (fun s ⟨h1, _⟩ => by
    unfold law34_RecoveryGrows_b1
    simp only [cn_dec]
    rw [if_neg (by rw [h1]; omega)]) (0, 0) ⟨rfl, by simp, by simp, fun j h => by omega⟩
  exact ⟨s.1, s.2, e, h2, h3, h4⟩
/-- Steps whose capacities grow from one on. -/
def grown (st : List TGrowth) (w : Nat) (d : Int) : List TGrowth := (List.range st.length).map fun j => if w ≤ j then ⟨(st.getD j default).From, min ((st.getD j default).Capacity + d) 20⟩ else st.getD j default
theorem grown_len (st : List TGrowth) (w : Nat) (d : Int) : (grown st w d).length = st.length := by simp [grown]
theorem grown_at {st : List TGrowth} {w : Nat} {d : Int} {j : Nat} (hj : j < st.length) : (grown st w d).getD j default = if w ≤ j then ⟨(st.getD j default).From, min ((st.getD j default).Capacity + d) 20⟩ else st.getD j default := by
  rw [getD_lt (by rw [grown_len]; exact hj)]
  simp [grown]
theorem grow_loop {st : List TGrowth} {sg a5 : Int} (o5 : okI a5) (hl : st.length ≤ 10) (hc : ∀ j, j < st.length → 0 ≤ (st.getD j default).Capacity ∧ (st.getD j default).Capacity ≤ 20) {w : Nat} (hw : w ≤ st.length) :
    ∃ x, lp (law34_RecoveryGrows_b2 a5) FU ((w : Int), (⟨st, sg⟩ : TRegion)) = some (.inl (x, (⟨grown st w (pickZ a5 4), sg⟩ : TRegion))) := by
  obtain ⟨p1, p2⟩ := pickZ_lt a5 (n := 4) (by omega)
  obtain ⟨s, e, h1, h2, h3⟩ := lp_fold (body := law34_RecoveryGrows_b2 a5) (fun k s => s.1 = ((w + k : Nat) : Int) ∧ s.2.Signals = sg ∧ s.2.Steps.length = st.length ∧ ∀ j, j < st.length → s.2.Steps.getD j default = if w ≤ j ∧ j < w + k then ⟨(st.getD j default).From, min ((st.getD j default).Capacity + pickZ a5 4) 20⟩ else st.getD j default) (st.length - w) (by omega) (fun k s hk ⟨h1, h2, h3, h4⟩ => by
    obtain ⟨i, r⟩ := s
    simp only at h1 h2 h3 h4
    subst h1
    have hk1 : w + k < st.length := by omega
    have h5 := h4 (w + k) hk1
    rw [if_neg (by omega)] at h5
    have h6 := hc (w + k) hk1
    unfold law34_RecoveryGrows_b2
    simp only [cn_dec]
    rw [if_pos (by omega), gd_p _ (by omega), pick_law a5 4 o5 (by omega), bd_s, gd_p _ (by omega), st_d, Int.toNat_natCast, h5, wr_id (by omega) (by omega), wr_id (by omega) (by omega)]
    have hm : imin ((st.getD (w + k) default).Capacity + pickZ a5 4) 20 = min ((st.getD (w + k) default).Capacity + pickZ a5 4) 20 := by unfold imin; omega
    rw [hm]
    refine ⟨_, rfl, by simp only; omega, h2, by simp [h3], fun j hj => ?_⟩
    simp only
    by_cases q : j = w + k
    · subst q
      rw [if_pos ⟨by omega, by omega⟩]
      simp [h3, hk1]
    · have : (r.Steps.set (w + k) ⟨(st.getD (w + k) default).From, min ((st.getD (w + k) default).Capacity + pickZ a5 4) 20⟩).getD j default = r.Steps.getD j default := by
        have hjl : j < r.Steps.length := by omega
        generalize (⟨(st.getD (w + k) default).From, min ((st.getD (w + k) default).Capacity + pickZ a5 4) 20⟩ : TGrowth) = g
        rw [getD_lt (show j < (r.Steps.set (w + k) g).length by simp; omega), getD_lt hjl, List.getElem_set_ne (by omega)]
      rw [this, h4 j hj]
      by_cases q2 : w ≤ j ∧ j < w + k
      · rw [if_pos q2, if_pos (by omega)]
      · rw [if_neg q2, if_neg (by omega)]) (fun s ⟨h1, h2, h3, _⟩ => by
    unfold law34_RecoveryGrows_b2
    simp only [cn_dec]
    rw [if_neg (by rw [h1]; omega)]) ((w : Int), (⟨st, sg⟩ : TRegion)) ⟨by simp, rfl, rfl, fun j hj => by rw [if_neg (by omega)]⟩
  obtain ⟨i, r⟩ := s
  obtain ⟨h3, h4⟩ := h3
  refine ⟨i, ?_⟩
  rw [e]
  have : r.Steps = grown st w (pickZ a5 4) := ext_getD (by rw [grown_len]; exact h3) fun j hj => by
    simp only at h3
    have hj' : j < st.length := by omega
    rw [h4 j hj', grown_at hj']
    by_cases q : w ≤ j
    · rw [if_pos ⟨q, by omega⟩, if_pos q]
    · rw [if_neg (by omega), if_neg q]
  simp only at h2
  obtain ⟨a, b⟩ := r
  simp only at this h2
  rw [this, h2]
theorem grown_rv {r : TRegion} (h : RV r) (w : Nat) {d : Int} (hd : 0 ≤ d) : RV ⟨grown r.Steps w d, r.Signals⟩ := by
  have hmem : ∀ g ∈ grown r.Steps w d, ∃ j, j < r.Steps.length ∧ g = if w ≤ j then ⟨(r.Steps.getD j default).From, min ((r.Steps.getD j default).Capacity + d) 20⟩ else r.Steps.getD j default := fun g hg => by
    unfold grown at hg
    obtain ⟨j, hj, e⟩ := List.mem_map.1 hg
    exact ⟨j, List.mem_range.1 hj, e.symm⟩
  have hne : 0 < r.Steps.length := List.length_pos_iff.2 h.ne
  refine ⟨fun e => ?_, by rw [grown_len]; exact h.len, h.sg, fun g hg => ?_, ?_, fun g hg => ?_, ?_⟩
  · have e' : grown r.Steps w d = [] := e
    have h1 := grown_len r.Steps w d
    rw [e'] at h1
    simp only [List.length_nil] at h1
    omega
  · rw [List.head?_eq_getElem?] at hg
    have h0 : (grown r.Steps w d).getD 0 default = g := by simp only at hg; simp [hg]
    rw [grown_at hne] at h0
    have h1 := h.h0 (r.Steps.getD 0 default) (by rw [getD_lt hne, List.head?_eq_getElem?]; simp [hne])
    rw [← h0]
    split
    · exact h1
    · exact h1
  · rw [List.pairwise_iff_getElem]
    intro i j hi hj hij
    rw [← getD_lt hi, ← getD_lt hj]
    rw [grown_len] at hi hj
    have hp := (List.pairwise_iff_getElem.1 h.pw) i j hi hj hij
    have hcj := h.rg _ (List.getElem_mem hj)
    rw [← getD_lt hi, ← getD_lt hj] at hp
    rw [← getD_lt hj] at hcj
    rw [grown_at hi, grown_at hj]
    by_cases q1 : w ≤ i
    · rw [if_pos q1, if_pos (by omega)]
      simp only; omega
    · rw [if_neg q1]
      split
      · simp only; omega
      · exact hp
  · obtain ⟨j, hj, e⟩ := hmem g hg
    have hcj := h.rg _ (List.getElem_mem hj)
    rw [← getD_lt hj] at hcj
    rw [e]
    split
    · simp only; omega
    · exact hcj
  · obtain ⟨g, hg, hg1⟩ := h.ps
    obtain ⟨j, hj, e⟩ := List.getElem_of_mem hg
    have hcj := h.rg _ (List.getElem_mem hj)
    refine ⟨(grown r.Steps w d).getD j default, by rw [getD_lt (by rw [grown_len]; exact hj)]; exact List.getElem_mem _, ?_⟩
    rw [grown_at hj]
    rw [← getD_lt hj] at e hcj
    split
    · simp only; rw [e] at hcj ⊢; omega
    · rw [e]; exact hg1
theorem nst_grown {st : List TGrowth} (w : Nat) (d t : Int) : nst (grown st w d) t = nst st t := by
  have key : ∀ (a b : List TGrowth), a.length = b.length → (∀ j, j < a.length → (a.getD j default).From = (b.getD j default).From) → nst a t = nst b t := by
    intro a
    induction a with
    | nil => intro b hb _; cases b with
      | nil => rfl
      | cons y b => simp at hb
    | cons x a ih =>
      intro b hb hj
      cases b with
      | nil => simp at hb
      | cons y b =>
        have h0 := hj 0 (by simp)
        simp only [List.getD_cons_zero] at h0
        have := ih b (by simpa using hb) (fun j h => by have := hj (j + 1) (by simp; omega); simpa using this)
        unfold nst at this ⊢
        rw [List.takeWhile_cons, List.takeWhile_cons, h0]
        split
        · simp [this]
        · rfl
  refine key _ _ (grown_len _ _ _) fun j hj => ?_
  rw [grown_len] at hj
  rw [grown_at hj]
  split <;> rfl
theorem grown_cap {r : TRegion} (h : RV r) (w : Nat) {d : Int} (hd : 0 ≤ d) {t : Int} (ht : 0 ≤ t) : capZ r t ≤ capZ ⟨grown r.Steps w d, r.Signals⟩ t := by
  have h1 := nst_pos h ht
  have h2 := nst_len r.Steps t
  have h3 := nst_grown (st := r.Steps) w d t
  have e1 : capZ r t = (r.Steps.getD (nst r.Steps t - 1) default).Capacity := rfl
  have e2 : capZ ⟨grown r.Steps w d, r.Signals⟩ t = ((grown r.Steps w d).getD (nst (grown r.Steps w d) t - 1) default).Capacity := rfl
  have hj : nst r.Steps t - 1 < r.Steps.length := by omega
  have hcj := h.rg _ (List.getElem_mem hj)
  rw [← getD_lt hj] at hcj
  rw [e1, e2, h3, grown_at hj]
  split
  · simp only; omega
  · exact Int.le_refl _
theorem plain9 (a0 : List (Int × Int)) (a1 : Int) (a2 : List (Int × Int)) (a3 a4 a5 : Int) (o0 : okL okA71 a0) (o1 : okI a1) (o2 : okL okA71 a2) (o3 : okI a3) (o4 : okI a4) (o5 : okI a5) : law34_RecoveryGrows_F a0 a1 a2 a3 a4 a5 = some true := by
  unfold law34_RecoveryGrows_F
  rw [sane_ok, bd_s]
  simp only [Bool.not_true, cn_f, jn_d]
  obtain ⟨r, e, hr⟩ := made_ok a0 a1 o0 o1
  obtain ⟨l, e2, hla⟩ := attempts_ok a2 o2
  have hl := hla.lv
  have hll := hla.len
  rw [e, bd_s, e2, bd_s]
  obtain ⟨ts, e3, hp, hs⟩ := plan_ok hr hl
  obtain ⟨M, x0, e4, m1, m2, m3⟩ := last_at (l := l) (by omega) (fun j hj => (hla.at_ j hj).2)
  rw [e3, bd_s, e4, bd_s, smK_l, pick_law a3 10 o3 (by omega), bd_s, lt_d, ap_p (by simp; omega)]
  obtain ⟨p1, p2⟩ := pickZ_lt a3 (n := 10) (by omega)
  generalize pickZ a3 10 = d at p1 p2 ⊢
  simp only
  rw [wr_id (x := M + 1) (by omega) (by omega), wr_id (by omega) (by omega), List.singleton_append]
  generalize hx : (⟨99, M + 1 + d, false⟩ : TAttempt) = x
  have hxC : x.Caller = 99 := by rw [← hx]
  have hxA : x.At = M + 1 + d := by rw [← hx]
  -- with one more
  have hl2 : LV (x :: l) := by
    refine ⟨by simp; omega, fun a ha => ?_, ?_⟩
    · rcases List.mem_cons.1 ha with rfl | ha
      · omega
      · exact hl.rg a ha
    · rw [List.map_cons, List.nodup_cons]
      refine ⟨fun hm => ?_, hl.nd⟩
      obtain ⟨a, ha, hae⟩ := List.mem_map.1 hm
      obtain ⟨j, hj, ej⟩ := List.getElem_of_mem ha
      have := (hla.at_ j hj).1
      rw [getD_lt hj, ej] at this
      omega
  have hs2 : SA (x :: l) (sortF attCmp l ++ [x]) := by
    refine ⟨(List.perm_append_singleton _ _).trans (hs.perm.cons _), ?_⟩
    rw [List.pairwise_append]
    refine ⟨hs.asc, by simp, fun a ha b hb => .inl ?_⟩
    simp at hb; subst hb
    obtain ⟨j, hj, ej⟩ := List.getElem_of_mem (hs.perm.mem_iff.1 ha)
    have := m3 j hj
    rw [getD_lt hj, ej] at this
    omega
  obtain ⟨qs, e5, hq, hs3⟩ := plan_ok hr hl2
  rw [SA.unique hs3 hs2] at hq hs3
  rw [e5, bd_s]
  obtain ⟨u0, u1⟩ := pickZ_lt a4 (n := (r.Steps.length : Int)) (by have := List.length_pos_iff.2 hr.ne; omega)
  have hrl := hr.len
  obtain ⟨v0, v1⟩ := pickZ_lt a5 (n := 4) (by omega)
  have hry := grown_rv hr (pickZ a4 (r.Steps.length : Int)).toNat v0
  obtain ⟨us, e6, hu, _⟩ := plan_ok hry hl
  obtain ⟨x1, e7⟩ := grow_loop (st := r.Steps) (sg := r.Signals) o5 hrl (fun j hj => by rw [getD_lt hj]; exact (hr.rg _ (List.getElem_mem hj)).2.2) (w := (pickZ a4 (r.Steps.length : Int)).toNat) (by omega)
  rw [Int.toNat_of_nonneg u0] at e7
  generalize sortF attCmp l = ys at hs hp hs2 hs3 hq hu
  have hy := hs.lv hl
  have hyl := hy.len
  have htl := hp.len
  have hql := hq.len
  have hul := hu.len
  have hyll := hs.perm.length_eq
  have hqq : qs.take ts.length = ts := by
    have g1 := PL.gl hy hp
    have g2 := PL.gl (hs2.lv hl2) hq
    simp only [List.length_append, List.length_singleton] at g2 hql
    have hya : ∀ j, j < ys.length → (ys ++ [x]).getD j default = ys.getD j default := fun j hj => by rw [getD_app, if_pos hj]
    have hqa : ∀ j, j < ys.length → (qs.take ts.length).getD j default = qs.getD j default := fun j hj => by
      rw [getD_lt (by simp; omega), getD_lt (by omega), List.getElem_take]
    have hcc : ∀ j z, j ≤ ys.length → cnt ys (qs.take ts.length) j z = cnt (ys ++ [x]) qs j z := fun j z hj => cnt_congr fun i hi => by rw [hya i (by omega), hqa i (by omega)]; exact ⟨rfl, rfl⟩
    refine GL.unique (c := capZ r) (ys := ys) (n := ys.length) ⟨by simp; omega, fun j hj => ?_, fun j hj ju => ?_, fun j hj ju => ?_, fun j hj ju => ?_, fun j hj ju z hz1 hz2 => ?_⟩ g1
    · rw [hqa j hj, ← hya j hj]; exact g2.cf j (by omega)
    · rw [hqa j hj]; rw [← hya j hj] at ju ⊢; exact g2.ur j (by omega) ju
    · rw [hqa j hj]; rw [← hya j hj] at ju ⊢; exact g2.ge j (by omega) ju
    · rw [hqa j hj, hcc j _ (by omega)]; rw [← hya j hj] at ju; exact g2.room j (by omega) ju
    · rw [hcc j _ (by omega)]; rw [hqa j hj] at hz2; rw [← hya j hj] at ju hz1; exact g2.full j (by omega) ju z hz1 hz2
  simp only [List.length_append, List.length_singleton] at hql
  simp only [bne_self_eq_false, cn_f]
  rw [wr_id (x := (ts.length : Int) + 1) (by omega) (by omega), show ((qs.length : Int) != (ts.length : Int) + 1) = false by simp; omega]
  simp only [cn_f]
  rw [slc_p (by omega) (by omega) (by omega)]
  have hsub : sub qs 0 (ts.length : Int) = qs.take ts.length := by simp [sub]
  rw [hsub, hqq, same_self ts (by omega), bd_s]
  simp only [Bool.not_true, cn_f]
  rw [ix_n (show ts.length < qs.length by omega)]
  have h99 : (qs.getD ts.length default).Caller = 99 := by
    have := (hq.cf ts.length (by simp; omega)).1
    rw [this, getD_app, if_neg (by omega), if_pos (by omega)]; exact hxC
  rw [h99]
  simp only [bne_self_eq_false, cn_f]
  rw [lt_d, gd_p _ (by omega), lt_d, pick_law a4 _ o4 (by have := List.length_pos_iff.2 hr.ne; omega), bd_s, e7, bd_s, smK_l, e6, bd_s]
  simp only [bne_self_eq_false, cn_f]
  rw [show ((us.length : Int) != (ts.length : Int)) = false by simp; omega]
  simp only [cn_f]
  obtain ⟨s, e8, h1⟩ := lp_fold (body := law34_RecoveryGrows_b3 (ts, 0) (us, 0)) (fun k s => s = (k : Int)) ts.length (by omega) (fun k s hk h1 => by
    subst h1
    have hsn := PL.sooner hy hp hu (fun z hz => grown_cap hr _ v0 hz) (show k < ys.length by omega)
    unfold law34_RecoveryGrows_b3
    simp only [jn_d, cn_dec]
    rw [if_pos (by omega), ix_n (show k < us.length by omega), ix_n hk, cn_bne, if_pos (by rw [(hu.cf k (by omega)).1, (hp.cf k (by omega)).1]), ix_n (show k < us.length by omega), ix_n hk, if_neg (by omega), wr_id (by omega) (by omega)]
    exact ⟨_, rfl, by simp⟩) (fun s h1 => by
    unfold law34_RecoveryGrows_b3
    simp only [cn_dec]
    rw [if_neg (by rw [h1]; omega)]) 0 rfl
  rw [e8, bd_s, smK_l]
end Go.Proofs.Ytcidmnpihffphaa
