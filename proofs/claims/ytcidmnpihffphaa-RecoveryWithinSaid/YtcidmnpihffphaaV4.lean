import Derived.Test.YtcidmnpihffphaaW13
namespace Go.Proofs.Ytcidmnpihffphaa
open Go Go.Eng
set_option maxHeartbeats 0
set_option maxRecDepth 100000
/-! dialtonelaw34.RecoveryWithin -/

    def law34_RecoveryWithin_b2 (s9 : Int × Int) (y3 : List TAttempt) (y4 : (List TTicket) × Int) (y5 : Int) (s10 : Int × Int × Int) : Option (Ct (Int × Int × Int) Bool) := cn (decide (s10.2.2 < (y4.1.length : Int))) (jn (fun p11 : Int × Int =>
    some (.nx (p11.1, p11.2, (wr (s10.2.2 + 1))))) fun k12 => ix y4.1 default s10.2.2 fun e13 => ix y3 default s9.2 fun e14 => cn (e13.Caller !=
    e14.Caller) (k12 (s10.1, s10.2.1)) (jn (fun p15 : Bool => cn p15 (some (.rt false)) (jn (fun p21 : Bool => jn (fun p25 : Int => k12 (p25, (wr (s10.2.1 + 1)))) fun k26 =>
    cn p21 (k26 (wr (s10.1 + 1))) (k26 s10.1)) fun k22 => ix y4.1 default s10.2.2 fun e23 => cn (e23.At == y5) (ix y3 default s9.2 fun e24 =>
    k22 (!e24.Urgent)) (k22 false))) fun k16 => ix y4.1 default s10.2.2 fun e17 => ix y3 default s9.2 fun e18 => cn (e17.First !=
    e18.At) (k16 true) (ix y4.1 default s10.2.2 fun e19 => ix y3 default s9.2 fun e20 => k16 (decide (e19.At < e20.At))))) (some (.bk (s10.1, s10.2.1, s10.2.2)))
theorem W_blaw34_RecoveryWithin_b2 {s9 : Int × Int} {y3 : List TAttempt} {y4 : (List TTicket) × Int} {y5 : Int} {s10 : Int × Int × Int} {Φ : Ct (Int × Int × Int) Bool → Prop} (h : W (law34_RecoveryWithin_b2 s9 y3 y4 y5 s10) Φ) : W (cn (decide (s10.2.2 < (y4.1.length : Int))) (jn (fun p11 : Int × Int => some (.nx (p11.1, p11.2, (wr (s10.2.2 + 1))))) fun k12 => ix y4.1 default s10.2.2 fun e13 =>
    ix y3 default s9.2 fun e14 => cn (e13.Caller != e14.Caller) (k12 (s10.1, s10.2.1)) (jn (fun p15 : Bool => cn p15 (some (.rt false)) (jn (fun p21 : Bool => jn (fun p25 : Int =>
    k12 (p25, (wr (s10.2.1 + 1)))) fun k26 => cn p21 (k26 (wr (s10.1 + 1))) (k26 s10.1)) fun k22 => ix y4.1 default s10.2.2 fun e23 => cn (e23.At ==
    y5) (ix y3 default s9.2 fun e24 => k22 (!e24.Urgent)) (k22 false))) fun k16 => ix y4.1 default s10.2.2 fun e17 => ix y3 default s9.2 fun e18 => cn (e17.First !=
    e18.At) (k16 true) (ix y4.1 default s10.2.2 fun e19 => ix y3 default s9.2 fun e20 => k16 (decide (e19.At < e20.At))))) (some (.bk (s10.1, s10.2.1, s10.2.2)))) Φ := h

    def law34_RecoveryWithin_b1 (y3 : List TAttempt) (y4 : (List TTicket) × Int) (y5 : Int) (s9 : Int × Int) : Option (Ct (Int × Int) Bool) := cn (decide (s9.2 < (y3.length : Int))) (bd (lp (law34_RecoveryWithin_b2 s9 y3 y4 y5) FU (s9.1, 0, 0)) fun c27 =>
    smK c27 (fun s28 => cn (s28.2.1 != 1) (some (.rt false)) (some (.nx (s28.1, (wr (s9.2 + 1)))))) (fun r29 => some (.rt r29))) (some (.bk (s9.1, s9.2)))
theorem W_blaw34_RecoveryWithin_b1 {y3 : List TAttempt} {y4 : (List TTicket) × Int} {y5 : Int} {s9 : Int × Int} {Φ : Ct (Int × Int) Bool → Prop} (h : W (law34_RecoveryWithin_b1 y3 y4 y5 s9) Φ) : W (cn (decide (s9.2 < (y3.length : Int))) (bd (lp (law34_RecoveryWithin_b2 s9 y3 y4 y5) FU (s9.1, 0, 0)) fun c27 => smK c27 (fun s28 => cn (s28.2.1 !=
    1) (some (.rt false)) (some (.nx (s28.1, (wr (s9.2 + 1)))))) (fun r29 => some (.rt r29))) (some (.bk (s9.1, s9.2)))) Φ := h
def law34_RecoveryWithin_F (a0 : List (Int × Int)) (a1 : Int) (a2 : List (Int × Int)) (a3 : Int) : Option Bool := bd (law34_sane_F ) fun y1 =>
    cn (!y1) (some false) (bd (ref34_Made_F a0 a1) fun y2 => bd (ref34_Attempts_F a2) fun y3 => bd (recovery_Plan_F y2 y3) fun y4 => bd (law34_pick_F a3 60) fun y5 =>
    bd (recovery_Capacity_F y2 y5) fun y6 => jn (fun p7 : Bool => cn p7 (some false) (bd (lp (law34_RecoveryWithin_b1 y3 y4 y5) FU (0, 0)) fun c30 => smK c30 (fun s31 =>
    some (decide (s31.1 ≤ y6.1))) (fun r32 => some r32))) fun k8 => cn (y4.2 != 0) (k8 true) (cn (y6.2 != 0) (k8 true) (k8 ((y4.1.length : Int) != (y3.length : Int)))))
def law34_RecoveryWithin_S : List AV → AV → Prop := fun args r => ∃ a0 a1 a2 a3, args = [(eL 2 eA71 default) a0, eI a1, (eL 2 eA71 default) a2, eI a3] ∧ W (law34_RecoveryWithin_F a0 a1 a2 a3) fun y => r = (eB y)
theorem law34_RecoveryWithin_ok {T : Tbl} (hT : TOk Try.prog T) (hpf : PfOk T PF) (h13 : T 13 = pureR law34_sane_S) (h14 : T 14 = pureR ref34_Made_S) (h15 : T 15 = pureR ref34_Attempts_S) (h18 : T 18 = pureR recovery_Plan_S) (h29 : T 29 = pureR law34_pick_S) (h32 : T 32 = pureR recovery_Capacity_S) : FOk Try.prog 4 (pureR law34_RecoveryWithin_S) := by
  refine FOk_pure hT hpf Try.func4 rfl Try.ntmps4 Try.results4 (by decide) ?_
  rintro args r ⟨a0, a1, a2, a3, rfl, h⟩
  refine ⟨Nat.le_of_ble_eq_true rfl, ?_, ?_⟩
  · exact (loose_cons (loose_lst fun _ => (lo_A71 _)) (loose_cons (loose_int _ _) (loose_cons (loose_lst fun _ => (lo_A71 _)) (loose_cons (loose_int _ _) loose_nil))))
  rw [law34_RecoveryWithin_F.eq_1] at h
  refine HT_fr DC_ok rfl fun K hK => ?_; (conv => whnf)
  refine hK _ _ _ ?_; clear hK K
  refine HT_fr DC_ok rfl fun K hK => ?_; (conv => whnf)
  replace h := W_bd h
  refine law34_sane_call h13 h (WkL.refl _) (fun _ h => ?_); (conv => whnf)
  refine hK _ _ _ ?_; clear hK K
  refine HT_seq ?_
  refine HT_fr DC_ok rfl fun K hK => ?_; (conv => whnf)
  refine hK _ _ _ ?_; clear hK K
  refine HT_if fun K1 K2 hK1 hK2 => ?_; (conv => whnf)
  refine cond_lk h (fun _ h => ?_) (fun _ h => ?_)
  · refine hK1 ?_; clear hK1 hK2 K1 K2
    refine HT_fr DC_ok rfl fun K hK => ?_; (conv => whnf)
    refine hK _ _ _ ?_; clear hK K
    refine HT_ret ?_
    refine Then_r ?_
    replace h := W_some h
    refine PostP_r DC_ok fun K hK => ?_; (conv => whnf)
    refine hK _ ?_; clear hK K
    cases h
    exact Wk.refl _
  refine hK2 ?_; clear hK1 hK2 K1 K2
  refine HT_skip ?_
  refine Then_n ?_
  refine HT_fr DC_ok rfl fun K hK => ?_; (conv => whnf)
  replace h := W_bd h
  refine ref34_Made_call h14 h (WkL.refl _) (fun _ h => ?_); (conv => whnf)
  refine blkK_of rfl ?_; (conv => whnf)
  refine And.intro rfl (And.intro (Nat.le_of_ble_eq_true rfl) (And.intro rfl ?_)); (conv => whnf)
  refine hK _ _ _ ?_; clear hK K
  refine HT_fr DC_ok rfl fun K hK => ?_; (conv => whnf)
  replace h := W_bd h
  refine ref34_Attempts_call h15 h (WkL.refl _) (fun _ h => ?_); (conv => whnf)
  refine hK _ _ _ ?_; clear hK K
  refine HT_fr DC_ok rfl fun K hK => ?_; (conv => whnf)
  refine And.intro (Nat.le_of_ble_eq_true rfl) ?_; (conv => whnf)
  refine blkK_of rfl ?_; (conv => whnf)
  refine And.intro (Nat.le_of_ble_eq_true rfl) ?_; (conv => whnf)
  replace h := W_bd h
  refine recovery_Plan_call h18 h (WkL.refl _) (fun _ h => ?_); (conv => whnf)
  refine hK _ _ _ ?_; clear hK K
  refine HT_fr DC_ok rfl fun K hK => ?_; (conv => whnf)
  replace h := W_bd h
  refine law34_pick_call h29 h (WkL.refl _) (fun _ h => ?_); (conv => whnf)
  refine hK _ _ _ ?_; clear hK K
  refine HT_fr DC_ok rfl fun K hK => ?_; (conv => whnf)
  refine And.intro (Nat.le_of_ble_eq_true rfl) ?_; (conv => whnf)
  refine blkK_of rfl ?_; (conv => whnf)
  refine And.intro (Nat.le_of_ble_eq_true rfl) ?_; (conv => whnf)
  replace h := W_bd h
  refine recovery_Capacity_call h32 h (WkL.refl _) (fun _ h => ?_); (conv => whnf)
  refine hK _ _ _ ?_; clear hK K
  refine HT_seq ?_
  refine HT_fr DC_ok rfl fun K hK => ?_; (conv => whnf)
  replace h := W_jn h
  refine cond_lk h (fun _ h => ?_) (fun _ h => ?_) <;> (conv => whnf)
  · refine hK _ _ _ ?_; clear hK K
    refine HT_if fun K1 K2 hK1 hK2 => ?_; (conv => whnf)
    refine hK1 ?_; clear hK1 hK2 K1 K2
    replace h := W_cnT h
    refine HT_fr DC_ok rfl fun K hK => ?_; (conv => whnf)
    refine hK _ _ _ ?_; clear hK K
    refine HT_ret ?_
    refine Then_r ?_
    replace h := W_some h
    refine PostP_r DC_ok fun K hK => ?_; (conv => whnf)
    refine hK _ ?_; clear hK K
    cases h
    exact Wk.refl _
  refine cond_lk h (fun _ h => ?_) (fun _ h => ?_) <;> (conv => whnf)
  · refine hK _ _ _ ?_; clear hK K
    refine HT_if fun K1 K2 hK1 hK2 => ?_; (conv => whnf)
    refine hK1 ?_; clear hK1 hK2 K1 K2
    replace h := W_cnT h
    refine HT_fr DC_ok rfl fun K hK => ?_; (conv => whnf)
    refine hK _ _ _ ?_; clear hK K
    refine HT_ret ?_
    refine Then_r ?_
    replace h := W_some h
    refine PostP_r DC_ok fun K hK => ?_; (conv => whnf)
    refine hK _ ?_; clear hK K
    cases h
    exact Wk.refl _
  refine hK _ _ _ ?_; clear hK K
  refine HT_if fun K1 K2 hK1 hK2 => ?_; (conv => whnf)
  refine cond_lk h (fun _ h => ?_) (fun _ h => ?_)
  · refine hK1 ?_; clear hK1 hK2 K1 K2
    refine HT_fr DC_ok rfl fun K hK => ?_; (conv => whnf)
    refine hK _ _ _ ?_; clear hK K
    refine HT_ret ?_
    refine Then_r ?_
    replace h := W_some h
    refine PostP_r DC_ok fun K hK => ?_; (conv => whnf)
    refine hK _ ?_; clear hK K
    cases h
    exact Wk.refl _
  refine hK2 ?_; clear hK1 hK2 K1 K2
  refine HT_skip ?_
  refine Then_n ?_
  refine HT_fr DC_ok rfl fun K hK => ?_; (conv => whnf)
  refine hK _ _ _ ?_; clear hK K
  refine HT_seq ?_
  refine HT_fr DC_ok rfl fun K hK => ?_; (conv => whnf)
  refine hK _ _ _ ?_; clear hK K
  refine HT_block ?_
  replace h := W_bd h
  refine HT_lpK (body := law34_RecoveryWithin_b1 _ _ _) rfl h [11, 12, 14, 15] [] [] (fun kl kh ids b s => ⟨ofL ([(17, eI s.1), (18, eI s.2)] ++ kl), ofH ([] ++ kh), b + 64⟩) ?_; (conv => whnf); refine And.intro ?_ (fun s m h => HT_st ?_)
  · refine weak_k ?_; (conv => whnf)
    exact And.intro rfl (And.intro (allL_c (WkR.wk (Wk.refl _) (loose_int _ _)) (allL_c (WkR.wk (Wk.refl _) (loose_int _ _)) (allL_c (WkR.wk (Wk.refl _) (loose_lst fun _ => (lo_TAttempt _))) (allL_c (WkR.wk (Wk.refl _) (loose_lst fun _ => (lo_TTicket _))) (allL_c (WkR.wk (Wk.refl _) (loose_int _ _)) (allL_c (WkR.wk (Wk.refl _) (loose_int _ _)) allL_n)))))) allL_n)
  replace h := W_blaw34_RecoveryWithin_b1 (W_bd h)
  refine HT_seq ?_
  refine HT_fr DC_ok rfl fun K hK => ?_; (conv => whnf)
  refine hK _ _ _ ?_; clear hK K
  refine HT_if fun K1 K2 hK1 hK2 => ?_; (conv => whnf)
  refine cond_lk h (fun _ h => ?_) (fun _ h => ?_)
  · refine hK1 ?_; clear hK1 hK2 K1 K2
    refine HT_skip ?_
    refine Then_n ?_
    refine HT_seq ?_
    refine HT_block ?_
    refine HT_fr DC_ok rfl fun K hK => ?_; (conv => whnf)
    refine hK _ _ _ ?_; clear hK K
    refine HT_seq ?_
    refine HT_fr DC_ok rfl fun K hK => ?_; (conv => whnf)
    refine hK _ _ _ ?_; clear hK K
    refine HT_block ?_
    replace h := W_bd h
    refine HT_lpK (body := law34_RecoveryWithin_b2 _ _ _ _) rfl h [11, 12, 14, 15, 18] [] [] (fun kl kh ids b s => ⟨ofL ([(17, eI s.1), (19, eI s.2.1), (20, eI s.2.2)] ++ kl), ofH ([] ++ kh), b + 64⟩) ?_; (conv => whnf); refine And.intro ?_ (fun s m h => HT_st ?_)
    · refine weak_k ?_; (conv => whnf)
      exact And.intro rfl (And.intro (allL_c (WkR.wk (Wk.refl _) (loose_int _ _)) (allL_c (WkR.wk (Wk.refl _) (loose_int _ _)) (allL_c (WkR.wk (Wk.refl _) (loose_int _ _)) (allL_c (WkR.wk (Wk.refl _) (loose_lst fun _ => (lo_TAttempt _))) (allL_c (WkR.wk (Wk.refl _) (loose_lst fun _ => (lo_TTicket _))) (allL_c (WkR.wk (Wk.refl _) (loose_int _ _)) (allL_c (WkR.wk (Wk.refl _) (loose_int _ _)) (allL_c (WkR.wk (Wk.refl _) (loose_int _ _)) allL_n)))))))) allL_n)
    replace h := W_blaw34_RecoveryWithin_b2 (W_bd h)
    refine HT_seq ?_
    refine HT_fr DC_ok rfl fun K hK => ?_; (conv => whnf)
    refine hK _ _ _ ?_; clear hK K
    refine HT_if fun K1 K2 hK1 hK2 => ?_; (conv => whnf)
    refine cond_lk h (fun _ h => ?_) (fun _ h => ?_)
    · refine hK1 ?_; clear hK1 hK2 K1 K2
      refine HT_skip ?_
      refine Then_n ?_
      refine HT_seq ?_
      replace h := W_jn h
      refine HT_block ?_
      refine HT_seq ?_
      refine HT_fd DC_ok mix_ok rfl (by kernel_rfl) fun K hK => ?_; (conv => whnf)
      refine ix_lk h fun _ h => ?_; (conv => whnf)
      refine getK_of rfl ?_; (conv => whnf)
      refine ix_lk h fun _ h => ?_; (conv => whnf)
      refine getK_of rfl ?_; (conv => whnf)
      refine hK _ _ _ ?_; clear hK K
      refine HT_if fun K1 K2 hK1 hK2 => ?_; (conv => whnf)
      refine cond_lk h (fun _ h => ?_) (fun _ h => ?_)
      · refine hK1 ?_; clear hK1 hK2 K1 K2
        refine HT_exit ?_
        refine Then_e ?_
        refine InBlock_e ?_
        refine Then_n ?_
        refine HT_f DC_ok rfl fun K hK => ?_; (conv => whnf)
        refine hK _ _ _ ?_; clear hK K
        refine Then_n ?_
        replace h := W_xnx h
        refine ⟨_, h, ?_⟩
        refine weak_k ?_; (conv => whnf)
        exact And.intro rfl (And.intro (allL_c (WkR.wk (Wk.refl _) (loose_int _ _)) (allL_c (WkR.wk (Wk.refl _) (loose_int _ _)) (allL_c (WkR.wk (Wk.refl _) (loose_int _ _)) (allL_c (WkR.wk (Wk.refl _) (loose_lst fun _ => (lo_TAttempt _))) (allL_c (WkR.wk (Wk.refl _) (loose_lst fun _ => (lo_TTicket _))) (allL_c (WkR.wk (Wk.refl _) (loose_int _ _)) (allL_c (WkR.wk (Wk.refl _) (loose_int _ _)) (allL_c (WkR.wk (Wk.refl _) (loose_int _ _)) allL_n)))))))) allL_n)
      refine hK2 ?_; clear hK1 hK2 K1 K2
      refine HT_skip ?_
      refine Then_n ?_
      refine HT_fr DC_ok rfl fun K hK => ?_; (conv => whnf)
      refine hK _ _ _ ?_; clear hK K
      refine HT_seq ?_
      refine HT_fd DC_ok mix_ok rfl (by kernel_rfl) fun K hK => ?_; (conv => whnf)
      replace h := W_jn h
      refine ix_lk h fun _ h => ?_; (conv => whnf)
      refine getK_of rfl ?_; (conv => whnf)
      refine ix_lk h fun _ h => ?_; (conv => whnf)
      refine getK_of rfl ?_; (conv => whnf)
      refine cond_lk h (fun _ h => ?_) (fun _ h => ?_) <;> (conv => whnf)
      · refine hK _ _ _ ?_; clear hK K
        refine HT_if fun K1 K2 hK1 hK2 => ?_; (conv => whnf)
        refine hK1 ?_; clear hK1 hK2 K1 K2
        replace h := W_cnT h
        refine HT_fr DC_ok rfl fun K hK => ?_; (conv => whnf)
        refine hK _ _ _ ?_; clear hK K
        refine HT_ret ?_
        refine Then_r ?_
        refine InBlock_r ?_
        refine Then_r ?_
        refine Then_r ?_
        refine InBlock_r ?_
        refine Then_r ?_
        refine InBlock_r ?_
        refine Then_r ?_
        refine Then_r ?_
        refine InBlock_r ?_
        refine Then_r ?_
        replace h := W_xrt h
        replace h := W_inr h
        replace h := W_xrt h
        replace h := W_inr h
        replace h := W_some h
        refine PostP_r DC_ok fun K hK => ?_; (conv => whnf)
        refine hK _ ?_; clear hK K
        cases h
        exact Wk.refl _
      refine ix_lk h fun _ h => ?_; (conv => whnf)
      refine getK_of rfl ?_; (conv => whnf)
      refine ix_lk h fun _ h => ?_; (conv => whnf)
      refine getK_of rfl ?_; (conv => whnf)
      refine hK _ _ _ ?_; clear hK K
      refine HT_if fun K1 K2 hK1 hK2 => ?_; (conv => whnf)
      refine cond_lk h (fun _ h => ?_) (fun _ h => ?_)
      · refine hK1 ?_; clear hK1 hK2 K1 K2
        refine HT_fr DC_ok rfl fun K hK => ?_; (conv => whnf)
        refine hK _ _ _ ?_; clear hK K
        refine HT_ret ?_
        refine Then_r ?_
        refine InBlock_r ?_
        refine Then_r ?_
        refine Then_r ?_
        refine InBlock_r ?_
        refine Then_r ?_
        refine InBlock_r ?_
        refine Then_r ?_
        refine Then_r ?_
        refine InBlock_r ?_
        refine Then_r ?_
        replace h := W_xrt h
        replace h := W_inr h
        replace h := W_xrt h
        replace h := W_inr h
        replace h := W_some h
        refine PostP_r DC_ok fun K hK => ?_; (conv => whnf)
        refine hK _ ?_; clear hK K
        cases h
        exact Wk.refl _
      refine hK2 ?_; clear hK1 hK2 K1 K2
      refine HT_skip ?_
      refine Then_n ?_
      refine HT_fr DC_ok rfl fun K hK => ?_; (conv => whnf)
      replace h := W_jn h
      refine ix_lk h fun _ h => ?_; (conv => whnf)
      refine getK_of rfl ?_; (conv => whnf)
      refine cond_lk h (fun _ h => ?_) (fun _ h => ?_) <;> (conv => whnf)
      · refine ix_lk h fun _ h => ?_; (conv => whnf)
        refine getK_of rfl ?_; (conv => whnf)
        refine hK _ _ _ ?_; clear hK K
        replace h := W_jn h
        refine HT_if fun K1 K2 hK1 hK2 => ?_; (conv => whnf)
        refine cond_lk h (fun _ h => ?_) (fun _ h => ?_)
        · refine hK1 ?_; clear hK1 hK2 K1 K2
          refine HT_f DC_ok rfl fun K hK => ?_; (conv => whnf)
          refine hK _ _ _ ?_; clear hK K
          refine InBlock_n ?_
          refine Then_n ?_
          refine HT_f DC_ok rfl fun K hK => ?_; (conv => whnf)
          refine hK _ _ _ ?_; clear hK K
          refine Then_n ?_
          replace h := W_xnx h
          refine ⟨_, h, ?_⟩
          refine weak_k ?_; (conv => whnf)
          exact And.intro rfl (And.intro (allL_c (WkR.wk (Wk.refl _) (loose_int _ _)) (allL_c (WkR.wk (Wk.refl _) (loose_int _ _)) (allL_c (WkR.wk (Wk.refl _) (loose_int _ _)) (allL_c (WkR.wk (Wk.refl _) (loose_lst fun _ => (lo_TAttempt _))) (allL_c (WkR.wk (Wk.refl _) (loose_lst fun _ => (lo_TTicket _))) (allL_c (WkR.wk (Wk.refl _) (loose_int _ _)) (allL_c (WkR.wk (Wk.refl _) (loose_int _ _)) (allL_c (WkR.wk (Wk.refl _) (loose_int _ _)) allL_n)))))))) allL_n)
        refine hK2 ?_; clear hK1 hK2 K1 K2
        refine HT_skip ?_
        refine InBlock_n ?_
        refine Then_n ?_
        refine HT_f DC_ok rfl fun K hK => ?_; (conv => whnf)
        refine hK _ _ _ ?_; clear hK K
        refine Then_n ?_
        replace h := W_xnx h
        refine ⟨_, h, ?_⟩
        refine weak_k ?_; (conv => whnf)
        exact And.intro rfl (And.intro (allL_c (WkR.wk (Wk.refl _) (loose_int _ _)) (allL_c (WkR.wk (Wk.refl _) (loose_int _ _)) (allL_c (WkR.wk (Wk.refl _) (loose_int _ _)) (allL_c (WkR.wk (Wk.refl _) (loose_lst fun _ => (lo_TAttempt _))) (allL_c (WkR.wk (Wk.refl _) (loose_lst fun _ => (lo_TTicket _))) (allL_c (WkR.wk (Wk.refl _) (loose_int _ _)) (allL_c (WkR.wk (Wk.refl _) (loose_int _ _)) (allL_c (WkR.wk (Wk.refl _) (loose_int _ _)) allL_n)))))))) allL_n)
      refine hK _ _ _ ?_; clear hK K
      replace h := W_jn h
      refine HT_if fun K1 K2 hK1 hK2 => ?_; (conv => whnf)
      refine hK2 ?_; clear hK1 hK2 K1 K2
      replace h := W_cnF h
      refine HT_skip ?_
      refine InBlock_n ?_
      refine Then_n ?_
      refine HT_f DC_ok rfl fun K hK => ?_; (conv => whnf)
      refine hK _ _ _ ?_; clear hK K
      refine Then_n ?_
      replace h := W_xnx h
      refine ⟨_, h, ?_⟩
      refine weak_k ?_; (conv => whnf)
      exact And.intro rfl (And.intro (allL_c (WkR.wk (Wk.refl _) (loose_int _ _)) (allL_c (WkR.wk (Wk.refl _) (loose_int _ _)) (allL_c (WkR.wk (Wk.refl _) (loose_int _ _)) (allL_c (WkR.wk (Wk.refl _) (loose_lst fun _ => (lo_TAttempt _))) (allL_c (WkR.wk (Wk.refl _) (loose_lst fun _ => (lo_TTicket _))) (allL_c (WkR.wk (Wk.refl _) (loose_int _ _)) (allL_c (WkR.wk (Wk.refl _) (loose_int _ _)) (allL_c (WkR.wk (Wk.refl _) (loose_int _ _)) allL_n)))))))) allL_n)
    refine hK2 ?_; clear hK1 hK2 K1 K2
    refine HT_exit ?_
    refine Then_e ?_
    refine Then_e ?_
    refine InBlock_e ?_
    replace h := W_xbk h
    replace h := W_inl h
    refine Then_n ?_
    refine HT_fr DC_ok rfl fun K hK => ?_; (conv => whnf)
    refine hK _ _ _ ?_; clear hK K
    refine HT_if fun K1 K2 hK1 hK2 => ?_; (conv => whnf)
    refine cond_lk h (fun _ h => ?_) (fun _ h => ?_)
    · refine hK1 ?_; clear hK1 hK2 K1 K2
      refine HT_fr DC_ok rfl fun K hK => ?_; (conv => whnf)
      refine hK _ _ _ ?_; clear hK K
      refine HT_ret ?_
      refine InBlock_r ?_
      refine Then_r ?_
      refine Then_r ?_
      refine InBlock_r ?_
      refine Then_r ?_
      replace h := W_xrt h
      replace h := W_inr h
      replace h := W_some h
      refine PostP_r DC_ok fun K hK => ?_; (conv => whnf)
      refine hK _ ?_; clear hK K
      cases h
      exact Wk.refl _
    refine hK2 ?_; clear hK1 hK2 K1 K2
    refine HT_skip ?_
    refine InBlock_n ?_
    refine Then_n ?_
    refine HT_f DC_ok rfl fun K hK => ?_; (conv => whnf)
    refine hK _ _ _ ?_; clear hK K
    refine Then_n ?_
    replace h := W_xnx h
    refine ⟨_, h, ?_⟩
    refine weak_k ?_; (conv => whnf)
    exact And.intro rfl (And.intro (allL_c (WkR.wk (Wk.refl _) (loose_int _ _)) (allL_c (WkR.wk (Wk.refl _) (loose_int _ _)) (allL_c (WkR.wk (Wk.refl _) (loose_lst fun _ => (lo_TAttempt _))) (allL_c (WkR.wk (Wk.refl _) (loose_lst fun _ => (lo_TTicket _))) (allL_c (WkR.wk (Wk.refl _) (loose_int _ _)) (allL_c (WkR.wk (Wk.refl _) (loose_int _ _)) allL_n)))))) allL_n)
  refine hK2 ?_; clear hK1 hK2 K1 K2
  refine HT_exit ?_
  refine Then_e ?_
  refine Then_e ?_
  refine InBlock_e ?_
  replace h := W_xbk h
  replace h := W_inl h
  refine Then_n ?_
  refine HT_fr DC_ok rfl fun K hK => ?_; (conv => whnf)
  refine hK _ _ _ ?_; clear hK K
  refine HT_ret ?_
  replace h := W_some h
  refine PostP_r DC_ok fun K hK => ?_; (conv => whnf)
  refine hK _ ?_; clear hK K
  cases h
  exact Wk.refl _
theorem law34_RecoveryWithin_call {T : Tbl} (hT : T 4 = pureR law34_RecoveryWithin_S) {args : List AV} {hp : Heap} {id : Nat} {k : AV → Prop} {a0 : List (Int × Int)} {a1 : Int} {a2 : List (Int × Int)} {a3 : Int} {Φ : Bool → Prop} (h : W (law34_RecoveryWithin_F a0 a1 a2 a3) Φ) (hw : WkL args [(eL 2 eA71 default) a0, eI a1, (eL 2 eA71 default) a2, eI a3]) (hk : ∀ y, Φ y → k (eB y)) : callpK T 4 args hp id k := by
  obtain ⟨y, e, hy⟩ := W_inv h
  exact callpK_pure hT ⟨a0, a1, a2, a3, rfl, W_of e rfl⟩ (by exact (loose_bool _)) hw (hk y hy)
end Go.Proofs.Ytcidmnpihffphaa
