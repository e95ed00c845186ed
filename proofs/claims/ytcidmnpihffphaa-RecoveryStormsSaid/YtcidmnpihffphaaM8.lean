import Derived.Test.YtcidmnpihffphaaM7
set_option linter.unusedVariables false
set_option linter.unusedSimpArgs false
set_option linter.unusedSectionVars false
/-! V11 -/
namespace Go.Proofs.Ytcidmnpihffphaa
open Go Go.Eng
set_option maxHeartbeats 0
set_option maxRecDepth 100000
/-! dialtonelaw34.RecoveryStorms -/

    def law34_RecoveryStorms_b2 (y4 : (List TTicket) × Int) (y11 : Int) (s24 : Int × Int) : Option (Ct (Int × Int) Bool) := cn (decide (s24.2 < (y4.1.length : Int))) (ix y4.1 default s24.2 fun e25 =>
    jn (fun p26 : Int => some (.nx (p26, (wr (s24.2 + 1))))) fun k27 => cn (decide (e25.At ≤ y11)) (k27 (wr (s24.1 + 1))) (k27 s24.1)) (some (.bk (s24.1, s24.2)))
theorem W_blaw34_RecoveryStorms_b2 {y4 : (List TTicket) × Int} {y11 : Int} {s24 : Int × Int} {Φ : Ct (Int × Int) Bool → Prop} (h : W (law34_RecoveryStorms_b2 y4 y11 s24) Φ) : W (cn (decide (s24.2 < (y4.1.length : Int))) (ix y4.1 default s24.2 fun e25 => jn (fun p26 : Int => some (.nx (p26, (wr (s24.2 + 1))))) fun k27 =>
    cn (decide (e25.At ≤ y11)) (k27 (wr (s24.1 + 1))) (k27 s24.1)) (some (.bk (s24.1, s24.2)))) Φ := h

    def law34_RecoveryStorms_b1 (y6 : (List TTicket) × Int × Int) (y11 : Int) (s12 : Int × Int) : Option (Ct (Int × Int) Bool) := cn (decide (s12.2 < (y6.1.length : Int))) (ix y6.1 default s12.2 fun e13 =>
    jn (fun p14 : Int => jn (fun p16 : Bool => cn p16 (some (.rt false)) (some (.nx (p14, (wr (s12.2 + 1)))))) fun k17 => ix y6.1 default s12.2 fun e18 =>
    ix y6.1 default s12.2 fun e19 => cn (decide (e18.At < e19.First)) (k17 true) (cn (decide (y6.2.1 ≥ 0)) (ix y6.1 default s12.2 fun e20 => k17 (decide (e20.At >
    y6.2.1))) (k17 false))) fun k15 => cn (decide (e13.At ≤ y11)) (k15 (wr (s12.1 + 1))) (k15 s12.1)) (some (.bk (s12.1, s12.2)))
theorem W_blaw34_RecoveryStorms_b1 {y6 : (List TTicket) × Int × Int} {y11 : Int} {s12 : Int × Int} {Φ : Ct (Int × Int) Bool → Prop} (h : W (law34_RecoveryStorms_b1 y6 y11 s12) Φ) : W (cn (decide (s12.2 < (y6.1.length : Int))) (ix y6.1 default s12.2 fun e13 => jn (fun p14 : Int => jn (fun p16 : Bool =>
    cn p16 (some (.rt false)) (some (.nx (p14, (wr (s12.2 + 1)))))) fun k17 => ix y6.1 default s12.2 fun e18 => ix y6.1 default s12.2 fun e19 =>
    cn (decide (e18.At < e19.First)) (k17 true) (cn (decide (y6.2.1 ≥ 0)) (ix y6.1 default s12.2 fun e20 => k17 (decide (e20.At > y6.2.1))) (k17 false))) fun k15 =>
    cn (decide (e13.At ≤ y11)) (k15 (wr (s12.1 + 1))) (k15 s12.1)) (some (.bk (s12.1, s12.2)))) Φ := h
def law34_RecoveryStorms_F (a0 : List (Int × Int)) (a1 : Int) (a2 : List (Int × Int)) (a3 : Int) (a4 : Int) : Option Bool := bd (law34_sane_F ) fun y1 =>
    cn (!y1) (some false) (bd (ref34_Made_F a0 a1) fun y2 => bd (ref34_Attempts_F a2) fun y3 => bd (recovery_Plan_F y2 y3) fun y4 => bd (law34_pick_F a3 6) fun y5 =>
    bd (recovery_Storm_F y2 y3 (wr (1 + y5))) fun y6 => bd (recovery_Storm_F y2 y3 1) fun y7 => jn (fun p8 : Bool => cn p8 (some false) (bd (law34_pick_F a4 80) fun y11 =>
    bd (lp (law34_RecoveryStorms_b1 y6 y11) FU (0, 0)) fun c21 => smK c21 (fun s22 => bd (lp (law34_RecoveryStorms_b2 y4 y11) FU (0, 0)) fun c28 => smK c28 (fun s29 =>
    some (decide (s22.1 ≤ s29.1))) (fun r30 => some r30)) (fun r23 => some r23))) fun k9 => cn (y4.2 != 0) (k9 true) (cn (y6.2.2 != 0) (k9 true) (cn (y7.2.2 !=
    0) (k9 true) (cn (decide (y7.2.1 < 0)) (bd (ref34_Same_F y7.1 y4.1) fun y10 => cn (!y10) (k9 true) (cn (decide (y6.2.1 < 0)) (k9 ((y6.1.length : Int) !=
    (y3.length : Int))) (k9 false))) (cn (decide (y6.2.1 < 0)) (k9 ((y6.1.length : Int) != (y3.length : Int))) (k9 false))))))
def law34_RecoveryStorms_S : List AV → AV → Prop := fun args r => ∃ a0 a1 a2 a3 a4, args = [(eL 2 eA71 default) a0, eI a1, (eL 2 eA71 default) a2, eI a3, eI a4] ∧ W (law34_RecoveryStorms_F a0 a1 a2 a3 a4) fun y => r = (eB y)
theorem law34_RecoveryStorms_ok {T : Tbl} (hT : TOk Try.prog T) (hpf : PfOk T PF) (h13 : T 13 = pureR law34_sane_S) (h14 : T 14 = pureR ref34_Made_S) (h15 : T 15 = pureR ref34_Attempts_S) (h18 : T 18 = pureR recovery_Plan_S) (h28 : T 28 = pureR ref34_Same_S) (h29 : T 29 = pureR law34_pick_S) (h34 : T 34 = pureR recovery_Storm_S) : FOk Try.prog 11 (pureR law34_RecoveryStorms_S) := by
  refine FOk_pure hT hpf Try.func11 rfl Try.ntmps11 Try.results11 (by decide) ?_
  rintro args r ⟨a0, a1, a2, a3, a4, rfl, h⟩
  refine ⟨Nat.le_of_ble_eq_true rfl, ?_, ?_⟩
  · exact (loose_cons (loose_lst fun _ => (lo_A71 _)) (loose_cons (loose_int _ _) (loose_cons (loose_lst fun _ => (lo_A71 _)) (loose_cons (loose_int _ _) (loose_cons (loose_int _ _) loose_nil)))))
  rw [law34_RecoveryStorms_F.eq_1] at h
  refine HT_fr DC_ok rfl fun K hK => ?_; (conv => whnf)
  refine hK _ _ _ ?_; clear hK K
  refine HT_fr DC_ok rfl fun K hK => ?_; (conv => whnf)
  replace h := W_bd h
  refine law34_sane_call h13 h (WkL.refl _) (fun _ h => ?_); (conv => whnf)
  refine hK _ _ _ ?_; clear hK K
  refine HT_seq ?_
  refine HT_fr DC_ok rfl fun K hK => ?_; (conv => whnf)
  refine hK _ _ _ ?_; clear hK K
  refine HT_if fun K1 K2 hK1 hK2 => ?_; (conv => whnf)
  refine cond_lk h (fun _ h => ?_) (fun _ h => ?_)
  · refine hK1 ?_; clear hK1 hK2 K1 K2
    refine HT_fr DC_ok rfl fun K hK => ?_; (conv => whnf)
    refine hK _ _ _ ?_; clear hK K
    refine HT_ret ?_
    refine Then_r ?_
    replace h := W_some h
    refine PostP_r DC_ok fun K hK => ?_; (conv => whnf)
    refine hK _ ?_; clear hK K
    cases h
    exact Wk.refl _
  refine hK2 ?_; clear hK1 hK2 K1 K2
  refine HT_skip ?_
  refine Then_n ?_
  refine HT_fr DC_ok rfl fun K hK => ?_; (conv => whnf)
  replace h := W_bd h
  refine ref34_Made_call h14 h (WkL.refl _) (fun _ h => ?_); (conv => whnf)
  refine blkK_of rfl ?_; (conv => whnf)
  refine And.intro rfl (And.intro (Nat.le_of_ble_eq_true rfl) (And.intro rfl ?_)); (conv => whnf)
  refine hK _ _ _ ?_; clear hK K
  refine HT_fr DC_ok rfl fun K hK => ?_; (conv => whnf)
  replace h := W_bd h
  refine ref34_Attempts_call h15 h (WkL.refl _) (fun _ h => ?_); (conv => whnf)
  refine hK _ _ _ ?_; clear hK K
  refine HT_fr DC_ok rfl fun K hK => ?_; (conv => whnf)
  refine And.intro (Nat.le_of_ble_eq_true rfl) ?_; (conv => whnf)
  refine blkK_of rfl ?_; (conv => whnf)
  refine And.intro (Nat.le_of_ble_eq_true rfl) ?_; (conv => whnf)
  replace h := W_bd h
  refine recovery_Plan_call h18 h (WkL.refl _) (fun _ h => ?_); (conv => whnf)
  refine hK _ _ _ ?_; clear hK K
  refine HT_fd DC_ok mix_ok rfl (by kernel_rfl) fun K hK => ?_; (conv => whnf)
  refine And.intro (Nat.le_of_ble_eq_true rfl) ?_; (conv => whnf)
  refine blkK_of rfl ?_; (conv => whnf)
  refine And.intro (Nat.le_of_ble_eq_true rfl) ?_; (conv => whnf)
  replace h := W_bd h
  refine law34_pick_call h29 h (WkL.refl _) (fun _ h => ?_); (conv => whnf)
  replace h := W_bd h
  refine recovery_Storm_call h34 h (WkL.refl _) (fun _ h => ?_); (conv => whnf)
  refine hK _ _ _ ?_; clear hK K
  refine HT_fr DC_ok rfl fun K hK => ?_; (conv => whnf)
  refine And.intro (Nat.le_of_ble_eq_true rfl) ?_; (conv => whnf)
  refine blkK_of rfl ?_; (conv => whnf)
  refine And.intro (Nat.le_of_ble_eq_true rfl) ?_; (conv => whnf)
  replace h := W_bd h
  refine recovery_Storm_call h34 h (WkL.refl _) (fun _ h => ?_); (conv => whnf)
  refine hK _ _ _ ?_; clear hK K
  refine HT_seq ?_
  refine HT_jnK rfl h [4, 14, 16, 17] [] [] (fun kl kh ids b s => ⟨ofL ([(88, eB s)] ++ kl), ofH ([] ++ kh), b + 64⟩) ?_; (conv => whnf); refine And.intro (fun s h => HT_st ?_) (fun k h => ?_)
  · refine HT_if fun K1 K2 hK1 hK2 => ?_; (conv => whnf)
    refine cond_lk h (fun _ h => ?_) (fun _ h => ?_)
    · refine hK1 ?_; clear hK1 hK2 K1 K2
      refine HT_fr DC_ok rfl fun K hK => ?_; (conv => whnf)
      refine hK _ _ _ ?_; clear hK K
      refine HT_ret ?_
      refine Then_r ?_
      replace h := W_some h
      refine PostP_r DC_ok fun K hK => ?_; (conv => whnf)
      refine hK _ ?_; clear hK K
      cases h
      exact Wk.refl _
    refine hK2 ?_; clear hK1 hK2 K1 K2
    refine HT_skip ?_
    refine Then_n ?_
    refine HT_fr DC_ok rfl fun K hK => ?_; (conv => whnf)
    replace h := W_bd h
    refine law34_pick_call h29 h (WkL.refl _) (fun _ h => ?_); (conv => whnf)
    refine hK _ _ _ ?_; clear hK K
    refine HT_fr DC_ok rfl fun K hK => ?_; (conv => whnf)
    refine hK _ _ _ ?_; clear hK K
    refine HT_fr DC_ok rfl fun K hK => ?_; (conv => whnf)
    refine hK _ _ _ ?_; clear hK K
    refine HT_seq ?_
    refine HT_fr DC_ok rfl fun K hK => ?_; (conv => whnf)
    refine hK _ _ _ ?_; clear hK K
    refine HT_block ?_
    replace h := W_bd h
    refine HT_lpK (body := law34_RecoveryStorms_b1 _ _) rfl h [14, 16, 17, 22, 24] [] [] (fun kl kh ids b s => ⟨ofL ([(23, eI s.1), (25, eI s.2)] ++ kl), ofH ([] ++ kh), b + 64⟩) ?_; (conv => whnf); refine And.intro ?_ (fun s m h => HT_st ?_)
    · refine weak_k ?_; (conv => whnf)
      exact And.intro rfl (And.intro (allL_c (WkR.wk (Wk.refl _) (loose_int _ _)) (allL_c (WkR.wk (Wk.refl _) (loose_int _ _)) (allL_c (WkR.wk (Wk.refl _) (loose_lst fun _ => (lo_TTicket _))) (allL_c (WkR.wk (Wk.refl _) (loose_lst fun _ => (lo_TTicket _))) (allL_c (WkR.wk (Wk.refl _) (loose_int _ _)) (allL_c (WkR.wk (Wk.refl _) (loose_int _ _)) (allL_c (WkR.wk (Wk.refl _) (loose_int _ _)) allL_n))))))) allL_n)
    replace h := W_blaw34_RecoveryStorms_b1 (W_bd h)
    refine HT_seq ?_
    refine HT_fr DC_ok rfl fun K hK => ?_; (conv => whnf)
    refine hK _ _ _ ?_; clear hK K
    refine HT_if fun K1 K2 hK1 hK2 => ?_; (conv => whnf)
    refine cond_lk h (fun _ h => ?_) (fun _ h => ?_)
    · refine hK1 ?_; clear hK1 hK2 K1 K2
      refine HT_skip ?_
      refine Then_n ?_
      refine HT_seq ?_
      refine HT_block ?_
      refine HT_seq ?_
      refine HT_fr DC_ok rfl fun K hK => ?_; (conv => whnf)
      refine ix_lk h fun _ h => ?_; (conv => whnf)
      refine getK_of rfl ?_; (conv => whnf)
      refine hK _ _ _ ?_; clear hK K
      replace h := W_jn h
      refine HT_if fun K1 K2 hK1 hK2 => ?_; (conv => whnf)
      refine cond_lk h (fun _ h => ?_) (fun _ h => ?_)
      · refine hK1 ?_; clear hK1 hK2 K1 K2
        refine HT_f DC_ok rfl fun K hK => ?_; (conv => whnf)
        refine hK _ _ _ ?_; clear hK K
        refine Then_n ?_
        refine HT_fd DC_ok mix_ok rfl (by kernel_rfl) fun K hK => ?_; (conv => whnf)
        replace h := W_jn h
        refine ix_lk h fun _ h => ?_; (conv => whnf)
        refine getK_of rfl ?_; (conv => whnf)
        refine ix_lk h fun _ h => ?_; (conv => whnf)
        refine getK_of rfl ?_; (conv => whnf)
        refine cond_lk h (fun _ h => ?_) (fun _ h => ?_) <;> (conv => whnf)
        · refine hK _ _ _ ?_; clear hK K
          refine HT_if fun K1 K2 hK1 hK2 => ?_; (conv => whnf)
          refine hK1 ?_; clear hK1 hK2 K1 K2
          replace h := W_cnT h
          refine HT_fr DC_ok rfl fun K hK => ?_; (conv => whnf)
          refine hK _ _ _ ?_; clear hK K
          refine HT_ret ?_
          refine InBlock_r ?_
          refine Then_r ?_
          refine Then_r ?_
          refine InBlock_r ?_
          refine Then_r ?_
          replace h := W_xrt h
          replace h := W_inr h
          replace h := W_some h
          refine PostP_r DC_ok fun K hK => ?_; (conv => whnf)
          refine hK _ ?_; clear hK K
          cases h
          exact Wk.refl _
        refine cond_lk h (fun _ h => ?_) (fun _ h => ?_) <;> (conv => whnf)
        · refine ix_lk h fun _ h => ?_; (conv => whnf)
          refine getK_of rfl ?_; (conv => whnf)
          refine hK _ _ _ ?_; clear hK K
          refine HT_if fun K1 K2 hK1 hK2 => ?_; (conv => whnf)
          refine cond_lk h (fun _ h => ?_) (fun _ h => ?_)
          · refine hK1 ?_; clear hK1 hK2 K1 K2
            refine HT_fr DC_ok rfl fun K hK => ?_; (conv => whnf)
            refine hK _ _ _ ?_; clear hK K
            refine HT_ret ?_
            refine InBlock_r ?_
            refine Then_r ?_
            refine Then_r ?_
            refine InBlock_r ?_
            refine Then_r ?_
            replace h := W_xrt h
            replace h := W_inr h
            replace h := W_some h
            refine PostP_r DC_ok fun K hK => ?_; (conv => whnf)
            refine hK _ ?_; clear hK K
            cases h
            exact Wk.refl _
          refine hK2 ?_; clear hK1 hK2 K1 K2
          refine HT_skip ?_
          refine InBlock_n ?_
          refine Then_n ?_
          refine HT_f DC_ok rfl fun K hK => ?_; (conv => whnf)
          refine hK _ _ _ ?_; clear hK K
          refine Then_n ?_
          replace h := W_xnx h
          refine ⟨_, h, ?_⟩
          refine weak_k ?_; (conv => whnf)
          exact And.intro rfl (And.intro (allL_c (WkR.wk (Wk.refl _) (loose_int _ _)) (allL_c (WkR.wk (Wk.refl _) (loose_int _ _)) (allL_c (WkR.wk (Wk.refl _) (loose_lst fun _ => (lo_TTicket _))) (allL_c (WkR.wk (Wk.refl _) (loose_lst fun _ => (lo_TTicket _))) (allL_c (WkR.wk (Wk.refl _) (loose_int _ _)) (allL_c (WkR.wk (Wk.refl _) (loose_int _ _)) (allL_c (WkR.wk (Wk.refl _) (loose_int _ _)) allL_n))))))) allL_n)
        refine hK _ _ _ ?_; clear hK K
        refine HT_if fun K1 K2 hK1 hK2 => ?_; (conv => whnf)
        refine hK2 ?_; clear hK1 hK2 K1 K2
        replace h := W_cnF h
        refine HT_skip ?_
        refine InBlock_n ?_
        refine Then_n ?_
        refine HT_f DC_ok rfl fun K hK => ?_; (conv => whnf)
        refine hK _ _ _ ?_; clear hK K
        refine Then_n ?_
        replace h := W_xnx h
        refine ⟨_, h, ?_⟩
        refine weak_k ?_; (conv => whnf)
        exact And.intro rfl (And.intro (allL_c (WkR.wk (Wk.refl _) (loose_int _ _)) (allL_c (WkR.wk (Wk.refl _) (loose_int _ _)) (allL_c (WkR.wk (Wk.refl _) (loose_lst fun _ => (lo_TTicket _))) (allL_c (WkR.wk (Wk.refl _) (loose_lst fun _ => (lo_TTicket _))) (allL_c (WkR.wk (Wk.refl _) (loose_int _ _)) (allL_c (WkR.wk (Wk.refl _) (loose_int _ _)) (allL_c (WkR.wk (Wk.refl _) (loose_int _ _)) allL_n))))))) allL_n)
      refine hK2 ?_; clear hK1 hK2 K1 K2
      refine HT_skip ?_
      refine Then_n ?_
      refine HT_fd DC_ok mix_ok rfl (by kernel_rfl) fun K hK => ?_; (conv => whnf)
      replace h := W_jn h
      refine ix_lk h fun _ h => ?_; (conv => whnf)
      refine getK_of rfl ?_; (conv => whnf)
      refine ix_lk h fun _ h => ?_; (conv => whnf)
      refine getK_of rfl ?_; (conv => whnf)
      refine cond_lk h (fun _ h => ?_) (fun _ h => ?_) <;> (conv => whnf)
      · refine hK _ _ _ ?_; clear hK K
        refine HT_if fun K1 K2 hK1 hK2 => ?_; (conv => whnf)
        refine hK1 ?_; clear hK1 hK2 K1 K2
        replace h := W_cnT h
        refine HT_fr DC_ok rfl fun K hK => ?_; (conv => whnf)
        refine hK _ _ _ ?_; clear hK K
        refine HT_ret ?_
        refine InBlock_r ?_
        refine Then_r ?_
        refine Then_r ?_
        refine InBlock_r ?_
        refine Then_r ?_
        replace h := W_xrt h
        replace h := W_inr h
        replace h := W_some h
        refine PostP_r DC_ok fun K hK => ?_; (conv => whnf)
        refine hK _ ?_; clear hK K
        cases h
        exact Wk.refl _
      refine cond_lk h (fun _ h => ?_) (fun _ h => ?_) <;> (conv => whnf)
      · refine ix_lk h fun _ h => ?_; (conv => whnf)
        refine getK_of rfl ?_; (conv => whnf)
        refine hK _ _ _ ?_; clear hK K
        refine HT_if fun K1 K2 hK1 hK2 => ?_; (conv => whnf)
        refine cond_lk h (fun _ h => ?_) (fun _ h => ?_)
        · refine hK1 ?_; clear hK1 hK2 K1 K2
          refine HT_fr DC_ok rfl fun K hK => ?_; (conv => whnf)
          refine hK _ _ _ ?_; clear hK K
          refine HT_ret ?_
          refine InBlock_r ?_
          refine Then_r ?_
          refine Then_r ?_
          refine InBlock_r ?_
          refine Then_r ?_
          replace h := W_xrt h
          replace h := W_inr h
          replace h := W_some h
          refine PostP_r DC_ok fun K hK => ?_; (conv => whnf)
          refine hK _ ?_; clear hK K
          cases h
          exact Wk.refl _
        refine hK2 ?_; clear hK1 hK2 K1 K2
        refine HT_skip ?_
        refine InBlock_n ?_
        refine Then_n ?_
        refine HT_f DC_ok rfl fun K hK => ?_; (conv => whnf)
        refine hK _ _ _ ?_; clear hK K
        refine Then_n ?_
        replace h := W_xnx h
        refine ⟨_, h, ?_⟩
        refine weak_k ?_; (conv => whnf)
        exact And.intro rfl (And.intro (allL_c (WkR.wk (Wk.refl _) (loose_int _ _)) (allL_c (WkR.wk (Wk.refl _) (loose_int _ _)) (allL_c (WkR.wk (Wk.refl _) (loose_lst fun _ => (lo_TTicket _))) (allL_c (WkR.wk (Wk.refl _) (loose_lst fun _ => (lo_TTicket _))) (allL_c (WkR.wk (Wk.refl _) (loose_int _ _)) (allL_c (WkR.wk (Wk.refl _) (loose_int _ _)) (allL_c (WkR.wk (Wk.refl _) (loose_int _ _)) allL_n))))))) allL_n)
      refine hK _ _ _ ?_; clear hK K
      refine HT_if fun K1 K2 hK1 hK2 => ?_; (conv => whnf)
      refine hK2 ?_; clear hK1 hK2 K1 K2
      replace h := W_cnF h
      refine HT_skip ?_
      refine InBlock_n ?_
      refine Then_n ?_
      refine HT_f DC_ok rfl fun K hK => ?_; (conv => whnf)
      refine hK _ _ _ ?_; clear hK K
      refine Then_n ?_
      replace h := W_xnx h
      refine ⟨_, h, ?_⟩
      refine weak_k ?_; (conv => whnf)
      exact And.intro rfl (And.intro (allL_c (WkR.wk (Wk.refl _) (loose_int _ _)) (allL_c (WkR.wk (Wk.refl _) (loose_int _ _)) (allL_c (WkR.wk (Wk.refl _) (loose_lst fun _ => (lo_TTicket _))) (allL_c (WkR.wk (Wk.refl _) (loose_lst fun _ => (lo_TTicket _))) (allL_c (WkR.wk (Wk.refl _) (loose_int _ _)) (allL_c (WkR.wk (Wk.refl _) (loose_int _ _)) (allL_c (WkR.wk (Wk.refl _) (loose_int _ _)) allL_n))))))) allL_n)
    refine hK2 ?_; clear hK1 hK2 K1 K2
    refine HT_exit ?_
    refine Then_e ?_
    refine Then_e ?_
    refine InBlock_e ?_
    replace h := W_xbk h
    replace h := W_inl h
    refine Then_n ?_
    refine HT_seq ?_
    refine HT_fr DC_ok rfl fun K hK => ?_; (conv => whnf)
    refine hK _ _ _ ?_; clear hK K
    refine HT_block ?_
    replace h := W_bd h
    refine HT_lpK (body := law34_RecoveryStorms_b2 _ _) rfl h [14, 22, 23] [] [] (fun kl kh ids b s => ⟨ofL ([(24, eI s.1), (26, eI s.2)] ++ kl), ofH ([] ++ kh), b + 64⟩) ?_; (conv => whnf); refine And.intro ?_ (fun s m h => HT_st ?_)
    · refine weak_k ?_; (conv => whnf)
      exact And.intro rfl (And.intro (allL_c (WkR.wk (Wk.refl _) (loose_int _ _)) (allL_c (WkR.wk (Wk.refl _) (loose_int _ _)) (allL_c (WkR.wk (Wk.refl _) (loose_lst fun _ => (lo_TTicket _))) (allL_c (WkR.wk (Wk.refl _) (loose_int _ _)) (allL_c (WkR.wk (Wk.refl _) (loose_int _ _)) allL_n))))) allL_n)
    replace h := W_blaw34_RecoveryStorms_b2 (W_bd h)
    refine HT_seq ?_
    refine HT_fr DC_ok rfl fun K hK => ?_; (conv => whnf)
    refine hK _ _ _ ?_; clear hK K
    refine HT_if fun K1 K2 hK1 hK2 => ?_; (conv => whnf)
    refine cond_lk h (fun _ h => ?_) (fun _ h => ?_)
    · refine hK1 ?_; clear hK1 hK2 K1 K2
      refine HT_skip ?_
      refine Then_n ?_
      refine HT_seq ?_
      refine HT_block ?_
      refine HT_fr DC_ok rfl fun K hK => ?_; (conv => whnf)
      refine ix_lk h fun _ h => ?_; (conv => whnf)
      refine getK_of rfl ?_; (conv => whnf)
      refine hK _ _ _ ?_; clear hK K
      replace h := W_jn h
      refine HT_if fun K1 K2 hK1 hK2 => ?_; (conv => whnf)
      refine cond_lk h (fun _ h => ?_) (fun _ h => ?_)
      · refine hK1 ?_; clear hK1 hK2 K1 K2
        refine HT_f DC_ok rfl fun K hK => ?_; (conv => whnf)
        refine hK _ _ _ ?_; clear hK K
        refine InBlock_n ?_
        refine Then_n ?_
        refine HT_f DC_ok rfl fun K hK => ?_; (conv => whnf)
        refine hK _ _ _ ?_; clear hK K
        refine Then_n ?_
        replace h := W_xnx h
        refine ⟨_, h, ?_⟩
        refine weak_k ?_; (conv => whnf)
        exact And.intro rfl (And.intro (allL_c (WkR.wk (Wk.refl _) (loose_int _ _)) (allL_c (WkR.wk (Wk.refl _) (loose_int _ _)) (allL_c (WkR.wk (Wk.refl _) (loose_lst fun _ => (lo_TTicket _))) (allL_c (WkR.wk (Wk.refl _) (loose_int _ _)) (allL_c (WkR.wk (Wk.refl _) (loose_int _ _)) allL_n))))) allL_n)
      refine hK2 ?_; clear hK1 hK2 K1 K2
      refine HT_skip ?_
      refine InBlock_n ?_
      refine Then_n ?_
      refine HT_f DC_ok rfl fun K hK => ?_; (conv => whnf)
      refine hK _ _ _ ?_; clear hK K
      refine Then_n ?_
      replace h := W_xnx h
      refine ⟨_, h, ?_⟩
      refine weak_k ?_; (conv => whnf)
      exact And.intro rfl (And.intro (allL_c (WkR.wk (Wk.refl _) (loose_int _ _)) (allL_c (WkR.wk (Wk.refl _) (loose_int _ _)) (allL_c (WkR.wk (Wk.refl _) (loose_lst fun _ => (lo_TTicket _))) (allL_c (WkR.wk (Wk.refl _) (loose_int _ _)) (allL_c (WkR.wk (Wk.refl _) (loose_int _ _)) allL_n))))) allL_n)
    refine hK2 ?_; clear hK1 hK2 K1 K2
    refine HT_exit ?_
    refine Then_e ?_
    refine Then_e ?_
    refine InBlock_e ?_
    replace h := W_xbk h
    replace h := W_inl h
    refine Then_n ?_
    refine HT_fr DC_ok rfl fun K hK => ?_; (conv => whnf)
    refine hK _ _ _ ?_; clear hK K
    refine HT_ret ?_
    replace h := W_some h
    refine PostP_r DC_ok fun K hK => ?_; (conv => whnf)
    refine hK _ ?_; clear hK K
    cases h
    exact Wk.refl _
  refine HT_f DC_ok rfl fun K hK => ?_; (conv => whnf)
  refine cond_lk h (fun _ h => ?_) (fun _ h => ?_) <;> (conv => whnf)
  · refine hK _ _ _ ?_; clear hK K
    refine Then_n ?_
    refine ⟨_, h, ?_⟩
    refine weak_k ?_; (conv => whnf)
    exact And.intro rfl (And.intro (allL_c (WkR.wk (Wk.refl _) (loose_bool _)) (allL_c (WkR.wk (Wk.refl _) (loose_int _ _)) (allL_c (WkR.wk (Wk.refl _) (loose_lst fun _ => (lo_TTicket _))) (allL_c (WkR.wk (Wk.refl _) (loose_lst fun _ => (lo_TTicket _))) (allL_c (WkR.wk (Wk.refl _) (loose_int _ _)) allL_n))))) allL_n)
  refine cond_lk h (fun _ h => ?_) (fun _ h => ?_) <;> (conv => whnf)
  · refine hK _ _ _ ?_; clear hK K
    refine Then_n ?_
    refine ⟨_, h, ?_⟩
    refine weak_k ?_; (conv => whnf)
    exact And.intro rfl (And.intro (allL_c (WkR.wk (Wk.refl _) (loose_bool _)) (allL_c (WkR.wk (Wk.refl _) (loose_int _ _)) (allL_c (WkR.wk (Wk.refl _) (loose_lst fun _ => (lo_TTicket _))) (allL_c (WkR.wk (Wk.refl _) (loose_lst fun _ => (lo_TTicket _))) (allL_c (WkR.wk (Wk.refl _) (loose_int _ _)) allL_n))))) allL_n)
  refine cond_lk h (fun _ h => ?_) (fun _ h => ?_) <;> (conv => whnf)
  · refine hK _ _ _ ?_; clear hK K
    refine Then_n ?_
    refine ⟨_, h, ?_⟩
    refine weak_k ?_; (conv => whnf)
    exact And.intro rfl (And.intro (allL_c (WkR.wk (Wk.refl _) (loose_bool _)) (allL_c (WkR.wk (Wk.refl _) (loose_int _ _)) (allL_c (WkR.wk (Wk.refl _) (loose_lst fun _ => (lo_TTicket _))) (allL_c (WkR.wk (Wk.refl _) (loose_lst fun _ => (lo_TTicket _))) (allL_c (WkR.wk (Wk.refl _) (loose_int _ _)) allL_n))))) allL_n)
  refine cond_lk h (fun _ h => ?_) (fun _ h => ?_) <;> (conv => whnf)
  · replace h := W_bd h
    refine ref34_Same_call h28 h (WkL.refl _) (fun _ h => ?_); (conv => whnf)
    refine cond_lk h (fun _ h => ?_) (fun _ h => ?_) <;> (conv => whnf)
    · refine hK _ _ _ ?_; clear hK K
      refine Then_n ?_
      refine ⟨_, h, ?_⟩
      refine weak_k ?_; (conv => whnf)
      exact And.intro rfl (And.intro (allL_c (WkR.wk (Wk.refl _) (loose_bool _)) (allL_c (WkR.wk (Wk.refl _) (loose_int _ _)) (allL_c (WkR.wk (Wk.refl _) (loose_lst fun _ => (lo_TTicket _))) (allL_c (WkR.wk (Wk.refl _) (loose_lst fun _ => (lo_TTicket _))) (allL_c (WkR.wk (Wk.refl _) (loose_int _ _)) allL_n))))) allL_n)
    refine cond_lk h (fun _ h => ?_) (fun _ h => ?_) <;> (conv => whnf)
    · refine hK _ _ _ ?_; clear hK K
      refine Then_n ?_
      refine ⟨_, h, ?_⟩
      refine weak_k ?_; (conv => whnf)
      exact And.intro rfl (And.intro (allL_c (WkR.wk (Wk.refl _) (loose_bool _)) (allL_c (WkR.wk (Wk.refl _) (loose_int _ _)) (allL_c (WkR.wk (Wk.refl _) (loose_lst fun _ => (lo_TTicket _))) (allL_c (WkR.wk (Wk.refl _) (loose_lst fun _ => (lo_TTicket _))) (allL_c (WkR.wk (Wk.refl _) (loose_int _ _)) allL_n))))) allL_n)
    refine hK _ _ _ ?_; clear hK K
    refine Then_n ?_
    refine ⟨_, h, ?_⟩
    refine weak_k ?_; (conv => whnf)
    exact And.intro rfl (And.intro (allL_c (WkR.wk (Wk.refl _) (loose_bool _)) (allL_c (WkR.wk (Wk.refl _) (loose_int _ _)) (allL_c (WkR.wk (Wk.refl _) (loose_lst fun _ => (lo_TTicket _))) (allL_c (WkR.wk (Wk.refl _) (loose_lst fun _ => (lo_TTicket _))) (allL_c (WkR.wk (Wk.refl _) (loose_int _ _)) allL_n))))) allL_n)
  refine cond_lk h (fun _ h => ?_) (fun _ h => ?_) <;> (conv => whnf)
  · refine hK _ _ _ ?_; clear hK K
    refine Then_n ?_
    refine ⟨_, h, ?_⟩
    refine weak_k ?_; (conv => whnf)
    exact And.intro rfl (And.intro (allL_c (WkR.wk (Wk.refl _) (loose_bool _)) (allL_c (WkR.wk (Wk.refl _) (loose_int _ _)) (allL_c (WkR.wk (Wk.refl _) (loose_lst fun _ => (lo_TTicket _))) (allL_c (WkR.wk (Wk.refl _) (loose_lst fun _ => (lo_TTicket _))) (allL_c (WkR.wk (Wk.refl _) (loose_int _ _)) allL_n))))) allL_n)
  refine hK _ _ _ ?_; clear hK K
  refine Then_n ?_
  refine ⟨_, h, ?_⟩
  refine weak_k ?_; (conv => whnf)
  exact And.intro rfl (And.intro (allL_c (WkR.wk (Wk.refl _) (loose_bool _)) (allL_c (WkR.wk (Wk.refl _) (loose_int _ _)) (allL_c (WkR.wk (Wk.refl _) (loose_lst fun _ => (lo_TTicket _))) (allL_c (WkR.wk (Wk.refl _) (loose_lst fun _ => (lo_TTicket _))) (allL_c (WkR.wk (Wk.refl _) (loose_int _ _)) allL_n))))) allL_n)
theorem law34_RecoveryStorms_call {T : Tbl} (hT : T 11 = pureR law34_RecoveryStorms_S) {args : List AV} {hp : Heap} {id : Nat} {k : AV → Prop} {a0 : List (Int × Int)} {a1 : Int} {a2 : List (Int × Int)} {a3 : Int} {a4 : Int} {Φ : Bool → Prop} (h : W (law34_RecoveryStorms_F a0 a1 a2 a3 a4) Φ) (hw : WkL args [(eL 2 eA71 default) a0, eI a1, (eL 2 eA71 default) a2, eI a3, eI a4]) (hk : ∀ y, Φ y → k (eB y)) : callpK T 11 args hp id k := by
  obtain ⟨y, e, hy⟩ := W_inv h
  exact callpK_pure hT ⟨a0, a1, a2, a3, a4, rfl, W_of e rfl⟩ (by exact (loose_bool _)) hw (hk y hy)
end Go.Proofs.Ytcidmnpihffphaa
/-! P11 -/
namespace Go.Proofs.Ytcidmnpihffphaa
open Go Go.Eng
set_option maxRecDepth 100000
theorem plan_loop {ts : List TTicket} (hl : ts.length ≤ 1000) (T : Int) : ∃ x, lp (law34_RecoveryStorms_b2 (ts, 0) T) FU (0, 0) = some (.inl ((((List.range ts.length).countP fun j => decide ((ts.getD j default).At ≤ T) : Nat) : Int), x)) := by
  obtain ⟨s, e, h1, h2⟩ := lp_fold (body := law34_RecoveryStorms_b2 (ts, 0) T) (fun k s => s.2 = (k : Int) ∧ s.1 = (((List.range k).countP (fun j => decide ((ts.getD j default).At ≤ T)) : Nat) : Int)) ts.length (by omega) (fun k s hk ⟨h1, h2⟩ => by
    obtain ⟨c, j⟩ := s
    simp only at h1 h2
    subst h1
    have hcl : (List.range k).countP (fun j => decide ((ts.getD j default).At ≤ T)) ≤ k := Nat.le_trans List.countP_le_length (by simp)
    unfold law34_RecoveryStorms_b2
    simp only [jn_d, cn_dec]
    rw [if_pos (by omega), ix_n hk, wr_id (x := (k : Int) + 1) (by omega) (by omega), wr_id (x := c + 1) (by omega) (by omega)]
    rw [List.range_succ, List.countP_append, List.countP_cons, List.countP_nil]
    by_cases q : (ts.getD k default).At ≤ T
    · rw [if_pos q]
      exact ⟨_, rfl, by simp, by simp only [q, decide_true, if_true]; omega⟩
    · rw [if_neg q]
      exact ⟨_, rfl, by simp, by simp only [q, decide_false, Bool.false_eq_true, if_false]; omega⟩) (fun s ⟨h1, _⟩ => by
    unfold law34_RecoveryStorms_b2
    simp only [cn_dec]
    rw [if_neg (by rw [h1]; omega)]) (0, 0) ⟨rfl, by simp⟩
  exact ⟨s.2, by rw [e, ← h2]⟩
theorem storm_loop {ss : List TTicket} {f e0 : Int} (hl : ss.length ≤ 1000) (T : Int) (h : ∀ x ∈ ss, x.First ≤ x.At ∧ (0 ≤ f → x.At ≤ f)) : ∃ x, lp (law34_RecoveryStorms_b1 (ss, f, e0) T) FU (0, 0) = some (.inl (((ss.countP fun x => decide (x.At ≤ T) : Nat) : Int), x)) := by
  obtain ⟨s, e, h1, h2⟩ := lp_fold (body := law34_RecoveryStorms_b1 (ss, f, e0) T) (fun k s => s.2 = (k : Int) ∧ s.1 = (((ss.take k).countP (fun x => decide (x.At ≤ T)) : Nat) : Int)) ss.length (by omega) (fun k s hk ⟨h1, h2⟩ => by
    obtain ⟨c, j⟩ := s
    simp only at h1 h2
    subst h1
    have hcl : (ss.take k).countP (fun x => decide (x.At ≤ T)) ≤ k := Nat.le_trans List.countP_le_length (by simp; omega)
    have hx := h (ss.getD k default) (by rw [getD_lt hk]; exact List.getElem_mem hk)
    unfold law34_RecoveryStorms_b1
    simp only [jn_d, cn_dec]
    rw [if_pos (by omega)]
    simp only [ix_n hk]
    rw [wr_id (x := (k : Int) + 1) (by omega) (by omega), wr_id (x := c + 1) (by omega) (by omega)]
    rw [List.take_succ_eq_append_getElem hk, List.countP_append, List.countP_cons, List.countP_nil, ← getD_lt hk]
    have hb : ∀ c' : Int, (if (ss.getD k default).At < (ss.getD k default).First then some (.rt false) else if f ≥ 0 then (if (ss.getD k default).At > f then some (.rt false) else some (.nx (c', (k : Int) + 1))) else cn false (some (.rt false)) (some (.nx (c', (k : Int) + 1))) : Option (Ct (Int × Int) Bool)) = some (.nx (c', (k : Int) + 1)) := fun c' => by
      rw [if_neg (by omega), cn_f]
      by_cases q : f ≥ 0
      · rw [if_pos q, if_neg (by have := hx.2 q; omega)]
      · rw [if_neg q]
    simp only [cn_t, hb]
    by_cases q : (ss.getD k default).At ≤ T
    · rw [if_pos q]
      exact ⟨_, rfl, by simp, by simp only [q, decide_true, if_true]; omega⟩
    · rw [if_neg q]
      exact ⟨_, rfl, by simp, by simp only [q, decide_false, Bool.false_eq_true, if_false]; omega⟩) (fun s ⟨h1, _⟩ => by
    unfold law34_RecoveryStorms_b1
    simp only [cn_dec]
    rw [if_neg (by rw [h1]; omega)]) (0, 0) ⟨rfl, by simp⟩
  rw [List.take_length] at h2
  exact ⟨s.2, by rw [e, ← h2]⟩
theorem plain11 (a0 : List (Int × Int)) (a1 : Int) (a2 : List (Int × Int)) (a3 a4 : Int) (o0 : okL okA71 a0) (o1 : okI a1) (o2 : okL okA71 a2) (o3 : okI a3) (o4 : okI a4) : law34_RecoveryStorms_F a0 a1 a2 a3 a4 = some true := by
  unfold law34_RecoveryStorms_F
  rw [sane_ok, bd_s]
  simp only [Bool.not_true, cn_f, jn_d]
  obtain ⟨r, e, hr⟩ := made_ok a0 a1 o0 o1
  obtain ⟨l, e2, hla⟩ := attempts_ok a2 o2
  have hl := hla.lv
  rw [e, bd_s, e2, bd_s]
  obtain ⟨ts, e3, hp, hs⟩ := plan_ok hr hl
  obtain ⟨p1, p2⟩ := pickZ_lt a3 (n := 6) (by omega)
  rw [e3, bd_s, pick_law a3 6 o3 (by omega), bd_s, wr_id (by omega) (by omega)]
  generalize hpz : 1 + pickZ a3 6 = pause at *
  have hpa : 1 ≤ pause ∧ pause ≤ 100 := by omega
  obtain ⟨f, a, e4, h4⟩ := storm_ok hr hl hpa
  obtain ⟨f2, b, e5, h5⟩ := storm_ok hr hl (pause := 1) (by omega)
  rw [e4, bd_s, e5, bd_s]
  generalize sortF attCmp l = ys at hs hp h4 h5
  have hy := hs.lv hl
  have htl := hp.len
  have hyl := hy.len
  have hyll := hs.perm.length_eq
  have hsl := stT_len ys f a ys.length
  have hsl2 := stT_len ys f2 b ys.length
  obtain ⟨t', tr', ht, hsi, hf⟩ := h4.si hr hpa (Int.le_refl _) (SI.start hr hy)
  obtain ⟨t2, tr2, _, _, hf2⟩ := h5.si hr (by omega) (Int.le_refl _) (SI.start hr hy)
  rw [pick_law a4 80 o4 (by omega), bd_s]
  generalize pickZ a4 80 = T
  have hmem : ∀ x ∈ stT ys f a ys.length, x.First ≤ x.At ∧ (0 ≤ f → x.At ≤ f) := fun x hx => by
    unfold stT at hx
    obtain ⟨i, hi, hx⟩ := List.mem_flatMap.1 hx
    have hi := List.mem_range.1 hi
    obtain ⟨q1, q2⟩ := stK_mem hx
    rcases q2 with ⟨u, q2, q3⟩ | ⟨u, q2, q3⟩
    · have := hsi.n i hi u q2
      rcases hf with hf | hf <;> omega
    · omega
  obtain ⟨x1, e6⟩ := storm_loop (e0 := 0) (by omega) T hmem
  obtain ⟨x2, e7⟩ := plan_loop (ts := ts) (by omega) T
  have fin : (bd (lp (law34_RecoveryStorms_b1 (stT ys f a ys.length, f, 0) T) FU (0, 0)) fun c21 => smK c21 (fun s22 => bd (lp (law34_RecoveryStorms_b2 (ts, 0) T) FU (0, 0)) fun c28 => smK c28 (fun s29 => some (decide (s22.1 ≤ s29.1))) (fun r30 => some r30)) (fun r23 => some r23) : Option Bool) = some true := by
    have := storm_count (T := T) hr hy hp hpa h4
    rw [e6, bd_s, smK_l, e7, bd_s, smK_l, htl, decide_eq_true (by omega)]
  simp only [bne_self_eq_false, cn_f, cn_dec]
  have last : (if f < 0 then cn ((stT ys f a ys.length).length != (l.length : Int)) (some false) (bd (lp (law34_RecoveryStorms_b1 (stT ys f a ys.length, f, 0) T) FU (0, 0)) fun c21 => smK c21 (fun s22 => bd (lp (law34_RecoveryStorms_b2 (ts, 0) T) FU (0, 0)) fun c28 => smK c28 (fun s29 => some (decide (s22.1 ≤ s29.1))) (fun r30 => some r30)) (fun r23 => some r23)) else (bd (lp (law34_RecoveryStorms_b1 (stT ys f a ys.length, f, 0) T) FU (0, 0)) fun c21 => smK c21 (fun s22 => bd (lp (law34_RecoveryStorms_b2 (ts, 0) T) FU (0, 0)) fun c28 => smK c28 (fun s29 => some (decide (s22.1 ≤ s29.1))) (fun r30 => some r30)) (fun r23 => some r23)) : Option Bool) = some true := by
    by_cases q : f < 0
    · rw [if_pos q]
      have : (stT ys f a ys.length).length = ys.length := by
        rcases hf with ⟨_, hf⟩ | hf
        · rw [stT_all q ys.length (all_in hf)]; simp
        · omega
      rw [this, show ((ys.length : Int) != (l.length : Int)) = false by simp; omega, cn_f]
      exact fin
    · rw [if_neg q]
      exact fin
  by_cases q : f2 < 0
  · have e8 : f2 = -1 := by
      rcases hf2 with hf2 | hf2
      · exact hf2.1
      · omega
    subst e8
    rw [if_pos q, storm_plan hr hy hp h5, same_self ts (by omega), bd_s]
    simp only [Bool.not_true, cn_f]
    exact last
  · rw [if_neg q]
    exact last
end Go.Proofs.Ytcidmnpihffphaa
