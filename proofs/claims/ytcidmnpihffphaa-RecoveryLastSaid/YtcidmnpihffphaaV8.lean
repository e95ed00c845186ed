import Derived.Test.YtcidmnpihffphaaW13
namespace Go.Proofs.Ytcidmnpihffphaa
open Go Go.Eng
set_option maxHeartbeats 0
set_option maxRecDepth 100000
/-! dialtonelaw34.RecoveryLast -/
def law34_RecoveryLast_b3 (y2 : TRegion) (s22 : Int × Int) : Option (Ct (Int × Int) Bool) := jn (fun p23 : Bool => cn p23 (bd (recovery_Capacity_F y2 (wr (s22.2 + 1))) fun y25 =>
    cn (y25.2 != 0) (some (.rt false)) (some (.nx ((wr (s22.1 - y25.1)), (wr (s22.2 + 1)))))) (some (.bk (s22.1, s22.2)))) fun k24 => cn (decide (s22.1 >
    0)) (k24 (decide (s22.2 < 1000))) (k24 false)
theorem W_blaw34_RecoveryLast_b3 {y2 : TRegion} {s22 : Int × Int} {Φ : Ct (Int × Int) Bool → Prop} (h : W (law34_RecoveryLast_b3 y2 s22) Φ) : W (jn (fun p23 : Bool => cn p23 (bd (recovery_Capacity_F y2 (wr (s22.2 + 1))) fun y25 => cn (y25.2 !=
    0) (some (.rt false)) (some (.nx ((wr (s22.1 - y25.1)), (wr (s22.2 + 1)))))) (some (.bk (s22.1, s22.2)))) fun k24 => cn (decide (s22.1 >
    0)) (k24 (decide (s22.2 < 1000))) (k24 false)) Φ := h
def law34_RecoveryLast_b2 (s5 : Int × Int) (y3 : List TAttempt) (s10 : Int × Int) : Option (Ct (Int × Int) Bool) := cn (decide (s10.2 < (y3.length : Int))) (jn (fun p11 : Bool =>
    jn (fun p16 : Int => some (.nx (p16, (wr (s10.2 + 1))))) fun k17 => cn p11 (k17 (wr (s10.1 + 1))) (k17 s10.1)) fun k12 => ix y3 default s10.2 fun e13 =>
    cn (!e13.Urgent) (ix y3 default s10.2 fun e14 => ix y3 default s5.2 fun e15 => k12 (decide (e14.At ≥ e15.At))) (k12 false)) (some (.bk (s10.1, s10.2)))
theorem W_blaw34_RecoveryLast_b2 {s5 : Int × Int} {y3 : List TAttempt} {s10 : Int × Int} {Φ : Ct (Int × Int) Bool → Prop} (h : W (law34_RecoveryLast_b2 s5 y3 s10) Φ) : W (cn (decide (s10.2 < (y3.length : Int))) (jn (fun p11 : Bool => jn (fun p16 : Int => some (.nx (p16, (wr (s10.2 + 1))))) fun k17 =>
    cn p11 (k17 (wr (s10.1 + 1))) (k17 s10.1)) fun k12 => ix y3 default s10.2 fun e13 => cn (!e13.Urgent) (ix y3 default s10.2 fun e14 => ix y3 default s5.2 fun e15 =>
    k12 (decide (e14.At ≥ e15.At))) (k12 false)) (some (.bk (s10.1, s10.2)))) Φ := h
def law34_RecoveryLast_b1 (y2 : TRegion) (y3 : List TAttempt) (s5 : Int × Int) : Option (Ct (Int × Int) Bool) := cn (decide (s5.2 < (y3.length : Int))) (jn (fun p6 : Int =>
    some (.nx (p6, (wr (s5.2 + 1))))) fun k7 => ix y3 default s5.2 fun e8 => cn e8.Urgent (ix y3 default s5.2 fun e9 =>
    k7 (imax s5.1 e9.At)) (bd (lp (law34_RecoveryLast_b2 s5 y3) FU (0, 0)) fun c18 => smK c18 (fun s19 => ix y3 default s5.2 fun e21 =>
    bd (lp (law34_RecoveryLast_b3 y2) FU (s19.1, (wr (e21.At - 1)))) fun c26 => smK c26 (fun s27 => k7 (imax s5.1 s27.2)) (fun r28 => some (.rt r28))) (fun r20 =>
    some (.rt r20)))) (some (.bk (s5.1, s5.2)))
theorem W_blaw34_RecoveryLast_b1 {y2 : TRegion} {y3 : List TAttempt} {s5 : Int × Int} {Φ : Ct (Int × Int) Bool → Prop} (h : W (law34_RecoveryLast_b1 y2 y3 s5) Φ) : W (cn (decide (s5.2 < (y3.length : Int))) (jn (fun p6 : Int => some (.nx (p6, (wr (s5.2 + 1))))) fun k7 => ix y3 default s5.2 fun e8 => cn e8.Urgent (ix y3 default s5.2 fun e9 =>
    k7 (imax s5.1 e9.At)) (bd (lp (law34_RecoveryLast_b2 s5 y3) FU (0, 0)) fun c18 => smK c18 (fun s19 => ix y3 default s5.2 fun e21 =>
    bd (lp (law34_RecoveryLast_b3 y2) FU (s19.1, (wr (e21.At - 1)))) fun c26 => smK c26 (fun s27 => k7 (imax s5.1 s27.2)) (fun r28 => some (.rt r28))) (fun r20 =>
    some (.rt r20)))) (some (.bk (s5.1, s5.2)))) Φ := h
def law34_RecoveryLast_F (a0 : List (Int × Int)) (a1 : Int) (a2 : List (Int × Int)) : Option Bool := bd (law34_sane_F ) fun y1 =>
    cn (!y1) (some false) (bd (ref34_Made_F a0 a1) fun y2 => bd (ref34_Attempts_F a2) fun y3 => bd (recovery_Last_F y2 y3) fun y4 => cn (y4.2 !=
    0) (some false) (bd (lp (law34_RecoveryLast_b1 y2 y3) FU ((-1), 0)) fun c29 => smK c29 (fun s30 => some (y4.1 == s30.1)) (fun r31 => some r31)))
def law34_RecoveryLast_S : List AV → AV → Prop := fun args r => ∃ a0 a1 a2, args = [(eL 2 eA71 default) a0, eI a1, (eL 2 eA71 default) a2] ∧ W (law34_RecoveryLast_F a0 a1 a2) fun y => r = (eB y)
theorem law34_RecoveryLast_ok {T : Tbl} (hT : TOk Try.prog T) (hpf : PfOk T PF) (h13 : T 13 = pureR law34_sane_S) (h14 : T 14 = pureR ref34_Made_S) (h15 : T 15 = pureR ref34_Attempts_S) (h22 : T 22 = pureR recovery_Last_S) (h32 : T 32 = pureR recovery_Capacity_S) : FOk Try.prog 8 (pureR law34_RecoveryLast_S) := by
  refine FOk_pure hT hpf Try.func8 rfl Try.ntmps8 Try.results8 (by decide) ?_
  rintro args r ⟨a0, a1, a2, rfl, h⟩
  refine ⟨Nat.le_of_ble_eq_true rfl, ?_, ?_⟩
  · exact (loose_cons (loose_lst fun _ => (lo_A71 _)) (loose_cons (loose_int _ _) (loose_cons (loose_lst fun _ => (lo_A71 _)) loose_nil)))
  rw [law34_RecoveryLast_F.eq_1] at h
  refine HT_fr DC_ok rfl fun K hK => ?_; (conv => whnf)
  refine hK _ _ _ ?_; clear hK K
  refine HT_fr DC_ok rfl fun K hK => ?_; (conv => whnf)
  replace h := W_bd h
  refine law34_sane_call h13 h (WkL.refl _) (fun _ h => ?_); (conv => whnf)
  refine hK _ _ _ ?_; clear hK K
  refine HT_seq ?_
  refine HT_fr DC_ok rfl fun K hK => ?_; (conv => whnf)
  refine hK _ _ _ ?_; clear hK K
  refine HT_if fun K1 K2 hK1 hK2 => ?_; (conv => whnf)
  refine cond_lk h (fun _ h => ?_) (fun _ h => ?_)
  · refine hK1 ?_; clear hK1 hK2 K1 K2
    refine HT_fr DC_ok rfl fun K hK => ?_; (conv => whnf)
    refine hK _ _ _ ?_; clear hK K
    refine HT_ret ?_
    refine Then_r ?_
    replace h := W_some h
    refine PostP_r DC_ok fun K hK => ?_; (conv => whnf)
    refine hK _ ?_; clear hK K
    cases h
    exact Wk.refl _
  refine hK2 ?_; clear hK1 hK2 K1 K2
  refine HT_skip ?_
  refine Then_n ?_
  refine HT_fr DC_ok rfl fun K hK => ?_; (conv => whnf)
  replace h := W_bd h
  refine ref34_Made_call h14 h (WkL.refl _) (fun _ h => ?_); (conv => whnf)
  refine blkK_of rfl ?_; (conv => whnf)
  refine And.intro rfl (And.intro (Nat.le_of_ble_eq_true rfl) (And.intro rfl ?_)); (conv => whnf)
  refine hK _ _ _ ?_; clear hK K
  refine HT_fr DC_ok rfl fun K hK => ?_; (conv => whnf)
  replace h := W_bd h
  refine ref34_Attempts_call h15 h (WkL.refl _) (fun _ h => ?_); (conv => whnf)
  refine hK _ _ _ ?_; clear hK K
  refine HT_fr DC_ok rfl fun K hK => ?_; (conv => whnf)
  refine And.intro (Nat.le_of_ble_eq_true rfl) ?_; (conv => whnf)
  refine blkK_of rfl ?_; (conv => whnf)
  refine And.intro (Nat.le_of_ble_eq_true rfl) ?_; (conv => whnf)
  replace h := W_bd h
  refine recovery_Last_call h22 h (WkL.refl _) (fun _ h => ?_); (conv => whnf)
  refine hK _ _ _ ?_; clear hK K
  refine HT_seq ?_
  refine HT_fr DC_ok rfl fun K hK => ?_; (conv => whnf)
  refine hK _ _ _ ?_; clear hK K
  refine HT_if fun K1 K2 hK1 hK2 => ?_; (conv => whnf)
  refine cond_lk h (fun _ h => ?_) (fun _ h => ?_)
  · refine hK1 ?_; clear hK1 hK2 K1 K2
    refine HT_fr DC_ok rfl fun K hK => ?_; (conv => whnf)
    refine hK _ _ _ ?_; clear hK K
    refine HT_ret ?_
    refine Then_r ?_
    replace h := W_some h
    refine PostP_r DC_ok fun K hK => ?_; (conv => whnf)
    refine hK _ ?_; clear hK K
    cases h
    exact Wk.refl _
  refine hK2 ?_; clear hK1 hK2 K1 K2
  refine HT_skip ?_
  refine Then_n ?_
  refine HT_fr DC_ok rfl fun K hK => ?_; (conv => whnf)
  refine hK _ _ _ ?_; clear hK K
  refine HT_seq ?_
  refine HT_fr DC_ok rfl fun K hK => ?_; (conv => whnf)
  refine hK _ _ _ ?_; clear hK K
  refine HT_block ?_
  replace h := W_bd h
  refine HT_lpK (body := law34_RecoveryLast_b1 _ _) rfl h [8, 9, 10] [8] [] (fun kl kh ids b s => ⟨ofL ([(12, eI s.1), (13, eI s.2)] ++ kl), ofH ([] ++ kh), b + 64⟩) ?_; (conv => whnf); refine And.intro ?_ (fun s m h => HT_st ?_)
  · refine weak_k ?_; (conv => whnf)
    exact And.intro rfl (And.intro (allL_c (WkR.wk (Wk.refl _) (loose_int _ _)) (allL_c (WkR.wk (Wk.refl _) (loose_int _ _)) (allL_c (WkR.ptr (fun _ => rfl)) (allL_c (WkR.wk (Wk.refl _) (loose_lst fun _ => (lo_TAttempt _))) (allL_c (WkR.wk (Wk.refl _) (loose_int _ _)) allL_n))))) (allL_c ⟨some _, rfl, BkR_c rfl (CkR_cons (WkR.wk (Wk.refl _) (loose_lst fun _ => (lo_TGrowth _))) (CkR_cons (WkR.wk (Wk.refl _) (loose_int _ _)) CkR_nil))⟩ allL_n))
  replace h := W_blaw34_RecoveryLast_b1 (W_bd h)
  refine HT_seq ?_
  refine HT_fr DC_ok rfl fun K hK => ?_; (conv => whnf)
  refine hK _ _ _ ?_; clear hK K
  refine HT_if fun K1 K2 hK1 hK2 => ?_; (conv => whnf)
  refine cond_lk h (fun _ h => ?_) (fun _ h => ?_)
  · refine hK1 ?_; clear hK1 hK2 K1 K2
    refine HT_skip ?_
    refine Then_n ?_
    refine HT_seq ?_
    replace h := W_jn h
    refine HT_block ?_
    refine HT_seq ?_
    refine HT_fr DC_ok rfl fun K hK => ?_; (conv => whnf)
    refine ix_lk h fun _ h => ?_; (conv => whnf)
    refine getK_of rfl ?_; (conv => whnf)
    refine hK _ _ _ ?_; clear hK K
    refine HT_if fun K1 K2 hK1 hK2 => ?_; (conv => whnf)
    refine cond_lk h (fun _ h => ?_) (fun _ h => ?_)
    · refine hK1 ?_; clear hK1 hK2 K1 K2
      refine HT_fr DC_ok rfl fun K hK => ?_; (conv => whnf)
      refine ix_lk h fun _ h => ?_; (conv => whnf)
      refine getK_of rfl ?_; (conv => whnf)
      refine hK _ _ _ ?_; clear hK K
      refine HT_exit ?_
      refine Then_e ?_
      refine InBlock_e ?_
      refine Then_n ?_
      refine HT_f DC_ok rfl fun K hK => ?_; (conv => whnf)
      refine hK _ _ _ ?_; clear hK K
      refine Then_n ?_
      replace h := W_xnx h
      refine ⟨_, h, ?_⟩
      refine weak_k ?_; (conv => whnf)
      exact And.intro rfl (And.intro (allL_c (WkR.wk (Wk.refl _) (loose_int _ _)) (allL_c (WkR.wk (Wk.refl _) (loose_int _ _)) (allL_c (WkR.ptr (fun _ => rfl)) (allL_c (WkR.wk (Wk.refl _) (loose_lst fun _ => (lo_TAttempt _))) (allL_c (WkR.wk (Wk.refl _) (loose_int _ _)) allL_n))))) (allL_c ⟨some _, rfl, BkR_c rfl (CkR_cons (WkR.wk (Wk.refl _) (loose_lst fun _ => (lo_TGrowth _))) (CkR_cons (WkR.wk (Wk.refl _) (loose_int _ _)) CkR_nil))⟩ allL_n))
    refine hK2 ?_; clear hK1 hK2 K1 K2
    refine HT_skip ?_
    refine Then_n ?_
    refine HT_fr DC_ok rfl fun K hK => ?_; (conv => whnf)
    refine hK _ _ _ ?_; clear hK K
    refine HT_seq ?_
    refine HT_fr DC_ok rfl fun K hK => ?_; (conv => whnf)
    refine hK _ _ _ ?_; clear hK K
    refine HT_block ?_
    replace h := W_bd h
    refine HT_lpK (body := law34_RecoveryLast_b2 _ _) rfl h [8, 9, 10, 12, 13] [8] [] (fun kl kh ids b s => ⟨ofL ([(14, eI s.1), (15, eI s.2)] ++ kl), ofH ([] ++ kh), b + 64⟩) ?_; (conv => whnf); refine And.intro ?_ (fun s m h => HT_st ?_)
    · refine weak_k ?_; (conv => whnf)
      exact And.intro rfl (And.intro (allL_c (WkR.wk (Wk.refl _) (loose_int _ _)) (allL_c (WkR.wk (Wk.refl _) (loose_int _ _)) (allL_c (WkR.ptr (fun _ => rfl)) (allL_c (WkR.wk (Wk.refl _) (loose_lst fun _ => (lo_TAttempt _))) (allL_c (WkR.wk (Wk.refl _) (loose_int _ _)) (allL_c (WkR.wk (Wk.refl _) (loose_int _ _)) (allL_c (WkR.wk (Wk.refl _) (loose_int _ _)) allL_n))))))) (allL_c ⟨some _, rfl, BkR_c rfl (CkR_cons (WkR.wk (Wk.refl _) (loose_lst fun _ => (lo_TGrowth _))) (CkR_cons (WkR.wk (Wk.refl _) (loose_int _ _)) CkR_nil))⟩ allL_n))
    replace h := W_blaw34_RecoveryLast_b2 (W_bd h)
    refine HT_seq ?_
    refine HT_fr DC_ok rfl fun K hK => ?_; (conv => whnf)
    refine hK _ _ _ ?_; clear hK K
    refine HT_if fun K1 K2 hK1 hK2 => ?_; (conv => whnf)
    refine cond_lk h (fun _ h => ?_) (fun _ h => ?_)
    · refine hK1 ?_; clear hK1 hK2 K1 K2
      refine HT_skip ?_
      refine Then_n ?_
      refine HT_seq ?_
      refine HT_block ?_
      refine HT_fd DC_ok mix_ok rfl (by kernel_rfl) fun K hK => ?_; (conv => whnf)
      replace h := W_jn h
      refine ix_lk h fun _ h => ?_; (conv => whnf)
      refine getK_of rfl ?_; (conv => whnf)
      refine cond_lk h (fun _ h => ?_) (fun _ h => ?_) <;> (conv => whnf)
      · refine ix_lk h fun _ h => ?_; (conv => whnf)
        refine getK_of rfl ?_; (conv => whnf)
        refine ix_lk h fun _ h => ?_; (conv => whnf)
        refine getK_of rfl ?_; (conv => whnf)
        refine hK _ _ _ ?_; clear hK K
        replace h := W_jn h
        refine HT_if fun K1 K2 hK1 hK2 => ?_; (conv => whnf)
        refine cond_lk h (fun _ h => ?_) (fun _ h => ?_)
        · refine hK1 ?_; clear hK1 hK2 K1 K2
          refine HT_f DC_ok rfl fun K hK => ?_; (conv => whnf)
          refine hK _ _ _ ?_; clear hK K
          refine InBlock_n ?_
          refine Then_n ?_
          refine HT_f DC_ok rfl fun K hK => ?_; (conv => whnf)
          refine hK _ _ _ ?_; clear hK K
          refine Then_n ?_
          replace h := W_xnx h
          refine ⟨_, h, ?_⟩
          refine weak_k ?_; (conv => whnf)
          exact And.intro rfl (And.intro (allL_c (WkR.wk (Wk.refl _) (loose_int _ _)) (allL_c (WkR.wk (Wk.refl _) (loose_int _ _)) (allL_c (WkR.ptr (fun _ => rfl)) (allL_c (WkR.wk (Wk.refl _) (loose_lst fun _ => (lo_TAttempt _))) (allL_c (WkR.wk (Wk.refl _) (loose_int _ _)) (allL_c (WkR.wk (Wk.refl _) (loose_int _ _)) (allL_c (WkR.wk (Wk.refl _) (loose_int _ _)) allL_n))))))) (allL_c ⟨some _, rfl, BkR_c rfl (CkR_cons (WkR.wk (Wk.refl _) (loose_lst fun _ => (lo_TGrowth _))) (CkR_cons (WkR.wk (Wk.refl _) (loose_int _ _)) CkR_nil))⟩ allL_n))
        refine hK2 ?_; clear hK1 hK2 K1 K2
        refine HT_skip ?_
        refine InBlock_n ?_
        refine Then_n ?_
        refine HT_f DC_ok rfl fun K hK => ?_; (conv => whnf)
        refine hK _ _ _ ?_; clear hK K
        refine Then_n ?_
        replace h := W_xnx h
        refine ⟨_, h, ?_⟩
        refine weak_k ?_; (conv => whnf)
        exact And.intro rfl (And.intro (allL_c (WkR.wk (Wk.refl _) (loose_int _ _)) (allL_c (WkR.wk (Wk.refl _) (loose_int _ _)) (allL_c (WkR.ptr (fun _ => rfl)) (allL_c (WkR.wk (Wk.refl _) (loose_lst fun _ => (lo_TAttempt _))) (allL_c (WkR.wk (Wk.refl _) (loose_int _ _)) (allL_c (WkR.wk (Wk.refl _) (loose_int _ _)) (allL_c (WkR.wk (Wk.refl _) (loose_int _ _)) allL_n))))))) (allL_c ⟨some _, rfl, BkR_c rfl (CkR_cons (WkR.wk (Wk.refl _) (loose_lst fun _ => (lo_TGrowth _))) (CkR_cons (WkR.wk (Wk.refl _) (loose_int _ _)) CkR_nil))⟩ allL_n))
      refine hK _ _ _ ?_; clear hK K
      replace h := W_jn h
      refine HT_if fun K1 K2 hK1 hK2 => ?_; (conv => whnf)
      refine hK2 ?_; clear hK1 hK2 K1 K2
      replace h := W_cnF h
      refine HT_skip ?_
      refine InBlock_n ?_
      refine Then_n ?_
      refine HT_f DC_ok rfl fun K hK => ?_; (conv => whnf)
      refine hK _ _ _ ?_; clear hK K
      refine Then_n ?_
      replace h := W_xnx h
      refine ⟨_, h, ?_⟩
      refine weak_k ?_; (conv => whnf)
      exact And.intro rfl (And.intro (allL_c (WkR.wk (Wk.refl _) (loose_int _ _)) (allL_c (WkR.wk (Wk.refl _) (loose_int _ _)) (allL_c (WkR.ptr (fun _ => rfl)) (allL_c (WkR.wk (Wk.refl _) (loose_lst fun _ => (lo_TAttempt _))) (allL_c (WkR.wk (Wk.refl _) (loose_int _ _)) (allL_c (WkR.wk (Wk.refl _) (loose_int _ _)) (allL_c (WkR.wk (Wk.refl _) (loose_int _ _)) allL_n))))))) (allL_c ⟨some _, rfl, BkR_c rfl (CkR_cons (WkR.wk (Wk.refl _) (loose_lst fun _ => (lo_TGrowth _))) (CkR_cons (WkR.wk (Wk.refl _) (loose_int _ _)) CkR_nil))⟩ allL_n))
    refine hK2 ?_; clear hK1 hK2 K1 K2
    refine HT_exit ?_
    refine Then_e ?_
    refine Then_e ?_
    refine InBlock_e ?_
    replace h := W_xbk h
    replace h := W_inl h
    refine Then_n ?_
    refine HT_fr DC_ok rfl fun K hK => ?_; (conv => whnf)
    refine ix_lk h fun _ h => ?_; (conv => whnf)
    refine getK_of rfl ?_; (conv => whnf)
    refine hK _ _ _ ?_; clear hK K
    refine HT_seq ?_
    refine HT_block ?_
    replace h := W_bd h
    refine HT_lpK (body := law34_RecoveryLast_b3 _) rfl h [8, 9, 10, 12, 13] [8] [] (fun kl kh ids b s => ⟨ofL ([(14, eI s.1), (16, eI s.2)] ++ kl), ofH ([] ++ kh), b + 64⟩) ?_; (conv => whnf); refine And.intro ?_ (fun s m h => HT_st ?_)
    · refine weak_k ?_; (conv => whnf)
      exact And.intro rfl (And.intro (allL_c (WkR.wk (Wk.refl _) (loose_int _ _)) (allL_c (WkR.wk (Wk.refl _) (loose_int _ _)) (allL_c (WkR.ptr (fun _ => rfl)) (allL_c (WkR.wk (Wk.refl _) (loose_lst fun _ => (lo_TAttempt _))) (allL_c (WkR.wk (Wk.refl _) (loose_int _ _)) (allL_c (WkR.wk (Wk.refl _) (loose_int _ _)) (allL_c (WkR.wk (Wk.refl _) (loose_int _ _)) allL_n))))))) (allL_c ⟨some _, rfl, BkR_c rfl (CkR_cons (WkR.wk (Wk.refl _) (loose_lst fun _ => (lo_TGrowth _))) (CkR_cons (WkR.wk (Wk.refl _) (loose_int _ _)) CkR_nil))⟩ allL_n))
    replace h := W_blaw34_RecoveryLast_b3 (W_bd h)
    refine HT_seq ?_
    refine HT_fr DC_ok rfl fun K hK => ?_; (conv => whnf)
    replace h := W_jn h
    refine cond_lk h (fun _ h => ?_) (fun _ h => ?_) <;> (conv => whnf)
    · refine hK _ _ _ ?_; clear hK K
      refine HT_if fun K1 K2 hK1 hK2 => ?_; (conv => whnf)
      refine cond_lk h (fun _ h => ?_) (fun _ h => ?_)
      · refine hK1 ?_; clear hK1 hK2 K1 K2
        refine HT_skip ?_
        refine Then_n ?_
        refine HT_block ?_
        refine HT_fr DC_ok rfl fun K hK => ?_; (conv => whnf)
        refine hK _ _ _ ?_; clear hK K
        refine HT_fr DC_ok rfl fun K hK => ?_; (conv => whnf)
        refine And.intro (Nat.le_of_ble_eq_true rfl) ?_; (conv => whnf)
        refine blkK_of rfl ?_; (conv => whnf)
        refine And.intro (Nat.le_of_ble_eq_true rfl) ?_; (conv => whnf)
        replace h := W_bd h
        refine recovery_Capacity_call h32 h (WkL.refl _) (fun _ h => ?_); (conv => whnf)
        refine hK _ _ _ ?_; clear hK K
        refine HT_seq ?_
        refine HT_fr DC_ok rfl fun K hK => ?_; (conv => whnf)
        refine hK _ _ _ ?_; clear hK K
        refine HT_if fun K1 K2 hK1 hK2 => ?_; (conv => whnf)
        refine cond_lk h (fun _ h => ?_) (fun _ h => ?_)
        · refine hK1 ?_; clear hK1 hK2 K1 K2
          refine HT_fr DC_ok rfl fun K hK => ?_; (conv => whnf)
          refine hK _ _ _ ?_; clear hK K
          refine HT_ret ?_
          refine Then_r ?_
          refine InBlock_r ?_
          refine Then_r ?_
          refine InBlock_r ?_
          refine Then_r ?_
          refine InBlock_r ?_
          refine Then_r ?_
          refine Then_r ?_
          refine InBlock_r ?_
          refine Then_r ?_
          replace h := W_xrt h
          replace h := W_inr h
          replace h := W_xrt h
          replace h := W_inr h
          replace h := W_some h
          refine PostP_r DC_ok fun K hK => ?_; (conv => whnf)
          refine hK _ ?_; clear hK K
          cases h
          exact Wk.refl _
        refine hK2 ?_; clear hK1 hK2 K1 K2
        refine HT_skip ?_
        refine Then_n ?_
        refine HT_f DC_ok rfl fun K hK => ?_; (conv => whnf)
        refine hK _ _ _ ?_; clear hK K
        refine InBlock_n ?_
        refine Then_n ?_
        replace h := W_xnx h
        refine ⟨_, h, ?_⟩
        refine weak_k ?_; (conv => whnf)
        exact And.intro rfl (And.intro (allL_c (WkR.wk (Wk.refl _) (loose_int _ _)) (allL_c (WkR.wk (Wk.refl _) (loose_int _ _)) (allL_c (WkR.ptr (fun _ => rfl)) (allL_c (WkR.wk (Wk.refl _) (loose_lst fun _ => (lo_TAttempt _))) (allL_c (WkR.wk (Wk.refl _) (loose_int _ _)) (allL_c (WkR.wk (Wk.refl _) (loose_int _ _)) (allL_c (WkR.wk (Wk.refl _) (loose_int _ _)) allL_n))))))) (allL_c ⟨some _, rfl, BkR_c rfl (CkR_cons (WkR.wk (Wk.refl _) (loose_lst fun _ => (lo_TGrowth _))) (CkR_cons (WkR.wk (Wk.refl _) (loose_int _ _)) CkR_nil))⟩ allL_n))
      refine hK2 ?_; clear hK1 hK2 K1 K2
      refine HT_exit ?_
      refine Then_e ?_
      refine Then_e ?_
      refine InBlock_e ?_
      replace h := W_xbk h
      replace h := W_inl h
      refine Then_n ?_
      refine HT_f DC_ok rfl fun K hK => ?_; (conv => whnf)
      refine hK _ _ _ ?_; clear hK K
      refine InBlock_n ?_
      refine Then_n ?_
      refine HT_f DC_ok rfl fun K hK => ?_; (conv => whnf)
      refine hK _ _ _ ?_; clear hK K
      refine Then_n ?_
      replace h := W_xnx h
      refine ⟨_, h, ?_⟩
      refine weak_k ?_; (conv => whnf)
      exact And.intro rfl (And.intro (allL_c (WkR.wk (Wk.refl _) (loose_int _ _)) (allL_c (WkR.wk (Wk.refl _) (loose_int _ _)) (allL_c (WkR.ptr (fun _ => rfl)) (allL_c (WkR.wk (Wk.refl _) (loose_lst fun _ => (lo_TAttempt _))) (allL_c (WkR.wk (Wk.refl _) (loose_int _ _)) allL_n))))) (allL_c ⟨some _, rfl, BkR_c rfl (CkR_cons (WkR.wk (Wk.refl _) (loose_lst fun _ => (lo_TGrowth _))) (CkR_cons (WkR.wk (Wk.refl _) (loose_int _ _)) CkR_nil))⟩ allL_n))
    refine hK _ _ _ ?_; clear hK K
    refine HT_if fun K1 K2 hK1 hK2 => ?_; (conv => whnf)
    refine hK2 ?_; clear hK1 hK2 K1 K2
    replace h := W_cnF h
    refine HT_exit ?_
    refine Then_e ?_
    refine Then_e ?_
    refine InBlock_e ?_
    replace h := W_xbk h
    replace h := W_inl h
    refine Then_n ?_
    refine HT_f DC_ok rfl fun K hK => ?_; (conv => whnf)
    refine hK _ _ _ ?_; clear hK K
    refine InBlock_n ?_
    refine Then_n ?_
    refine HT_f DC_ok rfl fun K hK => ?_; (conv => whnf)
    refine hK _ _ _ ?_; clear hK K
    refine Then_n ?_
    replace h := W_xnx h
    refine ⟨_, h, ?_⟩
    refine weak_k ?_; (conv => whnf)
    exact And.intro rfl (And.intro (allL_c (WkR.wk (Wk.refl _) (loose_int _ _)) (allL_c (WkR.wk (Wk.refl _) (loose_int _ _)) (allL_c (WkR.ptr (fun _ => rfl)) (allL_c (WkR.wk (Wk.refl _) (loose_lst fun _ => (lo_TAttempt _))) (allL_c (WkR.wk (Wk.refl _) (loose_int _ _)) allL_n))))) (allL_c ⟨some _, rfl, BkR_c rfl (CkR_cons (WkR.wk (Wk.refl _) (loose_lst fun _ => (lo_TGrowth _))) (CkR_cons (WkR.wk (Wk.refl _) (loose_int _ _)) CkR_nil))⟩ allL_n))
  refine hK2 ?_; clear hK1 hK2 K1 K2
  refine HT_exit ?_
  refine Then_e ?_
  refine Then_e ?_
  refine InBlock_e ?_
  replace h := W_xbk h
  replace h := W_inl h
  refine Then_n ?_
  refine HT_fr DC_ok rfl fun K hK => ?_; (conv => whnf)
  refine hK _ _ _ ?_; clear hK K
  refine HT_ret ?_
  replace h := W_some h
  refine PostP_r DC_ok fun K hK => ?_; (conv => whnf)
  refine hK _ ?_; clear hK K
  cases h
  exact Wk.refl _
theorem law34_RecoveryLast_call {T : Tbl} (hT : T 8 = pureR law34_RecoveryLast_S) {args : List AV} {hp : Heap} {id : Nat} {k : AV → Prop} {a0 : List (Int × Int)} {a1 : Int} {a2 : List (Int × Int)} {Φ : Bool → Prop} (h : W (law34_RecoveryLast_F a0 a1 a2) Φ) (hw : WkL args [(eL 2 eA71 default) a0, eI a1, (eL 2 eA71 default) a2]) (hk : ∀ y, Φ y → k (eB y)) : callpK T 8 args hp id k := by
  obtain ⟨y, e, hy⟩ := W_inv h
  exact callpK_pure hT ⟨a0, a1, a2, rfl, W_of e rfl⟩ (by exact (loose_bool _)) hw (hk y hy)
end Go.Proofs.Ytcidmnpihffphaa
