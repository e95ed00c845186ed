import Derived.Test.YtcidmnpihffphaaM7
set_option linter.unusedVariables false
set_option linter.unusedSimpArgs false
set_option linter.unusedSectionVars false
/-! V7 -/
namespace Go.Proofs.Ytcidmnpihffphaa
open Go Go.Eng
set_option maxHeartbeats 0
set_option maxRecDepth 100000
/-! dialtonelaw34.RecoveryLoads -/

    def law34_RecoveryLoads_b3 (s11 : Int × Int × Int × Int) (y3 : List TAttempt) (s14 : Int × Int) : Option (Ct (Int × Int) Bool) := cn (decide (s14.2 < (y3.length : Int))) (jn (fun p15 : Bool =>
    jn (fun p19 : Int => some (.nx (p19, (wr (s14.2 + 1))))) fun k20 => cn p15 (k20 (wr (s14.1 + 1))) (k20 s14.1)) fun k16 => ix y3 default s14.2 fun e17 => cn (e17.At ==
    s11.2.2.2) (ix y3 default s14.2 fun e18 => k16 (!e18.Urgent)) (k16 false)) (some (.bk (s14.1, s14.2)))
theorem W_blaw34_RecoveryLoads_b3 {s11 : Int × Int × Int × Int} {y3 : List TAttempt} {s14 : Int × Int} {Φ : Ct (Int × Int) Bool → Prop} (h : W (law34_RecoveryLoads_b3 s11 y3 s14) Φ) : W (cn (decide (s14.2 < (y3.length : Int))) (jn (fun p15 : Bool => jn (fun p19 : Int => some (.nx (p19, (wr (s14.2 + 1))))) fun k20 =>
    cn p15 (k20 (wr (s14.1 + 1))) (k20 s14.1)) fun k16 => ix y3 default s14.2 fun e17 => cn (e17.At == s11.2.2.2) (ix y3 default s14.2 fun e18 =>
    k16 (!e18.Urgent)) (k16 false)) (some (.bk (s14.1, s14.2)))) Φ := h

    def law34_RecoveryLoads_b2 (y2 : TRegion) (y3 : List TAttempt) (s11 : Int × Int × Int × Int) : Option (Ct (Int × Int × Int × Int) Bool) := cn (decide (s11.2.2.2 < 80)) (bd (recovery_Load_F y2 y3 s11.2.2.2) fun y12 =>
    bd (recovery_Capacity_F y2 s11.2.2.2) fun y13 => bd (lp (law34_RecoveryLoads_b3 s11 y3) FU (0, 0)) fun c21 => smK c21 (fun s22 => jn (fun p24 : Bool =>
    cn p24 (some (.rt false)) (jn (fun p26 : Bool => jn (fun p28 : Int => some (.nx ((wr (s11.1 + y12.1)), (imax s11.2.1 s22.1), p28, (wr (s11.2.2.2 + 1))))) fun k29 =>
    cn p26 (k29 s11.2.2.2) (k29 s11.2.2.1)) fun k27 => cn (decide (y12.1 > y2.Signals)) (k27 (decide (s11.2.2.1 < 0))) (k27 false))) fun k25 => cn (y12.2 !=
    0) (k25 true) (cn (y13.2 != 0) (k25 true) (cn (decide (y12.1 < s22.1)) (k25 true) (k25 (decide (y12.1 > (wr (s22.1 + y13.1)))))))) (fun r23 =>
    some (.rt r23))) (some (.bk (s11.1, s11.2.1, s11.2.2.1, s11.2.2.2)))
theorem W_blaw34_RecoveryLoads_b2 {y2 : TRegion} {y3 : List TAttempt} {s11 : Int × Int × Int × Int} {Φ : Ct (Int × Int × Int × Int) Bool → Prop} (h : W (law34_RecoveryLoads_b2 y2 y3 s11) Φ) : W (cn (decide (s11.2.2.2 < 80)) (bd (recovery_Load_F y2 y3 s11.2.2.2) fun y12 => bd (recovery_Capacity_F y2 s11.2.2.2) fun y13 =>
    bd (lp (law34_RecoveryLoads_b3 s11 y3) FU (0, 0)) fun c21 => smK c21 (fun s22 => jn (fun p24 : Bool => cn p24 (some (.rt false)) (jn (fun p26 : Bool => jn (fun p28 : Int =>
    some (.nx ((wr (s11.1 + y12.1)), (imax s11.2.1 s22.1), p28, (wr (s11.2.2.2 + 1))))) fun k29 => cn p26 (k29 s11.2.2.2) (k29 s11.2.2.1)) fun k27 => cn (decide (y12.1 >
    y2.Signals)) (k27 (decide (s11.2.2.1 < 0))) (k27 false))) fun k25 => cn (y12.2 != 0) (k25 true) (cn (y13.2 !=
    0) (k25 true) (cn (decide (y12.1 < s22.1)) (k25 true) (k25 (decide (y12.1 > (wr (s22.1 + y13.1)))))))) (fun r23 =>
    some (.rt r23))) (some (.bk (s11.1, s11.2.1, s11.2.2.1, s11.2.2.2)))) Φ := h
def law34_RecoveryLoads_b1 (y3 : List TAttempt) (s4 : Int × Int) : Option (Ct (Int × Int) Bool) := cn (decide (s4.2 < (y3.length : Int))) (ix y3 default s4.2 fun e5 =>
    jn (fun p6 : Int => some (.nx (p6, (wr (s4.2 + 1))))) fun k7 => cn (!e5.Urgent) (k7 (wr (s4.1 + 1))) (k7 s4.1)) (some (.bk (s4.1, s4.2)))
theorem W_blaw34_RecoveryLoads_b1 {y3 : List TAttempt} {s4 : Int × Int} {Φ : Ct (Int × Int) Bool → Prop} (h : W (law34_RecoveryLoads_b1 y3 s4) Φ) : W (cn (decide (s4.2 < (y3.length : Int))) (ix y3 default s4.2 fun e5 => jn (fun p6 : Int => some (.nx (p6, (wr (s4.2 + 1))))) fun k7 =>
    cn (!e5.Urgent) (k7 (wr (s4.1 + 1))) (k7 s4.1)) (some (.bk (s4.1, s4.2)))) Φ := h
def law34_RecoveryLoads_F (a0 : List (Int × Int)) (a1 : Int) (a2 : List (Int × Int)) : Option Bool := bd (law34_sane_F ) fun y1 =>
    cn (!y1) (some false) (bd (ref34_Made_F a0 a1) fun y2 => bd (ref34_Attempts_F a2) fun y3 => bd (lp (law34_RecoveryLoads_b1 y3) FU (0, 0)) fun c8 => smK c8 (fun s9 =>
    bd (lp (law34_RecoveryLoads_b2 y2 y3) FU (0, 0, (-1), 0)) fun c30 => smK c30 (fun s31 => bd (recovery_Safe_F y2 y3) fun y33 => jn (fun p34 : Bool =>
    cn p34 (some false) (jn (fun p36 : Bool => some p36) fun k37 => cn y33.2 (k37 true) (ix y2.Steps default (wr ((y2.Steps.length : Int) - 1)) fun e38 =>
    let v39 := (decide (y2.Signals < (wr (s31.2.1 + e38.Capacity)))); k37 v39))) fun k35 => cn (decide (s31.1 < s9.1)) (k35 true) (cn (decide (s31.1 >
    (wr (2 * s9.1)))) (k35 true) (cn (!(y33.2 == (decide (s31.2.2.1 < 0)))) (k35 true) (k35 (y33.1 != s31.2.2.1))))) (fun r32 => some r32)) (fun r10 => some r10))
def law34_RecoveryLoads_S : List AV → AV → Prop := fun args r => ∃ a0 a1 a2, args = [(eL 2 eA71 default) a0, eI a1, (eL 2 eA71 default) a2] ∧ W (law34_RecoveryLoads_F a0 a1 a2) fun y => r = (eB y)
theorem law34_RecoveryLoads_ok {T : Tbl} (hT : TOk Try.prog T) (hpf : PfOk T PF) (h13 : T 13 = pureR law34_sane_S) (h14 : T 14 = pureR ref34_Made_S) (h15 : T 15 = pureR ref34_Attempts_S) (h20 : T 20 = pureR recovery_Safe_S) (h30 : T 30 = pureR recovery_Load_S) (h32 : T 32 = pureR recovery_Capacity_S) : FOk Try.prog 7 (pureR law34_RecoveryLoads_S) := by
  refine FOk_pure hT hpf Try.func7 rfl Try.ntmps7 Try.results7 (by decide) ?_
  rintro args r ⟨a0, a1, a2, rfl, h⟩
  refine ⟨Nat.le_of_ble_eq_true rfl, ?_, ?_⟩
  · exact (loose_cons (loose_lst fun _ => (lo_A71 _)) (loose_cons (loose_int _ _) (loose_cons (loose_lst fun _ => (lo_A71 _)) loose_nil)))
  rw [law34_RecoveryLoads_F.eq_1] at h
  refine HT_fr DC_ok rfl fun K hK => ?_; (conv => whnf)
  refine hK _ _ _ ?_; clear hK K
  refine HT_fr DC_ok rfl fun K hK => ?_; (conv => whnf)
  replace h := W_bd h
  refine law34_sane_call h13 h (WkL.refl _) (fun _ h => ?_); (conv => whnf)
  refine hK _ _ _ ?_; clear hK K
  refine HT_seq ?_
  refine HT_fr DC_ok rfl fun K hK => ?_; (conv => whnf)
  refine hK _ _ _ ?_; clear hK K
  refine HT_if fun K1 K2 hK1 hK2 => ?_; (conv => whnf)
  refine cond_lk h (fun _ h => ?_) (fun _ h => ?_)
  · refine hK1 ?_; clear hK1 hK2 K1 K2
    refine HT_fr DC_ok rfl fun K hK => ?_; (conv => whnf)
    refine hK _ _ _ ?_; clear hK K
    refine HT_ret ?_
    refine Then_r ?_
    replace h := W_some h
    refine PostP_r DC_ok fun K hK => ?_; (conv => whnf)
    refine hK _ ?_; clear hK K
    cases h
    exact Wk.refl _
  refine hK2 ?_; clear hK1 hK2 K1 K2
  refine HT_skip ?_
  refine Then_n ?_
  refine HT_fr DC_ok rfl fun K hK => ?_; (conv => whnf)
  replace h := W_bd h
  refine ref34_Made_call h14 h (WkL.refl _) (fun _ h => ?_); (conv => whnf)
  refine blkK_of rfl ?_; (conv => whnf)
  refine And.intro rfl (And.intro (Nat.le_of_ble_eq_true rfl) (And.intro rfl ?_)); (conv => whnf)
  refine hK _ _ _ ?_; clear hK K
  refine HT_fr DC_ok rfl fun K hK => ?_; (conv => whnf)
  replace h := W_bd h
  refine ref34_Attempts_call h15 h (WkL.refl _) (fun _ h => ?_); (conv => whnf)
  refine hK _ _ _ ?_; clear hK K
  refine HT_fr DC_ok rfl fun K hK => ?_; (conv => whnf)
  refine hK _ _ _ ?_; clear hK K
  refine HT_fr DC_ok rfl fun K hK => ?_; (conv => whnf)
  refine hK _ _ _ ?_; clear hK K
  refine HT_fr DC_ok rfl fun K hK => ?_; (conv => whnf)
  refine hK _ _ _ ?_; clear hK K
  refine HT_fr DC_ok rfl fun K hK => ?_; (conv => whnf)
  refine hK _ _ _ ?_; clear hK K
  refine HT_seq ?_
  refine HT_fr DC_ok rfl fun K hK => ?_; (conv => whnf)
  refine hK _ _ _ ?_; clear hK K
  refine HT_block ?_
  replace h := W_bd h
  refine HT_lpK (body := law34_RecoveryLoads_b1 _) rfl h [8, 9, 10, 12, 13] [8] [] (fun kl kh ids b s => ⟨ofL ([(11, eI s.1), (14, eI s.2)] ++ kl), ofH ([] ++ kh), b + 64⟩) ?_; (conv => whnf); refine And.intro ?_ (fun s m h => HT_st ?_)
  · refine weak_k ?_; (conv => whnf)
    exact And.intro rfl (And.intro (allL_c (WkR.wk (Wk.refl _) (loose_int _ _)) (allL_c (WkR.wk (Wk.refl _) (loose_int _ _)) (allL_c (WkR.ptr (fun _ => rfl)) (allL_c (WkR.wk (Wk.refl _) (loose_lst fun _ => (lo_TAttempt _))) (allL_c (WkR.wk (Wk.refl _) (loose_int _ _)) (allL_c (WkR.wk (Wk.refl _) (loose_int _ _)) (allL_c (WkR.wk (Wk.refl _) (loose_int _ _)) allL_n))))))) (allL_c ⟨some _, rfl, BkR_c rfl (CkR_cons (WkR.wk (Wk.refl _) (loose_lst fun _ => (lo_TGrowth _))) (CkR_cons (WkR.wk (Wk.refl _) (loose_int _ _)) CkR_nil))⟩ allL_n))
  replace h := W_blaw34_RecoveryLoads_b1 (W_bd h)
  refine HT_seq ?_
  refine HT_fr DC_ok rfl fun K hK => ?_; (conv => whnf)
  refine hK _ _ _ ?_; clear hK K
  refine HT_if fun K1 K2 hK1 hK2 => ?_; (conv => whnf)
  refine cond_lk h (fun _ h => ?_) (fun _ h => ?_)
  · refine hK1 ?_; clear hK1 hK2 K1 K2
    refine HT_skip ?_
    refine Then_n ?_
    refine HT_seq ?_
    refine HT_block ?_
    refine HT_fr DC_ok rfl fun K hK => ?_; (conv => whnf)
    refine ix_lk h fun _ h => ?_; (conv => whnf)
    refine getK_of rfl ?_; (conv => whnf)
    refine hK _ _ _ ?_; clear hK K
    replace h := W_jn h
    refine HT_if fun K1 K2 hK1 hK2 => ?_; (conv => whnf)
    refine cond_lk h (fun _ h => ?_) (fun _ h => ?_)
    · refine hK1 ?_; clear hK1 hK2 K1 K2
      refine HT_f DC_ok rfl fun K hK => ?_; (conv => whnf)
      refine hK _ _ _ ?_; clear hK K
      refine InBlock_n ?_
      refine Then_n ?_
      refine HT_f DC_ok rfl fun K hK => ?_; (conv => whnf)
      refine hK _ _ _ ?_; clear hK K
      refine Then_n ?_
      replace h := W_xnx h
      refine ⟨_, h, ?_⟩
      refine weak_k ?_; (conv => whnf)
      exact And.intro rfl (And.intro (allL_c (WkR.wk (Wk.refl _) (loose_int _ _)) (allL_c (WkR.wk (Wk.refl _) (loose_int _ _)) (allL_c (WkR.ptr (fun _ => rfl)) (allL_c (WkR.wk (Wk.refl _) (loose_lst fun _ => (lo_TAttempt _))) (allL_c (WkR.wk (Wk.refl _) (loose_int _ _)) (allL_c (WkR.wk (Wk.refl _) (loose_int _ _)) (allL_c (WkR.wk (Wk.refl _) (loose_int _ _)) allL_n))))))) (allL_c ⟨some _, rfl, BkR_c rfl (CkR_cons (WkR.wk (Wk.refl _) (loose_lst fun _ => (lo_TGrowth _))) (CkR_cons (WkR.wk (Wk.refl _) (loose_int _ _)) CkR_nil))⟩ allL_n))
    refine hK2 ?_; clear hK1 hK2 K1 K2
    refine HT_skip ?_
    refine InBlock_n ?_
    refine Then_n ?_
    refine HT_f DC_ok rfl fun K hK => ?_; (conv => whnf)
    refine hK _ _ _ ?_; clear hK K
    refine Then_n ?_
    replace h := W_xnx h
    refine ⟨_, h, ?_⟩
    refine weak_k ?_; (conv => whnf)
    exact And.intro rfl (And.intro (allL_c (WkR.wk (Wk.refl _) (loose_int _ _)) (allL_c (WkR.wk (Wk.refl _) (loose_int _ _)) (allL_c (WkR.ptr (fun _ => rfl)) (allL_c (WkR.wk (Wk.refl _) (loose_lst fun _ => (lo_TAttempt _))) (allL_c (WkR.wk (Wk.refl _) (loose_int _ _)) (allL_c (WkR.wk (Wk.refl _) (loose_int _ _)) (allL_c (WkR.wk (Wk.refl _) (loose_int _ _)) allL_n))))))) (allL_c ⟨some _, rfl, BkR_c rfl (CkR_cons (WkR.wk (Wk.refl _) (loose_lst fun _ => (lo_TGrowth _))) (CkR_cons (WkR.wk (Wk.refl _) (loose_int _ _)) CkR_nil))⟩ allL_n))
  refine hK2 ?_; clear hK1 hK2 K1 K2
  refine HT_exit ?_
  refine Then_e ?_
  refine Then_e ?_
  refine InBlock_e ?_
  replace h := W_xbk h
  replace h := W_inl h
  refine Then_n ?_
  refine HT_seq ?_
  refine HT_fr DC_ok rfl fun K hK => ?_; (conv => whnf)
  refine hK _ _ _ ?_; clear hK K
  refine HT_block ?_
  replace h := W_bd h
  refine HT_lpK (body := law34_RecoveryLoads_b2 _ _) rfl h [8, 9, 11] [8] [] (fun kl kh ids b s => ⟨ofL ([(10, eI s.1), (12, eI s.2.1), (13, eI s.2.2.1), (15, eI s.2.2.2)] ++ kl), ofH ([] ++ kh), b + 64⟩) ?_; (conv => whnf); refine And.intro ?_ (fun s m h => HT_st ?_)
  · refine weak_k ?_; (conv => whnf)
    exact And.intro rfl (And.intro (allL_c (WkR.wk (Wk.refl _) (loose_int _ _)) (allL_c (WkR.wk (Wk.refl _) (loose_int _ _)) (allL_c (WkR.wk (Wk.refl _) (loose_int _ _)) (allL_c (WkR.wk (Wk.refl _) (loose_int _ _)) (allL_c (WkR.ptr (fun _ => rfl)) (allL_c (WkR.wk (Wk.refl _) (loose_lst fun _ => (lo_TAttempt _))) (allL_c (WkR.wk (Wk.refl _) (loose_int _ _)) allL_n))))))) (allL_c ⟨some _, rfl, BkR_c rfl (CkR_cons (WkR.wk (Wk.refl _) (loose_lst fun _ => (lo_TGrowth _))) (CkR_cons (WkR.wk (Wk.refl _) (loose_int _ _)) CkR_nil))⟩ allL_n))
  replace h := W_blaw34_RecoveryLoads_b2 (W_bd h)
  refine HT_seq ?_
  refine HT_fr DC_ok rfl fun K hK => ?_; (conv => whnf)
  refine hK _ _ _ ?_; clear hK K
  refine HT_if fun K1 K2 hK1 hK2 => ?_; (conv => whnf)
  refine cond_lk h (fun _ h => ?_) (fun _ h => ?_)
  · refine hK1 ?_; clear hK1 hK2 K1 K2
    refine HT_skip ?_
    refine Then_n ?_
    refine HT_seq ?_
    refine HT_block ?_
    refine HT_fr DC_ok rfl fun K hK => ?_; (conv => whnf)
    refine And.intro (Nat.le_of_ble_eq_true rfl) ?_; (conv => whnf)
    refine blkK_of rfl ?_; (conv => whnf)
    refine And.intro (Nat.le_of_ble_eq_true rfl) ?_; (conv => whnf)
    replace h := W_bd h
    refine recovery_Load_call h30 h (WkL.refl _) (fun _ h => ?_); (conv => whnf)
    refine hK _ _ _ ?_; clear hK K
    refine HT_fr DC_ok rfl fun K hK => ?_; (conv => whnf)
    refine And.intro (Nat.le_of_ble_eq_true rfl) ?_; (conv => whnf)
    refine blkK_of rfl ?_; (conv => whnf)
    refine And.intro (Nat.le_of_ble_eq_true rfl) ?_; (conv => whnf)
    replace h := W_bd h
    refine recovery_Capacity_call h32 h (WkL.refl _) (fun _ h => ?_); (conv => whnf)
    refine hK _ _ _ ?_; clear hK K
    refine HT_fr DC_ok rfl fun K hK => ?_; (conv => whnf)
    refine hK _ _ _ ?_; clear hK K
    refine HT_seq ?_
    refine HT_fr DC_ok rfl fun K hK => ?_; (conv => whnf)
    refine hK _ _ _ ?_; clear hK K
    refine HT_block ?_
    replace h := W_bd h
    refine HT_lpK (body := law34_RecoveryLoads_b3 _ _) rfl h [8, 9, 10, 11, 12, 13, 15, 16, 17, 18, 19] [8] [] (fun kl kh ids b s => ⟨ofL ([(20, eI s.1), (21, eI s.2)] ++ kl), ofH ([] ++ kh), b + 64⟩) ?_; (conv => whnf); refine And.intro ?_ (fun s m h => HT_st ?_)
    · refine weak_k ?_; (conv => whnf)
      exact And.intro rfl (And.intro (allL_c (WkR.wk (Wk.refl _) (loose_int _ _)) (allL_c (WkR.wk (Wk.refl _) (loose_int _ _)) (allL_c (WkR.ptr (fun _ => rfl)) (allL_c (WkR.wk (Wk.refl _) (loose_lst fun _ => (lo_TAttempt _))) (allL_c (WkR.wk (Wk.refl _) (loose_int _ _)) (allL_c (WkR.wk (Wk.refl _) (loose_int _ _)) (allL_c (WkR.wk (Wk.refl _) (loose_int _ _)) (allL_c (WkR.wk (Wk.refl _) (loose_int _ _)) (allL_c (WkR.wk (Wk.refl _) (loose_int _ _)) (allL_c (WkR.wk (Wk.refl _) (loose_int _ _)) (allL_c (WkR.wk (Wk.refl _) (loose_int _ _)) (allL_c (WkR.wk (Wk.refl _) (loose_int _ _)) (allL_c (WkR.wk (Wk.refl _) (loose_int _ _)) allL_n))))))))))))) (allL_c ⟨some _, rfl, BkR_c rfl (CkR_cons (WkR.wk (Wk.refl _) (loose_lst fun _ => (lo_TGrowth _))) (CkR_cons (WkR.wk (Wk.refl _) (loose_int _ _)) CkR_nil))⟩ allL_n))
    replace h := W_blaw34_RecoveryLoads_b3 (W_bd h)
    refine HT_seq ?_
    refine HT_fr DC_ok rfl fun K hK => ?_; (conv => whnf)
    refine hK _ _ _ ?_; clear hK K
    refine HT_if fun K1 K2 hK1 hK2 => ?_; (conv => whnf)
    refine cond_lk h (fun _ h => ?_) (fun _ h => ?_)
    · refine hK1 ?_; clear hK1 hK2 K1 K2
      refine HT_skip ?_
      refine Then_n ?_
      refine HT_seq ?_
      refine HT_block ?_
      refine HT_fr DC_ok rfl fun K hK => ?_; (conv => whnf)
      replace h := W_jn h
      refine ix_lk h fun _ h => ?_; (conv => whnf)
      refine getK_of rfl ?_; (conv => whnf)
      refine cond_lk h (fun _ h => ?_) (fun _ h => ?_) <;> (conv => whnf)
      · refine ix_lk h fun _ h => ?_; (conv => whnf)
        refine getK_of rfl ?_; (conv => whnf)
        refine hK _ _ _ ?_; clear hK K
        replace h := W_jn h
        refine HT_if fun K1 K2 hK1 hK2 => ?_; (conv => whnf)
        refine cond_lk h (fun _ h => ?_) (fun _ h => ?_)
        · refine hK1 ?_; clear hK1 hK2 K1 K2
          refine HT_f DC_ok rfl fun K hK => ?_; (conv => whnf)
          refine hK _ _ _ ?_; clear hK K
          refine InBlock_n ?_
          refine Then_n ?_
          refine HT_f DC_ok rfl fun K hK => ?_; (conv => whnf)
          refine hK _ _ _ ?_; clear hK K
          refine Then_n ?_
          replace h := W_xnx h
          refine ⟨_, h, ?_⟩
          refine weak_k ?_; (conv => whnf)
          exact And.intro rfl (And.intro (allL_c (WkR.wk (Wk.refl _) (loose_int _ _)) (allL_c (WkR.wk (Wk.refl _) (loose_int _ _)) (allL_c (WkR.ptr (fun _ => rfl)) (allL_c (WkR.wk (Wk.refl _) (loose_lst fun _ => (lo_TAttempt _))) (allL_c (WkR.wk (Wk.refl _) (loose_int _ _)) (allL_c (WkR.wk (Wk.refl _) (loose_int _ _)) (allL_c (WkR.wk (Wk.refl _) (loose_int _ _)) (allL_c (WkR.wk (Wk.refl _) (loose_int _ _)) (allL_c (WkR.wk (Wk.refl _) (loose_int _ _)) (allL_c (WkR.wk (Wk.refl _) (loose_int _ _)) (allL_c (WkR.wk (Wk.refl _) (loose_int _ _)) (allL_c (WkR.wk (Wk.refl _) (loose_int _ _)) (allL_c (WkR.wk (Wk.refl _) (loose_int _ _)) allL_n))))))))))))) (allL_c ⟨some _, rfl, BkR_c rfl (CkR_cons (WkR.wk (Wk.refl _) (loose_lst fun _ => (lo_TGrowth _))) (CkR_cons (WkR.wk (Wk.refl _) (loose_int _ _)) CkR_nil))⟩ allL_n))
        refine hK2 ?_; clear hK1 hK2 K1 K2
        refine HT_skip ?_
        refine InBlock_n ?_
        refine Then_n ?_
        refine HT_f DC_ok rfl fun K hK => ?_; (conv => whnf)
        refine hK _ _ _ ?_; clear hK K
        refine Then_n ?_
        replace h := W_xnx h
        refine ⟨_, h, ?_⟩
        refine weak_k ?_; (conv => whnf)
        exact And.intro rfl (And.intro (allL_c (WkR.wk (Wk.refl _) (loose_int _ _)) (allL_c (WkR.wk (Wk.refl _) (loose_int _ _)) (allL_c (WkR.ptr (fun _ => rfl)) (allL_c (WkR.wk (Wk.refl _) (loose_lst fun _ => (lo_TAttempt _))) (allL_c (WkR.wk (Wk.refl _) (loose_int _ _)) (allL_c (WkR.wk (Wk.refl _) (loose_int _ _)) (allL_c (WkR.wk (Wk.refl _) (loose_int _ _)) (allL_c (WkR.wk (Wk.refl _) (loose_int _ _)) (allL_c (WkR.wk (Wk.refl _) (loose_int _ _)) (allL_c (WkR.wk (Wk.refl _) (loose_int _ _)) (allL_c (WkR.wk (Wk.refl _) (loose_int _ _)) (allL_c (WkR.wk (Wk.refl _) (loose_int _ _)) (allL_c (WkR.wk (Wk.refl _) (loose_int _ _)) allL_n))))))))))))) (allL_c ⟨some _, rfl, BkR_c rfl (CkR_cons (WkR.wk (Wk.refl _) (loose_lst fun _ => (lo_TGrowth _))) (CkR_cons (WkR.wk (Wk.refl _) (loose_int _ _)) CkR_nil))⟩ allL_n))
      refine hK _ _ _ ?_; clear hK K
      replace h := W_jn h
      refine HT_if fun K1 K2 hK1 hK2 => ?_; (conv => whnf)
      refine hK2 ?_; clear hK1 hK2 K1 K2
      replace h := W_cnF h
      refine HT_skip ?_
      refine InBlock_n ?_
      refine Then_n ?_
      refine HT_f DC_ok rfl fun K hK => ?_; (conv => whnf)
      refine hK _ _ _ ?_; clear hK K
      refine Then_n ?_
      replace h := W_xnx h
      refine ⟨_, h, ?_⟩
      refine weak_k ?_; (conv => whnf)
      exact And.intro rfl (And.intro (allL_c (WkR.wk (Wk.refl _) (loose_int _ _)) (allL_c (WkR.wk (Wk.refl _) (loose_int _ _)) (allL_c (WkR.ptr (fun _ => rfl)) (allL_c (WkR.wk (Wk.refl _) (loose_lst fun _ => (lo_TAttempt _))) (allL_c (WkR.wk (Wk.refl _) (loose_int _ _)) (allL_c (WkR.wk (Wk.refl _) (loose_int _ _)) (allL_c (WkR.wk (Wk.refl _) (loose_int _ _)) (allL_c (WkR.wk (Wk.refl _) (loose_int _ _)) (allL_c (WkR.wk (Wk.refl _) (loose_int _ _)) (allL_c (WkR.wk (Wk.refl _) (loose_int _ _)) (allL_c (WkR.wk (Wk.refl _) (loose_int _ _)) (allL_c (WkR.wk (Wk.refl _) (loose_int _ _)) (allL_c (WkR.wk (Wk.refl _) (loose_int _ _)) allL_n))))))))))))) (allL_c ⟨some _, rfl, BkR_c rfl (CkR_cons (WkR.wk (Wk.refl _) (loose_lst fun _ => (lo_TGrowth _))) (CkR_cons (WkR.wk (Wk.refl _) (loose_int _ _)) CkR_nil))⟩ allL_n))
    refine hK2 ?_; clear hK1 hK2 K1 K2
    refine HT_exit ?_
    refine Then_e ?_
    refine Then_e ?_
    refine InBlock_e ?_
    replace h := W_xbk h
    replace h := W_inl h
    refine Then_n ?_
    refine HT_seq ?_
    refine HT_fr DC_ok rfl fun K hK => ?_; (conv => whnf)
    replace h := W_jn h
    refine cond_lk h (fun _ h => ?_) (fun _ h => ?_) <;> (conv => whnf)
    · refine hK _ _ _ ?_; clear hK K
      refine HT_if fun K1 K2 hK1 hK2 => ?_; (conv => whnf)
      refine hK1 ?_; clear hK1 hK2 K1 K2
      replace h := W_cnT h
      refine HT_fr DC_ok rfl fun K hK => ?_; (conv => whnf)
      refine hK _ _ _ ?_; clear hK K
      refine HT_ret ?_
      refine Then_r ?_
      refine InBlock_r ?_
      refine Then_r ?_
      refine Then_r ?_
      refine InBlock_r ?_
      refine Then_r ?_
      replace h := W_xrt h
      replace h := W_inr h
      replace h := W_some h
      refine PostP_r DC_ok fun K hK => ?_; (conv => whnf)
      refine hK _ ?_; clear hK K
      cases h
      exact Wk.refl _
    refine cond_lk h (fun _ h => ?_) (fun _ h => ?_) <;> (conv => whnf)
    · refine hK _ _ _ ?_; clear hK K
      refine HT_if fun K1 K2 hK1 hK2 => ?_; (conv => whnf)
      refine hK1 ?_; clear hK1 hK2 K1 K2
      replace h := W_cnT h
      refine HT_fr DC_ok rfl fun K hK => ?_; (conv => whnf)
      refine hK _ _ _ ?_; clear hK K
      refine HT_ret ?_
      refine Then_r ?_
      refine InBlock_r ?_
      refine Then_r ?_
      refine Then_r ?_
      refine InBlock_r ?_
      refine Then_r ?_
      replace h := W_xrt h
      replace h := W_inr h
      replace h := W_some h
      refine PostP_r DC_ok fun K hK => ?_; (conv => whnf)
      refine hK _ ?_; clear hK K
      cases h
      exact Wk.refl _
    refine cond_lk h (fun _ h => ?_) (fun _ h => ?_) <;> (conv => whnf)
    · refine hK _ _ _ ?_; clear hK K
      refine HT_if fun K1 K2 hK1 hK2 => ?_; (conv => whnf)
      refine hK1 ?_; clear hK1 hK2 K1 K2
      replace h := W_cnT h
      refine HT_fr DC_ok rfl fun K hK => ?_; (conv => whnf)
      refine hK _ _ _ ?_; clear hK K
      refine HT_ret ?_
      refine Then_r ?_
      refine InBlock_r ?_
      refine Then_r ?_
      refine Then_r ?_
      refine InBlock_r ?_
      refine Then_r ?_
      replace h := W_xrt h
      replace h := W_inr h
      replace h := W_some h
      refine PostP_r DC_ok fun K hK => ?_; (conv => whnf)
      refine hK _ ?_; clear hK K
      cases h
      exact Wk.refl _
    refine hK _ _ _ ?_; clear hK K
    refine HT_if fun K1 K2 hK1 hK2 => ?_; (conv => whnf)
    refine cond_lk h (fun _ h => ?_) (fun _ h => ?_)
    · refine hK1 ?_; clear hK1 hK2 K1 K2
      refine HT_fr DC_ok rfl fun K hK => ?_; (conv => whnf)
      refine hK _ _ _ ?_; clear hK K
      refine HT_ret ?_
      refine Then_r ?_
      refine InBlock_r ?_
      refine Then_r ?_
      refine Then_r ?_
      refine InBlock_r ?_
      refine Then_r ?_
      replace h := W_xrt h
      replace h := W_inr h
      replace h := W_some h
      refine PostP_r DC_ok fun K hK => ?_; (conv => whnf)
      refine hK _ ?_; clear hK K
      cases h
      exact Wk.refl _
    refine hK2 ?_; clear hK1 hK2 K1 K2
    refine HT_skip ?_
    refine Then_n ?_
    refine HT_fr DC_ok rfl fun K hK => ?_; (conv => whnf)
    refine hK _ _ _ ?_; clear hK K
    refine HT_fr DC_ok rfl fun K hK => ?_; (conv => whnf)
    refine hK _ _ _ ?_; clear hK K
    refine HT_fr DC_ok rfl fun K hK => ?_; (conv => whnf)
    replace h := W_jn h
    refine And.intro (Nat.le_of_ble_eq_true rfl) ?_; (conv => whnf)
    refine blkK_of rfl ?_; (conv => whnf)
    refine getK_of rfl ?_; (conv => whnf)
    refine cond_lk h (fun _ h => ?_) (fun _ h => ?_) <;> (conv => whnf)
    · refine hK _ _ _ ?_; clear hK K
      replace h := W_jn h
      refine HT_if fun K1 K2 hK1 hK2 => ?_; (conv => whnf)
      refine cond_lk h (fun _ h => ?_) (fun _ h => ?_)
      · refine hK1 ?_; clear hK1 hK2 K1 K2
        refine HT_f DC_ok rfl fun K hK => ?_; (conv => whnf)
        refine hK _ _ _ ?_; clear hK K
        refine InBlock_n ?_
        refine Then_n ?_
        refine HT_f DC_ok rfl fun K hK => ?_; (conv => whnf)
        refine hK _ _ _ ?_; clear hK K
        refine Then_n ?_
        replace h := W_xnx h
        refine ⟨_, h, ?_⟩
        refine weak_k ?_; (conv => whnf)
        exact And.intro rfl (And.intro (allL_c (WkR.wk (Wk.refl _) (loose_int _ _)) (allL_c (WkR.wk (Wk.refl _) (loose_int _ _)) (allL_c (WkR.wk (Wk.refl _) (loose_int _ _)) (allL_c (WkR.wk (Wk.refl _) (loose_int _ _)) (allL_c (WkR.ptr (fun _ => rfl)) (allL_c (WkR.wk (Wk.refl _) (loose_lst fun _ => (lo_TAttempt _))) (allL_c (WkR.wk (Wk.refl _) (loose_int _ _)) allL_n))))))) (allL_c ⟨some _, rfl, BkR_c rfl (CkR_cons (WkR.wk (Wk.refl _) (loose_lst fun _ => (lo_TGrowth _))) (CkR_cons (WkR.wk (Wk.refl _) (loose_int _ _)) CkR_nil))⟩ allL_n))
      refine hK2 ?_; clear hK1 hK2 K1 K2
      refine HT_skip ?_
      refine InBlock_n ?_
      refine Then_n ?_
      refine HT_f DC_ok rfl fun K hK => ?_; (conv => whnf)
      refine hK _ _ _ ?_; clear hK K
      refine Then_n ?_
      replace h := W_xnx h
      refine ⟨_, h, ?_⟩
      refine weak_k ?_; (conv => whnf)
      exact And.intro rfl (And.intro (allL_c (WkR.wk (Wk.refl _) (loose_int _ _)) (allL_c (WkR.wk (Wk.refl _) (loose_int _ _)) (allL_c (WkR.wk (Wk.refl _) (loose_int _ _)) (allL_c (WkR.wk (Wk.refl _) (loose_int _ _)) (allL_c (WkR.ptr (fun _ => rfl)) (allL_c (WkR.wk (Wk.refl _) (loose_lst fun _ => (lo_TAttempt _))) (allL_c (WkR.wk (Wk.refl _) (loose_int _ _)) allL_n))))))) (allL_c ⟨some _, rfl, BkR_c rfl (CkR_cons (WkR.wk (Wk.refl _) (loose_lst fun _ => (lo_TGrowth _))) (CkR_cons (WkR.wk (Wk.refl _) (loose_int _ _)) CkR_nil))⟩ allL_n))
    refine hK _ _ _ ?_; clear hK K
    replace h := W_jn h
    refine HT_if fun K1 K2 hK1 hK2 => ?_; (conv => whnf)
    refine hK2 ?_; clear hK1 hK2 K1 K2
    replace h := W_cnF h
    refine HT_skip ?_
    refine InBlock_n ?_
    refine Then_n ?_
    refine HT_f DC_ok rfl fun K hK => ?_; (conv => whnf)
    refine hK _ _ _ ?_; clear hK K
    refine Then_n ?_
    replace h := W_xnx h
    refine ⟨_, h, ?_⟩
    refine weak_k ?_; (conv => whnf)
    exact And.intro rfl (And.intro (allL_c (WkR.wk (Wk.refl _) (loose_int _ _)) (allL_c (WkR.wk (Wk.refl _) (loose_int _ _)) (allL_c (WkR.wk (Wk.refl _) (loose_int _ _)) (allL_c (WkR.wk (Wk.refl _) (loose_int _ _)) (allL_c (WkR.ptr (fun _ => rfl)) (allL_c (WkR.wk (Wk.refl _) (loose_lst fun _ => (lo_TAttempt _))) (allL_c (WkR.wk (Wk.refl _) (loose_int _ _)) allL_n))))))) (allL_c ⟨some _, rfl, BkR_c rfl (CkR_cons (WkR.wk (Wk.refl _) (loose_lst fun _ => (lo_TGrowth _))) (CkR_cons (WkR.wk (Wk.refl _) (loose_int _ _)) CkR_nil))⟩ allL_n))
  refine hK2 ?_; clear hK1 hK2 K1 K2
  refine HT_exit ?_
  refine Then_e ?_
  refine Then_e ?_
  refine InBlock_e ?_
  replace h := W_xbk h
  replace h := W_inl h
  refine Then_n ?_
  refine HT_fr DC_ok rfl fun K hK => ?_; (conv => whnf)
  refine And.intro (Nat.le_of_ble_eq_true rfl) ?_; (conv => whnf)
  refine blkK_of rfl ?_; (conv => whnf)
  refine And.intro (Nat.le_of_ble_eq_true rfl) ?_; (conv => whnf)
  replace h := W_bd h
  refine recovery_Safe_call h20 h (WkL.refl _) (fun _ h => ?_); (conv => whnf)
  refine hK _ _ _ ?_; clear hK K
  refine HT_seq ?_
  refine HT_fr DC_ok rfl fun K hK => ?_; (conv => whnf)
  replace h := W_jn h
  refine cond_lk h (fun _ h => ?_) (fun _ h => ?_) <;> (conv => whnf)
  · refine hK _ _ _ ?_; clear hK K
    refine HT_if fun K1 K2 hK1 hK2 => ?_; (conv => whnf)
    refine hK1 ?_; clear hK1 hK2 K1 K2
    replace h := W_cnT h
    refine HT_fr DC_ok rfl fun K hK => ?_; (conv => whnf)
    refine hK _ _ _ ?_; clear hK K
    refine HT_ret ?_
    refine Then_r ?_
    replace h := W_some h
    refine PostP_r DC_ok fun K hK => ?_; (conv => whnf)
    refine hK _ ?_; clear hK K
    cases h
    exact Wk.refl _
  refine cond_lk h (fun _ h => ?_) (fun _ h => ?_) <;> (conv => whnf)
  · refine hK _ _ _ ?_; clear hK K
    refine HT_if fun K1 K2 hK1 hK2 => ?_; (conv => whnf)
    refine hK1 ?_; clear hK1 hK2 K1 K2
    replace h := W_cnT h
    refine HT_fr DC_ok rfl fun K hK => ?_; (conv => whnf)
    refine hK _ _ _ ?_; clear hK K
    refine HT_ret ?_
    refine Then_r ?_
    replace h := W_some h
    refine PostP_r DC_ok fun K hK => ?_; (conv => whnf)
    refine hK _ ?_; clear hK K
    cases h
    exact Wk.refl _
  refine eqK_n (eqv_bool DC_ok rfl _ _) ?_; (conv => whnf)
  refine cond_lk h (fun _ h => ?_) (fun _ h => ?_) <;> (conv => whnf)
  · refine hK _ _ _ ?_; clear hK K
    refine HT_if fun K1 K2 hK1 hK2 => ?_; (conv => whnf)
    refine hK1 ?_; clear hK1 hK2 K1 K2
    replace h := W_cnT h
    refine HT_fr DC_ok rfl fun K hK => ?_; (conv => whnf)
    refine hK _ _ _ ?_; clear hK K
    refine HT_ret ?_
    refine Then_r ?_
    replace h := W_some h
    refine PostP_r DC_ok fun K hK => ?_; (conv => whnf)
    refine hK _ ?_; clear hK K
    cases h
    exact Wk.refl _
  refine hK _ _ _ ?_; clear hK K
  refine HT_if fun K1 K2 hK1 hK2 => ?_; (conv => whnf)
  refine cond_lk h (fun _ h => ?_) (fun _ h => ?_)
  · refine hK1 ?_; clear hK1 hK2 K1 K2
    refine HT_fr DC_ok rfl fun K hK => ?_; (conv => whnf)
    refine hK _ _ _ ?_; clear hK K
    refine HT_ret ?_
    refine Then_r ?_
    replace h := W_some h
    refine PostP_r DC_ok fun K hK => ?_; (conv => whnf)
    refine hK _ ?_; clear hK K
    cases h
    exact Wk.refl _
  refine hK2 ?_; clear hK1 hK2 K1 K2
  refine HT_skip ?_
  refine Then_n ?_
  refine HT_fd DC_ok mix_ok rfl (by kernel_rfl) fun K hK => ?_; (conv => whnf)
  replace h := W_jn h
  refine cond_lk h (fun _ h => ?_) (fun _ h => ?_) <;> (conv => whnf)
  · refine hK _ _ _ ?_; clear hK K
    refine HT_ret ?_
    replace h := W_some h
    refine PostP_r DC_ok fun K hK => ?_; (conv => whnf)
    refine hK _ ?_; clear hK K
    cases h
    exact Wk.refl _
  refine And.intro (Nat.le_of_ble_eq_true rfl) ?_; (conv => whnf)
  refine blkK_of rfl ?_; (conv => whnf)
  refine getK_of rfl ?_; (conv => whnf)
  refine And.intro (Nat.le_of_ble_eq_true rfl) ?_; (conv => whnf)
  refine blkK_of rfl ?_; (conv => whnf)
  refine getK_of rfl ?_; (conv => whnf)
  refine And.intro (Nat.le_of_ble_eq_true rfl) ?_; (conv => whnf)
  refine blkK_of rfl ?_; (conv => whnf)
  refine getK_of rfl ?_; (conv => whnf)
  refine ix_lk h fun _ h => ?_; (conv => whnf)
  refine getK_of rfl ?_; (conv => whnf)
  refine hK _ _ _ ?_; clear hK K
  refine HT_ret ?_
  replace h := W_some h
  refine PostP_r DC_ok fun K hK => ?_; (conv => whnf)
  refine hK _ ?_; clear hK K
  cases h
  exact Wk.refl _
theorem law34_RecoveryLoads_call {T : Tbl} (hT : T 7 = pureR law34_RecoveryLoads_S) {args : List AV} {hp : Heap} {id : Nat} {k : AV → Prop} {a0 : List (Int × Int)} {a1 : Int} {a2 : List (Int × Int)} {Φ : Bool → Prop} (h : W (law34_RecoveryLoads_F a0 a1 a2) Φ) (hw : WkL args [(eL 2 eA71 default) a0, eI a1, (eL 2 eA71 default) a2]) (hk : ∀ y, Φ y → k (eB y)) : callpK T 7 args hp id k := by
  obtain ⟨y, e, hy⟩ := W_inv h
  exact callpK_pure hT ⟨a0, a1, a2, rfl, W_of e rfl⟩ (by exact (loose_bool _)) hw (hk y hy)
end Go.Proofs.Ytcidmnpihffphaa
/-! P7 -/
namespace Go.Proofs.Ytcidmnpihffphaa
open Go Go.Eng
set_option maxRecDepth 100000
theorem safe_fold (S : Int) : ∀ (L : List (Nat × Int × Int)) (s : Int), (∀ p ∈ L, 0 ≤ p.2.1) → -1 ≤ s →
    ∃ f, L.foldl (fun s p => safeStep S s p.2.1 p.2.2) s = f ∧ -1 ≤ f ∧ (f = s ∨ ∃ p ∈ L, p.2.2 > S ∧ f = p.2.1) ∧ (0 ≤ s → 0 ≤ f ∧ f ≤ s) ∧ ∀ p ∈ L, p.2.2 > S → 0 ≤ f ∧ f ≤ p.2.1
  | [], s, _, hs => ⟨s, rfl, hs, .inl rfl, fun h => ⟨h, Int.le_refl _⟩, fun p hp => by cases hp⟩
  | x :: L, s, hk, hs => by
    have hx := hk x List.mem_cons_self
    have hst : -1 ≤ safeStep S s x.2.1 x.2.2 := by unfold safeStep; split <;> omega
    obtain ⟨f, e, h1, h2, h3, h4⟩ := safe_fold S L (safeStep S s x.2.1 x.2.2) (fun p hp => hk p (List.mem_cons_of_mem _ hp)) hst
    refine ⟨f, e, h1, ?_, fun h => ?_, fun p hp hv => ?_⟩
    · rcases h2 with h2 | ⟨p, hp, hv⟩
      · unfold safeStep at h2
        split at h2
        · rename_i q
          exact .inr ⟨x, List.mem_cons_self, q.1, h2⟩
        · exact .inl h2
      · exact .inr ⟨p, List.mem_cons_of_mem _ hp, hv⟩
    · have : 0 ≤ safeStep S s x.2.1 x.2.2 ∧ safeStep S s x.2.1 x.2.2 ≤ s := by unfold safeStep; split <;> omega
      have := h3 this.1
      omega
    · rcases List.mem_cons.1 hp with rfl | hp
      · have : 0 ≤ safeStep S s p.2.1 p.2.2 ∧ safeStep S s p.2.1 p.2.2 ≤ p.2.1 := by unfold safeStep; split <;> omega
        have := h3 this.1
        omega
      · exact h4 p hp hv
/-- What Safe answers. -/
theorem safe_ok {r : TRegion} {l : List TAttempt} {m : GM Int} (h : recovery_loads_F r l = some (some m)) (hw : m.WF) (hk : ∀ z, m.has z = true → 0 ≤ z) (hS : 0 ≤ r.Signals) :
    ∃ w, recovery_Safe_F r l = some (w, decide (w < 0)) ∧ ((w = -1 ∧ ∀ z, m.get z 0 ≤ r.Signals) ∨ (0 ≤ w ∧ m.get w 0 > r.Signals ∧ ∀ z, m.get z 0 > r.Signals → w ≤ z)) := by
  have hkey : ∀ p ∈ m.es, 0 ≤ p.2.1 := fun p hp => hk _ (GM.has_key.2 (List.mem_map_of_mem (f := fun p => p.2.1) hp))
  obtain ⟨f, e, h1, h2, _, h4⟩ := safe_fold r.Signals m.es (-1) hkey (Int.le_refl _)
  have hex : ∀ z, m.get z 0 > r.Signals → ∃ p ∈ m.es, p.2.1 = z ∧ p.2.2 > r.Signals := fun z hz => by
    have : z ∈ m.es.map (·.2.1) := by
      rw [← GM.has_key]
      unfold GM.has
      unfold GM.get at hz
      cases hf : mfind z m.es with
      | none => rw [hf] at hz; simp only at hz; omega
      | some p => rfl
    obtain ⟨p, hp, hpe⟩ := List.mem_map.1 this
    refine ⟨p, hp, hpe, ?_⟩
    rw [← hpe, GM.mem_get hw hp] at hz
    exact hz
  refine ⟨f, ?_, ?_⟩
  · unfold recovery_Safe_F
    rw [h, bd_s, mo_s, gd_p _ ⟨fun p hp => ⟨hw.lt p hp, hkey p hp⟩, hw.nd⟩, e]
  · by_cases hf : f = -1
    · refine .inl ⟨hf, fun z => ?_⟩
      rcases Int.lt_or_le r.Signals (m.get z 0) with q | q
      · obtain ⟨p, hp, _, hv⟩ := hex z q
        have := h4 p hp hv; omega
      · exact q
    · rcases h2 with h2 | ⟨p, hp, hv, he⟩
      · exact absurd h2 hf
      · have h5 := h4 p hp hv
        refine .inr ⟨h5.1, ?_, fun z hz => ?_⟩
        · rw [he, GM.mem_get hw hp]; exact hv
        · obtain ⟨q, hq, hqe, hqv⟩ := hex z hz
          have := h4 q hq hqv
          omega
theorem cP_ys (Q : TAttempt → Bool) (ys : List TAttempt) (ts : List TTicket) : cP (fun a _ => Q a) ys ts ys.length = ys.countP fun a => !a.Urgent && Q a := by
  unfold cP
  conv => rhs; rw [list_map ys]
  rw [List.countP_map]; rfl
theorem first_loop {l ys : List TAttempt} (hs : SA l ys) (hl : l.length ≤ 40) (ts : List TTicket) (s11 : Int × Int × Int × Int) : ∃ x, lp (law34_RecoveryLoads_b3 s11 l) FU (0, 0) = some (.inl ((cP (fstP s11.2.2.2) ys ts ys.length : Int), x)) := by
  have e0 : cP (fstP s11.2.2.2) ys ts ys.length = l.countP fun a => !a.Urgent && (a.At == s11.2.2.2) := by
    rw [← hs.perm.countP_eq]
    exact cP_ys (fun a => a.At == s11.2.2.2) ys ts
  obtain ⟨s, e, h1, h2⟩ := lp_fold (body := law34_RecoveryLoads_b3 s11 l) (fun k s => s.2 = (k : Int) ∧ s.1 = (((l.take k).countP (fun a => !a.Urgent && (a.At == s11.2.2.2)) : Nat) : Int)) l.length (by omega) (fun k s hk ⟨h1, h2⟩ => by
    obtain ⟨c, j⟩ := s
    simp only at h1 h2
    subst h1
    have hcl : (l.take k).countP (fun a => !a.Urgent && (a.At == s11.2.2.2)) ≤ k := Nat.le_trans List.countP_le_length (by simp; omega)
    unfold law34_RecoveryLoads_b3
    simp only [jn_d, cn_dec]
    rw [if_pos (by omega), ix_n hk, wr_id (x := (k : Int) + 1) (by omega) (by omega), wr_id (x := c + 1) (by omega) (by omega), ix_n hk, cn_beq]
    rw [List.take_succ_eq_append_getElem hk, List.countP_append, List.countP_cons, List.countP_nil, ← getD_lt hk]
    generalize l.getD k default = a
    by_cases q : a.At = s11.2.2.2
    · rw [if_pos q]
      cases hu : a.Urgent
      · simp only [Bool.not_false, cn_t]
        exact ⟨_, rfl, by simp, by simp only [q, beq_self_eq_true, Bool.and_self, if_true]; omega⟩
      · simp only [Bool.not_true, cn_f]
        exact ⟨_, rfl, by simp, by simp only [Bool.false_and, Bool.false_eq_true, if_false]; omega⟩
    · rw [if_neg q]
      simp only [cn_f]
      refine ⟨_, rfl, by simp, ?_⟩
      have : (a.At == s11.2.2.2) = false := by simpa using q
      rw [this, Bool.and_false]
      simp only [Bool.false_eq_true, if_false]
      omega) (fun s ⟨h1, _⟩ => by
    unfold law34_RecoveryLoads_b3
    simp only [cn_dec]
    rw [if_neg (by rw [h1]; omega)]) (0, 0) ⟨rfl, by simp⟩
  rw [List.take_length, ← e0] at h2
  exact ⟨s.2, by rw [e, ← h2]⟩
theorem callers_loop {l : List TAttempt} (hl : l.length ≤ 40) : ∃ x, lp (law34_RecoveryLoads_b1 l) FU (0, 0) = some (.inl (((l.countP fun a => !a.Urgent : Nat) : Int), x)) := by
  obtain ⟨s, e, h1, h2⟩ := lp_fold (body := law34_RecoveryLoads_b1 l) (fun k s => s.2 = (k : Int) ∧ s.1 = (((l.take k).countP (fun a => !a.Urgent) : Nat) : Int)) l.length (by omega) (fun k s hk ⟨h1, h2⟩ => by
    obtain ⟨c, j⟩ := s
    simp only at h1 h2
    subst h1
    have hcl : (l.take k).countP (fun a => !a.Urgent) ≤ k := Nat.le_trans List.countP_le_length (by simp; omega)
    unfold law34_RecoveryLoads_b1
    simp only [jn_d, cn_dec]
    rw [if_pos (by omega), ix_n hk, wr_id (x := (k : Int) + 1) (by omega) (by omega), wr_id (x := c + 1) (by omega) (by omega)]
    rw [List.take_succ_eq_append_getElem hk, List.countP_append, List.countP_cons, List.countP_nil, ← getD_lt hk]
    cases hu : (l.getD k default).Urgent
    · simp only [Bool.not_false, cn_t]
      exact ⟨_, rfl, by simp, by simp only [if_true]; omega⟩
    · simp only [Bool.not_true, cn_f]
      exact ⟨_, rfl, by simp, by simp only [Bool.false_eq_true, if_false]; omega⟩) (fun s ⟨h1, _⟩ => by
    unfold law34_RecoveryLoads_b1
    simp only [cn_dec]
    rw [if_neg (by rw [h1]; omega)]) (0, 0) ⟨rfl, by simp⟩
  rw [List.take_length] at h2
  exact ⟨s.2, by rw [e, ← h2]⟩
theorem sumZ_add (f g : Int → Int) (s : Int) : ∀ k, sumZ (fun z => f z + g z) s k = sumZ f s k + sumZ g s k
  | 0 => rfl
  | k + 1 => by simp only [sumZ]; rw [sumZ_add f g s k]; omega
theorem plain7 (a0 : List (Int × Int)) (a1 : Int) (a2 : List (Int × Int)) (o0 : okL okA71 a0) (o1 : okI a1) (o2 : okL okA71 a2) : law34_RecoveryLoads_F a0 a1 a2 = some true := by
  unfold law34_RecoveryLoads_F
  rw [sane_ok, bd_s]
  simp only [Bool.not_true, cn_f, jn_d]
  obtain ⟨r, e, hr, hrB⟩ := made_ok' a0 a1 o0 o1
  obtain ⟨l, e2, hla⟩ := attempts_ok a2 o2
  have hl := hla.lv
  have hll := hl.len
  have hatB : ∀ a ∈ l, a.At ≤ 24 := fun a ha => by
    obtain ⟨j, hj, e⟩ := List.getElem_of_mem ha
    have := (hla.at_ j hj).2.2
    rw [getD_lt hj, e] at this
    omega
  rw [e, bd_s, e2, bd_s]
  obtain ⟨x0, e3⟩ := callers_loop hll
  rw [e3, bd_s, smK_l]
  obtain ⟨ts, e4, hp, hs⟩ := planB_ok (B := 41) hr hl ⟨hrB, fun a ha => by have := hatB a ha; omega, by omega, by omega⟩
  obtain ⟨m, e5, g1, g2, g3⟩ := loads_ok hl (by omega) e4 hp (hs.lv hl)
  obtain ⟨w, e6, hw⟩ := safe_ok e5 g2 g3 (by have := hr.sg; omega)
  generalize sortF attCmp l = ys at hs hp g1
  simp only [g1] at hw
  have hy := hs.lv hl
  have hyl := hy.len
  have hylen : ys.length ≤ 20 := by have := hla.len; have := hs.perm.length_eq; omega
  have hat : ∀ j, j < ys.length → 0 ≤ (ys.getD j default).At ∧ (ys.getD j default).At ≤ 24 := fun j hj => by
    rw [getD_lt hj]
    exact ⟨(hy.rg _ (List.getElem_mem hj)).2.2.1, hatB _ (hs.perm.mem_iff.1 (List.getElem_mem hj))⟩
  have hsg := hr.sg
  have hsnd : ∀ z, (cP (sndP z) ys ts ys.length : Int) ≤ cnt ys ts ys.length z := fun z => by
    rw [cnt_cP]
    have : cP (sndP z) ys ts ys.length ≤ cP (fun _ t => t == z) ys ts ys.length := cP_mono fun j _ hq => by
      simp only [sndP, Bool.and_eq_true] at hq
      exact hq.2
    omega
  have hfb : ∀ z, cP (fstP z) ys ts ys.length ≤ ys.length := fun z => cP_le _ _ _ _
  have hsb : ∀ z, cP (sndP z) ys ts ys.length ≤ ys.length := fun z => cP_le _ _ _ _
  have hcl : ((l.countP fun a => !a.Urgent : Nat) : Int) = ((List.range ys.length).countP fun j => !(ys.getD j default).Urgent : Nat) := by
    rw [← hs.perm.countP_eq]
    conv => lhs; rw [list_map ys]
    rw [List.countP_map]; rfl
  -- the sums
  have hs1 : sumZ (fun z => (cP (fstP z) ys ts ys.length : Int)) 0 80 = ((List.range ys.length).countP fun j => !(ys.getD j default).Urgent : Nat) := by
    have := sum_cntG (fun j => !(ys.getD j default).Urgent) (fun j => (ys.getD j default).At) ys.length 0 80
    refine Eq.trans this ?_
    congr 1
    refine List.countP_congr fun j hj => ?_
    have := hat j (List.mem_range.1 hj)
    rw [decide_eq_true (show (0 : Int) ≤ (ys.getD j default).At ∧ (ys.getD j default).At < 0 + ((80 : Nat) : Int) by omega), Bool.and_true]
  have hs2 : sumZ (fun z => (cP (sndP z) ys ts ys.length : Int)) 0 80 ≤ ((List.range ys.length).countP fun j => !(ys.getD j default).Urgent : Nat) := by
    have := sum_cntG (fun j => !(ys.getD j default).Urgent && decide ((ys.getD j default).At < (ts.getD j default).At)) (fun j => (ts.getD j default).At) ys.length 0 80
    have e9 : (fun z => (cP (sndP z) ys ts ys.length : Int)) = (fun z => (((List.range ys.length).countP fun j => (!(ys.getD j default).Urgent && decide ((ys.getD j default).At < (ts.getD j default).At)) && ((ts.getD j default).At == z) : Nat) : Int)) := by
      funext z
      unfold cP sndP
      congr 1
      refine List.countP_congr fun j _ => ?_
      rw [Bool.and_assoc]
    rw [e9, this]
    have : (List.range ys.length).countP (fun j => (!(ys.getD j default).Urgent && decide ((ys.getD j default).At < (ts.getD j default).At)) && decide ((0 : Int) ≤ (ts.getD j default).At ∧ (ts.getD j default).At < 0 + ((80 : Nat) : Int))) ≤ (List.range ys.length).countP fun j => !(ys.getD j default).Urgent := List.countP_mono_left fun j _ hq => by
      simp only [Bool.and_eq_true] at hq
      exact hq.1.1
    omega
  have hs0 : 0 ≤ sumZ (fun z => (cP (sndP z) ys ts ys.length : Int)) 0 80 := by
    have := sumZ_mono (f := fun z => (cP (sndP z) ys ts ys.length : Int)) (s := 0) (fun i => Int.natCast_nonneg _) (Nat.zero_le 80)
    simpa [sumZ] using this
  have hfar : ∀ z, 80 ≤ z → ld ys ts ys.length z = 0 := fun z hz => by
    unfold ld
    have h1 : cP (fstP z) ys ts ys.length = 0 := by
      unfold cP
      rw [List.countP_eq_zero]
      intro j hj
      have := hat j (List.mem_range.1 hj)
      simp only [fstP, Bool.and_eq_true, beq_iff_eq, not_and]
      omega
    have h2 : cP (sndP z) ys ts ys.length = 0 := by
      unfold cP
      rw [List.countP_eq_zero]
      intro j hj
      have := hp.le j (List.mem_range.1 hj)
      simp only [sndP, Bool.and_eq_true, beq_iff_eq, decide_eq_true_eq, not_and]
      omega
    omega
  have hneg : ∀ z, z < 0 → ld ys ts ys.length z = 0 := fun z hz => by
    unfold ld
    have h1 : cP (fstP z) ys ts ys.length = 0 := by
      unfold cP
      rw [List.countP_eq_zero]
      intro j hj
      have := hat j (List.mem_range.1 hj)
      simp only [fstP, Bool.and_eq_true, beq_iff_eq, not_and]
      omega
    have h2 : cP (sndP z) ys ts ys.length = 0 := by
      unfold cP
      rw [List.countP_eq_zero]
      intro j hj
      have := hat j (List.mem_range.1 hj)
      simp only [sndP, Bool.and_eq_true, beq_iff_eq, decide_eq_true_eq, not_and]
      omega
    omega
  obtain ⟨s, e7, h1, h2, h3, h4⟩ := lp_fold (body := law34_RecoveryLoads_b2 r l) (fun k s => s.2.2.2 = (k : Int) ∧ s.1 = sumZ (ld ys ts ys.length) 0 k ∧ (0 ≤ s.2.1 ∧ s.2.1 ≤ 1000 ∧ ∀ z : Int, 0 ≤ z → z < k → (cP (fstP z) ys ts ys.length : Int) ≤ s.2.1) ∧ ((s.2.2.1 = -1 ∧ ∀ z : Int, 0 ≤ z → z < k → ld ys ts ys.length z ≤ r.Signals) ∨ (0 ≤ s.2.2.1 ∧ s.2.2.1 < k ∧ ld ys ts ys.length s.2.2.1 > r.Signals ∧ ∀ z : Int, 0 ≤ z → z < s.2.2.1 → ld ys ts ys.length z ≤ r.Signals))) 80 (by omega) (fun k s hk ⟨h1, h2, h3, h4⟩ => by
    obtain ⟨all, most, worst, i⟩ := s
    simp only at h1 h2 h3 h4
    subst h1
    obtain ⟨x, e8⟩ := first_loop hs hll ts (all, most, worst, (k : Int))
    have hcap := capZ_bd hr (t := (k : Int)) (by omega)
    have hcc := hp.cap (k : Int) (by omega)
    have hk2 := hsnd (k : Int)
    have hk3 := hfb (k : Int)
    have hsum : 0 ≤ all ∧ all ≤ 40 * k := by
      have q1 : all = sumZ (fun z => (cP (fstP z) ys ts ys.length : Int)) 0 k + sumZ (fun z => (cP (sndP z) ys ts ys.length : Int)) 0 k := by
        rw [h2, ← sumZ_add]; rfl
      have q2 : ∀ (p : Int → Nat) (k : Nat), (∀ z, p z ≤ 20) → 0 ≤ sumZ (fun z => (p z : Int)) 0 k ∧ sumZ (fun z => (p z : Int)) 0 k ≤ 20 * k := by
        intro p k hp
        induction k with
        | zero => simp [sumZ]
        | succ k ih => simp only [sumZ]; have := hp (0 + (k : Int)); omega
      have q3 := q2 (fun z => cP (fstP z) ys ts ys.length) k (fun z => by have := hfb z; omega)
      have q4 := q2 (fun z => cP (sndP z) ys ts ys.length) k (fun z => by have := hsb z; omega)
      omega
    have hldk : ld ys ts ys.length (k : Int) = (cP (fstP (k : Int)) ys ts ys.length : Int) + (cP (sndP (k : Int)) ys ts ys.length : Int) := rfl
    unfold law34_RecoveryLoads_b2
    simp only [jn_d, cn_dec]
    rw [if_pos (by omega), load_ok e5 (by omega), bd_s, Capacity_ok hr (by omega), bd_s, e8, bd_s, smK_l, g1]
    simp only [bne_self_eq_false, cn_f]
    rw [if_neg (by omega), wr_id (x := (cP (fstP (k : Int)) ys ts ys.length : Int) + capZ r (k : Int)) (by omega) (by omega), if_neg (by omega)]
    rw [wr_id (x := all + ld ys ts ys.length (k : Int)) (by omega) (by omega), wr_id (x := (k : Int) + 1) (by omega) (by omega)]
    have hmx : imax most (cP (fstP (k : Int)) ys ts ys.length : Int) = max most (cP (fstP (k : Int)) ys ts ys.length : Int) := by unfold imax; omega
    rw [hmx]
    have hS : all + ld ys ts ys.length (k : Int) = sumZ (ld ys ts ys.length) 0 (k + 1) := by
      simp only [sumZ]; rw [h2]; simp
    have hM : 0 ≤ max most (cP (fstP (k : Int)) ys ts ys.length : Int) ∧ max most (cP (fstP (k : Int)) ys ts ys.length : Int) ≤ 1000 ∧ ∀ z : Int, 0 ≤ z → z < (k + 1 : Nat) → (cP (fstP z) ys ts ys.length : Int) ≤ max most (cP (fstP (k : Int)) ys ts ys.length : Int) := by
      refine ⟨by omega, by omega, fun z hz1 hz2 => ?_⟩
      by_cases q : z = (k : Int)
      · subst q; omega
      · have := h3.2.2 z hz1 (by omega); omega
    by_cases q : ld ys ts ys.length (k : Int) > r.Signals
    · rw [if_pos q]
      by_cases q2 : worst < 0
      · rw [if_pos q2]
        refine ⟨_, rfl, by simp, hS, hM, .inr ⟨by simp only; omega, by simp only; omega, q, fun z hz1 hz2 => ?_⟩⟩
        rcases h4 with h4 | h4
        · exact h4.2 z hz1 hz2
        · omega
      · rw [if_neg q2]
        refine ⟨_, rfl, by simp, hS, hM, .inr ?_⟩
        rcases h4 with h4 | h4
        · omega
        · exact ⟨h4.1, by simp only; omega, h4.2.2⟩
    · rw [if_neg q]
      refine ⟨_, rfl, by simp, hS, hM, ?_⟩
      rcases h4 with h4 | h4
      · refine .inl ⟨h4.1, fun z hz1 hz2 => ?_⟩
        by_cases q3 : z = (k : Int)
        · subst q3; omega
        · exact h4.2 z hz1 (by omega)
      · exact .inr ⟨h4.1, by simp only; omega, h4.2.2⟩) (fun s ⟨h1, _⟩ => by
    unfold law34_RecoveryLoads_b2
    simp only [cn_dec]
    rw [if_neg (by rw [h1]; omega)]) (0, 0, -1, 0) ⟨rfl, rfl, ⟨Int.le_refl _, by simp, fun z _ _ => by omega⟩, .inl ⟨rfl, fun z _ _ => by omega⟩⟩
  rw [e7, bd_s, smK_l, e6, bd_s]
  have q1 : s.1 = sumZ (fun z => (cP (fstP z) ys ts ys.length : Int)) 0 80 + sumZ (fun z => (cP (sndP z) ys ts ys.length : Int)) 0 80 := by
    rw [h2, ← sumZ_add]; rfl
  rw [hs1, ← hcl] at q1
  rw [← hcl] at hs2
  have hcb : (l.countP fun a => !a.Urgent) ≤ l.length := List.countP_le_length
  -- what Safe says is the worst
  have hww : w = s.2.2.1 := by
    rcases hw with ⟨w1, w2⟩ | ⟨w1, w2, w3⟩
    · rcases h4 with ⟨h4, h5⟩ | ⟨h4, h5, h6, h7⟩
      · omega
      · have := w2 s.2.2.1; omega
    · have hw80 : w < 80 := by
        rcases Int.lt_or_le w 80 with q | q
        · exact q
        · have := hfar w q; omega
      rcases h4 with ⟨h4, h5⟩ | ⟨h4, h5, h6, h7⟩
      · have := h5 w w1 (by omega); omega
      · have a1 := w3 s.2.2.1 h6
        rcases Int.lt_or_le w s.2.2.1 with q | q
        · have := h7 w w1 q; omega
        · omega
  rw [wr_id (x := 2 * _) (by omega) (by omega)]
  simp only [cn_dec]
  rw [if_neg (by omega), if_neg (by omega), hww]
  simp only [beq_self_eq_true, Bool.not_true, bne_self_eq_false, cn_f]
  rcases h4 with ⟨h4, h5⟩ | ⟨h4, h5, h6, h7⟩
  · rw [if_pos (by omega)]
  · rw [if_neg (by omega)]
    have hsl : 0 < r.Steps.length := List.length_pos_iff.2 hr.ne
    have hrl := hr.len
    rw [wr_id (x := (r.Steps.length : Int) - 1) (by omega) (by omega), show (r.Steps.length : Int) - 1 = ((r.Steps.length - 1 : Nat) : Int) by omega, ix_n (by omega)]
    have hcap : capZ r s.2.2.1 ≤ (r.Steps.getD (r.Steps.length - 1) default).Capacity := by
      have a1 := nst_pos hr h4
      have a2 := nst_len r.Steps s.2.2.1
      exact cap_le hr (show nst r.Steps s.2.2.1 - 1 ≤ r.Steps.length - 1 by omega) (by omega)
    have hlast : (r.Steps.getD (r.Steps.length - 1) default).Capacity ≤ 20 := by
      rw [getD_lt (show r.Steps.length - 1 < r.Steps.length by omega)]
      exact (hr.rg _ (List.getElem_mem _)).2.2.2
    have hcb0 := capZ_bd hr h4
    have a3 := hp.cap s.2.2.1 h4
    have a4 := hsnd s.2.2.1
    have a5 := h3.2.2 s.2.2.1 h4 (by omega)
    have a6 : ld ys ts ys.length s.2.2.1 = (cP (fstP s.2.2.1) ys ts ys.length : Int) + (cP (sndP s.2.2.1) ys ts ys.length : Int) := rfl
    rw [wr_id (by omega) (by omega), decide_eq_true (by omega)]
end Go.Proofs.Ytcidmnpihffphaa
