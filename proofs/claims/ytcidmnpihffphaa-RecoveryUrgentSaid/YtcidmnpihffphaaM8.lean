import Derived.Test.YtcidmnpihffphaaM7
set_option linter.unusedVariables false
set_option linter.unusedSimpArgs false
set_option linter.unusedSectionVars false
/-! V10 -/
namespace Go.Proofs.Ytcidmnpihffphaa
open Go Go.Eng
set_option maxHeartbeats 0
set_option maxRecDepth 100000
/-! dialtonelaw34.RecoveryUrgent -/

    def law34_RecoveryUrgent_b3 (s22 : Int × Int) (y3 : List TAttempt) (y14 : (List TTicket) × Int) (s25 : Bool × Int) : Option (Ct (Bool × Int) Bool) := cn (decide (s25.2 < (y3.length : Int))) (jn (fun p26 : Bool =>
    some (.nx (p26, (wr (s25.2 + 1))))) fun k27 => cn s25.1 (k27 true) (ix y3 default s25.2 fun e28 => ix y14.1 default s22.2 fun e29 => cn (e28.Caller ==
    e29.Caller) (ix y3 default s25.2 fun e30 => k27 e30.Urgent) (k27 false))) (some (.bk (s25.1, s25.2)))
theorem W_blaw34_RecoveryUrgent_b3 {s22 : Int × Int} {y3 : List TAttempt} {y14 : (List TTicket) × Int} {s25 : Bool × Int} {Φ : Ct (Bool × Int) Bool → Prop} (h : W (law34_RecoveryUrgent_b3 s22 y3 y14 s25) Φ) : W (cn (decide (s25.2 < (y3.length : Int))) (jn (fun p26 : Bool => some (.nx (p26, (wr (s25.2 + 1))))) fun k27 => cn s25.1 (k27 true) (ix y3 default s25.2 fun e28 =>
    ix y14.1 default s22.2 fun e29 => cn (e28.Caller == e29.Caller) (ix y3 default s25.2 fun e30 => k27 e30.Urgent) (k27 false))) (some (.bk (s25.1, s25.2)))) Φ := h

    def law34_RecoveryUrgent_b2 (y3 : List TAttempt) (y14 : (List TTicket) × Int) (y15 : (List TTicket) × Int) (s22 : Int × Int) : Option (Ct (Int × Int) Bool) := cn (decide (s22.2 < (y14.1.length : Int))) (jn (fun p23 : Int =>
    some (.nx (p23, (wr (s22.2 + 1))))) fun k24 => bd (lp (law34_RecoveryUrgent_b3 s22 y3 y14) FU (false, 0)) fun c31 => smK c31 (fun s32 =>
    cn s32.1 (ix y14.1 default s22.2 fun e34 => ix y14.1 default s22.2 fun e35 => cn (e34.At != e35.First) (some (.rt false)) (k24 s22.1)) (jn (fun p36 : Bool =>
    cn p36 (some (.rt false)) (k24 (wr (s22.1 + 1)))) fun k37 => cn (decide (s22.1 ≥ (y15.1.length : Int))) (k37 true) (ix y14.1 default s22.2 fun e38 =>
    ix y15.1 default s22.1 fun e39 => k37 (!((e38.Caller == e39.Caller) && ((e38.First == e39.First) && (e38.At == e39.At))))))) (fun r33 =>
    some (.rt r33))) (some (.bk (s22.1, s22.2)))
theorem W_blaw34_RecoveryUrgent_b2 {y3 : List TAttempt} {y14 : (List TTicket) × Int} {y15 : (List TTicket) × Int} {s22 : Int × Int} {Φ : Ct (Int × Int) Bool → Prop} (h : W (law34_RecoveryUrgent_b2 y3 y14 y15 s22) Φ) : W (cn (decide (s22.2 < (y14.1.length : Int))) (jn (fun p23 : Int => some (.nx (p23, (wr (s22.2 + 1))))) fun k24 => bd (lp (law34_RecoveryUrgent_b3 s22 y3 y14) FU (false, 0)) fun c31 =>
    smK c31 (fun s32 => cn s32.1 (ix y14.1 default s22.2 fun e34 => ix y14.1 default s22.2 fun e35 => cn (e34.At != e35.First) (some (.rt false)) (k24 s22.1)) (jn (fun p36 : Bool =>
    cn p36 (some (.rt false)) (k24 (wr (s22.1 + 1)))) fun k37 => cn (decide (s22.1 ≥ (y15.1.length : Int))) (k37 true) (ix y14.1 default s22.2 fun e38 =>
    ix y15.1 default s22.1 fun e39 => k37 (!((e38.Caller == e39.Caller) && ((e38.First == e39.First) && (e38.At == e39.At))))))) (fun r33 =>
    some (.rt r33))) (some (.bk (s22.1, s22.2)))) Φ := h

    def law34_RecoveryUrgent_b1 (y3 : List TAttempt) (s4 : (List TAttempt) × Int) : Option (Ct ((List TAttempt) × Int) Bool) := cn (decide (s4.2 < (y3.length : Int))) (ix y3 default s4.2 fun e5 =>
    jn (fun p6 : (List TAttempt) => some (.nx (p6, (wr (s4.2 + 1))))) fun k7 => cn (!e5.Urgent) (ix y3 default s4.2 fun e8 => lt ([e8] : List TAttempt) fun l9 =>
    ap s4.1 l9 fun l10 => k7 l10) (k7 s4.1)) (some (.bk (s4.1, s4.2)))
theorem W_blaw34_RecoveryUrgent_b1 {y3 : List TAttempt} {s4 : (List TAttempt) × Int} {Φ : Ct ((List TAttempt) × Int) Bool → Prop} (h : W (law34_RecoveryUrgent_b1 y3 s4) Φ) : W (cn (decide (s4.2 < (y3.length : Int))) (ix y3 default s4.2 fun e5 => jn (fun p6 : (List TAttempt) => some (.nx (p6, (wr (s4.2 + 1))))) fun k7 =>
    cn (!e5.Urgent) (ix y3 default s4.2 fun e8 => lt ([e8] : List TAttempt) fun l9 => ap s4.1 l9 fun l10 => k7 l10) (k7 s4.1)) (some (.bk (s4.1, s4.2)))) Φ := h
def law34_RecoveryUrgent_F (a0 : List (Int × Int)) (a1 : Int) (a2 : List (Int × Int)) (a3 : Int) : Option Bool := bd (law34_sane_F ) fun y1 =>
    cn (!y1) (some false) (bd (ref34_Made_F a0 a1) fun y2 => bd (ref34_Attempts_F a2) fun y3 => bd (lp (law34_RecoveryUrgent_b1 y3) FU ([], 0)) fun c11 => smK c11 (fun s12 =>
    bd (recovery_Plan_F y2 y3) fun y14 => bd (recovery_Plan_F y2 s12.1) fun y15 => bd (law34_pick_F a3 60) fun y16 => bd (recovery_Load_F y2 y3 y16) fun y17 =>
    bd (law34_pick_F a3 60) fun y18 => bd (recovery_Load_F y2 s12.1 y18) fun y19 => jn (fun p20 : Bool =>
    cn p20 (some false) (bd (lp (law34_RecoveryUrgent_b2 y3 y14 y15) FU (0, 0)) fun c40 => smK c40 (fun s41 => let v43 := (s41.1 == (y15.1.length : Int)); some v43) (fun r42 =>
    some r42))) fun k21 => cn (y14.2 != 0) (k21 true) (cn (y15.2 != 0) (k21 true) (cn (y17.2 != 0) (k21 true) (cn (y19.2 != 0) (k21 true) (cn (y17.1 !=
    y19.1) (k21 true) (k21 ((y14.1.length : Int) != (y3.length : Int)))))))) (fun r13 => some r13))
def law34_RecoveryUrgent_S : List AV → AV → Prop := fun args r => ∃ a0 a1 a2 a3, args = [(eL 2 eA71 default) a0, eI a1, (eL 2 eA71 default) a2, eI a3] ∧ W (law34_RecoveryUrgent_F a0 a1 a2 a3) fun y => r = (eB y)
theorem law34_RecoveryUrgent_ok {T : Tbl} (hT : TOk Try.prog T) (hpf : PfOk T PF) (h13 : T 13 = pureR law34_sane_S) (h14 : T 14 = pureR ref34_Made_S) (h15 : T 15 = pureR ref34_Attempts_S) (h18 : T 18 = pureR recovery_Plan_S) (h29 : T 29 = pureR law34_pick_S) (h30 : T 30 = pureR recovery_Load_S) : FOk Try.prog 10 (pureR law34_RecoveryUrgent_S) := by
  refine FOk_pure hT hpf Try.func10 rfl Try.ntmps10 Try.results10 (by decide) ?_
  rintro args r ⟨a0, a1, a2, a3, rfl, h⟩
  refine ⟨Nat.le_of_ble_eq_true rfl, ?_, ?_⟩
  · exact (loose_cons (loose_lst fun _ => (lo_A71 _)) (loose_cons (loose_int _ _) (loose_cons (loose_lst fun _ => (lo_A71 _)) (loose_cons (loose_int _ _) loose_nil))))
  rw [law34_RecoveryUrgent_F.eq_1] at h
  refine HT_fr DC_ok rfl fun K hK => ?_; (conv => whnf)
  refine hK _ _ _ ?_; clear hK K
  refine HT_fr DC_ok rfl fun K hK => ?_; (conv => whnf)
  replace h := W_bd h
  refine law34_sane_call h13 h (WkL.refl _) (fun _ h => ?_); (conv => whnf)
  refine hK _ _ _ ?_; clear hK K
  refine HT_seq ?_
  refine HT_fr DC_ok rfl fun K hK => ?_; (conv => whnf)
  refine hK _ _ _ ?_; clear hK K
  refine HT_if fun K1 K2 hK1 hK2 => ?_; (conv => whnf)
  refine cond_lk h (fun _ h => ?_) (fun _ h => ?_)
  · refine hK1 ?_; clear hK1 hK2 K1 K2
    refine HT_fr DC_ok rfl fun K hK => ?_; (conv => whnf)
    refine hK _ _ _ ?_; clear hK K
    refine HT_ret ?_
    refine Then_r ?_
    replace h := W_some h
    refine PostP_r DC_ok fun K hK => ?_; (conv => whnf)
    refine hK _ ?_; clear hK K
    cases h
    exact Wk.refl _
  refine hK2 ?_; clear hK1 hK2 K1 K2
  refine HT_skip ?_
  refine Then_n ?_
  refine HT_fr DC_ok rfl fun K hK => ?_; (conv => whnf)
  replace h := W_bd h
  refine ref34_Made_call h14 h (WkL.refl _) (fun _ h => ?_); (conv => whnf)
  refine blkK_of rfl ?_; (conv => whnf)
  refine And.intro rfl (And.intro (Nat.le_of_ble_eq_true rfl) (And.intro rfl ?_)); (conv => whnf)
  refine hK _ _ _ ?_; clear hK K
  refine HT_fr DC_ok rfl fun K hK => ?_; (conv => whnf)
  replace h := W_bd h
  refine ref34_Attempts_call h15 h (WkL.refl _) (fun _ h => ?_); (conv => whnf)
  refine hK _ _ _ ?_; clear hK K
  refine HT_fr DC_ok rfl fun K hK => ?_; (conv => whnf)
  refine hK _ _ _ ?_; clear hK K
  refine HT_seq ?_
  refine HT_fr DC_ok rfl fun K hK => ?_; (conv => whnf)
  refine hK _ _ _ ?_; clear hK K
  refine HT_block ?_
  replace h := W_bd h
  refine HT_lpK (body := law34_RecoveryUrgent_b1 _) rfl h [3, 10, 11] [10] [] (fun kl kh ids b s => ⟨ofL ([(12, .lst (.tok (b + 0)) 3 s.1.length (fun j => eTAttempt (s.1.getD j default))), (13, eI s.2)] ++ kl), ofH ([(b + 0, .cells [])] ++ kh), b + 128⟩) ?_; (conv => whnf); refine And.intro ?_ (fun s m h => HT_st ?_)
  · refine weak_k ?_; (conv => whnf)
    exact And.intro rfl (And.intro (allL_c (WkR.nil (fun _ => rfl)) (allL_c (WkR.wk (Wk.refl _) (loose_int _ _)) (allL_c (WkR.wk (Wk.refl _) (loose_int _ _)) (allL_c (WkR.ptr (fun _ => rfl)) (allL_c (WkR.wk (Wk.refl _) (loose_lst fun _ => (lo_TAttempt _))) allL_n))))) (allL_c ⟨none, rfl, BkR_n⟩ (allL_c ⟨some _, rfl, BkR_c rfl (CkR_cons (WkR.wk (Wk.refl _) (loose_lst fun _ => (lo_TGrowth _))) (CkR_cons (WkR.wk (Wk.refl _) (loose_int _ _)) CkR_nil))⟩ allL_n)))
  replace h := W_blaw34_RecoveryUrgent_b1 (W_bd h)
  refine HT_seq ?_
  refine HT_fr DC_ok rfl fun K hK => ?_; (conv => whnf)
  refine hK _ _ _ ?_; clear hK K
  refine HT_if fun K1 K2 hK1 hK2 => ?_; (conv => whnf)
  refine cond_lk h (fun _ h => ?_) (fun _ h => ?_)
  · refine hK1 ?_; clear hK1 hK2 K1 K2
    refine HT_skip ?_
    refine Then_n ?_
    refine HT_seq ?_
    refine HT_block ?_
    refine HT_fr DC_ok rfl fun K hK => ?_; (conv => whnf)
    refine ix_lk h fun _ h => ?_; (conv => whnf)
    refine getK_of rfl ?_; (conv => whnf)
    refine hK _ _ _ ?_; clear hK K
    replace h := W_jn h
    refine HT_if fun K1 K2 hK1 hK2 => ?_; (conv => whnf)
    refine cond_lk h (fun _ h => ?_) (fun _ h => ?_)
    · refine hK1 ?_; clear hK1 hK2 K1 K2
      refine HT_f DC_ok rfl fun K hK => ?_; (conv => whnf)
      refine ix_lk h fun _ h => ?_; (conv => whnf)
      refine And.intro (Nat.le_of_ble_eq_true rfl) ?_; (conv => whnf)
      refine lt_lk (enc := eTAttempt) (d := default) DC_ok h rfl rfl rfl ⟨Nat.le_of_ble_eq_true rfl, Nat.le_of_ble_eq_true rfl, rfl⟩ rfl ⟨⟨rfl, Nat.le_of_ble_eq_true rfl⟩, trivial⟩ (fun h => ?_); (conv => whnf)
      refine ap_lk (enc := eTAttempt) (d := default) DC_ok h (.inl rfl) rfl rfl rfl ⟨rfl, Nat.le_of_ble_eq_true rfl, Nat.le_of_ble_eq_true rfl, Nat.le_of_ble_eq_true rfl, rfl⟩ (fun _ => rfl) (.inr (.inr ⟨_, _, rfl, rfl, rfl⟩)) (fun h => ?_); (conv => whnf)
      refine hK _ _ _ ?_; clear hK K
      refine InBlock_n ?_
      refine Then_n ?_
      refine HT_f DC_ok rfl fun K hK => ?_; (conv => whnf)
      refine hK _ _ _ ?_; clear hK K
      refine Then_n ?_
      replace h := W_xnx h
      refine ⟨_, h, ?_⟩
      refine weak_k ?_; (conv => whnf)
      exact And.intro rfl (And.intro (allL_c (WkR.tok (fun _ => rfl) rfl (fun _ _ => Wk.refl _) (fun _ => (lo_TAttempt _))) (allL_c (WkR.wk (Wk.refl _) (loose_int _ _)) (allL_c (WkR.wk (Wk.refl _) (loose_int _ _)) (allL_c (WkR.ptr (fun _ => rfl)) (allL_c (WkR.wk (Wk.refl _) (loose_lst fun _ => (lo_TAttempt _))) allL_n))))) (allL_c ⟨some _, rfl, BkR_c rfl CkR_nil⟩ (allL_c ⟨some _, rfl, BkR_c rfl (CkR_cons (WkR.wk (Wk.refl _) (loose_lst fun _ => (lo_TGrowth _))) (CkR_cons (WkR.wk (Wk.refl _) (loose_int _ _)) CkR_nil))⟩ allL_n)))
    refine hK2 ?_; clear hK1 hK2 K1 K2
    refine HT_skip ?_
    refine InBlock_n ?_
    refine Then_n ?_
    refine HT_f DC_ok rfl fun K hK => ?_; (conv => whnf)
    refine hK _ _ _ ?_; clear hK K
    refine Then_n ?_
    replace h := W_xnx h
    refine ⟨_, h, ?_⟩
    refine weak_k ?_; (conv => whnf)
    exact And.intro rfl (And.intro (allL_c (WkR.tok (fun _ => rfl) rfl (fun _ _ => Wk.refl _) (fun _ => (lo_TAttempt _))) (allL_c (WkR.wk (Wk.refl _) (loose_int _ _)) (allL_c (WkR.wk (Wk.refl _) (loose_int _ _)) (allL_c (WkR.ptr (fun _ => rfl)) (allL_c (WkR.wk (Wk.refl _) (loose_lst fun _ => (lo_TAttempt _))) allL_n))))) (allL_c ⟨some _, rfl, BkR_c rfl CkR_nil⟩ (allL_c ⟨some _, rfl, BkR_c rfl (CkR_cons (WkR.wk (Wk.refl _) (loose_lst fun _ => (lo_TGrowth _))) (CkR_cons (WkR.wk (Wk.refl _) (loose_int _ _)) CkR_nil))⟩ allL_n)))
  refine hK2 ?_; clear hK1 hK2 K1 K2
  refine HT_exit ?_
  refine Then_e ?_
  refine Then_e ?_
  refine InBlock_e ?_
  replace h := W_xbk h
  replace h := W_inl h
  refine Then_n ?_
  refine HT_fr DC_ok rfl fun K hK => ?_; (conv => whnf)
  refine And.intro (Nat.le_of_ble_eq_true rfl) ?_; (conv => whnf)
  refine blkK_of rfl ?_; (conv => whnf)
  refine And.intro (Nat.le_of_ble_eq_true rfl) ?_; (conv => whnf)
  replace h := W_bd h
  refine recovery_Plan_call h18 h (WkL.refl _) (fun _ h => ?_); (conv => whnf)
  refine hK _ _ _ ?_; clear hK K
  refine HT_fr DC_ok rfl fun K hK => ?_; (conv => whnf)
  refine And.intro (Nat.le_of_ble_eq_true rfl) ?_; (conv => whnf)
  refine blkK_of rfl ?_; (conv => whnf)
  refine And.intro (Nat.le_of_ble_eq_true rfl) ?_; (conv => whnf)
  replace h := W_bd h
  refine recovery_Plan_call h18 h (WkL_cons (Wk.refl _) (WkL_cons Wk_free WkL_nil)) (fun _ h => ?_); (conv => whnf)
  refine hK _ _ _ ?_; clear hK K
  refine HT_fd DC_ok mix_ok rfl (by kernel_rfl) fun K hK => ?_; (conv => whnf)
  refine And.intro (Nat.le_of_ble_eq_true rfl) ?_; (conv => whnf)
  refine blkK_of rfl ?_; (conv => whnf)
  refine And.intro (Nat.le_of_ble_eq_true rfl) ?_; (conv => whnf)
  replace h := W_bd h
  refine law34_pick_call h29 h (WkL.refl _) (fun _ h => ?_); (conv => whnf)
  replace h := W_bd h
  refine recovery_Load_call h30 h (WkL.refl _) (fun _ h => ?_); (conv => whnf)
  refine hK _ _ _ ?_; clear hK K
  refine HT_fd DC_ok mix_ok rfl (by kernel_rfl) fun K hK => ?_; (conv => whnf)
  refine And.intro (Nat.le_of_ble_eq_true rfl) ?_; (conv => whnf)
  refine blkK_of rfl ?_; (conv => whnf)
  refine And.intro (Nat.le_of_ble_eq_true rfl) ?_; (conv => whnf)
  replace h := W_bd h
  refine law34_pick_call h29 h (WkL.refl _) (fun _ h => ?_); (conv => whnf)
  replace h := W_bd h
  refine recovery_Load_call h30 h (WkL_cons (Wk.refl _) (WkL_cons Wk_free (WkL_cons (Wk.refl _) WkL_nil))) (fun _ h => ?_); (conv => whnf)
  refine hK _ _ _ ?_; clear hK K
  refine HT_seq ?_
  refine HT_jnK rfl h [11, 14, 16] [] [] (fun kl kh ids b s => ⟨ofL ([(106, eB s)] ++ kl), ofH ([] ++ kh), b + 64⟩) ?_; (conv => whnf); refine And.intro (fun s h => HT_st ?_) (fun k h => ?_)
  · refine HT_if fun K1 K2 hK1 hK2 => ?_; (conv => whnf)
    refine cond_lk h (fun _ h => ?_) (fun _ h => ?_)
    · refine hK1 ?_; clear hK1 hK2 K1 K2
      refine HT_fr DC_ok rfl fun K hK => ?_; (conv => whnf)
      refine hK _ _ _ ?_; clear hK K
      refine HT_ret ?_
      refine Then_r ?_
      replace h := W_some h
      refine PostP_r DC_ok fun K hK => ?_; (conv => whnf)
      refine hK _ ?_; clear hK K
      cases h
      exact Wk.refl _
    refine hK2 ?_; clear hK1 hK2 K1 K2
    refine HT_skip ?_
    refine Then_n ?_
    refine HT_fr DC_ok rfl fun K hK => ?_; (conv => whnf)
    refine hK _ _ _ ?_; clear hK K
    refine HT_seq ?_
    refine HT_fr DC_ok rfl fun K hK => ?_; (conv => whnf)
    refine hK _ _ _ ?_; clear hK K
    refine HT_block ?_
    replace h := W_bd h
    refine HT_lpK (body := law34_RecoveryUrgent_b2 _ _ _) rfl h [11, 14, 16] [] [] (fun kl kh ids b s => ⟨ofL ([(22, eI s.1), (23, eI s.2)] ++ kl), ofH ([] ++ kh), b + 64⟩) ?_; (conv => whnf); refine And.intro ?_ (fun s m h => HT_st ?_)
    · refine weak_k ?_; (conv => whnf)
      exact And.intro rfl (And.intro (allL_c (WkR.wk (Wk.refl _) (loose_int _ _)) (allL_c (WkR.wk (Wk.refl _) (loose_int _ _)) (allL_c (WkR.wk (Wk.refl _) (loose_lst fun _ => (lo_TAttempt _))) (allL_c (WkR.wk (Wk.refl _) (loose_lst fun _ => (lo_TTicket _))) (allL_c (WkR.wk (Wk.refl _) (loose_lst fun _ => (lo_TTicket _))) allL_n))))) allL_n)
    replace h := W_blaw34_RecoveryUrgent_b2 (W_bd h)
    refine HT_seq ?_
    refine HT_fr DC_ok rfl fun K hK => ?_; (conv => whnf)
    refine hK _ _ _ ?_; clear hK K
    refine HT_if fun K1 K2 hK1 hK2 => ?_; (conv => whnf)
    refine cond_lk h (fun _ h => ?_) (fun _ h => ?_)
    · refine hK1 ?_; clear hK1 hK2 K1 K2
      refine HT_skip ?_
      refine Then_n ?_
      refine HT_seq ?_
      replace h := W_jn h
      refine HT_block ?_
      refine HT_fr DC_ok rfl fun K hK => ?_; (conv => whnf)
      refine hK _ _ _ ?_; clear hK K
      refine HT_seq ?_
      refine HT_fr DC_ok rfl fun K hK => ?_; (conv => whnf)
      refine hK _ _ _ ?_; clear hK K
      refine HT_block ?_
      replace h := W_bd h
      refine HT_lpK (body := law34_RecoveryUrgent_b3 _ _ _) rfl h [11, 14, 16, 22, 23] [] [] (fun kl kh ids b s => ⟨ofL ([(24, eB s.1), (25, eI s.2)] ++ kl), ofH ([] ++ kh), b + 64⟩) ?_; (conv => whnf); refine And.intro ?_ (fun s m h => HT_st ?_)
      · refine weak_k ?_; (conv => whnf)
        exact And.intro rfl (And.intro (allL_c (WkR.wk (Wk.refl _) (loose_bool _)) (allL_c (WkR.wk (Wk.refl _) (loose_int _ _)) (allL_c (WkR.wk (Wk.refl _) (loose_lst fun _ => (lo_TAttempt _))) (allL_c (WkR.wk (Wk.refl _) (loose_lst fun _ => (lo_TTicket _))) (allL_c (WkR.wk (Wk.refl _) (loose_lst fun _ => (lo_TTicket _))) (allL_c (WkR.wk (Wk.refl _) (loose_int _ _)) (allL_c (WkR.wk (Wk.refl _) (loose_int _ _)) allL_n))))))) allL_n)
      replace h := W_blaw34_RecoveryUrgent_b3 (W_bd h)
      refine HT_seq ?_
      refine HT_fr DC_ok rfl fun K hK => ?_; (conv => whnf)
      refine hK _ _ _ ?_; clear hK K
      refine HT_if fun K1 K2 hK1 hK2 => ?_; (conv => whnf)
      refine cond_lk h (fun _ h => ?_) (fun _ h => ?_)
      · refine hK1 ?_; clear hK1 hK2 K1 K2
        refine HT_skip ?_
        refine Then_n ?_
        refine HT_seq ?_
        refine HT_block ?_
        refine HT_fD DC_ok mix_ok rfl (by kernel_rfl) fun K hK => ?_; (conv => whnf)
        replace h := W_jn h
        refine cond_lk h (fun _ h => ?_) (fun _ h => ?_) <;> (conv => whnf)
        · refine hK _ _ _ ?_; clear hK K
          refine InBlock_n ?_
          refine Then_n ?_
          refine HT_f DC_ok rfl fun K hK => ?_; (conv => whnf)
          refine hK _ _ _ ?_; clear hK K
          refine Then_n ?_
          replace h := W_xnx h
          refine ⟨_, h, ?_⟩
          refine weak_k ?_; (conv => whnf)
          exact And.intro rfl (And.intro (allL_c (WkR.wk (Wk.refl _) (loose_bool _)) (allL_c (WkR.wk (Wk.refl _) (loose_int _ _)) (allL_c (WkR.wk (Wk.refl _) (loose_lst fun _ => (lo_TAttempt _))) (allL_c (WkR.wk (Wk.refl _) (loose_lst fun _ => (lo_TTicket _))) (allL_c (WkR.wk (Wk.refl _) (loose_lst fun _ => (lo_TTicket _))) (allL_c (WkR.wk (Wk.refl _) (loose_int _ _)) (allL_c (WkR.wk (Wk.refl _) (loose_int _ _)) allL_n))))))) allL_n)
        refine ix_lk h fun _ h => ?_; (conv => whnf)
        refine getK_of rfl ?_; (conv => whnf)
        refine ix_lk h fun _ h => ?_; (conv => whnf)
        refine getK_of rfl ?_; (conv => whnf)
        refine cond_lk h (fun _ h => ?_) (fun _ h => ?_) <;> (conv => whnf)
        · refine ix_lk h fun _ h => ?_; (conv => whnf)
          refine getK_of rfl ?_; (conv => whnf)
          refine hK _ _ _ ?_; clear hK K
          refine InBlock_n ?_
          refine Then_n ?_
          refine HT_f DC_ok rfl fun K hK => ?_; (conv => whnf)
          refine hK _ _ _ ?_; clear hK K
          refine Then_n ?_
          replace h := W_xnx h
          refine ⟨_, h, ?_⟩
          refine weak_k ?_; (conv => whnf)
          exact And.intro rfl (And.intro (allL_c (WkR.wk (Wk.refl _) (loose_bool _)) (allL_c (WkR.wk (Wk.refl _) (loose_int _ _)) (allL_c (WkR.wk (Wk.refl _) (loose_lst fun _ => (lo_TAttempt _))) (allL_c (WkR.wk (Wk.refl _) (loose_lst fun _ => (lo_TTicket _))) (allL_c (WkR.wk (Wk.refl _) (loose_lst fun _ => (lo_TTicket _))) (allL_c (WkR.wk (Wk.refl _) (loose_int _ _)) (allL_c (WkR.wk (Wk.refl _) (loose_int _ _)) allL_n))))))) allL_n)
        refine hK _ _ _ ?_; clear hK K
        refine InBlock_n ?_
        refine Then_n ?_
        refine HT_f DC_ok rfl fun K hK => ?_; (conv => whnf)
        refine hK _ _ _ ?_; clear hK K
        refine Then_n ?_
        replace h := W_xnx h
        refine ⟨_, h, ?_⟩
        refine weak_k ?_; (conv => whnf)
        exact And.intro rfl (And.intro (allL_c (WkR.wk (Wk.refl _) (loose_bool _)) (allL_c (WkR.wk (Wk.refl _) (loose_int _ _)) (allL_c (WkR.wk (Wk.refl _) (loose_lst fun _ => (lo_TAttempt _))) (allL_c (WkR.wk (Wk.refl _) (loose_lst fun _ => (lo_TTicket _))) (allL_c (WkR.wk (Wk.refl _) (loose_lst fun _ => (lo_TTicket _))) (allL_c (WkR.wk (Wk.refl _) (loose_int _ _)) (allL_c (WkR.wk (Wk.refl _) (loose_int _ _)) allL_n))))))) allL_n)
      refine hK2 ?_; clear hK1 hK2 K1 K2
      refine HT_exit ?_
      refine Then_e ?_
      refine Then_e ?_
      refine InBlock_e ?_
      replace h := W_xbk h
      replace h := W_inl h
      refine Then_n ?_
      refine HT_seq ?_
      refine HT_fr DC_ok rfl fun K hK => ?_; (conv => whnf)
      refine hK _ _ _ ?_; clear hK K
      refine HT_if fun K1 K2 hK1 hK2 => ?_; (conv => whnf)
      refine cond_lk h (fun _ h => ?_) (fun _ h => ?_)
      · refine hK1 ?_; clear hK1 hK2 K1 K2
        refine HT_seq ?_
        refine HT_fd DC_ok mix_ok rfl (by kernel_rfl) fun K hK => ?_; (conv => whnf)
        refine ix_lk h fun _ h => ?_; (conv => whnf)
        refine getK_of rfl ?_; (conv => whnf)
        refine ix_lk h fun _ h => ?_; (conv => whnf)
        refine getK_of rfl ?_; (conv => whnf)
        refine hK _ _ _ ?_; clear hK K
        refine HT_if fun K1 K2 hK1 hK2 => ?_; (conv => whnf)
        refine cond_lk h (fun _ h => ?_) (fun _ h => ?_)
        · refine hK1 ?_; clear hK1 hK2 K1 K2
          refine HT_fr DC_ok rfl fun K hK => ?_; (conv => whnf)
          refine hK _ _ _ ?_; clear hK K
          refine HT_ret ?_
          refine Then_r ?_
          refine Then_r ?_
          refine InBlock_r ?_
          refine Then_r ?_
          refine Then_r ?_
          refine InBlock_r ?_
          refine Then_r ?_
          replace h := W_xrt h
          replace h := W_inr h
          replace h := W_some h
          refine PostP_r DC_ok fun K hK => ?_; (conv => whnf)
          refine hK _ ?_; clear hK K
          cases h
          exact Wk.refl _
        refine hK2 ?_; clear hK1 hK2 K1 K2
        refine HT_skip ?_
        refine Then_n ?_
        refine HT_exit ?_
        refine Then_e ?_
        refine InBlock_e ?_
        refine Then_n ?_
        refine HT_f DC_ok rfl fun K hK => ?_; (conv => whnf)
        refine hK _ _ _ ?_; clear hK K
        refine Then_n ?_
        replace h := W_xnx h
        refine ⟨_, h, ?_⟩
        refine weak_k ?_; (conv => whnf)
        exact And.intro rfl (And.intro (allL_c (WkR.wk (Wk.refl _) (loose_int _ _)) (allL_c (WkR.wk (Wk.refl _) (loose_int _ _)) (allL_c (WkR.wk (Wk.refl _) (loose_lst fun _ => (lo_TAttempt _))) (allL_c (WkR.wk (Wk.refl _) (loose_lst fun _ => (lo_TTicket _))) (allL_c (WkR.wk (Wk.refl _) (loose_lst fun _ => (lo_TTicket _))) allL_n))))) allL_n)
      refine hK2 ?_; clear hK1 hK2 K1 K2
      refine HT_skip ?_
      refine Then_n ?_
      refine HT_seq ?_
      refine HT_fd DC_ok mix_ok rfl (by kernel_rfl) fun K hK => ?_; (conv => whnf)
      replace h := W_jn h
      refine cond_lk h (fun _ h => ?_) (fun _ h => ?_) <;> (conv => whnf)
      · refine hK _ _ _ ?_; clear hK K
        refine HT_if fun K1 K2 hK1 hK2 => ?_; (conv => whnf)
        refine hK1 ?_; clear hK1 hK2 K1 K2
        replace h := W_cnT h
        refine HT_fr DC_ok rfl fun K hK => ?_; (conv => whnf)
        refine hK _ _ _ ?_; clear hK K
        refine HT_ret ?_
        refine Then_r ?_
        refine InBlock_r ?_
        refine Then_r ?_
        refine Then_r ?_
        refine InBlock_r ?_
        refine Then_r ?_
        replace h := W_xrt h
        replace h := W_inr h
        replace h := W_some h
        refine PostP_r DC_ok fun K hK => ?_; (conv => whnf)
        refine hK _ ?_; clear hK K
        cases h
        exact Wk.refl _
      refine ix_lk h fun _ h => ?_; (conv => whnf)
      refine And.intro (Nat.le_of_ble_eq_true rfl) ?_; (conv => whnf)
      refine ix_lk h fun _ h => ?_; (conv => whnf)
      refine And.intro (Nat.le_of_ble_eq_true rfl) ?_; (conv => whnf)
      refine eqK_n (eqv53 _ _ _ _ _ _) ?_; (conv => whnf)
      refine hK _ _ _ ?_; clear hK K
      refine HT_if fun K1 K2 hK1 hK2 => ?_; (conv => whnf)
      refine cond_lk h (fun _ h => ?_) (fun _ h => ?_)
      · refine hK1 ?_; clear hK1 hK2 K1 K2
        refine HT_fr DC_ok rfl fun K hK => ?_; (conv => whnf)
        refine hK _ _ _ ?_; clear hK K
        refine HT_ret ?_
        refine Then_r ?_
        refine InBlock_r ?_
        refine Then_r ?_
        refine Then_r ?_
        refine InBlock_r ?_
        refine Then_r ?_
        replace h := W_xrt h
        replace h := W_inr h
        replace h := W_some h
        refine PostP_r DC_ok fun K hK => ?_; (conv => whnf)
        refine hK _ ?_; clear hK K
        cases h
        exact Wk.refl _
      refine hK2 ?_; clear hK1 hK2 K1 K2
      refine HT_skip ?_
      refine Then_n ?_
      refine HT_f DC_ok rfl fun K hK => ?_; (conv => whnf)
      refine hK _ _ _ ?_; clear hK K
      refine InBlock_n ?_
      refine Then_n ?_
      refine HT_f DC_ok rfl fun K hK => ?_; (conv => whnf)
      refine hK _ _ _ ?_; clear hK K
      refine Then_n ?_
      replace h := W_xnx h
      refine ⟨_, h, ?_⟩
      refine weak_k ?_; (conv => whnf)
      exact And.intro rfl (And.intro (allL_c (WkR.wk (Wk.refl _) (loose_int _ _)) (allL_c (WkR.wk (Wk.refl _) (loose_int _ _)) (allL_c (WkR.wk (Wk.refl _) (loose_lst fun _ => (lo_TAttempt _))) (allL_c (WkR.wk (Wk.refl _) (loose_lst fun _ => (lo_TTicket _))) (allL_c (WkR.wk (Wk.refl _) (loose_lst fun _ => (lo_TTicket _))) allL_n))))) allL_n)
    refine hK2 ?_; clear hK1 hK2 K1 K2
    refine HT_exit ?_
    refine Then_e ?_
    refine Then_e ?_
    refine InBlock_e ?_
    replace h := W_xbk h
    replace h := W_inl h
    refine Then_n ?_
    refine HT_fr DC_ok rfl fun K hK => ?_; (conv => whnf)
    refine hK _ _ _ ?_; clear hK K
    refine HT_ret ?_
    replace h := W_some h
    refine PostP_r DC_ok fun K hK => ?_; (conv => whnf)
    refine hK _ ?_; clear hK K
    cases h
    exact Wk.refl _
  refine HT_f DC_ok rfl fun K hK => ?_; (conv => whnf)
  refine cond_lk h (fun _ h => ?_) (fun _ h => ?_) <;> (conv => whnf)
  · refine hK _ _ _ ?_; clear hK K
    refine Then_n ?_
    refine ⟨_, h, ?_⟩
    refine weak_k ?_; (conv => whnf)
    exact And.intro rfl (And.intro (allL_c (WkR.wk (Wk.refl _) (loose_bool _)) (allL_c (WkR.wk (Wk.refl _) (loose_lst fun _ => (lo_TAttempt _))) (allL_c (WkR.wk (Wk.refl _) (loose_lst fun _ => (lo_TTicket _))) (allL_c (WkR.wk (Wk.refl _) (loose_lst fun _ => (lo_TTicket _))) allL_n)))) allL_n)
  refine cond_lk h (fun _ h => ?_) (fun _ h => ?_) <;> (conv => whnf)
  · refine hK _ _ _ ?_; clear hK K
    refine Then_n ?_
    refine ⟨_, h, ?_⟩
    refine weak_k ?_; (conv => whnf)
    exact And.intro rfl (And.intro (allL_c (WkR.wk (Wk.refl _) (loose_bool _)) (allL_c (WkR.wk (Wk.refl _) (loose_lst fun _ => (lo_TAttempt _))) (allL_c (WkR.wk (Wk.refl _) (loose_lst fun _ => (lo_TTicket _))) (allL_c (WkR.wk (Wk.refl _) (loose_lst fun _ => (lo_TTicket _))) allL_n)))) allL_n)
  refine cond_lk h (fun _ h => ?_) (fun _ h => ?_) <;> (conv => whnf)
  · refine hK _ _ _ ?_; clear hK K
    refine Then_n ?_
    refine ⟨_, h, ?_⟩
    refine weak_k ?_; (conv => whnf)
    exact And.intro rfl (And.intro (allL_c (WkR.wk (Wk.refl _) (loose_bool _)) (allL_c (WkR.wk (Wk.refl _) (loose_lst fun _ => (lo_TAttempt _))) (allL_c (WkR.wk (Wk.refl _) (loose_lst fun _ => (lo_TTicket _))) (allL_c (WkR.wk (Wk.refl _) (loose_lst fun _ => (lo_TTicket _))) allL_n)))) allL_n)
  refine cond_lk h (fun _ h => ?_) (fun _ h => ?_) <;> (conv => whnf)
  · refine hK _ _ _ ?_; clear hK K
    refine Then_n ?_
    refine ⟨_, h, ?_⟩
    refine weak_k ?_; (conv => whnf)
    exact And.intro rfl (And.intro (allL_c (WkR.wk (Wk.refl _) (loose_bool _)) (allL_c (WkR.wk (Wk.refl _) (loose_lst fun _ => (lo_TAttempt _))) (allL_c (WkR.wk (Wk.refl _) (loose_lst fun _ => (lo_TTicket _))) (allL_c (WkR.wk (Wk.refl _) (loose_lst fun _ => (lo_TTicket _))) allL_n)))) allL_n)
  refine cond_lk h (fun _ h => ?_) (fun _ h => ?_) <;> (conv => whnf)
  · refine hK _ _ _ ?_; clear hK K
    refine Then_n ?_
    refine ⟨_, h, ?_⟩
    refine weak_k ?_; (conv => whnf)
    exact And.intro rfl (And.intro (allL_c (WkR.wk (Wk.refl _) (loose_bool _)) (allL_c (WkR.wk (Wk.refl _) (loose_lst fun _ => (lo_TAttempt _))) (allL_c (WkR.wk (Wk.refl _) (loose_lst fun _ => (lo_TTicket _))) (allL_c (WkR.wk (Wk.refl _) (loose_lst fun _ => (lo_TTicket _))) allL_n)))) allL_n)
  refine hK _ _ _ ?_; clear hK K
  refine Then_n ?_
  refine ⟨_, h, ?_⟩
  refine weak_k ?_; (conv => whnf)
  exact And.intro rfl (And.intro (allL_c (WkR.wk (Wk.refl _) (loose_bool _)) (allL_c (WkR.wk (Wk.refl _) (loose_lst fun _ => (lo_TAttempt _))) (allL_c (WkR.wk (Wk.refl _) (loose_lst fun _ => (lo_TTicket _))) (allL_c (WkR.wk (Wk.refl _) (loose_lst fun _ => (lo_TTicket _))) allL_n)))) allL_n)
theorem law34_RecoveryUrgent_call {T : Tbl} (hT : T 10 = pureR law34_RecoveryUrgent_S) {args : List AV} {hp : Heap} {id : Nat} {k : AV → Prop} {a0 : List (Int × Int)} {a1 : Int} {a2 : List (Int × Int)} {a3 : Int} {Φ : Bool → Prop} (h : W (law34_RecoveryUrgent_F a0 a1 a2 a3) Φ) (hw : WkL args [(eL 2 eA71 default) a0, eI a1, (eL 2 eA71 default) a2, eI a3]) (hk : ∀ y, Φ y → k (eB y)) : callpK T 10 args hp id k := by
  obtain ⟨y, e, hy⟩ := W_inv h
  exact callpK_pure hT ⟨a0, a1, a2, a3, rfl, W_of e rfl⟩ (by exact (loose_bool _)) hw (hk y hy)
end Go.Proofs.Ytcidmnpihffphaa
/-! P10 -/
namespace Go.Proofs.Ytcidmnpihffphaa
open Go Go.Eng
set_option maxRecDepth 100000
theorem others_ok {l : List TAttempt} (hl : l.length ≤ 40) : ∃ x, lp (law34_RecoveryUrgent_b1 l) FU ([], 0) = some (.inl (nu l, x)) := by
  obtain ⟨s, e, h1, h2⟩ := lp_fold (body := law34_RecoveryUrgent_b1 l) (fun k s => s.2 = (k : Int) ∧ s.1 = nu (l.take k)) l.length (by omega) (fun k s hk ⟨h1, h2⟩ => by
    obtain ⟨o, i⟩ := s
    simp only at h1 h2
    subst h1
    have hol : o.length ≤ k := by
      rw [h2]
      have : (nu (l.take k)).length ≤ (l.take k).length := List.length_filter_le _ _
      simp at this; omega
    unfold law34_RecoveryUrgent_b1
    simp only [jn_d, cn_dec]
    rw [if_pos (by omega), ix_n hk, ix_n hk, lt_d, ap_p (by simp; omega), wr_id (by omega) (by omega)]
    have e : nu (l.take (k + 1)) = nu (l.take k) ++ if (l.getD k default).Urgent = false then [l.getD k default] else [] := by
      unfold nu
      rw [List.take_succ_eq_append_getElem hk, List.filter_append, ← getD_lt hk]
      congr 1
      rw [List.filter_cons]
      cases hu : (l.getD k default).Urgent
      · rfl
      · rfl
    cases hu : (l.getD k default).Urgent
    · rw [hu, if_pos rfl] at e
      simp only [Bool.not_false, cn_t]
      exact ⟨_, rfl, by simp, by simp only; rw [e, h2]⟩
    · rw [hu, if_neg (by simp), List.append_nil] at e
      simp only [Bool.not_true, cn_f]
      exact ⟨_, rfl, by simp, by simp only; rw [e, h2]⟩) (fun s ⟨h1, _⟩ => by
    unfold law34_RecoveryUrgent_b1
    simp only [cn_dec]
    rw [if_neg (by rw [h1]; omega)]) ([], 0) ⟨rfl, by simp [nu]⟩
  rw [List.take_length] at h2
  exact ⟨s.2, by rw [e, ← h2]⟩
theorem urgent_any {r : TRegion} {B : Int} {l ys : List TAttempt} {ts : List TTicket} (hs : SA l ys) (hl : LV l) (hy : LV ys) (hp : PL r B ys ts ys.length) {i : Nat} (hi : i < ys.length) (k : Int) : ∃ x, lp (law34_RecoveryUrgent_b3 (k, (i : Int)) l (ts, 0)) FU (false, 0) = some (.inl ((ys.getD i default).Urgent, x)) := by
  have hll := hl.len
  have htl := hp.len
  have hcf := hp.cf i hi
  have hmem : ∀ j, j < l.length → (l.getD j default).Caller = (ts.getD i default).Caller → l.getD j default = ys.getD i default := fun j hj e => by
    have : l.getD j default ∈ ys := hs.perm.mem_iff.2 (by rw [getD_lt hj]; exact List.getElem_mem hj)
    obtain ⟨x, hx, ex⟩ := List.getElem_of_mem this
    rw [← getD_lt hx] at ex
    rw [← ex] at e ⊢
    have := (own_ticket hy hp hi hx).1 e.symm
    rw [this]
  have hex : ∃ j, j < l.length ∧ l.getD j default = ys.getD i default := by
    have : ys.getD i default ∈ l := hs.perm.mem_iff.1 (by rw [getD_lt hi]; exact List.getElem_mem hi)
    obtain ⟨x, hx, ex⟩ := List.getElem_of_mem this
    exact ⟨x, hx, by rw [getD_lt hx]; exact ex⟩
  obtain ⟨s, e, h1, h2, h3⟩ := lp_fold (body := law34_RecoveryUrgent_b3 (k, (i : Int)) l (ts, 0)) (fun k s => s.2 = (k : Int) ∧ (s.1 = true → (ys.getD i default).Urgent = true) ∧ ∀ j, j < k → l.getD j default = ys.getD i default → (ys.getD i default).Urgent = true → s.1 = true) l.length (by omega) (fun k s hk ⟨h1, h2, h3⟩ => by
    obtain ⟨b, j⟩ := s
    simp only at h1 h2 h3
    subst h1
    unfold law34_RecoveryUrgent_b3
    simp only [jn_d, cn_dec]
    rw [if_pos (by omega), ix_n hk, ix_n (show i < ts.length by omega), ix_n hk, wr_id (by omega) (by omega), cn_beq]
    cases b
    · simp only [cn_f]
      by_cases e : (l.getD k default).Caller = (ts.getD i default).Caller
      · rw [if_pos e]
        have := hmem k hk e
        refine ⟨_, rfl, by simp, fun h => by rw [← this]; exact h, fun j hj hje hu => ?_⟩
        simp only
        by_cases q : j < k
        · have := h3 j q hje hu; cases this
        · rw [this]; exact hu
      · rw [if_neg e]
        refine ⟨_, rfl, by simp, nofun, fun j hj hje hu => ?_⟩
        by_cases q : j < k
        · exact h3 j q hje hu
        · have : j = k := by omega
          subst this
          exact absurd (by rw [hje]; exact hcf.1.symm) e
    · simp only [cn_t]
      exact ⟨_, rfl, by simp, fun _ => h2 rfl, fun _ _ _ _ => rfl⟩) (fun s ⟨h1, _⟩ => by
    unfold law34_RecoveryUrgent_b3
    simp only [cn_dec]
    rw [if_neg (by rw [h1]; omega)]) (false, 0) ⟨rfl, nofun, fun j h => by omega⟩
  obtain ⟨j, j1, j2⟩ := hex
  refine ⟨s.2, ?_⟩
  rw [e]
  have : s.1 = (ys.getD i default).Urgent := by
    cases hu : (ys.getD i default).Urgent
    · cases hs1 : s.1
      · rfl
      · have := h2 hs1; rw [hu] at this; cases this
    · exact h3 j j1 j2 hu
  rw [← this]
theorem plain10 (a0 : List (Int × Int)) (a1 : Int) (a2 : List (Int × Int)) (a3 : Int) (o0 : okL okA71 a0) (o1 : okI a1) (o2 : okL okA71 a2) (o3 : okI a3) : law34_RecoveryUrgent_F a0 a1 a2 a3 = some true := by
  unfold law34_RecoveryUrgent_F
  rw [sane_ok, bd_s]
  simp only [Bool.not_true, cn_f, jn_d]
  obtain ⟨r, e, hr⟩ := made_ok a0 a1 o0 o1
  obtain ⟨l, e2, hla⟩ := attempts_ok a2 o2
  have hl := hla.lv
  have hll := hl.len
  rw [e, bd_s, e2, bd_s]
  obtain ⟨x0, e3⟩ := others_ok hll
  rw [e3, bd_s, smK_l]
  obtain ⟨ts, e4, hp, hs⟩ := plan_ok hr hl
  obtain ⟨qs, e5, hq, hs2⟩ := plan_ok hr hl.nu
  have hzy : sortF attCmp (nu l) = nu (sortF attCmp l) := SA.unique hs2 hs.nu
  obtain ⟨m1, e6, g1, _⟩ := loads_ok hl (Int.le_refl _) e4 hp (hs.lv hl)
  obtain ⟨m2, e7, g2, _⟩ := loads_ok hl.nu (Int.le_refl _) e5 hq (hs2.lv hl.nu)
  rw [hzy] at hq hs2 g2
  rw [e4, bd_s, e5, bd_s, pick_law a3 60 o3 (by omega), bd_s]
  obtain ⟨t0, t1⟩ := pickZ_lt a3 (n := 60) (by omega)
  generalize pickZ a3 60 = tick at t0 t1 ⊢
  rw [load_ok e6 t0, bd_s, bd_s, load_ok e7 t0, bd_s, g1, g2]
  generalize sortF attCmp l = ys at hs hp hq hs2 hzy
  have hy := hs.lv hl
  have hyl := hy.len
  have htl := hp.len
  have hql := hq.len
  have hn := hl.nu
  have hSn := same_nu (PL.gl hy hp) (PL.gl (hs2.lv hn) hq) 
  have hld : ld ys ts ys.length tick = ld (nu ys) qs (nu ys).length tick := by
    unfold ld
    rw [(hSn ys.length (Nat.le_refl _)).2, (hSn ys.length (Nat.le_refl _)).2, rk_all]
  rw [hld]
  simp only [bne_self_eq_false, cn_f]
  rw [show ((ts.length : Int) != (l.length : Int)) = false by have := hs.perm.length_eq; simp; omega]
  simp only [cn_f]
  obtain ⟨s, e8, h1, h2⟩ := lp_fold (body := law34_RecoveryUrgent_b2 l (ts, 0) (qs, 0)) (fun k s => s.2 = (k : Int) ∧ s.1 = (rk ys k : Int)) ts.length (by omega) (fun k s hk ⟨h1, h2⟩ => by
    obtain ⟨c, i⟩ := s
    simp only at h1 h2
    subst h1; subst h2
    have hk' : k < ys.length := by omega
    obtain ⟨x, ex⟩ := urgent_any hs hl hy hp hk' (rk ys k : Int)
    have hcf := hp.cf k hk'
    have hrk := rk_succ hk'
    have hrl : rk ys (k + 1) ≤ k + 1 := by
      have : (nu (ys.take (k + 1))).length ≤ (ys.take (k + 1)).length := List.length_filter_le _ _
      simp at this; unfold rk; omega
    unfold law34_RecoveryUrgent_b2
    simp only [jn_d, cn_dec]
    rw [if_pos (by omega), ex, bd_s, smK_l, wr_id (x := (k : Int) + 1) (by omega) (by omega)]
    cases hu : (ys.getD k default).Urgent
    · rw [if_pos hu] at hrk
      simp only [cn_f]
      obtain ⟨n1, n2⟩ := nu_at hk' hu
      have hT := (hSn (k + 1) (by omega)).1 k (by omega) hu
      rw [if_neg (by omega), ix_n hk, ix_n (show rk ys k < qs.length by omega), hT, (tk_eq _ _).2 rfl]
      simp only [Bool.not_true, cn_f]
      rw [wr_id (by omega) (by omega)]
      exact ⟨_, rfl, by simp, by simp only; omega⟩
    · rw [hu] at hrk
      simp only [cn_t]
      rw [ix_n hk, ix_n hk, cn_bne, if_pos (by rw [hcf.2]; exact hp.ur k hk' hu)]
      refine ⟨_, rfl, by simp, ?_⟩
      simp only
      rw [hrk]; simp) (fun s ⟨h1, _⟩ => by
    unfold law34_RecoveryUrgent_b2
    simp only [cn_dec]
    rw [if_neg (by rw [h1]; omega)]) (0, 0) ⟨rfl, by simp [rk, nu]⟩
  rw [e8, bd_s, smK_l, h2, htl, rk_all, hql]
  simp
end Go.Proofs.Ytcidmnpihffphaa
