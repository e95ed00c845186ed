import Derived.Test.YtcidmnpihffphaaW13
namespace Go.Proofs.Ytcidmnpihffphaa
open Go Go.Eng
set_option maxHeartbeats 0
set_option maxRecDepth 100000
/-! dialtonelaw34.RecoveryFair -/

    def law34_RecoveryFair_b1 (y4 : (List TTicket) × Int) (y5 : List TAttempt) (s8 : Int × Int) : Option (Ct (Int × Int) Bool) := cn (decide (s8.2 < (y5.length : Int))) (jn (fun p9 : Bool =>
    cn p9 (some (.rt false)) (ix y5 default s8.2 fun e15 => jn (fun p16 : Int => some (.nx (p16, (wr (s8.2 + 1))))) fun k17 => cn (!e15.Urgent) (ix y4.1 default s8.2 fun e18 =>
    cn (decide (e18.At < s8.1)) (some (.rt false)) (ix y4.1 default s8.2 fun e19 => k17 e19.At)) (k17 s8.1))) fun k10 => ix y4.1 default s8.2 fun e11 =>
    ix y5 default s8.2 fun e12 => cn (e11.Caller != e12.Caller) (k10 true) (ix y4.1 default s8.2 fun e13 => ix y5 default s8.2 fun e14 => k10 (e13.First !=
    e14.At))) (some (.bk (s8.1, s8.2)))
theorem W_blaw34_RecoveryFair_b1 {y4 : (List TTicket) × Int} {y5 : List TAttempt} {s8 : Int × Int} {Φ : Ct (Int × Int) Bool → Prop} (h : W (law34_RecoveryFair_b1 y4 y5 s8) Φ) : W (cn (decide (s8.2 < (y5.length : Int))) (jn (fun p9 : Bool => cn p9 (some (.rt false)) (ix y5 default s8.2 fun e15 => jn (fun p16 : Int =>
    some (.nx (p16, (wr (s8.2 + 1))))) fun k17 => cn (!e15.Urgent) (ix y4.1 default s8.2 fun e18 => cn (decide (e18.At < s8.1)) (some (.rt false)) (ix y4.1 default s8.2 fun e19 =>
    k17 e19.At)) (k17 s8.1))) fun k10 => ix y4.1 default s8.2 fun e11 => ix y5 default s8.2 fun e12 => cn (e11.Caller != e12.Caller) (k10 true) (ix y4.1 default s8.2 fun e13 =>
    ix y5 default s8.2 fun e14 => k10 (e13.First != e14.At))) (some (.bk (s8.1, s8.2)))) Φ := h
def law34_RecoveryFair_F (a0 : List (Int × Int)) (a1 : Int) (a2 : List (Int × Int)) : Option Bool := bd (law34_sane_F ) fun y1 =>
    cn (!y1) (some false) (bd (ref34_Attempts_F a2) fun y2 => bd (ref34_Made_F a0 a1) fun y3 => bd (recovery_Plan_F y3 y2) fun y4 => bd (ref34_Ordered_F y2) fun y5 =>
    jn (fun p6 : Bool => cn p6 (some false) (bd (lp (law34_RecoveryFair_b1 y4 y5) FU ((-1), 0)) fun c20 => smK c20 (fun s21 => some y1) (fun r22 => some r22))) fun k7 => cn (y4.2 !=
    0) (k7 true) (k7 ((y4.1.length : Int) != (y5.length : Int))))
def law34_RecoveryFair_S : List AV → AV → Prop := fun args r => ∃ a0 a1 a2, args = [(eL 2 eA71 default) a0, eI a1, (eL 2 eA71 default) a2] ∧ W (law34_RecoveryFair_F a0 a1 a2) fun y => r = (eB y)
theorem law34_RecoveryFair_ok {T : Tbl} (hT : TOk Try.prog T) (hpf : PfOk T PF) (h13 : T 13 = pureR law34_sane_S) (h14 : T 14 = pureR ref34_Made_S) (h15 : T 15 = pureR ref34_Attempts_S) (h18 : T 18 = pureR recovery_Plan_S) (h38 : T 38 = pureR ref34_Ordered_S) : FOk Try.prog 6 (pureR law34_RecoveryFair_S) := by
  refine FOk_pure hT hpf Try.func6 rfl Try.ntmps6 Try.results6 (by decide) ?_
  rintro args r ⟨a0, a1, a2, rfl, h⟩
  refine ⟨Nat.le_of_ble_eq_true rfl, ?_, ?_⟩
  · exact (loose_cons (loose_lst fun _ => (lo_A71 _)) (loose_cons (loose_int _ _) (loose_cons (loose_lst fun _ => (lo_A71 _)) loose_nil)))
  rw [law34_RecoveryFair_F.eq_1] at h
  refine HT_fr DC_ok rfl fun K hK => ?_; (conv => whnf)
  refine hK _ _ _ ?_; clear hK K
  refine HT_fr DC_ok rfl fun K hK => ?_; (conv => whnf)
  replace h := W_bd h
  refine law34_sane_call h13 h (WkL.refl _) (fun _ h => ?_); (conv => whnf)
  refine hK _ _ _ ?_; clear hK K
  refine HT_seq ?_
  refine HT_fr DC_ok rfl fun K hK => ?_; (conv => whnf)
  refine hK _ _ _ ?_; clear hK K
  refine HT_if fun K1 K2 hK1 hK2 => ?_; (conv => whnf)
  refine cond_lk h (fun _ h => ?_) (fun _ h => ?_)
  · refine hK1 ?_; clear hK1 hK2 K1 K2
    refine HT_fr DC_ok rfl fun K hK => ?_; (conv => whnf)
    refine hK _ _ _ ?_; clear hK K
    refine HT_ret ?_
    refine Then_r ?_
    replace h := W_some h
    refine PostP_r DC_ok fun K hK => ?_; (conv => whnf)
    refine hK _ ?_; clear hK K
    cases h
    exact Wk.refl _
  refine hK2 ?_; clear hK1 hK2 K1 K2
  refine HT_skip ?_
  refine Then_n ?_
  refine HT_fr DC_ok rfl fun K hK => ?_; (conv => whnf)
  replace h := W_bd h
  refine ref34_Attempts_call h15 h (WkL.refl _) (fun _ h => ?_); (conv => whnf)
  refine hK _ _ _ ?_; clear hK K
  refine HT_fr DC_ok rfl fun K hK => ?_; (conv => whnf)
  replace h := W_bd h
  refine ref34_Made_call h14 h (WkL.refl _) (fun _ h => ?_); (conv => whnf)
  replace h := W_bd h
  refine recovery_Plan_call h18 h (WkL.refl _) (fun _ h => ?_); (conv => whnf)
  refine hK _ _ _ ?_; clear hK K
  refine HT_fr DC_ok rfl fun K hK => ?_; (conv => whnf)
  replace h := W_bd h
  refine ref34_Ordered_call h38 h (WkL.refl _) (fun _ h => ?_); (conv => whnf)
  refine hK _ _ _ ?_; clear hK K
  refine HT_seq ?_
  refine HT_fr DC_ok rfl fun K hK => ?_; (conv => whnf)
  replace h := W_jn h
  refine cond_lk h (fun _ h => ?_) (fun _ h => ?_) <;> (conv => whnf)
  · refine hK _ _ _ ?_; clear hK K
    refine HT_if fun K1 K2 hK1 hK2 => ?_; (conv => whnf)
    refine hK1 ?_; clear hK1 hK2 K1 K2
    replace h := W_cnT h
    refine HT_fr DC_ok rfl fun K hK => ?_; (conv => whnf)
    refine hK _ _ _ ?_; clear hK K
    refine HT_ret ?_
    refine Then_r ?_
    replace h := W_some h
    refine PostP_r DC_ok fun K hK => ?_; (conv => whnf)
    refine hK _ ?_; clear hK K
    cases h
    exact Wk.refl _
  refine hK _ _ _ ?_; clear hK K
  refine HT_if fun K1 K2 hK1 hK2 => ?_; (conv => whnf)
  refine cond_lk h (fun _ h => ?_) (fun _ h => ?_)
  · refine hK1 ?_; clear hK1 hK2 K1 K2
    refine HT_fr DC_ok rfl fun K hK => ?_; (conv => whnf)
    refine hK _ _ _ ?_; clear hK K
    refine HT_ret ?_
    refine Then_r ?_
    replace h := W_some h
    refine PostP_r DC_ok fun K hK => ?_; (conv => whnf)
    refine hK _ ?_; clear hK K
    cases h
    exact Wk.refl _
  refine hK2 ?_; clear hK1 hK2 K1 K2
  refine HT_skip ?_
  refine Then_n ?_
  refine HT_fr DC_ok rfl fun K hK => ?_; (conv => whnf)
  refine hK _ _ _ ?_; clear hK K
  refine HT_seq ?_
  refine HT_fr DC_ok rfl fun K hK => ?_; (conv => whnf)
  refine hK _ _ _ ?_; clear hK K
  refine HT_block ?_
  replace h := W_bd h
  refine HT_lpK (body := law34_RecoveryFair_b1 _ _) rfl h [7, 9, 11] [] [] (fun kl kh ids b s => ⟨ofL ([(12, eI s.1), (13, eI s.2)] ++ kl), ofH ([] ++ kh), b + 64⟩) ?_; (conv => whnf); refine And.intro ?_ (fun s m h => HT_st ?_)
  · refine weak_k ?_; (conv => whnf)
    exact And.intro rfl (And.intro (allL_c (WkR.wk (Wk.refl _) (loose_int _ _)) (allL_c (WkR.wk (Wk.refl _) (loose_int _ _)) (allL_c (WkR.wk (Wk.refl _) (loose_bool _)) (allL_c (WkR.wk (Wk.refl _) (loose_lst fun _ => (lo_TTicket _))) (allL_c (WkR.wk (Wk.refl _) (loose_lst fun _ => (lo_TAttempt _))) allL_n))))) allL_n)
  replace h := W_blaw34_RecoveryFair_b1 (W_bd h)
  refine HT_seq ?_
  refine HT_fr DC_ok rfl fun K hK => ?_; (conv => whnf)
  refine hK _ _ _ ?_; clear hK K
  refine HT_if fun K1 K2 hK1 hK2 => ?_; (conv => whnf)
  refine cond_lk h (fun _ h => ?_) (fun _ h => ?_)
  · refine hK1 ?_; clear hK1 hK2 K1 K2
    refine HT_skip ?_
    refine Then_n ?_
    refine HT_seq ?_
    refine HT_block ?_
    refine HT_seq ?_
    refine HT_fd DC_ok mix_ok rfl (by kernel_rfl) fun K hK => ?_; (conv => whnf)
    replace h := W_jn h
    refine ix_lk h fun _ h => ?_; (conv => whnf)
    refine getK_of rfl ?_; (conv => whnf)
    refine ix_lk h fun _ h => ?_; (conv => whnf)
    refine getK_of rfl ?_; (conv => whnf)
    refine cond_lk h (fun _ h => ?_) (fun _ h => ?_) <;> (conv => whnf)
    · refine hK _ _ _ ?_; clear hK K
      refine HT_if fun K1 K2 hK1 hK2 => ?_; (conv => whnf)
      refine hK1 ?_; clear hK1 hK2 K1 K2
      replace h := W_cnT h
      refine HT_fr DC_ok rfl fun K hK => ?_; (conv => whnf)
      refine hK _ _ _ ?_; clear hK K
      refine HT_ret ?_
      refine Then_r ?_
      refine InBlock_r ?_
      refine Then_r ?_
      refine Then_r ?_
      refine InBlock_r ?_
      refine Then_r ?_
      replace h := W_xrt h
      replace h := W_inr h
      replace h := W_some h
      refine PostP_r DC_ok fun K hK => ?_; (conv => whnf)
      refine hK _ ?_; clear hK K
      cases h
      exact Wk.refl _
    refine ix_lk h fun _ h => ?_; (conv => whnf)
    refine getK_of rfl ?_; (conv => whnf)
    refine ix_lk h fun _ h => ?_; (conv => whnf)
    refine getK_of rfl ?_; (conv => whnf)
    refine hK _ _ _ ?_; clear hK K
    refine HT_if fun K1 K2 hK1 hK2 => ?_; (conv => whnf)
    refine cond_lk h (fun _ h => ?_) (fun _ h => ?_)
    · refine hK1 ?_; clear hK1 hK2 K1 K2
      refine HT_fr DC_ok rfl fun K hK => ?_; (conv => whnf)
      refine hK _ _ _ ?_; clear hK K
      refine HT_ret ?_
      refine Then_r ?_
      refine InBlock_r ?_
      refine Then_r ?_
      refine Then_r ?_
      refine InBlock_r ?_
      refine Then_r ?_
      replace h := W_xrt h
      replace h := W_inr h
      replace h := W_some h
      refine PostP_r DC_ok fun K hK => ?_; (conv => whnf)
      refine hK _ ?_; clear hK K
      cases h
      exact Wk.refl _
    refine hK2 ?_; clear hK1 hK2 K1 K2
    refine HT_skip ?_
    refine Then_n ?_
    refine HT_fr DC_ok rfl fun K hK => ?_; (conv => whnf)
    refine ix_lk h fun _ h => ?_; (conv => whnf)
    refine getK_of rfl ?_; (conv => whnf)
    refine hK _ _ _ ?_; clear hK K
    replace h := W_jn h
    refine HT_if fun K1 K2 hK1 hK2 => ?_; (conv => whnf)
    refine cond_lk h (fun _ h => ?_) (fun _ h => ?_)
    · refine hK1 ?_; clear hK1 hK2 K1 K2
      refine HT_seq ?_
      refine HT_fr DC_ok rfl fun K hK => ?_; (conv => whnf)
      refine ix_lk h fun _ h => ?_; (conv => whnf)
      refine getK_of rfl ?_; (conv => whnf)
      refine hK _ _ _ ?_; clear hK K
      refine HT_if fun K1 K2 hK1 hK2 => ?_; (conv => whnf)
      refine cond_lk h (fun _ h => ?_) (fun _ h => ?_)
      · refine hK1 ?_; clear hK1 hK2 K1 K2
        refine HT_fr DC_ok rfl fun K hK => ?_; (conv => whnf)
        refine hK _ _ _ ?_; clear hK K
        refine HT_ret ?_
        refine Then_r ?_
        refine InBlock_r ?_
        refine Then_r ?_
        refine Then_r ?_
        refine InBlock_r ?_
        refine Then_r ?_
        replace h := W_xrt h
        replace h := W_inr h
        replace h := W_some h
        refine PostP_r DC_ok fun K hK => ?_; (conv => whnf)
        refine hK _ ?_; clear hK K
        cases h
        exact Wk.refl _
      refine hK2 ?_; clear hK1 hK2 K1 K2
      refine HT_skip ?_
      refine Then_n ?_
      refine HT_f DC_ok rfl fun K hK => ?_; (conv => whnf)
      refine ix_lk h fun _ h => ?_; (conv => whnf)
      refine getK_of rfl ?_; (conv => whnf)
      refine hK _ _ _ ?_; clear hK K
      refine InBlock_n ?_
      refine Then_n ?_
      refine HT_f DC_ok rfl fun K hK => ?_; (conv => whnf)
      refine hK _ _ _ ?_; clear hK K
      refine Then_n ?_
      replace h := W_xnx h
      refine ⟨_, h, ?_⟩
      refine weak_k ?_; (conv => whnf)
      exact And.intro rfl (And.intro (allL_c (WkR.wk (Wk.refl _) (loose_int _ _)) (allL_c (WkR.wk (Wk.refl _) (loose_int _ _)) (allL_c (WkR.wk (Wk.refl _) (loose_bool _)) (allL_c (WkR.wk (Wk.refl _) (loose_lst fun _ => (lo_TTicket _))) (allL_c (WkR.wk (Wk.refl _) (loose_lst fun _ => (lo_TAttempt _))) allL_n))))) allL_n)
    refine hK2 ?_; clear hK1 hK2 K1 K2
    refine HT_skip ?_
    refine InBlock_n ?_
    refine Then_n ?_
    refine HT_f DC_ok rfl fun K hK => ?_; (conv => whnf)
    refine hK _ _ _ ?_; clear hK K
    refine Then_n ?_
    replace h := W_xnx h
    refine ⟨_, h, ?_⟩
    refine weak_k ?_; (conv => whnf)
    exact And.intro rfl (And.intro (allL_c (WkR.wk (Wk.refl _) (loose_int _ _)) (allL_c (WkR.wk (Wk.refl _) (loose_int _ _)) (allL_c (WkR.wk (Wk.refl _) (loose_bool _)) (allL_c (WkR.wk (Wk.refl _) (loose_lst fun _ => (lo_TTicket _))) (allL_c (WkR.wk (Wk.refl _) (loose_lst fun _ => (lo_TAttempt _))) allL_n))))) allL_n)
  refine hK2 ?_; clear hK1 hK2 K1 K2
  refine HT_exit ?_
  refine Then_e ?_
  refine Then_e ?_
  refine InBlock_e ?_
  replace h := W_xbk h
  replace h := W_inl h
  refine Then_n ?_
  refine HT_fr DC_ok rfl fun K hK => ?_; (conv => whnf)
  refine hK _ _ _ ?_; clear hK K
  refine HT_ret ?_
  replace h := W_some h
  refine PostP_r DC_ok fun K hK => ?_; (conv => whnf)
  refine hK _ ?_; clear hK K
  cases h
  exact Wk.refl _
theorem law34_RecoveryFair_call {T : Tbl} (hT : T 6 = pureR law34_RecoveryFair_S) {args : List AV} {hp : Heap} {id : Nat} {k : AV → Prop} {a0 : List (Int × Int)} {a1 : Int} {a2 : List (Int × Int)} {Φ : Bool → Prop} (h : W (law34_RecoveryFair_F a0 a1 a2) Φ) (hw : WkL args [(eL 2 eA71 default) a0, eI a1, (eL 2 eA71 default) a2]) (hk : ∀ y, Φ y → k (eB y)) : callpK T 6 args hp id k := by
  obtain ⟨y, e, hy⟩ := W_inv h
  exact callpK_pure hT ⟨a0, a1, a2, rfl, W_of e rfl⟩ (by exact (loose_bool _)) hw (hk y hy)
end Go.Proofs.Ytcidmnpihffphaa
