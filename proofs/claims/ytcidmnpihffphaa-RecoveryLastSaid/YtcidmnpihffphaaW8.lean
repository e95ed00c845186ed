import Derived.Test.YtcidmnpihffphaaW7
namespace Go.Proofs.Ytcidmnpihffphaa
open Go Go.Eng
set_option maxHeartbeats 0
set_option maxRecDepth 100000
/-! recovery.Plan -/

    def recovery_Plan_b1 (a0 : TRegion) (y5 : List TAttempt) (s6 : (List TTicket) × Int × Int × (GM Int)) : Option (Ct ((List TTicket) × Int × Int × (GM Int)) ((List TTicket) × Int)) := cn (decide (s6.2.2.1 < (y5.length : Int))) (ix y5 default s6.2.2.1 fun e7 =>
    jn (fun p8 : Int × (GM Int) × TTicket => lt ([p8.2.2] : List TTicket) fun l12 => ap s6.1 l12 fun l13 => some (.nx (l13, p8.1, (wr (s6.2.2.1 + 1)), p8.2.1))) fun k9 =>
    cn (!e7.Urgent) (bd (open_F a0 s6.2.2.2 (imax s6.2.1 e7.At)) fun y10 => let m11 := s6.2.2.2.put y10 (wr ((s6.2.2.2.get y10 0) + 1));
    k9 (y10, m11, (⟨e7.Caller, e7.At, y10⟩ : TTicket))) (k9 (s6.2.1, s6.2.2.2, (⟨e7.Caller, e7.At, e7.At⟩ : TTicket)))) (some (.bk (s6.1, s6.2.1, s6.2.2.1, s6.2.2.2)))
theorem W_brecovery_Plan_b1 {a0 : TRegion} {y5 : List TAttempt} {s6 : (List TTicket) × Int × Int × (GM Int)} {Φ : Ct ((List TTicket) × Int × Int × (GM Int)) ((List TTicket) × Int) → Prop} (h : W (recovery_Plan_b1 a0 y5 s6) Φ) : W (cn (decide (s6.2.2.1 < (y5.length : Int))) (ix y5 default s6.2.2.1 fun e7 => jn (fun p8 : Int × (GM Int) × TTicket => lt ([p8.2.2] : List TTicket) fun l12 => ap s6.1 l12 fun l13 =>
    some (.nx (l13, p8.1, (wr (s6.2.2.1 + 1)), p8.2.1))) fun k9 => cn (!e7.Urgent) (bd (open_F a0 s6.2.2.2 (imax s6.2.1 e7.At)) fun y10 =>
    let m11 := s6.2.2.2.put y10 (wr ((s6.2.2.2.get y10 0) + 1));
    k9 (y10, m11, (⟨e7.Caller, e7.At, y10⟩ : TTicket))) (k9 (s6.2.1, s6.2.2.2, (⟨e7.Caller, e7.At, e7.At⟩ : TTicket)))) (some (.bk (s6.1, s6.2.1, s6.2.2.1, s6.2.2.2)))) Φ := h
def recovery_Plan_F (a0 : TRegion) (a1 : List TAttempt) : Option ((List TTicket) × Int) := jn (fun p1 : (List TAttempt) × Bool =>
    cn p1.2 (some ([], 340)) (bd (recovery_ordered_F p1.1) fun y5 => bd (lp (recovery_Plan_b1 a0 y5) FU ([], 0, 0, (GM.mt Int))) fun c14 => smK c14 (fun s15 =>
    some (s15.1, 0)) (fun r16 => some r16))) fun k2 => bd (recovery_Valid_F a0) fun y3 => cn (!y3) (k2 (a1, true)) (bd (recovery_Ready_F a1) fun y4 => k2 (a1, (!y4)))
def recovery_Plan_S : List AV → AV → Prop := fun args r => ∃ a0 a1, args = [eTRegion a0, (eL 3 eTAttempt default) a1] ∧ W (recovery_Plan_F a0 a1) fun y => r = (.tup [(eL 3 eTTicket default) y.1, eI y.2])
theorem recovery_Plan_ok {T : Tbl} (hT : TOk Try.prog T) (hpf : PfOk T PF) (h24 : T 24 = pureR recovery_Valid_S) (h26 : T 26 = pureR recovery_Ready_S) (h41 : T 41 = pureR recovery_ordered_S) (h42 : T 42 = open_R) (h56 : T 56 = iter_R) : FOk Try.prog 18 (pureR recovery_Plan_S) := by
  refine FOk_pure hT hpf Try.func18 rfl Try.ntmps18 Try.results18 (by decide) ?_
  rintro args r ⟨a0, a1, rfl, h⟩
  refine ⟨Nat.le_of_ble_eq_true rfl, ?_, ?_⟩
  · exact (loose_cons (lo_TRegion _) (loose_cons (loose_lst fun _ => (lo_TAttempt _)) loose_nil))
  rw [recovery_Plan_F.eq_1] at h
  refine HT_fr DC_ok rfl fun K hK => ?_; (conv => whnf)
  refine hK _ _ _ ?_; clear hK K
  refine HT_seq ?_
  refine HT_fr DC_ok rfl fun K hK => ?_; (conv => whnf)
  replace h := W_jn h
  refine And.intro (Nat.le_of_ble_eq_true rfl) ?_; (conv => whnf)
  refine blkK_of rfl ?_; (conv => whnf)
  refine And.intro (Nat.le_of_ble_eq_true rfl) ?_; (conv => whnf)
  replace h := W_bd h
  refine recovery_Valid_call h24 h (WkL.refl _) (fun _ h => ?_); (conv => whnf)
  refine cond_lk h (fun _ h => ?_) (fun _ h => ?_) <;> (conv => whnf)
  · refine hK _ _ _ ?_; clear hK K
    refine HT_if fun K1 K2 hK1 hK2 => ?_; (conv => whnf)
    refine hK1 ?_; clear hK1 hK2 K1 K2
    replace h := W_cnT h
    refine HT_fr DC_ok rfl fun K hK => ?_; (conv => whnf)
    refine hK _ _ _ ?_; clear hK K
    refine HT_ret ?_
    refine Then_r ?_
    replace h := W_some h
    refine PostP_r DC_ok fun K hK => ?_; (conv => whnf)
    refine hK _ ?_; clear hK K
    cases h
    exact Wk_tup (WkL_cons Wk_nil (WkL_cons (Wk.refl _) WkL_nil))
  replace h := W_bd h
  refine recovery_Ready_call h26 h (WkL.refl _) (fun _ h => ?_); (conv => whnf)
  refine hK _ _ _ ?_; clear hK K
  refine HT_if fun K1 K2 hK1 hK2 => ?_; (conv => whnf)
  refine cond_lk h (fun _ h => ?_) (fun _ h => ?_)
  · refine hK1 ?_; clear hK1 hK2 K1 K2
    refine HT_fr DC_ok rfl fun K hK => ?_; (conv => whnf)
    refine hK _ _ _ ?_; clear hK K
    refine HT_ret ?_
    refine Then_r ?_
    replace h := W_some h
    refine PostP_r DC_ok fun K hK => ?_; (conv => whnf)
    refine hK _ ?_; clear hK K
    cases h
    exact Wk_tup (WkL_cons Wk_nil (WkL_cons (Wk.refl _) WkL_nil))
  refine hK2 ?_; clear hK1 hK2 K1 K2
  refine HT_skip ?_
  refine Then_n ?_
  refine HT_fr DC_ok rfl fun K hK => ?_; (conv => whnf)
  refine hK _ _ _ ?_; clear hK K
  refine HT_fr DC_ok rfl fun K hK => ?_; (conv => whnf)
  refine hK _ _ _ ?_; clear hK K
  refine HT_fr DC_ok rfl fun K hK => ?_; (conv => whnf)
  refine hK _ _ _ ?_; clear hK K
  refine HT_seq ?_
  refine HT_ancK rfl rfl [1, 2, 6, 7, 8] [(6, 32), (2, 33)] ?_; (conv => whnf)
  refine And.intro ?_ ?_
  · refine weak_kN ?_; (conv => whnf)
    exact And.intro rfl (And.intro (allL_c (WkR.wk (Wk.refl _) (loose_lst fun _ => (lo_TAttempt _))) (allL_c (WkR.ptr (fun _ => rfl)) (allL_c (WkR.mp (fun _ => rfl)) (allL_c (WkR.wk (Wk.refl _) loose_nils) (allL_c (WkR.wk (Wk.refl _) (loose_int _ _)) allL_n))))) (allL_c ⟨some _, rfl, BkR_m (enc := eI) (m := (GM.mt Int)) rfl (fun _ => (loose_int _ _))⟩ (allL_c ⟨some _, rfl, BkR_c rfl (CkR_cons (WkR.wk (Wk.refl _) (loose_lst fun _ => (lo_TGrowth _))) (CkR_cons (WkR.wk (Wk.refl _) (loose_int _ _)) CkR_nil))⟩ allL_n)))
  refine HT_fr DC_ok rfl fun K hK => ?_; (conv => whnf)
  replace h := W_bd h
  refine recovery_ordered_call h41 h (WkL.refl _) (fun _ h => ?_); (conv => whnf)
  refine hK _ _ _ ?_; clear hK K
  refine HT_block ?_
  replace h := W_bd h
  refine HT_lpK (body := recovery_Plan_b1 _ _) rfl h [2, 6, 23, 24] [2] [6] (fun kl kh ids b s => ⟨ofL ([(7, .lst (.tok (b + 0)) 3 s.1.length (fun j => eTTicket (s.1.getD j default))), (8, eI s.2.1), (25, eI s.2.2.1)] ++ kl), ofH ([(nthN ids 0, abM eI s.2.2.2), (b + 0, .cells [])] ++ kh), b + 128⟩) ?_; (conv => whnf); refine And.intro ?_ (fun s m h => HT_st ?_)
  · refine weak_k ?_; (conv => whnf)
    exact And.intro rfl (And.intro (allL_c (WkR.nil (fun _ => rfl)) (allL_c (WkR.wk (Wk.refl _) (loose_int _ _)) (allL_c (WkR.wk (Wk.refl _) (loose_int _ _)) (allL_c (WkR.ptr (fun _ => rfl)) (allL_c (WkR.mp (fun _ => rfl)) (allL_c (WkR.wk (Wk.refl _) (loose_lst fun _ => (lo_TAttempt _))) (allL_c (WkR.wk (Wk.refl _) (loose_int _ _)) allL_n))))))) (allL_c ⟨some _, rfl, BkR_m (enc := eI) rfl (fun _ => (loose_int _ _))⟩ (allL_c ⟨none, rfl, BkR_n⟩ (allL_c ⟨some _, rfl, BkR_c rfl (CkR_cons (WkR.wk (Wk.refl _) (loose_lst fun _ => (lo_TGrowth _))) (CkR_cons (WkR.wk (Wk.refl _) (loose_int _ _)) CkR_nil))⟩ allL_n))))
  replace h := W_brecovery_Plan_b1 (W_bd h)
  refine HT_fr DC_ok rfl fun K hK => ?_; (conv => whnf)
  refine hK _ _ _ ?_; clear hK K
  refine HT_seq ?_
  refine HT_if fun K1 K2 hK1 hK2 => ?_; (conv => whnf)
  refine cond_lk h (fun _ h => ?_) (fun _ h => ?_)
  · refine hK1 ?_; clear hK1 hK2 K1 K2
    refine HT_skip ?_
    refine Then_n ?_
    refine HT_seq ?_
    refine HT_block ?_
    refine HT_fr DC_ok rfl fun K hK => ?_; (conv => whnf)
    refine ix_lk h fun _ h => ?_; (conv => whnf)
    refine And.intro (Nat.le_of_ble_eq_true rfl) ?_; (conv => whnf)
    refine blkK_of rfl ?_; (conv => whnf)
    refine And.intro rfl (And.intro (Nat.le_of_ble_eq_true rfl) (And.intro rfl ?_)); (conv => whnf)
    refine hK _ _ _ ?_; clear hK K
    refine HT_fr DC_ok rfl fun K hK => ?_; (conv => whnf)
    refine And.intro (Nat.le_of_ble_eq_true rfl) ?_; (conv => whnf)
    refine blkK_of rfl ?_; (conv => whnf)
    refine getK_of rfl ?_; (conv => whnf)
    refine And.intro (Nat.le_of_ble_eq_true rfl) ?_; (conv => whnf)
    refine blkK_of rfl ?_; (conv => whnf)
    refine getK_of rfl ?_; (conv => whnf)
    refine And.intro (Nat.le_of_ble_eq_true rfl) ?_; (conv => whnf)
    refine blkK_of rfl ?_; (conv => whnf)
    refine getK_of rfl ?_; (conv => whnf)
    refine blkK_of rfl ?_; (conv => whnf)
    refine And.intro rfl (And.intro (Nat.le_of_ble_eq_true rfl) (And.intro rfl ?_)); (conv => whnf)
    refine hK _ _ _ ?_; clear hK K
    refine HT_seq ?_
    refine HT_fr DC_ok rfl fun K hK => ?_; (conv => whnf)
    refine And.intro (Nat.le_of_ble_eq_true rfl) ?_; (conv => whnf)
    refine blkK_of rfl ?_; (conv => whnf)
    refine getK_of rfl ?_; (conv => whnf)
    refine hK _ _ _ ?_; clear hK K
    replace h := W_jn h
    refine HT_if fun K1 K2 hK1 hK2 => ?_; (conv => whnf)
    refine cond_lk h (fun _ h => ?_) (fun _ h => ?_)
    · refine hK1 ?_; clear hK1 hK2 K1 K2
      refine HT_seq ?_
      refine HT_fr DC_ok rfl fun K hK => ?_; (conv => whnf)
      refine And.intro (Nat.le_of_ble_eq_true rfl) ?_; (conv => whnf)
      refine blkK_of rfl ?_; (conv => whnf)
      refine And.intro (Nat.le_of_ble_eq_true rfl) ?_; (conv => whnf)
      refine And.intro (Nat.le_of_ble_eq_true rfl) ?_; (conv => whnf)
      refine blkK_of rfl ?_; (conv => whnf)
      refine getK_of rfl ?_; (conv => whnf)
      refine callsK_open h42 (WkL_cons (Wk.refl _) (WkL.refl _)) rfl ?_; (conv => whnf)
      refine hK _ _ _ ?_; clear hK K
      refine HT_block ?_
      refine HT_ancK rfl rfl [2, 6, 7, 8, 10, 11, 23, 24, 25, 45] [(6, 32), (2, 33), (7, 34), (10, 35), (11, 36)] ?_; (conv => whnf)
      refine And.intro ?_ ?_
      · refine weak_kN ?_; (conv => whnf)
        exact And.intro rfl (And.intro (allL_c (WkR.ptr (fun _ => rfl)) (allL_c (WkR.mp (fun _ => rfl)) (allL_c (WkR.tok (fun _ => rfl) rfl (fun _ _ => Wk.refl _) (fun _ => (lo_TTicket _))) (allL_c (WkR.wk (Wk.refl _) (loose_int _ _)) (allL_c (WkR.ptr (fun _ => rfl)) (allL_c (WkR.ptr (fun _ => rfl)) (allL_c (WkR.wk (Wk.refl _) (loose_lst fun _ => (lo_TAttempt _))) (allL_c (WkR.wk (Wk.refl _) (loose_int _ _)) (allL_c (WkR.wk (Wk.refl _) (loose_int _ _)) (allL_c (WkR_fn VsR_nil (VsR_cons (WkR.wk (Wk.refl _) (loose_ep (loose_cons (loose_int _ _) loose_nil))) (VsR_cons (WkR_ep (VsR_cons (WkR.mp (fun _ => rfl)) VsR_nil)) (VsR_cons (WkR.wk (Wk.refl _) (loose_ep (loose_cons (loose_lst fun _ => (lo_TGrowth _)) (loose_cons (loose_int _ _) loose_nil)))) VsR_nil)))) allL_n)))))))))) (allL_c ⟨some _, rfl, BkR_m (enc := eI) rfl (fun _ => (loose_int _ _))⟩ (allL_c ⟨some _, rfl, BkR_c rfl (CkR_cons (WkR.wk (Wk.refl _) (loose_lst fun _ => (lo_TGrowth _))) (CkR_cons (WkR.wk (Wk.refl _) (loose_int _ _)) CkR_nil))⟩ (allL_c ⟨some _, rfl, BkR_c rfl CkR_nil⟩ (allL_c ⟨some _, rfl, BkR_c rfl (CkR_cons (WkR.wk (Wk.refl _) (loose_int _ _)) (CkR_cons (WkR.wk (Wk.refl _) (loose_int _ _)) (CkR_cons (WkR.wk (Wk.refl _) (loose_bool _)) CkR_nil)))⟩ (allL_c ⟨some _, rfl, BkR_c rfl (CkR_cons (WkR.wk (Wk.refl _) (loose_int _ _)) (CkR_cons (WkR.wk (Wk.refl _) (loose_int _ _)) (CkR_cons (WkR.wk (Wk.refl _) (loose_int _ _)) CkR_nil)))⟩ allL_n))))))
      replace h := W_bd h
      obtain ⟨k, hk, h⟩ := W_inv h
      refine HT_rngI (k := k) rfl rfl (by decide) rfl 2 (by decide) (allL_c (a64_ptr (by decide)) (allL_c (a64_mp (by decide)) (allL_c (a64_tok (by decide) (fun _ => (lo_TTicket _))) (allL_c (a64_loose (loose_int _ _)) (allL_c (a64_ptr (by decide)) (allL_c (a64_ptr (by decide)) (allL_c (a64_loose (loose_lst fun _ => (lo_TAttempt _))) (allL_c (a64_loose (loose_int _ _)) (allL_c (a64_loose (loose_int _ _)) (allL_c (a64_fn a64_nil (a64_cons (a64_ep (a64_cons (a64_loose (loose_int _ _)) a64_nil)) (a64_cons (a64_ep (a64_cons (a64_mp (by decide)) a64_nil)) (a64_cons (a64_ep (a64_cons (a64_loose (loose_lst fun _ => (lo_TGrowth _))) (a64_cons (a64_loose (loose_int _ _)) a64_nil))) a64_nil)))) allL_n)))))))))) 32 36 2 (by decide) (by decide) rfl rfl rfl (allL_c rfl (allL_c rfl (allL_c rfl (allL_c rfl (allL_c rfl allL_n))))) (fun G H hP hY hb hm => ?_) (fun x s => ?_) ?_
      · exact ⟨.tup [], by show T 56 _ _ _ _ _; rw [h56]; exact ⟨_, G, _, _, _, _, _, _, _, k, rfl, (by decide), hb, hm (by decide), hP, hk, hY, rfl, rfl⟩⟩
      · refine HT_f DC_ok rfl fun K hK => ?_; (conv => whnf)
        refine hK _ _ _ ?_; clear hK K
        refine Then_n ?_
        refine HT_block ?_
        refine HT_fr DC_ok rfl fun K hK => ?_; (conv => whnf)
        refine blkK_of rfl ?_; (conv => whnf)
        refine And.intro rfl (And.intro (Nat.le_of_ble_eq_true rfl) (And.intro rfl ?_)); (conv => whnf)
        refine hK _ _ _ ?_; clear hK K
        refine HT_exit ?_
        refine InBlock_o (by decide) ?_
        refine ⟨rfl, weak_rngI (Nat.le_of_ble_eq_true rfl) (Nat.le_of_ble_eq_true rfl) (allL_c ⟨Nat.le_of_ble_eq_true rfl, .inr (.inl rfl)⟩ (allL_c ⟨Nat.le_of_ble_eq_true rfl, .inr (.inr (a64_cons (a64_loose (loose_lst fun _ => (lo_TGrowth _))) (a64_cons (a64_loose (loose_int _ _)) a64_nil)))⟩ (allL_c ⟨Nat.le_of_ble_eq_true rfl, .inr (.inr a64_nil)⟩ (allL_c ⟨Nat.le_of_ble_eq_true rfl, .inr (.inr (a64_cons (a64_loose (loose_int _ _)) (a64_cons (a64_loose (loose_int _ _)) (a64_cons (a64_loose (loose_bool _)) a64_nil))))⟩ (allL_c ⟨Nat.le_of_ble_eq_true rfl, .inl rfl⟩ allL_n))))) (a64_cons (a64_loose (loose_int _ _)) (a64_cons (a64_loose (loose_int _ _)) (a64_cons (a64_loose (loose_int _ _)) a64_nil)))⟩
      refine InBlock_e ?_
      refine Then_n ?_
      refine HT_fr DC_ok rfl fun K hK => ?_; (conv => whnf)
      refine And.intro (Nat.le_of_ble_eq_true rfl) ?_; (conv => whnf)
      refine blkK_of rfl ?_; (conv => whnf)
      refine getK_of rfl ?_; (conv => whnf)
      refine mget_lk (enc := eI) DC_ok rfl (0 : Int) rfl rfl (Nat.le_of_ble_eq_true rfl) ?_; (conv => whnf)
      refine mput_lk (enc := eI) DC_ok rfl rfl ?_; (conv => whnf)
      refine hK _ _ _ ?_; clear hK K
      refine HT_f DC_ok rfl fun K hK => ?_; (conv => whnf)
      refine And.intro (Nat.le_of_ble_eq_true rfl) ?_; (conv => whnf)
      refine blkK_of rfl ?_; (conv => whnf)
      refine getK_of rfl ?_; (conv => whnf)
      refine hK _ _ _ ?_; clear hK K
      refine Then_n ?_
      refine HT_f DC_ok rfl fun K hK => ?_; (conv => whnf)
      refine And.intro (Nat.le_of_ble_eq_true rfl) ?_; (conv => whnf)
      refine blkK_of rfl ?_; (conv => whnf)
      refine And.intro (Nat.le_of_ble_eq_true rfl) ?_; (conv => whnf)
      refine lt_lk (enc := eTTicket) (d := default) DC_ok h rfl rfl rfl ⟨Nat.le_of_ble_eq_true rfl, Nat.le_of_ble_eq_true rfl, rfl⟩ rfl ⟨⟨rfl, Nat.le_of_ble_eq_true rfl⟩, trivial⟩ (fun h => ?_); (conv => whnf)
      refine ap_lk (enc := eTTicket) (d := default) DC_ok h (.inl rfl) rfl rfl rfl ⟨rfl, Nat.le_of_ble_eq_true rfl, Nat.le_of_ble_eq_true rfl, Nat.le_of_ble_eq_true rfl, rfl⟩ (fun _ => rfl) (.inr (.inr ⟨_, _, rfl, rfl, rfl⟩)) (fun h => ?_); (conv => whnf)
      refine hK _ _ _ ?_; clear hK K
      refine InBlock_n ?_
      refine Then_n ?_
      refine HT_f DC_ok rfl fun K hK => ?_; (conv => whnf)
      refine hK _ _ _ ?_; clear hK K
      refine Then_n ?_
      replace h := W_xnx h
      refine ⟨_, h, ?_⟩
      refine weak_k ?_; (conv => whnf)
      exact And.intro rfl (And.intro (allL_c (WkR.tok (fun _ => rfl) rfl (fun _ _ => Wk.refl _) (fun _ => (lo_TTicket _))) (allL_c (WkR.wk (Wk.refl _) (loose_int _ _)) (allL_c (WkR.wk (Wk.refl _) (loose_int _ _)) (allL_c (WkR.ptr (fun _ => rfl)) (allL_c (WkR.mp (fun _ => rfl)) (allL_c (WkR.wk (Wk.refl _) (loose_lst fun _ => (lo_TAttempt _))) (allL_c (WkR.wk (Wk.refl _) (loose_int _ _)) allL_n))))))) (allL_c ⟨some _, rfl, BkR_m (enc := eI) rfl (fun _ => (loose_int _ _))⟩ (allL_c ⟨some _, rfl, BkR_c rfl CkR_nil⟩ (allL_c ⟨some _, rfl, BkR_c rfl (CkR_cons (WkR.wk (Wk.refl _) (loose_lst fun _ => (lo_TGrowth _))) (CkR_cons (WkR.wk (Wk.refl _) (loose_int _ _)) CkR_nil))⟩ allL_n))))
    refine hK2 ?_; clear hK1 hK2 K1 K2
    refine HT_skip ?_
    refine Then_n ?_
    refine HT_f DC_ok rfl fun K hK => ?_; (conv => whnf)
    refine And.intro (Nat.le_of_ble_eq_true rfl) ?_; (conv => whnf)
    refine blkK_of rfl ?_; (conv => whnf)
    refine And.intro (Nat.le_of_ble_eq_true rfl) ?_; (conv => whnf)
    refine lt_lk (enc := eTTicket) (d := default) DC_ok h rfl rfl rfl ⟨Nat.le_of_ble_eq_true rfl, Nat.le_of_ble_eq_true rfl, rfl⟩ rfl ⟨⟨rfl, Nat.le_of_ble_eq_true rfl⟩, trivial⟩ (fun h => ?_); (conv => whnf)
    refine ap_lk (enc := eTTicket) (d := default) DC_ok h (.inl rfl) rfl rfl rfl ⟨rfl, Nat.le_of_ble_eq_true rfl, Nat.le_of_ble_eq_true rfl, Nat.le_of_ble_eq_true rfl, rfl⟩ (fun _ => rfl) (.inr (.inr ⟨_, _, rfl, rfl, rfl⟩)) (fun h => ?_); (conv => whnf)
    refine hK _ _ _ ?_; clear hK K
    refine InBlock_n ?_
    refine Then_n ?_
    refine HT_f DC_ok rfl fun K hK => ?_; (conv => whnf)
    refine hK _ _ _ ?_; clear hK K
    refine Then_n ?_
    replace h := W_xnx h
    refine ⟨_, h, ?_⟩
    refine weak_k ?_; (conv => whnf)
    exact And.intro rfl (And.intro (allL_c (WkR.tok (fun _ => rfl) rfl (fun _ _ => Wk.refl _) (fun _ => (lo_TTicket _))) (allL_c (WkR.wk (Wk.refl _) (loose_int _ _)) (allL_c (WkR.wk (Wk.refl _) (loose_int _ _)) (allL_c (WkR.ptr (fun _ => rfl)) (allL_c (WkR.mp (fun _ => rfl)) (allL_c (WkR.wk (Wk.refl _) (loose_lst fun _ => (lo_TAttempt _))) (allL_c (WkR.wk (Wk.refl _) (loose_int _ _)) allL_n))))))) (allL_c ⟨some _, rfl, BkR_m (enc := eI) rfl (fun _ => (loose_int _ _))⟩ (allL_c ⟨some _, rfl, BkR_c rfl CkR_nil⟩ (allL_c ⟨some _, rfl, BkR_c rfl (CkR_cons (WkR.wk (Wk.refl _) (loose_lst fun _ => (lo_TGrowth _))) (CkR_cons (WkR.wk (Wk.refl _) (loose_int _ _)) CkR_nil))⟩ allL_n))))
  refine hK2 ?_; clear hK1 hK2 K1 K2
  refine HT_exit ?_
  refine Then_e ?_
  refine Then_e ?_
  refine InBlock_e ?_
  replace h := W_xbk h
  replace h := W_inl h
  refine Then_n ?_
  refine HT_fr DC_ok rfl fun K hK => ?_; (conv => whnf)
  refine hK _ _ _ ?_; clear hK K
  refine HT_ret ?_
  replace h := W_some h
  refine PostP_r DC_ok fun K hK => ?_; (conv => whnf)
  refine hK _ ?_; clear hK K
  cases h
  exact Wk_tup (WkL_cons Wk_free (WkL_cons (Wk.refl _) WkL_nil))
theorem recovery_Plan_call {T : Tbl} (hT : T 18 = pureR recovery_Plan_S) {args : List AV} {hp : Heap} {id : Nat} {k : AV → Prop} {a0 : TRegion} {a1 : List TAttempt} {Φ : (List TTicket) × Int → Prop} (h : W (recovery_Plan_F a0 a1) Φ) (hw : WkL args [eTRegion a0, (eL 3 eTAttempt default) a1]) (hk : ∀ y, Φ y → k (.tup [(eL 3 eTTicket default) y.1, eI y.2])) : callpK T 18 args hp id k := by
  obtain ⟨y, e, hy⟩ := W_inv h
  exact callpK_pure hT ⟨a0, a1, rfl, W_of e rfl⟩ (by exact loose_tup (loose_cons (loose_lst fun _ => (lo_TTicket _)) (loose_cons (loose_int _ _) loose_nil))) hw (hk y hy)
end Go.Proofs.Ytcidmnpihffphaa
