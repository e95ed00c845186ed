import Derived.Test.YtkjccabdpeldhaaM6
import Derived.Test.YtkjccabdpeldhaaM7
set_option linter.unusedVariables false
set_option linter.unusedSimpArgs false
set_option linter.unusedSectionVars false
namespace Go.Proofs.Ytkjccabdpeldhaa
open Go Go.Eng
set_option maxHeartbeats 0
set_option maxRecDepth 100000

    def law33_ReserveAdmits_b2 (s13 : (List TDenied) × Int) (y3 : TAdmission × Int) (s16 : Int × TDenied) : Option (Ct (Int × TDenied) Bool) := cn (decide (s16.1 < (y3.1.Denied.length : Int))) (ix y3.1.Denied default s16.1 fun e17 =>
    jn (fun p18 : TDenied => some (.nx ((wr (s16.1 + 1)), p18))) fun k19 => cn (e17.Call == s13.2) (ix y3.1.Denied default s16.1 fun e20 =>
    k19 e20) (k19 s16.2)) (some (.bk (s16.1, s16.2)))
theorem W_blaw33_ReserveAdmits_b2 {s13 : (List TDenied) × Int} {y3 : TAdmission × Int} {s16 : Int × TDenied} {Φ : Ct (Int × TDenied) Bool → Prop} (h : W (law33_ReserveAdmits_b2 s13 y3 s16) Φ) : W (cn (decide (s16.1 < (y3.1.Denied.length : Int))) (ix y3.1.Denied default s16.1 fun e17 => jn (fun p18 : TDenied => some (.nx ((wr (s16.1 + 1)), p18))) fun k19 => cn (e17.Call ==
    s13.2) (ix y3.1.Denied default s16.1 fun e20 => k19 e20) (k19 s16.2)) (some (.bk (s16.1, s16.2)))) Φ := h

    def law33_ReserveAdmits_b1 (y2 : TReserve) (y3 : TAdmission × Int) (y12 : Int) (s13 : (List TDenied) × Int) : Option (Ct ((List TDenied) × Int) Bool) := cn (decide (s13.2 < (y2.Calls.length : Int))) (jn (fun p14 : (List TDenied) =>
    some (.nx (p14, (wr (s13.2 + 1))))) fun k15 => gd (0 ≤ s13.2) (cn ((Int.tmod (bshr .i64 y12 s13.2) 2) ==
    1) (k15 s13.1) (bd (lp (law33_ReserveAdmits_b2 s13 y3) FU (0, (⟨s13.2, (-1), 0, 1⟩ : TDenied))) fun c21 => smK c21 (fun s22 => lt ([s22.2] : List TDenied) fun l24 =>
    ap s13.1 l24 fun l25 => k15 l25) (fun r23 => some (.rt r23))))) (some (.bk (s13.1, s13.2)))
theorem W_blaw33_ReserveAdmits_b1 {y2 : TReserve} {y3 : TAdmission × Int} {y12 : Int} {s13 : (List TDenied) × Int} {Φ : Ct ((List TDenied) × Int) Bool → Prop} (h : W (law33_ReserveAdmits_b1 y2 y3 y12 s13) Φ) : W (cn (decide (s13.2 < (y2.Calls.length : Int))) (jn (fun p14 : (List TDenied) => some (.nx (p14, (wr (s13.2 + 1))))) fun k15 =>
    gd (0 ≤ s13.2) (cn ((Int.tmod (bshr .i64 y12 s13.2) 2) == 1) (k15 s13.1) (bd (lp (law33_ReserveAdmits_b2 s13 y3) FU (0, (⟨s13.2, (-1), 0, 1⟩ : TDenied))) fun c21 =>
    smK c21 (fun s22 => lt ([s22.2] : List TDenied) fun l24 => ap s13.1 l24 fun l25 => k15 l25) (fun r23 => some (.rt r23))))) (some (.bk (s13.1, s13.2)))) Φ := h
def law33_ReserveAdmits_F (a0 : TNumbers) (a1 : Int) (a2 : Int) (a3 : Int) : Option Bool := bd (law33_sane_F ) fun y1 => cn (!y1) (some false) (bd (ref33_Made_F a0) fun y2 =>
    bd (reserve_Admit_F y2) fun y3 => cn (y3.2 != 0) (jn (fun p4 : Bool => some p4) fun k5 => bd (reserve_Safe_F y2 0) fun y6 =>
    cn (!y6) (bd (reserve_Check_F y2 (⟨0, []⟩ : TAdmission)) fun y7 => k5 (!y7)) (k5 false)) (jn (fun p8 : Bool =>
    cn p8 (some false) (gd (0 ≤ (y2.Calls.length : Int)) (bd (law33_pick_F a1 (bshl .i64 1 (y2.Calls.length : Int))) fun y12 => cn (y12 ==
    y3.1.Admitted) (some true) (bd (lp (law33_ReserveAdmits_b1 y2 y3 y12) FU ([], 0)) fun c26 => smK c26 (fun s27 => lt ([] : List TDenied) fun l29 =>
    gd (s27.1.length ≤ 1048576) (lt s27.1 fun l30 => jn (fun p31 : (List TDenied) => jn (fun p36 : Bool => some p36) fun k37 =>
    bd (reserve_Check_F y2 (⟨y12, s27.1⟩ : TAdmission)) fun y38 => cn (!y38) (bd (reserve_Check_F y2 (⟨y12, p31⟩ : TAdmission)) fun y39 =>
    cn (!y39) (bd (reserve_Check_F y2 (⟨y12, y3.1.Denied⟩ : TAdmission)) fun y40 => k37 (!y40)) (k37 false)) (k37 false)) fun k32 => cn (decide ((l30.length : Int) >
    0)) (bd (law33_pick_F (wr (Int.tdiv a2 4)) (l30.length : Int)) fun y33 =>
    gd (0 ≤ y33 ∧ y33 < (l30.length : Int)) (bd (ref33_BentDenied_F (l30.getD (y33).toNat default) a2 a3) fun y34 =>
    gd (0 ≤ y33 ∧ y33 < (l30.length : Int)) (st l30 (y33) y34 fun l35 => k32 l35))) (k32 l30))) (fun r28 => some r28))))) fun k9 => bd (reserve_Check_F y2 y3.1) fun y10 =>
    cn (!y10) (k9 true) (bd (reserve_Safe_F y2 y3.1.Admitted) fun y11 => k9 (!y11))))
def law33_ReserveAdmits_S : List AV → AV → Prop := fun args r => ∃ a0 a1 a2 a3, args = [eTNumbers a0, eI a1, eI a2, eI a3] ∧ W (law33_ReserveAdmits_F a0 a1 a2 a3) fun y => r = (eB y)
theorem law33_ReserveAdmits_ok {T : Tbl} (hT : TOk Try.prog T) (hpf : PfOk T PF) (h11 : T 11 = pureR law33_sane_S) (h12 : T 12 = pureR ref33_Made_S) (h13 : T 13 = pureR reserve_Admit_S) (h14 : T 14 = pureR reserve_Safe_S) (h15 : T 15 = pureR reserve_Check_S) (h16 : T 16 = pureR law33_pick_S) (h17 : T 17 = pureR ref33_BentDenied_S) : FOk Try.prog 3 (pureR law33_ReserveAdmits_S) := by
  refine FOk_pure hT hpf Try.func3 rfl Try.ntmps3 Try.results3 (by decide) ?_
  rintro args r ⟨a0, a1, a2, a3, rfl, h⟩
  refine ⟨nle rfl, ?_, ?_⟩
  · exact (loose_cons (lo_TNumbers _) (loose_cons (loose_int _ _) (loose_cons (loose_int _ _) (loose_cons (loose_int _ _) loose_nil))))
  rw [law33_ReserveAdmits_F.eq_1] at h
  refine HT_fr DC_ok rfl fun K hK => ?_; (conv => whnf)
  refine hK _ _ _ ?_; clear hK K
  refine HT_seq ?_
  refine HT_fr DC_ok rfl fun K hK => ?_; (conv => whnf)
  replace h := W_bd h
  refine law33_sane_call h11 h (WkL.refl _) (fun _ h => ?_); (conv => whnf)
  refine hK _ _ _ ?_; clear hK K
  refine HT_if fun K1 K2 hK1 hK2 => ?_; (conv => whnf)
  refine cond_lk h (fun _ h => ?_) (fun _ h => ?_)
  · refine hK1 ?_; clear hK1 hK2 K1 K2
    refine HT_fr DC_ok rfl fun K hK => ?_; (conv => whnf)
    refine hK _ _ _ ?_; clear hK K
    refine HT_ret ?_
    refine Then_r ?_
    replace h := W_some h
    refine PostP_r DC_ok fun K hK => ?_; (conv => whnf)
    refine hK _ ?_; clear hK K
    cases h
    exact Wk.refl _
  refine hK2 ?_; clear hK1 hK2 K1 K2
  refine HT_skip ?_
  refine Then_n ?_
  refine HT_fr DC_ok rfl fun K hK => ?_; (conv => whnf)
  refine nlA rfl ?_; (conv => whnf)
  refine blkK_of rfl ?_; (conv => whnf)
  refine nlA rfl ?_; (conv => whnf)
  replace h := W_bd h
  refine ref33_Made_call h12 h (WkL.refl _) (fun _ h => ?_); (conv => whnf)
  refine blkK_of rfl ?_; (conv => whnf)
  refine And.intro rfl (And.intro (nle rfl) (And.intro rfl ?_)); (conv => whnf)
  refine hK _ _ _ ?_; clear hK K
  refine HT_fr DC_ok rfl fun K hK => ?_; (conv => whnf)
  refine nlA rfl ?_; (conv => whnf)
  refine blkK_of rfl ?_; (conv => whnf)
  refine nlA rfl ?_; (conv => whnf)
  replace h := W_bd h
  refine reserve_Admit_call h13 h (WkL.refl _) (fun _ h => ?_); (conv => whnf)
  refine blkK_of rfl ?_; (conv => whnf)
  refine And.intro rfl (And.intro (nle rfl) (And.intro rfl ?_)); (conv => whnf)
  refine hK _ _ _ ?_; clear hK K
  refine HT_seq ?_
  refine HT_fr DC_ok rfl fun K hK => ?_; (conv => whnf)
  refine hK _ _ _ ?_; clear hK K
  refine HT_if fun K1 K2 hK1 hK2 => ?_; (conv => whnf)
  refine cond_lk h (fun _ h => ?_) (fun _ h => ?_)
  · refine hK1 ?_; clear hK1 hK2 K1 K2
    refine HT_fr DC_ok rfl fun K hK => ?_; (conv => whnf)
    replace h := W_jn h
    refine nlA rfl ?_; (conv => whnf)
    refine blkK_of rfl ?_; (conv => whnf)
    refine nlA rfl ?_; (conv => whnf)
    replace h := W_bd h
    refine reserve_Safe_call h14 h (WkL.refl _) (fun _ h => ?_); (conv => whnf)
    refine cond_lk h (fun _ h => ?_) (fun _ h => ?_) <;> (conv => whnf)
    · refine nlA rfl ?_; (conv => whnf)
      refine blkK_of rfl ?_; (conv => whnf)
      refine nlA rfl ?_; (conv => whnf)
      replace h := W_bd h
      refine reserve_Check_call h15 h (WkL_cons (Wk.refl _) (WkL_cons (Wk_agg (WkL_cons (Wk.refl _) (WkL_cons Wk_nil WkL_nil))) WkL_nil)) (fun _ h => ?_); (conv => whnf)
      refine hK _ _ _ ?_; clear hK K
      refine HT_ret ?_
      refine Then_r ?_
      replace h := W_some h
      refine PostP_r DC_ok fun K hK => ?_; (conv => whnf)
      refine hK _ ?_; clear hK K
      cases h
      exact Wk.refl _
    refine hK _ _ _ ?_; clear hK K
    refine HT_ret ?_
    refine Then_r ?_
    replace h := W_some h
    refine PostP_r DC_ok fun K hK => ?_; (conv => whnf)
    refine hK _ ?_; clear hK K
    cases h
    exact Wk.refl _
  refine hK2 ?_; clear hK1 hK2 K1 K2
  refine HT_skip ?_
  refine Then_n ?_
  refine HT_seq ?_
  refine HT_fr DC_ok rfl fun K hK => ?_; (conv => whnf)
  replace h := W_jn h
  refine nlA rfl ?_; (conv => whnf)
  refine blkK_of rfl ?_; (conv => whnf)
  refine nlA rfl ?_; (conv => whnf)
  refine nlA rfl ?_; (conv => whnf)
  refine blkK_of rfl ?_; (conv => whnf)
  refine nlA rfl ?_; (conv => whnf)
  replace h := W_bd h
  refine reserve_Check_call h15 h (WkL.refl _) (fun _ h => ?_); (conv => whnf)
  refine cond_lk h (fun _ h => ?_) (fun _ h => ?_) <;> (conv => whnf)
  · refine hK _ _ _ ?_; clear hK K
    refine HT_if fun K1 K2 hK1 hK2 => ?_; (conv => whnf)
    refine hK1 ?_; clear hK1 hK2 K1 K2
    replace h := W_cnT h
    refine HT_fr DC_ok rfl fun K hK => ?_; (conv => whnf)
    refine hK _ _ _ ?_; clear hK K
    refine HT_ret ?_
    refine Then_r ?_
    replace h := W_some h
    refine PostP_r DC_ok fun K hK => ?_; (conv => whnf)
    refine hK _ ?_; clear hK K
    cases h
    exact Wk.refl _
  refine nlA rfl ?_; (conv => whnf)
  refine blkK_of rfl ?_; (conv => whnf)
  refine nlA rfl ?_; (conv => whnf)
  refine nlA rfl ?_; (conv => whnf)
  refine blkK_of rfl ?_; (conv => whnf)
  refine getK_of rfl ?_; (conv => whnf)
  replace h := W_bd h
  refine reserve_Safe_call h14 h (WkL.refl _) (fun _ h => ?_); (conv => whnf)
  refine hK _ _ _ ?_; clear hK K
  refine HT_if fun K1 K2 hK1 hK2 => ?_; (conv => whnf)
  refine cond_lk h (fun _ h => ?_) (fun _ h => ?_)
  · refine hK1 ?_; clear hK1 hK2 K1 K2
    refine HT_fr DC_ok rfl fun K hK => ?_; (conv => whnf)
    refine hK _ _ _ ?_; clear hK K
    refine HT_ret ?_
    refine Then_r ?_
    replace h := W_some h
    refine PostP_r DC_ok fun K hK => ?_; (conv => whnf)
    refine hK _ ?_; clear hK K
    cases h
    exact Wk.refl _
  refine hK2 ?_; clear hK1 hK2 K1 K2
  refine HT_skip ?_
  refine Then_n ?_
  refine HT_fr DC_ok rfl fun K hK => ?_; (conv => whnf)
  refine nlA rfl ?_; (conv => whnf)
  refine blkK_of rfl ?_; (conv => whnf)
  refine getK_of rfl ?_; (conv => whnf)
  refine gd_lk h fun _ h => ?_; (conv => whnf)
  replace h := W_bd h
  refine law33_pick_call h16 h (WkL.refl _) (fun _ h => ?_); (conv => whnf)
  refine hK _ _ _ ?_; clear hK K
  refine HT_seq ?_
  refine HT_fr DC_ok rfl fun K hK => ?_; (conv => whnf)
  refine nlA rfl ?_; (conv => whnf)
  refine blkK_of rfl ?_; (conv => whnf)
  refine getK_of rfl ?_; (conv => whnf)
  refine hK _ _ _ ?_; clear hK K
  refine HT_if fun K1 K2 hK1 hK2 => ?_; (conv => whnf)
  refine cond_lk h (fun _ h => ?_) (fun _ h => ?_)
  · refine hK1 ?_; clear hK1 hK2 K1 K2
    refine HT_fr DC_ok rfl fun K hK => ?_; (conv => whnf)
    refine hK _ _ _ ?_; clear hK K
    refine HT_ret ?_
    refine Then_r ?_
    replace h := W_some h
    refine PostP_r DC_ok fun K hK => ?_; (conv => whnf)
    refine hK _ ?_; clear hK K
    cases h
    exact Wk.refl _
  refine hK2 ?_; clear hK1 hK2 K1 K2
  refine HT_skip ?_
  refine Then_n ?_
  refine HT_fr DC_ok rfl fun K hK => ?_; (conv => whnf)
  refine hK _ _ _ ?_; clear hK K
  refine HT_seq ?_
  refine HT_fr DC_ok rfl fun K hK => ?_; (conv => whnf)
  refine hK _ _ _ ?_; clear hK K
  refine HT_block ?_
  replace h := W_bd h
  refine HT_lpK (body := law33_ReserveAdmits_b1 _ _ _) rfl h [2, 3, 9, 10, 12] [9, 10] [] (fun kl kh ids b s => ⟨ofL ([(13, .lst (.tok (b + 0)) 4 s.1.length (fun j => eTDenied (s.1.getD j default))), (14, eI s.2)] ++ kl), ofH ([(b + 0, .cells [])] ++ kh), b + 128⟩) ?_; (conv => whnf); refine And.intro ?_ (fun s m h => HT_st ?_)
  · refine weak_k ?_; (conv => whnf)
    exact And.intro rfl (And.intro (allL_c (WkR.nil (fun _ => rfl)) (allL_c wkI (allL_c wkI (allL_c wkI (allL_c (WkR.ptr (fun _ => rfl)) (allL_c (WkR.ptr (fun _ => rfl)) (allL_c wkI allL_n))))))) (allL_c ⟨none, rfl, BkR_n⟩ (allL_c ⟨some _, rfl, BkR_c rfl (CkR_cons wkI (CkR_cons (wkr (loose_lst fun _ => (lo_TEdge _))) (CkR_cons (wkr (loose_lst fun _ => (loose_int _ _))) (CkR_cons (wkr (loose_lst fun _ => (loose_int _ _))) (CkR_cons wkI (CkR_cons (wkr (loose_lst fun _ => (lo_TOrdinary _))) CkR_nil))))))⟩ (allL_c ⟨some _, rfl, BkR_c rfl (CkR_cons wkI (CkR_cons (wkr (loose_lst fun _ => (lo_TDenied _))) CkR_nil))⟩ allL_n))))
  replace h := W_blaw33_ReserveAdmits_b1 (W_bd h)
  refine HT_seq ?_
  refine HT_fr DC_ok rfl fun K hK => ?_; (conv => whnf)
  refine nlA rfl ?_; (conv => whnf)
  refine blkK_of rfl ?_; (conv => whnf)
  refine getK_of rfl ?_; (conv => whnf)
  refine hK _ _ _ ?_; clear hK K
  refine HT_if fun K1 K2 hK1 hK2 => ?_; (conv => whnf)
  refine cond_lk h (fun _ h => ?_) (fun _ h => ?_)
  · refine hK1 ?_; clear hK1 hK2 K1 K2
    refine HT_skip ?_
    refine Then_n ?_
    refine HT_seq ?_
    replace h := W_jn h
    refine HT_block ?_
    refine HT_seq ?_
    refine HT_fr DC_ok rfl fun K hK => ?_; (conv => whnf)
    refine gd_lk h fun _ h => ?_; (conv => whnf)
    refine And.intro (by decide) ?_; (conv => whnf)
    refine hK _ _ _ ?_; clear hK K
    refine HT_if fun K1 K2 hK1 hK2 => ?_; (conv => whnf)
    refine cond_lk h (fun _ h => ?_) (fun _ h => ?_)
    · refine hK1 ?_; clear hK1 hK2 K1 K2
      refine HT_exit ?_
      refine Then_e ?_
      refine InBlock_e ?_
      refine Then_n ?_
      refine HT_f DC_ok rfl fun K hK => ?_; (conv => whnf)
      refine hK _ _ _ ?_; clear hK K
      refine Then_n ?_
      replace h := W_xnx h
      refine ⟨_, h, ?_⟩
      refine weak_k ?_; (conv => whnf)
      exact And.intro rfl (And.intro (allL_c (WkR.tok (fun _ => rfl) rfl (fun _ _ => Wk.refl _) (fun _ => (lo_TDenied _))) (allL_c wkI (allL_c wkI (allL_c wkI (allL_c (WkR.ptr (fun _ => rfl)) (allL_c (WkR.ptr (fun _ => rfl)) (allL_c wkI allL_n))))))) (allL_c ⟨some _, rfl, BkR_c rfl CkR_nil⟩ (allL_c ⟨some _, rfl, BkR_c rfl (CkR_cons wkI (CkR_cons (wkr (loose_lst fun _ => (lo_TEdge _))) (CkR_cons (wkr (loose_lst fun _ => (loose_int _ _))) (CkR_cons (wkr (loose_lst fun _ => (loose_int _ _))) (CkR_cons wkI (CkR_cons (wkr (loose_lst fun _ => (lo_TOrdinary _))) CkR_nil))))))⟩ (allL_c ⟨some _, rfl, BkR_c rfl (CkR_cons wkI (CkR_cons (wkr (loose_lst fun _ => (lo_TDenied _))) CkR_nil))⟩ allL_n))))
    refine hK2 ?_; clear hK1 hK2 K1 K2
    refine HT_skip ?_
    refine Then_n ?_
    refine HT_fr DC_ok rfl fun K hK => ?_; (conv => whnf)
    refine blkK_of rfl ?_; (conv => whnf)
    refine And.intro rfl (And.intro (nle rfl) (And.intro rfl ?_)); (conv => whnf)
    refine hK _ _ _ ?_; clear hK K
    refine HT_seq ?_
    refine HT_fr DC_ok rfl fun K hK => ?_; (conv => whnf)
    refine hK _ _ _ ?_; clear hK K
    refine HT_block ?_
    replace h := W_bd h
    refine HT_lpK (body := law33_ReserveAdmits_b2 _ _) rfl h [2, 3, 9, 10, 12, 13, 14, 15] [9, 10, 13] [15] (fun kl kh ids b s => ⟨ofL ([(16, eI s.1)] ++ kl), ofH ([(nthN ids 0, .cells [eI s.2.Call, eI s.2.Edge, eI s.2.Failed, eI s.2.Set])] ++ kh), b + 64⟩) ?_; (conv => whnf); refine And.intro ?_ (fun s m h => HT_st ?_)
    · refine weak_k ?_; (conv => whnf)
      exact And.intro rfl (And.intro (allL_c wkI (allL_c wkI (allL_c wkI (allL_c (WkR.ptr (fun _ => rfl)) (allL_c (WkR.ptr (fun _ => rfl)) (allL_c wkI (allL_c (WkR.tok (fun _ => rfl) rfl (fun _ _ => Wk.refl _) (fun _ => (lo_TDenied _))) (allL_c wkI (allL_c (WkR.ptr (fun _ => rfl)) allL_n))))))))) (allL_c ⟨some _, rfl, BkR_c rfl (CkR_cons wkI (CkR_cons wkI (CkR_cons wkI (CkR_cons wkI CkR_nil))))⟩ (allL_c ⟨some _, rfl, BkR_c rfl (CkR_cons wkI (CkR_cons (wkr (loose_lst fun _ => (lo_TEdge _))) (CkR_cons (wkr (loose_lst fun _ => (loose_int _ _))) (CkR_cons (wkr (loose_lst fun _ => (loose_int _ _))) (CkR_cons wkI (CkR_cons (wkr (loose_lst fun _ => (lo_TOrdinary _))) CkR_nil))))))⟩ (allL_c ⟨some _, rfl, BkR_c rfl (CkR_cons wkI (CkR_cons (wkr (loose_lst fun _ => (lo_TDenied _))) CkR_nil))⟩ (allL_c ⟨some _, rfl, BkR_c rfl CkR_nil⟩ allL_n)))))
    replace h := W_blaw33_ReserveAdmits_b2 (W_bd h)
    refine HT_seq ?_
    refine HT_fr DC_ok rfl fun K hK => ?_; (conv => whnf)
    refine nlA rfl ?_; (conv => whnf)
    refine blkK_of rfl ?_; (conv => whnf)
    refine getK_of rfl ?_; (conv => whnf)
    refine hK _ _ _ ?_; clear hK K
    refine HT_if fun K1 K2 hK1 hK2 => ?_; (conv => whnf)
    refine cond_lk h (fun _ h => ?_) (fun _ h => ?_)
    · refine hK1 ?_; clear hK1 hK2 K1 K2
      refine HT_skip ?_
      refine Then_n ?_
      refine HT_seq ?_
      refine HT_block ?_
      refine HT_fr DC_ok rfl fun K hK => ?_; (conv => whnf)
      refine nlA rfl ?_; (conv => whnf)
      refine blkK_of rfl ?_; (conv => whnf)
      refine getK_of rfl ?_; (conv => whnf)
      refine ix_lk h fun _ h => ?_; (conv => whnf)
      refine getK_of rfl ?_; (conv => whnf)
      refine hK _ _ _ ?_; clear hK K
      replace h := W_jn h
      refine HT_if fun K1 K2 hK1 hK2 => ?_; (conv => whnf)
      refine cond_lk h (fun _ h => ?_) (fun _ h => ?_)
      · refine hK1 ?_; clear hK1 hK2 K1 K2
        refine HT_f DC_ok rfl fun K hK => ?_; (conv => whnf)
        refine nlA rfl ?_; (conv => whnf)
        refine blkK_of rfl ?_; (conv => whnf)
        refine getK_of rfl ?_; (conv => whnf)
        refine ix_lk h fun _ h => ?_; (conv => whnf)
        refine nlA rfl ?_; (conv => whnf)
        refine blkK_of rfl ?_; (conv => whnf)
        refine And.intro rfl (And.intro (nle rfl) (And.intro rfl ?_)); (conv => whnf)
        refine hK _ _ _ ?_; clear hK K
        refine InBlock_n ?_
        refine Then_n ?_
        refine HT_f DC_ok rfl fun K hK => ?_; (conv => whnf)
        refine hK _ _ _ ?_; clear hK K
        refine Then_n ?_
        replace h := W_xnx h
        refine ⟨_, h, ?_⟩
        refine weak_k ?_; (conv => whnf)
        exact And.intro rfl (And.intro (allL_c wkI (allL_c wkI (allL_c wkI (allL_c (WkR.ptr (fun _ => rfl)) (allL_c (WkR.ptr (fun _ => rfl)) (allL_c wkI (allL_c (WkR.tok (fun _ => rfl) rfl (fun _ _ => Wk.refl _) (fun _ => (lo_TDenied _))) (allL_c wkI (allL_c (WkR.ptr (fun _ => rfl)) allL_n))))))))) (allL_c ⟨some _, rfl, BkR_c rfl (CkR_cons wkI (CkR_cons wkI (CkR_cons wkI (CkR_cons wkI CkR_nil))))⟩ (allL_c ⟨some _, rfl, BkR_c rfl (CkR_cons wkI (CkR_cons (wkr (loose_lst fun _ => (lo_TEdge _))) (CkR_cons (wkr (loose_lst fun _ => (loose_int _ _))) (CkR_cons (wkr (loose_lst fun _ => (loose_int _ _))) (CkR_cons wkI (CkR_cons (wkr (loose_lst fun _ => (lo_TOrdinary _))) CkR_nil))))))⟩ (allL_c ⟨some _, rfl, BkR_c rfl (CkR_cons wkI (CkR_cons (wkr (loose_lst fun _ => (lo_TDenied _))) CkR_nil))⟩ (allL_c ⟨some _, rfl, BkR_c rfl CkR_nil⟩ allL_n)))))
      refine hK2 ?_; clear hK1 hK2 K1 K2
      refine HT_skip ?_
      refine InBlock_n ?_
      refine Then_n ?_
      refine HT_f DC_ok rfl fun K hK => ?_; (conv => whnf)
      refine hK _ _ _ ?_; clear hK K
      refine Then_n ?_
      replace h := W_xnx h
      refine ⟨_, h, ?_⟩
      refine weak_k ?_; (conv => whnf)
      exact And.intro rfl (And.intro (allL_c wkI (allL_c wkI (allL_c wkI (allL_c (WkR.ptr (fun _ => rfl)) (allL_c (WkR.ptr (fun _ => rfl)) (allL_c wkI (allL_c (WkR.tok (fun _ => rfl) rfl (fun _ _ => Wk.refl _) (fun _ => (lo_TDenied _))) (allL_c wkI (allL_c (WkR.ptr (fun _ => rfl)) allL_n))))))))) (allL_c ⟨some _, rfl, BkR_c rfl (CkR_cons wkI (CkR_cons wkI (CkR_cons wkI (CkR_cons wkI CkR_nil))))⟩ (allL_c ⟨some _, rfl, BkR_c rfl (CkR_cons wkI (CkR_cons (wkr (loose_lst fun _ => (lo_TEdge _))) (CkR_cons (wkr (loose_lst fun _ => (loose_int _ _))) (CkR_cons (wkr (loose_lst fun _ => (loose_int _ _))) (CkR_cons wkI (CkR_cons (wkr (loose_lst fun _ => (lo_TOrdinary _))) CkR_nil))))))⟩ (allL_c ⟨some _, rfl, BkR_c rfl (CkR_cons wkI (CkR_cons (wkr (loose_lst fun _ => (lo_TDenied _))) CkR_nil))⟩ (allL_c ⟨some _, rfl, BkR_c rfl CkR_nil⟩ allL_n)))))
    refine hK2 ?_; clear hK1 hK2 K1 K2
    refine HT_exit ?_
    refine Then_e ?_
    refine Then_e ?_
    refine InBlock_e ?_
    replace h := W_xbk h
    replace h := W_inl h
    refine Then_n ?_
    refine HT_f DC_ok rfl fun K hK => ?_; (conv => whnf)
    refine nlA rfl ?_; (conv => whnf)
    refine blkK_of rfl ?_; (conv => whnf)
    refine nlA rfl ?_; (conv => whnf)
    refine lt_lk (enc := eTDenied) (d := default) DC_ok h rfl rfl rfl ⟨nle rfl, nle rfl, rfl⟩ rfl ⟨⟨rfl, nle rfl⟩, trivial⟩ (fun h => ?_); (conv => whnf)
    refine ap_lk (enc := eTDenied) (d := default) DC_ok h (.inl rfl) rfl rfl rfl ⟨rfl, nle rfl, nle rfl, nle rfl, rfl⟩ (fun _ => rfl) (.inr (.inr ⟨_, _, rfl, rfl, rfl⟩)) (fun h => ?_); (conv => whnf)
    refine hK _ _ _ ?_; clear hK K
    refine InBlock_n ?_
    refine Then_n ?_
    refine HT_f DC_ok rfl fun K hK => ?_; (conv => whnf)
    refine hK _ _ _ ?_; clear hK K
    refine Then_n ?_
    replace h := W_xnx h
    refine ⟨_, h, ?_⟩
    refine weak_k ?_; (conv => whnf)
    exact And.intro rfl (And.intro (allL_c (WkR.tok (fun _ => rfl) rfl (fun _ _ => Wk.refl _) (fun _ => (lo_TDenied _))) (allL_c wkI (allL_c wkI (allL_c wkI (allL_c (WkR.ptr (fun _ => rfl)) (allL_c (WkR.ptr (fun _ => rfl)) (allL_c wkI allL_n))))))) (allL_c ⟨some _, rfl, BkR_c rfl CkR_nil⟩ (allL_c ⟨some _, rfl, BkR_c rfl (CkR_cons wkI (CkR_cons (wkr (loose_lst fun _ => (lo_TEdge _))) (CkR_cons (wkr (loose_lst fun _ => (loose_int _ _))) (CkR_cons (wkr (loose_lst fun _ => (loose_int _ _))) (CkR_cons wkI (CkR_cons (wkr (loose_lst fun _ => (lo_TOrdinary _))) CkR_nil))))))⟩ (allL_c ⟨some _, rfl, BkR_c rfl (CkR_cons wkI (CkR_cons (wkr (loose_lst fun _ => (lo_TDenied _))) CkR_nil))⟩ allL_n))))
  refine hK2 ?_; clear hK1 hK2 K1 K2
  refine HT_exit ?_
  refine Then_e ?_
  refine Then_e ?_
  refine InBlock_e ?_
  replace h := W_xbk h
  replace h := W_inl h
  refine Then_n ?_
  refine HT_fr DC_ok rfl fun K hK => ?_; (conv => whnf)
  refine lt_lk (enc := eTDenied) (d := default) DC_ok h rfl rfl rfl ⟨nle rfl, nle rfl, rfl⟩ rfl trivial (fun h => ?_); (conv => whnf)
  refine gd_lk_u h fun hg h => ?_
  replace h := W_lt h
  refine apcf_lk (enc := eTDenied) (d := default) DC_ok rfl rfl rfl ⟨rfl, nle rfl, nle rfl, nle rfl, rfl⟩ (fun _ => rfl) (fun _ => nofun) hg ?_; (conv => whnf)
  refine hK _ _ _ ?_; clear hK K
  refine HT_seq ?_
  refine HT_fr DC_ok rfl fun K hK => ?_; (conv => whnf)
  refine hK _ _ _ ?_; clear hK K
  replace h := W_jn h
  refine HT_if fun K1 K2 hK1 hK2 => ?_; (conv => whnf)
  refine cond_lk h (fun _ h => ?_) (fun _ h => ?_)
  · refine hK1 ?_; clear hK1 hK2 K1 K2
    refine HT_fr DC_ok rfl fun K hK => ?_; (conv => whnf)
    refine And.intro (by decide) ?_; (conv => whnf)
    replace h := W_bd h
    refine law33_pick_call h16 h (WkL.refl _) (fun _ h => ?_); (conv => whnf)
    refine hK _ _ _ ?_; clear hK K
    refine HT_f DC_ok rfl fun K hK => ?_; (conv => whnf)
    refine gd_lkN h (rfl) fun hx7 h => ?_; (conv => whnf)
    refine nlA rfl ?_; (conv => whnf)
    refine blkK_of rfl ?_; (conv => whnf)
    refine part_flN (enc := eTDenied) (d := default) (fun _ => rfl) (rfl) hx7 ?_; (conv => whnf)
    replace h := W_bd h
    refine ref33_BentDenied_call h17 h (WkL.refl _) (fun _ h => ?_); (conv => whnf)
    refine gd_lkN h (rfl) fun hx8 h => ?_; (conv => whnf)
    refine blkK_of rfl ?_; (conv => whnf)
    refine st_lk (enc := eTDenied) (d := default) (q := 0) h (fun _ => rfl) (rfl) hx8 rfl (nle rfl) rfl rfl (fun h => ?_); (conv => whnf)
    refine hK _ _ _ ?_; clear hK K
    refine Then_n ?_
    refine HT_frzSK 17 (enc := eTDenied) (e := 45) default (ElOk_agg DC_ok rfl rfl (fun _ => rfl) (fun _ => rfl)) ?_; (conv => whnf); refine ⟨_, _, rfl, (lenset rfl).symm, rfl, ?_⟩
    refine HT_fr DC_ok rfl fun K hK => ?_; (conv => whnf)
    replace h := W_jn h
    refine nlA rfl ?_; (conv => whnf)
    refine blkK_of rfl ?_; (conv => whnf)
    refine nlA rfl ?_; (conv => whnf)
    replace h := W_bd h
    refine reserve_Check_call h15 h (WkL_cons (Wk.refl _) (WkL_cons (Wk_agg (WkL_cons (Wk.refl _) (WkL_cons Wk_free WkL_nil))) WkL_nil)) (fun _ h => ?_); (conv => whnf)
    refine cond_lk h (fun _ h => ?_) (fun _ h => ?_) <;> (conv => whnf)
    · refine nlA rfl ?_; (conv => whnf)
      refine blkK_of rfl ?_; (conv => whnf)
      refine nlA rfl ?_; (conv => whnf)
      replace h := W_bd h
      refine reserve_Check_call h15 h (WkL.refl _) (fun _ h => ?_); (conv => whnf)
      refine cond_lk h (fun _ h => ?_) (fun _ h => ?_) <;> (conv => whnf)
      · refine nlA rfl ?_; (conv => whnf)
        refine blkK_of rfl ?_; (conv => whnf)
        refine nlA rfl ?_; (conv => whnf)
        refine nlA rfl ?_; (conv => whnf)
        refine blkK_of rfl ?_; (conv => whnf)
        refine getK_of rfl ?_; (conv => whnf)
        replace h := W_bd h
        refine reserve_Check_call h15 h (WkL.refl _) (fun _ h => ?_); (conv => whnf)
        refine hK _ _ _ ?_; clear hK K
        refine HT_ret ?_
        replace h := W_some h
        refine PostP_r DC_ok fun K hK => ?_; (conv => whnf)
        refine hK _ ?_; clear hK K
        cases h
        exact Wk.refl _
      refine hK _ _ _ ?_; clear hK K
      refine HT_ret ?_
      replace h := W_some h
      refine PostP_r DC_ok fun K hK => ?_; (conv => whnf)
      refine hK _ ?_; clear hK K
      cases h
      exact Wk.refl _
    refine hK _ _ _ ?_; clear hK K
    refine HT_ret ?_
    replace h := W_some h
    refine PostP_r DC_ok fun K hK => ?_; (conv => whnf)
    refine hK _ ?_; clear hK K
    cases h
    exact Wk.refl _
  refine hK2 ?_; clear hK1 hK2 K1 K2
  refine HT_skip ?_
  refine Then_n ?_
  refine HT_frzSK 17 (enc := eTDenied) (e := 45) default (ElOk_agg DC_ok rfl rfl (fun _ => rfl) (fun _ => rfl)) ?_; (conv => whnf); refine ⟨_, _, rfl, rfl, rfl, ?_⟩
  refine HT_fr DC_ok rfl fun K hK => ?_; (conv => whnf)
  replace h := W_jn h
  refine nlA rfl ?_; (conv => whnf)
  refine blkK_of rfl ?_; (conv => whnf)
  refine nlA rfl ?_; (conv => whnf)
  replace h := W_bd h
  refine reserve_Check_call h15 h (WkL_cons (Wk.refl _) (WkL_cons (Wk_agg (WkL_cons (Wk.refl _) (WkL_cons Wk_free WkL_nil))) WkL_nil)) (fun _ h => ?_); (conv => whnf)
  refine cond_lk h (fun _ h => ?_) (fun _ h => ?_) <;> (conv => whnf)
  · refine nlA rfl ?_; (conv => whnf)
    refine blkK_of rfl ?_; (conv => whnf)
    refine nlA rfl ?_; (conv => whnf)
    replace h := W_bd h
    refine reserve_Check_call h15 h (WkL.refl _) (fun _ h => ?_); (conv => whnf)
    refine cond_lk h (fun _ h => ?_) (fun _ h => ?_) <;> (conv => whnf)
    · refine nlA rfl ?_; (conv => whnf)
      refine blkK_of rfl ?_; (conv => whnf)
      refine nlA rfl ?_; (conv => whnf)
      refine nlA rfl ?_; (conv => whnf)
      refine blkK_of rfl ?_; (conv => whnf)
      refine getK_of rfl ?_; (conv => whnf)
      replace h := W_bd h
      refine reserve_Check_call h15 h (WkL.refl _) (fun _ h => ?_); (conv => whnf)
      refine hK _ _ _ ?_; clear hK K
      refine HT_ret ?_
      replace h := W_some h
      refine PostP_r DC_ok fun K hK => ?_; (conv => whnf)
      refine hK _ ?_; clear hK K
      cases h
      exact Wk.refl _
    refine hK _ _ _ ?_; clear hK K
    refine HT_ret ?_
    replace h := W_some h
    refine PostP_r DC_ok fun K hK => ?_; (conv => whnf)
    refine hK _ ?_; clear hK K
    cases h
    exact Wk.refl _
  refine hK _ _ _ ?_; clear hK K
  refine HT_ret ?_
  replace h := W_some h
  refine PostP_r DC_ok fun K hK => ?_; (conv => whnf)
  refine hK _ ?_; clear hK K
  cases h
  exact Wk.refl _
end Go.Proofs.Ytkjccabdpeldhaa
namespace Go.Proofs.Ytkjccabdpeldhaa
open Go Go.Eng
set_option maxRecDepth 100000
theorem bent_ok {d : TDenied} (hd : okD d) {a2 a3 : Int} (o2 : okI a2) (o3 : okI a3) : ∃ d', ref33_BentDenied_F d a2 a3 = some d' ∧ okD d' := by
  unfold ref33_BentDenied_F
  rw [pick_r33 a2 4 o2 (by omega), bd_s]
  simp only [jn_d, cn_beq]
  split
  · exact ⟨_, rfl, o3, hd.2⟩
  · split
    · exact ⟨_, rfl, hd⟩
    · split
      · exact ⟨_, rfl, hd.1, o3⟩
      · exact ⟨_, rfl, hd⟩
theorem find_ok {L l : List TDenied} {i : Nat} {e : Int} (hL : ∀ d ∈ L, okD d) (hl : L.length ≤ 8) (hi : i < 8) {A : Int} : ∃ d x, lp (law33_ReserveAdmits_b2 (l, (i : Int)) (⟨A, L⟩, e)) FU (0, (⟨(i : Int), -1, 0, 1⟩ : TDenied)) = some (.inl (x, d)) ∧ okD d := by
  obtain ⟨s, e, h1, h2⟩ := lp_fold (body := law33_ReserveAdmits_b2 (l, (i : Int)) (⟨A, L⟩, e)) (fun k s => s.1 = (k : Int) ∧ okD s.2) L.length (by omega) (fun k s hk ⟨h1, h2⟩ => by
    obtain ⟨j, d⟩ := s
    simp only at h1 h2
    subst h1
    unfold law33_ReserveAdmits_b2
    simp only [cn_dec, jn_d]
    rw [if_pos (by omega), wr_id (by omega) (by omega)]
    simp only [ix_n hk, cn_beq]
    split
    · exact ⟨_, rfl, rfl, hL _ (getD_mem hk)⟩
    · exact ⟨_, rfl, rfl, h2⟩) (fun s ⟨h1, _⟩ => by
    unfold law33_ReserveAdmits_b2
    simp only [cn_dec]
    rw [if_neg (by omega)]) (0, ⟨(i : Int), -1, 0, 1⟩) ⟨rfl, ⟨by simp only; omega, by simp only; omega⟩, ⟨by simp, by simp⟩⟩
  exact ⟨s.2, s.1, e, h2⟩
theorem reasons_ok {r : TReserve} (h : RV r) {L : List TDenied} {e A : Int} (hL : ∀ d ∈ L, okD d) (hl : L.length ≤ 8) (s : Nat) : ∃ l x, lp (law33_ReserveAdmits_b1 r (⟨A, L⟩, e) (s : Int)) FU ([], 0) = some (.inl (l, x)) ∧ (∀ d ∈ l, okD d) ∧ l.length ≤ 8 := by
  have hkl := h.kl
  obtain ⟨z, e, h1, h2, h3⟩ := lp_fold (body := law33_ReserveAdmits_b1 r (⟨A, L⟩, e) (s : Int)) (fun k x => x.2 = (k : Int) ∧ (∀ d ∈ x.1, okD d) ∧ x.1.length ≤ k) r.Calls.length (by omega) (fun k x hk ⟨h1, h2, h3⟩ => by
    obtain ⟨l, i⟩ := x
    simp only at h1 h2 h3
    subst h1
    unfold law33_ReserveAdmits_b1
    simp only [cn_dec, jn_d, cn_beq]
    rw [if_pos (by omega), gd_p _ (by omega), wr_id (by omega) (by omega)]
    split
    · exact ⟨_, rfl, rfl, h2, by simp only; omega⟩
    · obtain ⟨d, x, e, hd⟩ := find_ok (l := l) (i := k) (e := e) (A := A) hL hl (by omega)
      rw [e, bd_s, smK_l, lt_d, ap_p (by rw [List.length_singleton]; omega)]
      refine ⟨_, rfl, rfl, fun d' hd' => ?_, by simp; omega⟩
      rcases List.mem_append.1 hd' with q | q
      · exact h2 d' q
      · rw [List.mem_singleton.1 q]; exact hd) (fun x ⟨h1, _⟩ => by
    unfold law33_ReserveAdmits_b1
    simp only [cn_dec]
    rw [if_neg (by omega)]) ([], 0) ⟨rfl, by simp, by simp⟩
  exact ⟨z.1, z.2, e, h2, by omega⟩
theorem tdiv_ok {a : Int} (o : okI a) : okI (Int.tdiv a 4) := by
  unfold okI at *
  rcases Int.le_total 0 a with q | q
  · rw [Int.tdiv_eq_ediv_of_nonneg q]; omega
  · obtain ⟨b, rfl⟩ : ∃ b, a = -b := ⟨-a, by omega⟩
    rw [Int.neg_tdiv, Int.tdiv_eq_ediv_of_nonneg (by omega)]; omega
theorem plain3 (a0 : TNumbers) (a1 a2 a3 : Int) (o0 : okTNumbers a0) (o1 : okI a1) (o2 : okI a2) (o3 : okI a3) : law33_ReserveAdmits_F a0 a1 a2 a3 = some true := by
  unfold law33_ReserveAdmits_F
  rw [sane_ok, bd_s]
  simp only [Bool.not_true, cn_f, jn_d]
  obtain ⟨r, e, hr⟩ := made_ok a0 o0
  have h := hr.toRV
  have hkl := h.kl
  rw [e, bd_s]
  rcases admit_ok h with ⟨q1, q2⟩ | ⟨q1, q2⟩
  · obtain ⟨b, e1, hb⟩ := Safe_ok h (s := 0) (Nat.two_pow_pos _)
    have hb0 : b = false := by
      cases b
      · rfl
      · exact absurd (hb.1 rfl) q1
    subst hb0
    have e2 : reserve_Safe_F r 0 = some false := e1
    have e3 : reserve_Check_F r ⟨0, []⟩ = some false := by
      unfold reserve_Check_F
      rw [e2, bd_s, Bool.not_false, cn_t]
    rw [q2, bd_s, cn_bne, if_neg (by simp only; omega), e2, bd_s, Bool.not_false, cn_t, e3, bd_s]
    rfl
  · obtain ⟨s, hs, e2⟩ := set_of h o1
    obtain ⟨dn1, dn2⟩ := den_ok h
    rw [q2, bd_s, cn_bne, if_pos rfl, check_yes h q1, bd_s, Bool.not_true, cn_f, safe_T h (adm_lt r _) (adm_safe q1 _), bd_s, Bool.not_true, cn_f, gd_p _ (by omega), e2, bd_s, cn_beq]
    by_cases q : (s : Int) = ((admN r r.Calls.length : Nat) : Int)
    · rw [if_pos q]
    rw [if_neg q]
    have hne : s ≠ admN r r.Calls.length := fun q3 => q (by rw [q3])
    obtain ⟨l, x, e3, l1, l2⟩ := reasons_ok h (e := 0) (A := ((admN r r.Calls.length : Nat) : Int)) dn1 dn2 s
    rw [e3, bd_s, smK_l, lt_d, gd_p _ (by simp only; omega), lt_d]
    simp only
    have no : ∀ L : List TDenied, (∀ d ∈ L, okD d) → L.length ≤ 8 → reserve_Check_F r ⟨(s : Int), L⟩ = some false := fun L h1 h2 => check_no h hs hne h1 (by omega)
    simp only [no l l1 l2, no _ dn1 dn2, bd_s, Bool.not_false, cn_t]
    by_cases q4 : (l.length : Int) > 0
    · rw [decide_eq_true q4, cn_t, wr_id (by have := tdiv_ok o2; exact this.1) (by have := tdiv_ok o2; exact this.2), pick_law _ _ (tdiv_ok o2) (by omega), bd_s]
      obtain ⟨p1, p2⟩ := pickZ_lt (Int.tdiv a2 4) (n := (l.length : Int)) (by omega)
      generalize pickZ (Int.tdiv a2 4) (l.length : Int) = k at p1 p2
      rw [gd_p _ ⟨p1, p2⟩]
      obtain ⟨d', e4, hd'⟩ := bent_ok (d := l.getD k.toNat default) (l1 _ (getD_mem (by omega))) o2 o3
      rw [e4, bd_s, gd_p _ ⟨p1, p2⟩, st_d]
      rw [no (l.set k.toNat d') (fun d hd => by
        rcases mem_set_or hd with q5 | q5
        · exact l1 d q5
        · rw [q5]; exact hd') (by rw [List.length_set]; exact l2), bd_s, Bool.not_false, cn_t]
    · rw [decide_eq_false q4, cn_f]
end Go.Proofs.Ytkjccabdpeldhaa
