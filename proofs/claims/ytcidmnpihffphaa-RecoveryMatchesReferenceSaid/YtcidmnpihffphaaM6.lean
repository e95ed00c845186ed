import Derived.Test.YtcidmnpihffphaaM5
import Derived.Test.YtcidmnpihffphaaM3
set_option linter.unusedVariables false
set_option linter.unusedSimpArgs false
set_option linter.unusedSectionVars false
namespace Go.Proofs.Ytcidmnpihffphaa
open Go Go.Eng
set_option maxHeartbeats 0
set_option maxRecDepth 100000
def ref34_Plan_b2 (a0 : TRegion) (s7 : (List TTicket) × Int × (List Int)) (y6 : List TAttempt) (s11 : TTicket) : Option (Ct TTicket ((List TTicket) × Int)) := jn (fun p12 : Bool =>
    cn p12 (some (.nx (⟨s11.Caller, s11.First, (wr (s11.At + 1))⟩ : TTicket))) (some (.bk s11))) fun k13 => ix y6 default s7.2.1 fun e14 =>
    cn (!e14.Urgent) (gd (0 ≤ s11.At ∧ s11.At < (s7.2.2.length : Int)) (bd (ref34_capacity_F a0 s11.At) fun y15 =>
    k13 (decide ((s7.2.2.getD (s11.At).toNat default) ≥ y15)))) (k13 false)
theorem W_bref34_Plan_b2 {a0 : TRegion} {s7 : (List TTicket) × Int × (List Int)} {y6 : List TAttempt} {s11 : TTicket} {Φ : Ct TTicket ((List TTicket) × Int) → Prop} (h : W (ref34_Plan_b2 a0 s7 y6 s11) Φ) : W (jn (fun p12 : Bool => cn p12 (some (.nx (⟨s11.Caller, s11.First, (wr (s11.At + 1))⟩ : TTicket))) (some (.bk s11))) fun k13 => ix y6 default s7.2.1 fun e14 =>
    cn (!e14.Urgent) (gd (0 ≤ s11.At ∧ s11.At < (s7.2.2.length : Int)) (bd (ref34_capacity_F a0 s11.At) fun y15 =>
    k13 (decide ((s7.2.2.getD (s11.At).toNat default) ≥ y15)))) (k13 false)) Φ := h
def ref34_Plan_b1 (a0 : TRegion) (y6 : List TAttempt) (s7 : (List TTicket) × Int × (List Int)) : Option (Ct ((List TTicket) × Int × (List Int)) ((List TTicket) × Int)) :=
    cn (decide (s7.2.1 < (y6.length : Int))) (ix y6 default s7.2.1 fun e8 => ix y6 default s7.2.1 fun e9 => ix y6 default s7.2.1 fun e10 =>
    bd (lp (ref34_Plan_b2 a0 s7 y6) FU (⟨e8.Caller, e9.At, e10.At⟩ : TTicket)) fun c16 => smK c16 (fun s17 => ix y6 default s7.2.1 fun e19 => jn (fun p20 : (List Int) =>
    lt ([s17] : List TTicket) fun l23 => ap s7.1 l23 fun l24 => some (.nx (l24, (wr (s7.2.1 + 1)), p20))) fun k21 =>
    cn (!e19.Urgent) (gd (0 ≤ s17.At ∧ s17.At < (s7.2.2.length : Int)) (gd (0 ≤ s17.At ∧ s17.At < (s7.2.2.length : Int)) (st s7.2.2 (s17.At) (wr ((s7.2.2.getD (s17.At).toNat default) + 1)) fun l22 =>
    k21 l22))) (k21 s7.2.2)) (fun r18 => some (.rt r18))) (some (.bk (s7.1, s7.2.1, s7.2.2)))
theorem W_bref34_Plan_b1 {a0 : TRegion} {y6 : List TAttempt} {s7 : (List TTicket) × Int × (List Int)} {Φ : Ct ((List TTicket) × Int × (List Int)) ((List TTicket) × Int) → Prop} (h : W (ref34_Plan_b1 a0 y6 s7) Φ) : W (cn (decide (s7.2.1 < (y6.length : Int))) (ix y6 default s7.2.1 fun e8 => ix y6 default s7.2.1 fun e9 => ix y6 default s7.2.1 fun e10 =>
    bd (lp (ref34_Plan_b2 a0 s7 y6) FU (⟨e8.Caller, e9.At, e10.At⟩ : TTicket)) fun c16 => smK c16 (fun s17 => ix y6 default s7.2.1 fun e19 => jn (fun p20 : (List Int) =>
    lt ([s17] : List TTicket) fun l23 => ap s7.1 l23 fun l24 => some (.nx (l24, (wr (s7.2.1 + 1)), p20))) fun k21 =>
    cn (!e19.Urgent) (gd (0 ≤ s17.At ∧ s17.At < (s7.2.2.length : Int)) (gd (0 ≤ s17.At ∧ s17.At < (s7.2.2.length : Int)) (st s7.2.2 (s17.At) (wr ((s7.2.2.getD (s17.At).toNat default) + 1)) fun l22 =>
    k21 l22))) (k21 s7.2.2)) (fun r18 => some (.rt r18))) (some (.bk (s7.1, s7.2.1, s7.2.2)))) Φ := h
def ref34_Plan_F (a0 : TRegion) (a1 : List TAttempt) : Option ((List TTicket) × Int) := jn (fun p1 : (List TAttempt) × Bool =>
    cn p1.2 (some ([], 340)) (gd ((0 : Int) ≤ (1042 : Int) ∧ (1042 : Int) ≤ (1048576 : Int)) (lt (List.replicate ((1042 : Int)).toNat (0 : Int)) fun l5 =>
    bd (ref34_Ordered_F p1.1) fun y6 => bd (lp (ref34_Plan_b1 a0 y6) FU ([], 0, l5)) fun c25 => smK c25 (fun s26 => some (s26.1, 0)) (fun r27 => some r27)))) fun k2 =>
    bd (ref34_Valid_F a0) fun y3 => cn (!y3) (k2 (a1, true)) (bd (ref34_Ready_F a1) fun y4 => k2 (a1, (!y4)))
def ref34_Plan_S : List AV → AV → Prop := fun args r => ∃ a0 a1, args = [eTRegion a0, (eL 3 eTAttempt default) a1] ∧ W (ref34_Plan_F a0 a1) fun y => r = (.tup [(eL 3 eTTicket default) y.1, eI y.2])
theorem ref34_Plan_ok {T : Tbl} (hT : TOk Try.prog T) (hpf : PfOk T PF) (h25 : T 25 = pureR ref34_Valid_S) (h27 : T 27 = pureR ref34_Ready_S) (h38 : T 38 = pureR ref34_Ordered_S) (h43 : T 43 = pureR ref34_capacity_S) : FOk Try.prog 19 (pureR ref34_Plan_S) := by
  refine FOk_pure hT hpf Try.func19 rfl Try.ntmps19 Try.results19 (by decide) ?_
  rintro args r ⟨a0, a1, rfl, h⟩
  refine ⟨nle rfl, ?_, ?_⟩
  · exact (loose_cons (lo_TRegion _) (loose_cons (loose_lst fun _ => (lo_TAttempt _)) loose_nil))
  rw [ref34_Plan_F.eq_1] at h
  refine HT_fr DC_ok rfl fun K hK => ?_; (conv => whnf)
  refine hK _ _ _ ?_; clear hK K
  refine HT_seq ?_
  refine HT_fr DC_ok rfl fun K hK => ?_; (conv => whnf)
  replace h := W_jn h
  refine nlA rfl ?_; (conv => whnf)
  refine blkK_of rfl ?_; (conv => whnf)
  refine nlA rfl ?_; (conv => whnf)
  replace h := W_bd h
  refine ref34_Valid_call h25 h (WkL.refl _) (fun _ h => ?_); (conv => whnf)
  refine cond_lk h (fun _ h => ?_) (fun _ h => ?_) <;> (conv => whnf)
  · refine hK _ _ _ ?_; clear hK K
    refine HT_if fun K1 K2 hK1 hK2 => ?_; (conv => whnf)
    refine hK1 ?_; clear hK1 hK2 K1 K2
    replace h := W_cnT h
    refine HT_fr DC_ok rfl fun K hK => ?_; (conv => whnf)
    refine hK _ _ _ ?_; clear hK K
    refine HT_ret ?_
    refine Then_r ?_
    replace h := W_some h
    refine PostP_r DC_ok fun K hK => ?_; (conv => whnf)
    refine hK _ ?_; clear hK K
    cases h
    exact Wk_tup (WkL_cons Wk_nil (WkL_cons (Wk.refl _) WkL_nil))
  replace h := W_bd h
  refine ref34_Ready_call h27 h (WkL.refl _) (fun _ h => ?_); (conv => whnf)
  refine hK _ _ _ ?_; clear hK K
  refine HT_if fun K1 K2 hK1 hK2 => ?_; (conv => whnf)
  refine cond_lk h (fun _ h => ?_) (fun _ h => ?_)
  · refine hK1 ?_; clear hK1 hK2 K1 K2
    refine HT_fr DC_ok rfl fun K hK => ?_; (conv => whnf)
    refine hK _ _ _ ?_; clear hK K
    refine HT_ret ?_
    refine Then_r ?_
    replace h := W_some h
    refine PostP_r DC_ok fun K hK => ?_; (conv => whnf)
    refine hK _ ?_; clear hK K
    cases h
    exact Wk_tup (WkL_cons Wk_nil (WkL_cons (Wk.refl _) WkL_nil))
  refine hK2 ?_; clear hK1 hK2 K1 K2
  refine HT_skip ?_
  refine Then_n ?_
  refine HT_fr DC_ok rfl fun K hK => ?_; (conv => whnf)
  refine hK _ _ _ ?_; clear hK K
  refine HT_fr DC_ok rfl fun K hK => ?_; (conv => whnf)
  refine mks_lk (enc := eI) DC_ok (0 : Int) h rfl rfl ⟨nle rfl, nle rfl, rfl⟩ rfl (fun h => ?_); (conv => whnf)
  refine hK _ _ _ ?_; clear hK K
  refine HT_fr DC_ok rfl fun K hK => ?_; (conv => whnf)
  replace h := W_bd h
  refine ref34_Ordered_call h38 h (WkL.refl _) (fun _ h => ?_); (conv => whnf)
  refine hK _ _ _ ?_; clear hK K
  refine HT_seq ?_
  refine HT_fr DC_ok rfl fun K hK => ?_; (conv => whnf)
  refine hK _ _ _ ?_; clear hK K
  refine HT_block ?_
  replace h := W_bd h
  refine HT_lpR (body := ref34_Plan_b1 _ _) rfl h [2, 8] [2] [] [] (fun kl kh kr ids b s => ⟨ofL ([(6, .lst (.tok (b + 0)) 3 s.1.length (fun j => eTTicket (s.1.getD j default))), (9, eI s.2.1), (7, .so (b + 64) 0 s.2.2.length 1)] ++ kl), ofH (([(b + 0, .cells [])] ++ kh) ++ ([(b + 64, .cells (flE (ceE eI) s.2.2))] ++ kr)), b + 192⟩) ?_; (conv => whnf); refine And.intro ?_ (fun s m h => HT_st ?_)
  · refine weak_r ?_; (conv => whnf)
    exact And.intro rfl (And.intro (allL_c (WkR.nil (fun _ => rfl)) (allL_c wkI (allL_c (WkR.so (fun _ => rfl)) (allL_c (WkR.ptr (fun _ => rfl)) (allL_c (wkr (loose_lst fun _ => (lo_TAttempt _))) allL_n))))) (allL_c ⟨none, rfl, BkR_n⟩ (allL_c ⟨some _, rfl, BkR_c rfl (CkR_cons (wkr (loose_lst fun _ => (lo_TGrowth _))) (CkR_cons wkI CkR_nil))⟩ (allL_c ⟨some _, rfl, BkR_r rfl (fun _ => (loose_cons (loose_int _ _) loose_nil))⟩ allL_n))))
  replace h := W_bref34_Plan_b1 (W_bd h)
  refine HT_seq ?_
  refine HT_fr DC_ok rfl fun K hK => ?_; (conv => whnf)
  refine hK _ _ _ ?_; clear hK K
  refine HT_if fun K1 K2 hK1 hK2 => ?_; (conv => whnf)
  refine cond_lk h (fun _ h => ?_) (fun _ h => ?_)
  · refine hK1 ?_; clear hK1 hK2 K1 K2
    refine HT_skip ?_
    refine Then_n ?_
    refine HT_seq ?_
    refine HT_block ?_
    refine HT_fd DC_ok mix_ok rfl (by kernel_rfl) fun K hK => ?_; (conv => whnf)
    refine ix_lk h fun _ h => ?_; (conv => whnf)
    refine getK_of rfl ?_; (conv => whnf)
    refine ix_lk h fun _ h => ?_; (conv => whnf)
    refine getK_of rfl ?_; (conv => whnf)
    refine ix_lk h fun _ h => ?_; (conv => whnf)
    refine getK_of rfl ?_; (conv => whnf)
    refine blkK_of rfl ?_; (conv => whnf)
    refine And.intro rfl (And.intro (nle rfl) (And.intro rfl ?_)); (conv => whnf)
    refine hK _ _ _ ?_; clear hK K
    refine HT_seq ?_
    refine HT_block ?_
    replace h := W_bd h
    refine HT_lpR (body := ref34_Plan_b2 _ _ _) rfl h [2, 6, 7, 8, 9, 10] [2, 6] [7] [10] (fun kl kh kr ids b s => ⟨ofL ([] ++ kl), ofH (([(nthN ids 0, .cells [eI s.Caller, eI s.First, eI s.At])] ++ kh) ++ ([] ++ kr)), b + 64⟩) ?_; (conv => whnf); refine And.intro ?_ (fun s m h => HT_st ?_)
    · refine weak_r ?_; (conv => whnf)
      exact And.intro rfl (And.intro (allL_c (WkR.ptr (fun _ => rfl)) (allL_c (WkR.tok (fun _ => rfl) rfl (fun _ _ => Wk.refl _) (fun _ => (lo_TTicket _))) (allL_c (WkR.so (fun _ => rfl)) (allL_c (wkr (loose_lst fun _ => (lo_TAttempt _))) (allL_c wkI (allL_c (WkR.ptr (fun _ => rfl)) allL_n)))))) (allL_c ⟨some _, rfl, BkR_c rfl (CkR_cons wkI (CkR_cons wkI (CkR_cons wkI CkR_nil)))⟩ (allL_c ⟨some _, rfl, BkR_c rfl (CkR_cons (wkr (loose_lst fun _ => (lo_TGrowth _))) (CkR_cons wkI CkR_nil))⟩ (allL_c ⟨some _, rfl, BkR_c rfl CkR_nil⟩ (allL_c ⟨some _, rfl, BkR_r rfl (fun _ => (loose_cons (loose_int _ _) loose_nil))⟩ allL_n)))))
    replace h := W_bref34_Plan_b2 (W_bd h)
    refine HT_seq ?_
    refine HT_fd DC_ok mix_ok rfl (by kernel_rfl) fun K hK => ?_; (conv => whnf)
    replace h := W_jn h
    refine ix_lk h fun _ h => ?_; (conv => whnf)
    refine getK_of rfl ?_; (conv => whnf)
    refine cond_lk h (fun _ h => ?_) (fun _ h => ?_) <;> (conv => whnf)
    · refine nlA rfl ?_; (conv => whnf)
      refine blkK_of rfl ?_; (conv => whnf)
      refine getK_of rfl ?_; (conv => whnf)
      refine gd_lkN h (rfl) fun hx194 h => ?_; (conv => whnf)
      refine nlA rfl ?_; (conv => whnf)
      refine blkK_of rfl ?_; (conv => whnf)
      refine get_flN (enc := eI) (d := default) (q := 0) (fun _ => rfl) (rfl) hx194 (nle rfl) rfl ?_; (conv => whnf)
      refine nlA rfl ?_; (conv => whnf)
      refine blkK_of rfl ?_; (conv => whnf)
      refine nlA rfl ?_; (conv => whnf)
      refine nlA rfl ?_; (conv => whnf)
      refine blkK_of rfl ?_; (conv => whnf)
      refine getK_of rfl ?_; (conv => whnf)
      replace h := W_bd h
      refine ref34_capacity_call h43 h (WkL.refl _) (fun _ h => ?_); (conv => whnf)
      refine hK _ _ _ ?_; clear hK K
      refine HT_if fun K1 K2 hK1 hK2 => ?_; (conv => whnf)
      refine cond_lk h (fun _ h => ?_) (fun _ h => ?_)
      · refine hK1 ?_; clear hK1 hK2 K1 K2
        refine HT_skip ?_
        refine Then_n ?_
        refine HT_block ?_
        refine HT_f DC_ok rfl fun K hK => ?_; (conv => whnf)
        refine nlA rfl ?_; (conv => whnf)
        refine blkK_of rfl ?_; (conv => whnf)
        refine getK_of rfl ?_; (conv => whnf)
        refine blkK_of rfl ?_; (conv => whnf)
        refine And.intro rfl (And.intro (nle rfl) (And.intro rfl ?_)); (conv => whnf)
        refine hK _ _ _ ?_; clear hK K
        refine InBlock_n ?_
        refine Then_n ?_
        replace h := W_xnx h
        refine ⟨_, h, ?_⟩
        refine weak_r ?_; (conv => whnf)
        exact And.intro rfl (And.intro (allL_c (WkR.ptr (fun _ => rfl)) (allL_c (WkR.tok (fun _ => rfl) rfl (fun _ _ => Wk.refl _) (fun _ => (lo_TTicket _))) (allL_c (WkR.so (fun _ => rfl)) (allL_c (wkr (loose_lst fun _ => (lo_TAttempt _))) (allL_c wkI (allL_c (WkR.ptr (fun _ => rfl)) allL_n)))))) (allL_c ⟨some _, rfl, BkR_c rfl (CkR_cons wkI (CkR_cons wkI (CkR_cons wkI CkR_nil)))⟩ (allL_c ⟨some _, rfl, BkR_c rfl (CkR_cons (wkr (loose_lst fun _ => (lo_TGrowth _))) (CkR_cons wkI CkR_nil))⟩ (allL_c ⟨some _, rfl, BkR_c rfl CkR_nil⟩ (allL_c ⟨some _, rfl, BkR_r rfl (fun _ => (loose_cons (loose_int _ _) loose_nil))⟩ allL_n)))))
      refine hK2 ?_; clear hK1 hK2 K1 K2
      refine HT_exit ?_
      refine Then_e ?_
      refine Then_e ?_
      refine InBlock_e ?_
      replace h := W_xbk h
      replace h := W_inl h
      refine Then_n ?_
      refine HT_seq ?_
      refine HT_fr DC_ok rfl fun K hK => ?_; (conv => whnf)
      refine ix_lk h fun _ h => ?_; (conv => whnf)
      refine getK_of rfl ?_; (conv => whnf)
      refine hK _ _ _ ?_; clear hK K
      replace h := W_jn h
      refine HT_if fun K1 K2 hK1 hK2 => ?_; (conv => whnf)
      refine cond_lk h (fun _ h => ?_) (fun _ h => ?_)
      · refine hK1 ?_; clear hK1 hK2 K1 K2
        refine HT_f DC_ok rfl fun K hK => ?_; (conv => whnf)
        refine nlA rfl ?_; (conv => whnf)
        refine blkK_of rfl ?_; (conv => whnf)
        refine getK_of rfl ?_; (conv => whnf)
        refine gd_lkN h (rfl) fun hx197 h => ?_; (conv => whnf)
        refine nlA rfl ?_; (conv => whnf)
        refine blkK_of rfl ?_; (conv => whnf)
        refine get_flN (enc := eI) (d := default) (q := 0) (fun _ => rfl) (rfl) hx197 (nle rfl) rfl ?_; (conv => whnf)
        refine gd_lkN h (rfl) fun hx198 h => ?_; (conv => whnf)
        refine blkK_of rfl ?_; (conv => whnf)
        refine st_lk (enc := eI) (d := default) (q := 0) h (fun _ => rfl) (rfl) hx198 rfl (nle rfl) rfl rfl (fun h => ?_); (conv => whnf)
        refine hK _ _ _ ?_; clear hK K
        refine Then_n ?_
        refine HT_f DC_ok rfl fun K hK => ?_; (conv => whnf)
        refine nlA rfl ?_; (conv => whnf)
        refine blkK_of rfl ?_; (conv => whnf)
        refine nlA rfl ?_; (conv => whnf)
        refine lt_lk (enc := eTTicket) (d := default) DC_ok h rfl rfl rfl ⟨nle rfl, nle rfl, rfl⟩ rfl ⟨⟨rfl, nle rfl⟩, trivial⟩ (fun h => ?_); (conv => whnf)
        refine ap_lk (enc := eTTicket) (d := default) DC_ok h (.inl rfl) rfl rfl rfl ⟨rfl, nle rfl, nle rfl, nle rfl, rfl⟩ (fun _ => rfl) (.inr (.inr ⟨_, _, rfl, rfl, rfl⟩)) (fun h => ?_); (conv => whnf)
        refine hK _ _ _ ?_; clear hK K
        refine InBlock_n ?_
        refine Then_n ?_
        refine HT_f DC_ok rfl fun K hK => ?_; (conv => whnf)
        refine hK _ _ _ ?_; clear hK K
        refine Then_n ?_
        replace h := W_xnx h
        refine ⟨_, h, ?_⟩
        refine weak_r ?_; (conv => whnf)
        exact And.intro rfl (And.intro (allL_c (WkR.tok (fun _ => rfl) rfl (fun _ _ => Wk.refl _) (fun _ => (lo_TTicket _))) (allL_c wkI (allL_c (WkR.soN (fun _ => rfl) (lenset rfl).symm) (allL_c (WkR.ptr (fun _ => rfl)) (allL_c (wkr (loose_lst fun _ => (lo_TAttempt _))) allL_n))))) (allL_c ⟨some _, rfl, BkR_c rfl CkR_nil⟩ (allL_c ⟨some _, rfl, BkR_c rfl (CkR_cons (wkr (loose_lst fun _ => (lo_TGrowth _))) (CkR_cons wkI CkR_nil))⟩ (allL_c ⟨some _, rfl, BkR_r rfl (fun _ => (loose_cons (loose_int _ _) loose_nil))⟩ allL_n))))
      refine hK2 ?_; clear hK1 hK2 K1 K2
      refine HT_skip ?_
      refine Then_n ?_
      refine HT_f DC_ok rfl fun K hK => ?_; (conv => whnf)
      refine nlA rfl ?_; (conv => whnf)
      refine blkK_of rfl ?_; (conv => whnf)
      refine nlA rfl ?_; (conv => whnf)
      refine lt_lk (enc := eTTicket) (d := default) DC_ok h rfl rfl rfl ⟨nle rfl, nle rfl, rfl⟩ rfl ⟨⟨rfl, nle rfl⟩, trivial⟩ (fun h => ?_); (conv => whnf)
      refine ap_lk (enc := eTTicket) (d := default) DC_ok h (.inl rfl) rfl rfl rfl ⟨rfl, nle rfl, nle rfl, nle rfl, rfl⟩ (fun _ => rfl) (.inr (.inr ⟨_, _, rfl, rfl, rfl⟩)) (fun h => ?_); (conv => whnf)
      refine hK _ _ _ ?_; clear hK K
      refine InBlock_n ?_
      refine Then_n ?_
      refine HT_f DC_ok rfl fun K hK => ?_; (conv => whnf)
      refine hK _ _ _ ?_; clear hK K
      refine Then_n ?_
      replace h := W_xnx h
      refine ⟨_, h, ?_⟩
      refine weak_r ?_; (conv => whnf)
      exact And.intro rfl (And.intro (allL_c (WkR.tok (fun _ => rfl) rfl (fun _ _ => Wk.refl _) (fun _ => (lo_TTicket _))) (allL_c wkI (allL_c (WkR.so (fun _ => rfl)) (allL_c (WkR.ptr (fun _ => rfl)) (allL_c (wkr (loose_lst fun _ => (lo_TAttempt _))) allL_n))))) (allL_c ⟨some _, rfl, BkR_c rfl CkR_nil⟩ (allL_c ⟨some _, rfl, BkR_c rfl (CkR_cons (wkr (loose_lst fun _ => (lo_TGrowth _))) (CkR_cons wkI CkR_nil))⟩ (allL_c ⟨some _, rfl, BkR_r rfl (fun _ => (loose_cons (loose_int _ _) loose_nil))⟩ allL_n))))
    refine hK _ _ _ ?_; clear hK K
    refine HT_if fun K1 K2 hK1 hK2 => ?_; (conv => whnf)
    refine hK2 ?_; clear hK1 hK2 K1 K2
    replace h := W_cnF h
    refine HT_exit ?_
    refine Then_e ?_
    refine Then_e ?_
    refine InBlock_e ?_
    replace h := W_xbk h
    replace h := W_inl h
    refine Then_n ?_
    refine HT_seq ?_
    refine HT_fr DC_ok rfl fun K hK => ?_; (conv => whnf)
    refine ix_lk h fun _ h => ?_; (conv => whnf)
    refine getK_of rfl ?_; (conv => whnf)
    refine hK _ _ _ ?_; clear hK K
    replace h := W_jn h
    refine HT_if fun K1 K2 hK1 hK2 => ?_; (conv => whnf)
    refine cond_lk h (fun _ h => ?_) (fun _ h => ?_)
    · refine hK1 ?_; clear hK1 hK2 K1 K2
      refine HT_f DC_ok rfl fun K hK => ?_; (conv => whnf)
      refine nlA rfl ?_; (conv => whnf)
      refine blkK_of rfl ?_; (conv => whnf)
      refine getK_of rfl ?_; (conv => whnf)
      refine gd_lkN h (rfl) fun hx201 h => ?_; (conv => whnf)
      refine nlA rfl ?_; (conv => whnf)
      refine blkK_of rfl ?_; (conv => whnf)
      refine get_flN (enc := eI) (d := default) (q := 0) (fun _ => rfl) (rfl) hx201 (nle rfl) rfl ?_; (conv => whnf)
      refine gd_lkN h (rfl) fun hx202 h => ?_; (conv => whnf)
      refine blkK_of rfl ?_; (conv => whnf)
      refine st_lk (enc := eI) (d := default) (q := 0) h (fun _ => rfl) (rfl) hx202 rfl (nle rfl) rfl rfl (fun h => ?_); (conv => whnf)
      refine hK _ _ _ ?_; clear hK K
      refine Then_n ?_
      refine HT_f DC_ok rfl fun K hK => ?_; (conv => whnf)
      refine nlA rfl ?_; (conv => whnf)
      refine blkK_of rfl ?_; (conv => whnf)
      refine nlA rfl ?_; (conv => whnf)
      refine lt_lk (enc := eTTicket) (d := default) DC_ok h rfl rfl rfl ⟨nle rfl, nle rfl, rfl⟩ rfl ⟨⟨rfl, nle rfl⟩, trivial⟩ (fun h => ?_); (conv => whnf)
      refine ap_lk (enc := eTTicket) (d := default) DC_ok h (.inl rfl) rfl rfl rfl ⟨rfl, nle rfl, nle rfl, nle rfl, rfl⟩ (fun _ => rfl) (.inr (.inr ⟨_, _, rfl, rfl, rfl⟩)) (fun h => ?_); (conv => whnf)
      refine hK _ _ _ ?_; clear hK K
      refine InBlock_n ?_
      refine Then_n ?_
      refine HT_f DC_ok rfl fun K hK => ?_; (conv => whnf)
      refine hK _ _ _ ?_; clear hK K
      refine Then_n ?_
      replace h := W_xnx h
      refine ⟨_, h, ?_⟩
      refine weak_r ?_; (conv => whnf)
      exact And.intro rfl (And.intro (allL_c (WkR.tok (fun _ => rfl) rfl (fun _ _ => Wk.refl _) (fun _ => (lo_TTicket _))) (allL_c wkI (allL_c (WkR.soN (fun _ => rfl) (lenset rfl).symm) (allL_c (WkR.ptr (fun _ => rfl)) (allL_c (wkr (loose_lst fun _ => (lo_TAttempt _))) allL_n))))) (allL_c ⟨some _, rfl, BkR_c rfl CkR_nil⟩ (allL_c ⟨some _, rfl, BkR_c rfl (CkR_cons (wkr (loose_lst fun _ => (lo_TGrowth _))) (CkR_cons wkI CkR_nil))⟩ (allL_c ⟨some _, rfl, BkR_r rfl (fun _ => (loose_cons (loose_int _ _) loose_nil))⟩ allL_n))))
    refine hK2 ?_; clear hK1 hK2 K1 K2
    refine HT_skip ?_
    refine Then_n ?_
    refine HT_f DC_ok rfl fun K hK => ?_; (conv => whnf)
    refine nlA rfl ?_; (conv => whnf)
    refine blkK_of rfl ?_; (conv => whnf)
    refine nlA rfl ?_; (conv => whnf)
    refine lt_lk (enc := eTTicket) (d := default) DC_ok h rfl rfl rfl ⟨nle rfl, nle rfl, rfl⟩ rfl ⟨⟨rfl, nle rfl⟩, trivial⟩ (fun h => ?_); (conv => whnf)
    refine ap_lk (enc := eTTicket) (d := default) DC_ok h (.inl rfl) rfl rfl rfl ⟨rfl, nle rfl, nle rfl, nle rfl, rfl⟩ (fun _ => rfl) (.inr (.inr ⟨_, _, rfl, rfl, rfl⟩)) (fun h => ?_); (conv => whnf)
    refine hK _ _ _ ?_; clear hK K
    refine InBlock_n ?_
    refine Then_n ?_
    refine HT_f DC_ok rfl fun K hK => ?_; (conv => whnf)
    refine hK _ _ _ ?_; clear hK K
    refine Then_n ?_
    replace h := W_xnx h
    refine ⟨_, h, ?_⟩
    refine weak_r ?_; (conv => whnf)
    exact And.intro rfl (And.intro (allL_c (WkR.tok (fun _ => rfl) rfl (fun _ _ => Wk.refl _) (fun _ => (lo_TTicket _))) (allL_c wkI (allL_c (WkR.so (fun _ => rfl)) (allL_c (WkR.ptr (fun _ => rfl)) (allL_c (wkr (loose_lst fun _ => (lo_TAttempt _))) allL_n))))) (allL_c ⟨some _, rfl, BkR_c rfl CkR_nil⟩ (allL_c ⟨some _, rfl, BkR_c rfl (CkR_cons (wkr (loose_lst fun _ => (lo_TGrowth _))) (CkR_cons wkI CkR_nil))⟩ (allL_c ⟨some _, rfl, BkR_r rfl (fun _ => (loose_cons (loose_int _ _) loose_nil))⟩ allL_n))))
  refine hK2 ?_; clear hK1 hK2 K1 K2
  refine HT_exit ?_
  refine Then_e ?_
  refine Then_e ?_
  refine InBlock_e ?_
  replace h := W_xbk h
  replace h := W_inl h
  refine Then_n ?_
  refine HT_fr DC_ok rfl fun K hK => ?_; (conv => whnf)
  refine hK _ _ _ ?_; clear hK K
  refine HT_ret ?_
  replace h := W_some h
  refine PostP_r DC_ok fun K hK => ?_; (conv => whnf)
  refine hK _ ?_; clear hK K
  cases h
  exact Wk_tup (WkL_cons Wk_free (WkL_cons (Wk.refl _) WkL_nil))
theorem ref34_Plan_call {T : Tbl} (hT : T 19 = pureR ref34_Plan_S) {args : List AV} {hp : Heap} {id : Nat} {k : AV → Prop} {a0 : TRegion} {a1 : List TAttempt} {Φ : (List TTicket) × Int → Prop} (h : W (ref34_Plan_F a0 a1) Φ) (hw : WkL args [eTRegion a0, (eL 3 eTAttempt default) a1]) (hk : ∀ y, Φ y → k (.tup [(eL 3 eTTicket default) y.1, eI y.2])) : callpK T 19 args hp id k := by
  obtain ⟨y, e, hy⟩ := W_inv h
  exact callpK_pure hT ⟨a0, a1, rfl, W_of e rfl⟩ (by exact loose_tup (loose_cons (loose_lst fun _ => (lo_TTicket _)) (loose_cons (loose_int _ _) loose_nil))) hw (hk y hy)

    def ref34_Storm_b5 (s50 : Int × Int × Int × (List Int) × (List Int)) (y6 : List TAttempt) (s52 : (List TTicket) × Int) : Option (Ct ((List TTicket) × Int) ((List TTicket) × Int × Int)) :=
    cn (decide (s52.2 < (y6.length : Int))) (gd (0 ≤ s52.2 ∧ s52.2 < (s50.2.2.2.2.length : Int)) (jn (fun p53 : (List TTicket) => some (.nx (p53, (wr (s52.2 + 1))))) fun k54 =>
    cn (decide ((s50.2.2.2.2.getD (s52.2).toNat default) ≥ 0)) (ix y6 default s52.2 fun e55 => ix y6 default s52.2 fun e56 =>
    gd (0 ≤ s52.2 ∧ s52.2 < (s50.2.2.2.2.length : Int)) (lt ([(⟨e55.Caller, e56.At, (s50.2.2.2.2.getD (s52.2).toNat default)⟩ : TTicket)] : List TTicket) fun l57 =>
    ap s52.1 l57 fun l58 => k54 l58)) (k54 s52.1))) (some (.bk (s52.1, s52.2)))
theorem W_bref34_Storm_b5 {s50 : Int × Int × Int × (List Int) × (List Int)} {y6 : List TAttempt} {s52 : (List TTicket) × Int} {Φ : Ct ((List TTicket) × Int) ((List TTicket) × Int × Int) → Prop} (h : W (ref34_Storm_b5 s50 y6 s52) Φ) : W (cn (decide (s52.2 < (y6.length : Int))) (gd (0 ≤ s52.2 ∧ s52.2 < (s50.2.2.2.2.length : Int)) (jn (fun p53 : (List TTicket) => some (.nx (p53, (wr (s52.2 + 1))))) fun k54 =>
    cn (decide ((s50.2.2.2.2.getD (s52.2).toNat default) ≥ 0)) (ix y6 default s52.2 fun e55 => ix y6 default s52.2 fun e56 =>
    gd (0 ≤ s52.2 ∧ s52.2 < (s50.2.2.2.2.length : Int)) (lt ([(⟨e55.Caller, e56.At, (s50.2.2.2.2.getD (s52.2).toNat default)⟩ : TTicket)] : List TTicket) fun l57 =>
    ap s52.1 l57 fun l58 => k54 l58)) (k54 s52.1))) (some (.bk (s52.1, s52.2)))) Φ := h

    def ref34_Storm_b4 (p1 : (List TAttempt) × Int × Bool) (p28 : Int) (s16 : Int × Int × Int × (List Int) × (List Int)) (y6 : List TAttempt) (s31 : Int × Int × Int × (List Int) × (List Int)) : Option (Ct (Int × Int × Int × (List Int) × (List Int)) ((List TTicket) × Int × Int)) :=
    cn (decide (s31.2.2.1 < (y6.length : Int))) (jn (fun p32 : (List Int) × (List Int) × Int × Int =>
    some (.nx (p32.2.2.1, p32.2.2.2, (wr (s31.2.2.1 + 1)), p32.1, p32.2.1))) fun k33 => jn (fun p34 : Bool =>
    cn p34 (k33 (s31.2.2.2.1, s31.2.2.2.2, s31.1, s31.2.1)) (jn (fun p36 : Bool => jn (fun p39 : (List Int) × (List Int) × Int × Int =>
    k33 (p39.1, p39.2.1, p39.2.2.1, p39.2.2.2)) fun k40 => cn p36 (gd (0 ≤ s31.2.2.1 ∧ s31.2.2.1 < (s31.2.2.2.2.length : Int)) (st s31.2.2.2.2 (s31.2.2.1) s16.2.2.1 fun l41 =>
    ix y6 default s31.2.2.1 fun e42 => jn (fun p43 : Int => k40 (s31.2.2.2.1, l41, (wr (s31.1 - 1)), p43)) fun k44 =>
    cn (!e42.Urgent) (k44 (wr (s31.2.1 - 1))) (k44 s31.2.1))) (gd (0 ≤ s31.2.2.1 ∧ s31.2.2.1 < (s31.2.2.2.1.length : Int)) (st s31.2.2.2.1 (s31.2.2.1) (wr (s16.2.2.1 + p1.2.1)) fun l45 =>
    k40 (l45, s31.2.2.2.2, s31.1, s31.2.1)))) fun k37 => ix y6 default s31.2.2.1 fun e38 => cn e38.Urgent (k37 true) (cn (decide (p28 < 0)) (k37 (decide (s31.2.1 >
    0))) (k37 false)))) fun k35 =>
    gd (0 ≤ s31.2.2.1 ∧ s31.2.2.1 < (s31.2.2.2.2.length : Int)) (cn (decide ((s31.2.2.2.2.getD (s31.2.2.1).toNat default) ≥ 0)) (k35 true) (gd (0 ≤ s31.2.2.1 ∧ s31.2.2.1 < (s31.2.2.2.1.length : Int)) (k35 ((s31.2.2.2.1.getD (s31.2.2.1).toNat default) !=
    s16.2.2.1))))) (some (.bk (s31.1, s31.2.1, s31.2.2.1, s31.2.2.2.1, s31.2.2.2.2)))
theorem W_bref34_Storm_b4 {p1 : (List TAttempt) × Int × Bool} {p28 : Int} {s16 : Int × Int × Int × (List Int) × (List Int)} {y6 : List TAttempt} {s31 : Int × Int × Int × (List Int) × (List Int)} {Φ : Ct (Int × Int × Int × (List Int) × (List Int)) ((List TTicket) × Int × Int) → Prop} (h : W (ref34_Storm_b4 p1 p28 s16 y6 s31) Φ) : W (cn (decide (s31.2.2.1 < (y6.length : Int))) (jn (fun p32 : (List Int) × (List Int) × Int × Int => some (.nx (p32.2.2.1, p32.2.2.2, (wr (s31.2.2.1 + 1)), p32.1, p32.2.1))) fun k33 =>
    jn (fun p34 : Bool => cn p34 (k33 (s31.2.2.2.1, s31.2.2.2.2, s31.1, s31.2.1)) (jn (fun p36 : Bool => jn (fun p39 : (List Int) × (List Int) × Int × Int =>
    k33 (p39.1, p39.2.1, p39.2.2.1, p39.2.2.2)) fun k40 => cn p36 (gd (0 ≤ s31.2.2.1 ∧ s31.2.2.1 < (s31.2.2.2.2.length : Int)) (st s31.2.2.2.2 (s31.2.2.1) s16.2.2.1 fun l41 =>
    ix y6 default s31.2.2.1 fun e42 => jn (fun p43 : Int => k40 (s31.2.2.2.1, l41, (wr (s31.1 - 1)), p43)) fun k44 =>
    cn (!e42.Urgent) (k44 (wr (s31.2.1 - 1))) (k44 s31.2.1))) (gd (0 ≤ s31.2.2.1 ∧ s31.2.2.1 < (s31.2.2.2.1.length : Int)) (st s31.2.2.2.1 (s31.2.2.1) (wr (s16.2.2.1 + p1.2.1)) fun l45 =>
    k40 (l45, s31.2.2.2.2, s31.1, s31.2.1)))) fun k37 => ix y6 default s31.2.2.1 fun e38 => cn e38.Urgent (k37 true) (cn (decide (p28 < 0)) (k37 (decide (s31.2.1 >
    0))) (k37 false)))) fun k35 =>
    gd (0 ≤ s31.2.2.1 ∧ s31.2.2.1 < (s31.2.2.2.2.length : Int)) (cn (decide ((s31.2.2.2.2.getD (s31.2.2.1).toNat default) ≥ 0)) (k35 true) (gd (0 ≤ s31.2.2.1 ∧ s31.2.2.1 < (s31.2.2.2.1.length : Int)) (k35 ((s31.2.2.2.1.getD (s31.2.2.1).toNat default) !=
    s16.2.2.1))))) (some (.bk (s31.1, s31.2.1, s31.2.2.1, s31.2.2.2.1, s31.2.2.2.2)))) Φ := h
def ref34_Storm_b3 (s16 : Int × Int × Int × (List Int) × (List Int)) (y6 : List TAttempt) (s19 : Int × Int) : Option (Ct (Int × Int) ((List TTicket) × Int × Int)) :=
    cn (decide (s19.2 < (y6.length : Int))) (jn (fun p20 : Bool => jn (fun p23 : Int => some (.nx (p23, (wr (s19.2 + 1))))) fun k24 =>
    cn p20 (k24 (wr (s19.1 + 1))) (k24 s19.1)) fun k21 =>
    gd (0 ≤ s19.2 ∧ s19.2 < (s16.2.2.2.2.length : Int)) (cn (decide ((s16.2.2.2.2.getD (s19.2).toNat default) < 0)) (gd (0 ≤ s19.2 ∧ s19.2 < (s16.2.2.2.1.length : Int)) (cn ((s16.2.2.2.1.getD (s19.2).toNat default) ==
    s16.2.2.1) (ix y6 default s19.2 fun e22 => k21 (!e22.Urgent)) (k21 false))) (k21 false))) (some (.bk (s19.1, s19.2)))
theorem W_bref34_Storm_b3 {s16 : Int × Int × Int × (List Int) × (List Int)} {y6 : List TAttempt} {s19 : Int × Int} {Φ : Ct (Int × Int) ((List TTicket) × Int × Int) → Prop} (h : W (ref34_Storm_b3 s16 y6 s19) Φ) : W (cn (decide (s19.2 < (y6.length : Int))) (jn (fun p20 : Bool => jn (fun p23 : Int => some (.nx (p23, (wr (s19.2 + 1))))) fun k24 =>
    cn p20 (k24 (wr (s19.1 + 1))) (k24 s19.1)) fun k21 =>
    gd (0 ≤ s19.2 ∧ s19.2 < (s16.2.2.2.2.length : Int)) (cn (decide ((s16.2.2.2.2.getD (s19.2).toNat default) < 0)) (gd (0 ≤ s19.2 ∧ s19.2 < (s16.2.2.2.1.length : Int)) (cn ((s16.2.2.2.1.getD (s19.2).toNat default) ==
    s16.2.2.1) (ix y6 default s19.2 fun e22 => k21 (!e22.Urgent)) (k21 false))) (k21 false))) (some (.bk (s19.1, s19.2)))) Φ := h

    def ref34_Storm_b2 (a0 : TRegion) (p1 : (List TAttempt) × Int × Bool) (y6 : List TAttempt) (s16 : Int × Int × Int × (List Int) × (List Int)) : Option (Ct (Int × Int × Int × (List Int) × (List Int)) ((List TTicket) × Int × Int)) :=
    jn (fun p17 : Bool => cn p17 (bd (lp (ref34_Storm_b3 s16 y6) FU (0, 0)) fun c25 => smK c25 (fun s26 => jn (fun p28 : Int => bd (ref34_capacity_F a0 s16.2.2.1) fun y30 =>
    bd (lp (ref34_Storm_b4 p1 p28 s16 y6) FU (s16.1, y30, 0, s16.2.2.2.1, s16.2.2.2.2)) fun c46 => smK c46 (fun s47 =>
    some (.nx (s47.1, p28, (wr (s16.2.2.1 + 1)), s47.2.2.2.1, s47.2.2.2.2))) (fun r48 => some (.rt r48))) fun k29 => cn (decide (s26.1 >
    a0.Signals)) (k29 s16.2.2.1) (k29 s16.2.1)) (fun r27 => some (.rt r27))) (some (.bk (s16.1, s16.2.1, s16.2.2.1, s16.2.2.2.1, s16.2.2.2.2)))) fun k18 => cn (decide (s16.1 >
    0)) (k18 (decide (s16.2.1 < 0))) (k18 false)
theorem W_bref34_Storm_b2 {a0 : TRegion} {p1 : (List TAttempt) × Int × Bool} {y6 : List TAttempt} {s16 : Int × Int × Int × (List Int) × (List Int)} {Φ : Ct (Int × Int × Int × (List Int) × (List Int)) ((List TTicket) × Int × Int) → Prop} (h : W (ref34_Storm_b2 a0 p1 y6 s16) Φ) : W (jn (fun p17 : Bool => cn p17 (bd (lp (ref34_Storm_b3 s16 y6) FU (0, 0)) fun c25 => smK c25 (fun s26 => jn (fun p28 : Int => bd (ref34_capacity_F a0 s16.2.2.1) fun y30 =>
    bd (lp (ref34_Storm_b4 p1 p28 s16 y6) FU (s16.1, y30, 0, s16.2.2.2.1, s16.2.2.2.2)) fun c46 => smK c46 (fun s47 =>
    some (.nx (s47.1, p28, (wr (s16.2.2.1 + 1)), s47.2.2.2.1, s47.2.2.2.2))) (fun r48 => some (.rt r48))) fun k29 => cn (decide (s26.1 >
    a0.Signals)) (k29 s16.2.2.1) (k29 s16.2.1)) (fun r27 => some (.rt r27))) (some (.bk (s16.1, s16.2.1, s16.2.2.1, s16.2.2.2.1, s16.2.2.2.2)))) fun k18 => cn (decide (s16.1 >
    0)) (k18 (decide (s16.2.1 < 0))) (k18 false)) Φ := h
def ref34_Storm_b1 (y6 : List TAttempt) (s7 : (List Int) × (List Int) × Int × Int) : Option (Ct ((List Int) × (List Int) × Int × Int) ((List TTicket) × Int × Int)) :=
    cn (decide (s7.2.2.2 < (y6.length : Int))) (ix y6 default s7.2.2.2 fun e8 => lt ([e8.At] : List Int) fun l9 => ap s7.1 l9 fun l10 => lt ([(-1)] : List Int) fun l11 =>
    ap s7.2.1 l11 fun l12 => some (.nx (l10, l12, (wr (s7.2.2.1 + 1)), (wr (s7.2.2.2 + 1))))) (some (.bk (s7.1, s7.2.1, s7.2.2.1, s7.2.2.2)))
theorem W_bref34_Storm_b1 {y6 : List TAttempt} {s7 : (List Int) × (List Int) × Int × Int} {Φ : Ct ((List Int) × (List Int) × Int × Int) ((List TTicket) × Int × Int) → Prop} (h : W (ref34_Storm_b1 y6 s7) Φ) : W (cn (decide (s7.2.2.2 < (y6.length : Int))) (ix y6 default s7.2.2.2 fun e8 => lt ([e8.At] : List Int) fun l9 => ap s7.1 l9 fun l10 => lt ([(-1)] : List Int) fun l11 =>
    ap s7.2.1 l11 fun l12 => some (.nx (l10, l12, (wr (s7.2.2.1 + 1)), (wr (s7.2.2.2 + 1))))) (some (.bk (s7.1, s7.2.1, s7.2.2.1, s7.2.2.2)))) Φ := h
def ref34_Storm_F (a0 : TRegion) (a1 : List TAttempt) (a2 : Int) : Option ((List TTicket) × Int × Int) := jn (fun p1 : (List TAttempt) × Int × Bool =>
    cn p1.2.2 (some ([], (-1), 340)) (bd (ref34_Ordered_F p1.1) fun y6 => bd (lp (ref34_Storm_b1 y6) FU ([], [], 0, 0)) fun c13 => smK c13 (fun s14 =>
    bd (lp (ref34_Storm_b2 a0 p1 y6) FU (s14.2.2.1, (-1), 0, s14.1, s14.2.1)) fun c49 => smK c49 (fun s50 => bd (lp (ref34_Storm_b5 s50 y6) FU ([], 0)) fun c59 =>
    smK c59 (fun s60 => some (s60.1, s50.2.1, 0)) (fun r61 => some r61)) (fun r51 => some r51)) (fun r15 => some r15))) fun k2 => bd (ref34_Valid_F a0) fun y3 =>
    cn (!y3) (k2 (a1, a2, true)) (bd (ref34_Ready_F a1) fun y4 => cn (!y4) (k2 (a1, a2, true)) (bd (ref34_in_F a2 1 100) fun y5 => k2 (a1, a2, (!y5))))
def ref34_Storm_S : List AV → AV → Prop := fun args r => ∃ a0 a1 a2, args = [eTRegion a0, (eL 3 eTAttempt default) a1, eI a2] ∧ W (ref34_Storm_F a0 a1 a2) fun y => r = (.tup [(eL 3 eTTicket default) y.1, eI y.2.1, eI y.2.2])
theorem ref34_Storm_ok {T : Tbl} (hT : TOk Try.prog T) (hpf : PfOk T PF) (h25 : T 25 = pureR ref34_Valid_S) (h27 : T 27 = pureR ref34_Ready_S) (h38 : T 38 = pureR ref34_Ordered_S) (h43 : T 43 = pureR ref34_capacity_S) (h47 : T 47 = pureR ref34_in_S) : FOk Try.prog 35 (pureR ref34_Storm_S) := by
  refine FOk_pure hT hpf Try.func35 rfl Try.ntmps35 Try.results35 (by decide) ?_
  rintro args r ⟨a0, a1, a2, rfl, h⟩
  refine ⟨nle rfl, ?_, ?_⟩
  · exact (loose_cons (lo_TRegion _) (loose_cons (loose_lst fun _ => (lo_TAttempt _)) (loose_cons (loose_int _ _) loose_nil)))
  rw [ref34_Storm_F.eq_1] at h
  refine HT_fr DC_ok rfl fun K hK => ?_; (conv => whnf)
  refine hK _ _ _ ?_; clear hK K
  refine HT_seq ?_
  refine HT_fr DC_ok rfl fun K hK => ?_; (conv => whnf)
  replace h := W_jn h
  refine nlA rfl ?_; (conv => whnf)
  refine blkK_of rfl ?_; (conv => whnf)
  refine nlA rfl ?_; (conv => whnf)
  replace h := W_bd h
  refine ref34_Valid_call h25 h (WkL.refl _) (fun _ h => ?_); (conv => whnf)
  refine cond_lk h (fun _ h => ?_) (fun _ h => ?_) <;> (conv => whnf)
  · refine hK _ _ _ ?_; clear hK K
    refine HT_if fun K1 K2 hK1 hK2 => ?_; (conv => whnf)
    refine hK1 ?_; clear hK1 hK2 K1 K2
    replace h := W_cnT h
    refine HT_fr DC_ok rfl fun K hK => ?_; (conv => whnf)
    refine hK _ _ _ ?_; clear hK K
    refine HT_ret ?_
    refine Then_r ?_
    replace h := W_some h
    refine PostP_r DC_ok fun K hK => ?_; (conv => whnf)
    refine hK _ ?_; clear hK K
    cases h
    exact Wk_tup (WkL_cons Wk_nil (WkL_cons (Wk.refl _) (WkL_cons (Wk.refl _) WkL_nil)))
  replace h := W_bd h
  refine ref34_Ready_call h27 h (WkL.refl _) (fun _ h => ?_); (conv => whnf)
  refine cond_lk h (fun _ h => ?_) (fun _ h => ?_) <;> (conv => whnf)
  · refine hK _ _ _ ?_; clear hK K
    refine HT_if fun K1 K2 hK1 hK2 => ?_; (conv => whnf)
    refine hK1 ?_; clear hK1 hK2 K1 K2
    replace h := W_cnT h
    refine HT_fr DC_ok rfl fun K hK => ?_; (conv => whnf)
    refine hK _ _ _ ?_; clear hK K
    refine HT_ret ?_
    refine Then_r ?_
    replace h := W_some h
    refine PostP_r DC_ok fun K hK => ?_; (conv => whnf)
    refine hK _ ?_; clear hK K
    cases h
    exact Wk_tup (WkL_cons Wk_nil (WkL_cons (Wk.refl _) (WkL_cons (Wk.refl _) WkL_nil)))
  replace h := W_bd h
  refine ref34_in_call h47 h (WkL.refl _) (fun _ h => ?_); (conv => whnf)
  refine hK _ _ _ ?_; clear hK K
  refine HT_if fun K1 K2 hK1 hK2 => ?_; (conv => whnf)
  refine cond_lk h (fun _ h => ?_) (fun _ h => ?_)
  · refine hK1 ?_; clear hK1 hK2 K1 K2
    refine HT_fr DC_ok rfl fun K hK => ?_; (conv => whnf)
    refine hK _ _ _ ?_; clear hK K
    refine HT_ret ?_
    refine Then_r ?_
    replace h := W_some h
    refine PostP_r DC_ok fun K hK => ?_; (conv => whnf)
    refine hK _ ?_; clear hK K
    cases h
    exact Wk_tup (WkL_cons Wk_nil (WkL_cons (Wk.refl _) (WkL_cons (Wk.refl _) WkL_nil)))
  refine hK2 ?_; clear hK1 hK2 K1 K2
  refine HT_skip ?_
  refine Then_n ?_
  refine HT_fr DC_ok rfl fun K hK => ?_; (conv => whnf)
  replace h := W_bd h
  refine ref34_Ordered_call h38 h (WkL.refl _) (fun _ h => ?_); (conv => whnf)
  refine hK _ _ _ ?_; clear hK K
  refine HT_fr DC_ok rfl fun K hK => ?_; (conv => whnf)
  refine hK _ _ _ ?_; clear hK K
  refine HT_fr DC_ok rfl fun K hK => ?_; (conv => whnf)
  refine hK _ _ _ ?_; clear hK K
  refine HT_fr DC_ok rfl fun K hK => ?_; (conv => whnf)
  refine hK _ _ _ ?_; clear hK K
  refine HT_seq ?_
  refine HT_fr DC_ok rfl fun K hK => ?_; (conv => whnf)
  refine hK _ _ _ ?_; clear hK K
  refine HT_block ?_
  replace h := W_bd h
  refine HT_lpR (body := ref34_Storm_b1 _) rfl h [2, 3, 9] [3] [] [] (fun kl kh kr ids b s => ⟨ofL ([(10, .so (b + 0) 0 s.1.length 1), (11, .so (b + 64) 0 s.2.1.length 1), (12, eI s.2.2.1), (13, eI s.2.2.2)] ++ kl), ofH (([] ++ kh) ++ ([(b + 0, .cells (flE (ceE eI) s.1)), (b + 64, .cells (flE (ceE eI) s.2.1))] ++ kr)), b + 192⟩) ?_; (conv => whnf); refine And.intro ?_ (fun s m h => HT_st ?_)
  · refine weak_r ?_; (conv => whnf)
    exact And.intro rfl (And.intro (allL_c (WkR.nilso (fun _ => rfl)) (allL_c (WkR.nilso (fun _ => rfl)) (allL_c wkI (allL_c wkI (allL_c wkI (allL_c (WkR.ptr (fun _ => rfl)) (allL_c (wkr (loose_lst fun _ => (lo_TAttempt _))) allL_n))))))) (allL_c ⟨some _, rfl, BkR_c rfl (CkR_cons (wkr (loose_lst fun _ => (lo_TGrowth _))) (CkR_cons wkI CkR_nil))⟩ (allL_c ⟨none, rfl, BkR_nr⟩ (allL_c ⟨none, rfl, BkR_nr⟩ allL_n))))
  replace h := W_bref34_Storm_b1 (W_bd h)
  refine HT_seq ?_
  refine HT_fr DC_ok rfl fun K hK => ?_; (conv => whnf)
  refine hK _ _ _ ?_; clear hK K
  refine HT_if fun K1 K2 hK1 hK2 => ?_; (conv => whnf)
  refine cond_lk h (fun _ h => ?_) (fun _ h => ?_)
  · refine hK1 ?_; clear hK1 hK2 K1 K2
    refine HT_skip ?_
    refine Then_n ?_
    refine HT_seq ?_
    refine HT_block ?_
    refine HT_fr DC_ok rfl fun K hK => ?_; (conv => whnf)
    refine ix_lk h fun _ h => ?_; (conv => whnf)
    refine getK_of rfl ?_; (conv => whnf)
    refine lt_lk (enc := eI) (d := default) DC_ok h rfl rfl rfl ⟨nle rfl, nle rfl, rfl⟩ rfl ⟨⟨rfl, rfl, rfl⟩, trivial⟩ (fun h => ?_); (conv => whnf)
    refine apo_lk (enc := eI) (d := default) DC_ok h rfl rfl rfl ⟨rfl, nle rfl, nle rfl, nle rfl, rfl⟩ (fun _ => rfl) (fun _ => rfl) (fun _ => nofun) rfl (rfl) (fun h => ?_); (conv => whnf)
    refine hK _ _ _ ?_; clear hK K
    refine HT_fr DC_ok rfl fun K hK => ?_; (conv => whnf)
    refine lt_lk (enc := eI) (d := default) DC_ok h rfl rfl rfl ⟨nle rfl, nle rfl, rfl⟩ rfl ⟨⟨rfl, rfl, rfl⟩, trivial⟩ (fun h => ?_); (conv => whnf)
    refine apo_lk (enc := eI) (d := default) DC_ok h rfl rfl rfl ⟨rfl, nle rfl, nle rfl, nle rfl, rfl⟩ (fun _ => rfl) (fun _ => rfl) (fun _ => nofun) rfl (rfl) (fun h => ?_); (conv => whnf)
    refine hK _ _ _ ?_; clear hK K
    refine HT_f DC_ok rfl fun K hK => ?_; (conv => whnf)
    refine hK _ _ _ ?_; clear hK K
    refine InBlock_n ?_
    refine Then_n ?_
    refine HT_f DC_ok rfl fun K hK => ?_; (conv => whnf)
    refine hK _ _ _ ?_; clear hK K
    refine Then_n ?_
    replace h := W_xnx h
    refine ⟨_, h, ?_⟩
    refine weak_r ?_; (conv => whnf)
    exact And.intro rfl (And.intro (allL_c (WkR.so (fun _ => rfl)) (allL_c (WkR.so (fun _ => rfl)) (allL_c wkI (allL_c wkI (allL_c wkI (allL_c (WkR.ptr (fun _ => rfl)) (allL_c (wkr (loose_lst fun _ => (lo_TAttempt _))) allL_n))))))) (allL_c ⟨some _, rfl, BkR_c rfl (CkR_cons (wkr (loose_lst fun _ => (lo_TGrowth _))) (CkR_cons wkI CkR_nil))⟩ (allL_c ⟨some _, rfl, BkR_r rfl (fun _ => (loose_cons (loose_int _ _) loose_nil))⟩ (allL_c ⟨some _, rfl, BkR_r rfl (fun _ => (loose_cons (loose_int _ _) loose_nil))⟩ allL_n))))
  refine hK2 ?_; clear hK1 hK2 K1 K2
  refine HT_exit ?_
  refine Then_e ?_
  refine Then_e ?_
  refine InBlock_e ?_
  replace h := W_xbk h
  replace h := W_inl h
  refine Then_n ?_
  refine HT_fr DC_ok rfl fun K hK => ?_; (conv => whnf)
  refine hK _ _ _ ?_; clear hK K
  refine HT_seq ?_
  refine HT_fr DC_ok rfl fun K hK => ?_; (conv => whnf)
  refine hK _ _ _ ?_; clear hK K
  refine HT_block ?_
  replace h := W_bd h
  refine HT_lpR (body := ref34_Storm_b2 _ _ _) rfl h [2, 3, 9] [3] [] [] (fun kl kh kr ids b s => ⟨ofL ([(12, eI s.1), (14, eI s.2.1), (15, eI s.2.2.1), (10, .so (b + 0) 0 s.2.2.2.1.length 1), (11, .so (b + 64) 0 s.2.2.2.2.length 1)] ++ kl), ofH (([] ++ kh) ++ ([(b + 0, .cells (flE (ceE eI) s.2.2.2.1)), (b + 64, .cells (flE (ceE eI) s.2.2.2.2))] ++ kr)), b + 192⟩) ?_; (conv => whnf); refine And.intro ?_ (fun s m h => HT_st ?_)
  · refine weak_r ?_; (conv => whnf)
    exact And.intro rfl (And.intro (allL_c wkI (allL_c wkI (allL_c wkI (allL_c (WkR.so (fun _ => rfl)) (allL_c (WkR.so (fun _ => rfl)) (allL_c wkI (allL_c (WkR.ptr (fun _ => rfl)) (allL_c (wkr (loose_lst fun _ => (lo_TAttempt _))) allL_n)))))))) (allL_c ⟨some _, rfl, BkR_c rfl (CkR_cons (wkr (loose_lst fun _ => (lo_TGrowth _))) (CkR_cons wkI CkR_nil))⟩ (allL_c ⟨some _, rfl, BkR_r rfl (fun _ => (loose_cons (loose_int _ _) loose_nil))⟩ (allL_c ⟨some _, rfl, BkR_r rfl (fun _ => (loose_cons (loose_int _ _) loose_nil))⟩ allL_n))))
  replace h := W_bref34_Storm_b2 (W_bd h)
  refine HT_seq ?_
  refine HT_fr DC_ok rfl fun K hK => ?_; (conv => whnf)
  replace h := W_jn h
  refine cond_lk h (fun _ h => ?_) (fun _ h => ?_) <;> (conv => whnf)
  · refine hK _ _ _ ?_; clear hK K
    refine HT_if fun K1 K2 hK1 hK2 => ?_; (conv => whnf)
    refine cond_lk h (fun _ h => ?_) (fun _ h => ?_)
    · refine hK1 ?_; clear hK1 hK2 K1 K2
      refine HT_skip ?_
      refine Then_n ?_
      refine HT_seq ?_
      refine HT_block ?_
      refine HT_fr DC_ok rfl fun K hK => ?_; (conv => whnf)
      refine hK _ _ _ ?_; clear hK K
      refine HT_seq ?_
      refine HT_fr DC_ok rfl fun K hK => ?_; (conv => whnf)
      refine hK _ _ _ ?_; clear hK K
      refine HT_block ?_
      replace h := W_bd h
      refine HT_lpR (body := ref34_Storm_b3 _ _) rfl h [2, 3, 9, 10, 11, 12, 14, 15] [3] [10, 11] [] (fun kl kh kr ids b s => ⟨ofL ([(16, eI s.1), (17, eI s.2)] ++ kl), ofH (([] ++ kh) ++ ([] ++ kr)), b + 64⟩) ?_; (conv => whnf); refine And.intro ?_ (fun s m h => HT_st ?_)
      · refine weak_r ?_; (conv => whnf)
        exact And.intro rfl (And.intro (allL_c wkI (allL_c wkI (allL_c wkI (allL_c (WkR.ptr (fun _ => rfl)) (allL_c (wkr (loose_lst fun _ => (lo_TAttempt _))) (allL_c (WkR.so (fun _ => rfl)) (allL_c (WkR.so (fun _ => rfl)) (allL_c wkI (allL_c wkI (allL_c wkI allL_n)))))))))) (allL_c ⟨some _, rfl, BkR_c rfl (CkR_cons (wkr (loose_lst fun _ => (lo_TGrowth _))) (CkR_cons wkI CkR_nil))⟩ (allL_c ⟨some _, rfl, BkR_r rfl (fun _ => (loose_cons (loose_int _ _) loose_nil))⟩ (allL_c ⟨some _, rfl, BkR_r rfl (fun _ => (loose_cons (loose_int _ _) loose_nil))⟩ allL_n))))
      replace h := W_bref34_Storm_b3 (W_bd h)
      refine HT_seq ?_
      refine HT_fr DC_ok rfl fun K hK => ?_; (conv => whnf)
      refine hK _ _ _ ?_; clear hK K
      refine HT_if fun K1 K2 hK1 hK2 => ?_; (conv => whnf)
      refine cond_lk h (fun _ h => ?_) (fun _ h => ?_)
      · refine hK1 ?_; clear hK1 hK2 K1 K2
        refine HT_skip ?_
        refine Then_n ?_
        refine HT_seq ?_
        refine HT_block ?_
        refine HT_fr DC_ok rfl fun K hK => ?_; (conv => whnf)
        replace h := W_jn h
        refine gd_lkN h (rfl) fun hx2319 h => ?_; (conv => whnf)
        refine nlA rfl ?_; (conv => whnf)
        refine blkK_of rfl ?_; (conv => whnf)
        refine get_flN (enc := eI) (d := default) (q := 0) (fun _ => rfl) (rfl) hx2319 (nle rfl) rfl ?_; (conv => whnf)
        refine cond_lk h (fun _ h => ?_) (fun _ h => ?_) <;> (conv => whnf)
        · refine gd_lkN h (rfl) fun hx2320 h => ?_; (conv => whnf)
          refine nlA rfl ?_; (conv => whnf)
          refine blkK_of rfl ?_; (conv => whnf)
          refine get_flN (enc := eI) (d := default) (q := 0) (fun _ => rfl) (rfl) hx2320 (nle rfl) rfl ?_; (conv => whnf)
          refine cond_lk h (fun _ h => ?_) (fun _ h => ?_) <;> (conv => whnf)
          · refine ix_lk h fun _ h => ?_; (conv => whnf)
            refine getK_of rfl ?_; (conv => whnf)
            refine hK _ _ _ ?_; clear hK K
            replace h := W_jn h
            refine HT_if fun K1 K2 hK1 hK2 => ?_; (conv => whnf)
            refine cond_lk h (fun _ h => ?_) (fun _ h => ?_)
            · refine hK1 ?_; clear hK1 hK2 K1 K2
              refine HT_f DC_ok rfl fun K hK => ?_; (conv => whnf)
              refine hK _ _ _ ?_; clear hK K
              refine InBlock_n ?_
              refine Then_n ?_
              refine HT_f DC_ok rfl fun K hK => ?_; (conv => whnf)
              refine hK _ _ _ ?_; clear hK K
              refine Then_n ?_
              replace h := W_xnx h
              refine ⟨_, h, ?_⟩
              refine weak_r ?_; (conv => whnf)
              exact And.intro rfl (And.intro (allL_c wkI (allL_c wkI (allL_c wkI (allL_c (WkR.ptr (fun _ => rfl)) (allL_c (wkr (loose_lst fun _ => (lo_TAttempt _))) (allL_c (WkR.so (fun _ => rfl)) (allL_c (WkR.so (fun _ => rfl)) (allL_c wkI (allL_c wkI (allL_c wkI allL_n)))))))))) (allL_c ⟨some _, rfl, BkR_c rfl (CkR_cons (wkr (loose_lst fun _ => (lo_TGrowth _))) (CkR_cons wkI CkR_nil))⟩ (allL_c ⟨some _, rfl, BkR_r rfl (fun _ => (loose_cons (loose_int _ _) loose_nil))⟩ (allL_c ⟨some _, rfl, BkR_r rfl (fun _ => (loose_cons (loose_int _ _) loose_nil))⟩ allL_n))))
            refine hK2 ?_; clear hK1 hK2 K1 K2
            refine HT_skip ?_
            refine InBlock_n ?_
            refine Then_n ?_
            refine HT_f DC_ok rfl fun K hK => ?_; (conv => whnf)
            refine hK _ _ _ ?_; clear hK K
            refine Then_n ?_
            replace h := W_xnx h
            refine ⟨_, h, ?_⟩
            refine weak_r ?_; (conv => whnf)
            exact And.intro rfl (And.intro (allL_c wkI (allL_c wkI (allL_c wkI (allL_c (WkR.ptr (fun _ => rfl)) (allL_c (wkr (loose_lst fun _ => (lo_TAttempt _))) (allL_c (WkR.so (fun _ => rfl)) (allL_c (WkR.so (fun _ => rfl)) (allL_c wkI (allL_c wkI (allL_c wkI allL_n)))))))))) (allL_c ⟨some _, rfl, BkR_c rfl (CkR_cons (wkr (loose_lst fun _ => (lo_TGrowth _))) (CkR_cons wkI CkR_nil))⟩ (allL_c ⟨some _, rfl, BkR_r rfl (fun _ => (loose_cons (loose_int _ _) loose_nil))⟩ (allL_c ⟨some _, rfl, BkR_r rfl (fun _ => (loose_cons (loose_int _ _) loose_nil))⟩ allL_n))))
          refine hK _ _ _ ?_; clear hK K
          replace h := W_jn h
          refine HT_if fun K1 K2 hK1 hK2 => ?_; (conv => whnf)
          refine hK2 ?_; clear hK1 hK2 K1 K2
          replace h := W_cnF h
          refine HT_skip ?_
          refine InBlock_n ?_
          refine Then_n ?_
          refine HT_f DC_ok rfl fun K hK => ?_; (conv => whnf)
          refine hK _ _ _ ?_; clear hK K
          refine Then_n ?_
          replace h := W_xnx h
          refine ⟨_, h, ?_⟩
          refine weak_r ?_; (conv => whnf)
          exact And.intro rfl (And.intro (allL_c wkI (allL_c wkI (allL_c wkI (allL_c (WkR.ptr (fun _ => rfl)) (allL_c (wkr (loose_lst fun _ => (lo_TAttempt _))) (allL_c (WkR.so (fun _ => rfl)) (allL_c (WkR.so (fun _ => rfl)) (allL_c wkI (allL_c wkI (allL_c wkI allL_n)))))))))) (allL_c ⟨some _, rfl, BkR_c rfl (CkR_cons (wkr (loose_lst fun _ => (lo_TGrowth _))) (CkR_cons wkI CkR_nil))⟩ (allL_c ⟨some _, rfl, BkR_r rfl (fun _ => (loose_cons (loose_int _ _) loose_nil))⟩ (allL_c ⟨some _, rfl, BkR_r rfl (fun _ => (loose_cons (loose_int _ _) loose_nil))⟩ allL_n))))
        refine hK _ _ _ ?_; clear hK K
        replace h := W_jn h
        refine HT_if fun K1 K2 hK1 hK2 => ?_; (conv => whnf)
        refine hK2 ?_; clear hK1 hK2 K1 K2
        replace h := W_cnF h
        refine HT_skip ?_
        refine InBlock_n ?_
        refine Then_n ?_
        refine HT_f DC_ok rfl fun K hK => ?_; (conv => whnf)
        refine hK _ _ _ ?_; clear hK K
        refine Then_n ?_
        replace h := W_xnx h
        refine ⟨_, h, ?_⟩
        refine weak_r ?_; (conv => whnf)
        exact And.intro rfl (And.intro (allL_c wkI (allL_c wkI (allL_c wkI (allL_c (WkR.ptr (fun _ => rfl)) (allL_c (wkr (loose_lst fun _ => (lo_TAttempt _))) (allL_c (WkR.so (fun _ => rfl)) (allL_c (WkR.so (fun _ => rfl)) (allL_c wkI (allL_c wkI (allL_c wkI allL_n)))))))))) (allL_c ⟨some _, rfl, BkR_c rfl (CkR_cons (wkr (loose_lst fun _ => (lo_TGrowth _))) (CkR_cons wkI CkR_nil))⟩ (allL_c ⟨some _, rfl, BkR_r rfl (fun _ => (loose_cons (loose_int _ _) loose_nil))⟩ (allL_c ⟨some _, rfl, BkR_r rfl (fun _ => (loose_cons (loose_int _ _) loose_nil))⟩ allL_n))))
      refine hK2 ?_; clear hK1 hK2 K1 K2
      refine HT_exit ?_
      refine Then_e ?_
      refine Then_e ?_
      refine InBlock_e ?_
      replace h := W_xbk h
      replace h := W_inl h
      refine Then_n ?_
      refine HT_seq ?_
      refine HT_fr DC_ok rfl fun K hK => ?_; (conv => whnf)
      refine nlA rfl ?_; (conv => whnf)
      refine blkK_of rfl ?_; (conv => whnf)
      refine getK_of rfl ?_; (conv => whnf)
      refine hK _ _ _ ?_; clear hK K
      replace h := W_jn h
      refine HT_if fun K1 K2 hK1 hK2 => ?_; (conv => whnf)
      refine cond_lk h (fun _ h => ?_) (fun _ h => ?_)
      · refine hK1 ?_; clear hK1 hK2 K1 K2
        refine HT_f DC_ok rfl fun K hK => ?_; (conv => whnf)
        refine hK _ _ _ ?_; clear hK K
        refine Then_n ?_
        refine HT_fr DC_ok rfl fun K hK => ?_; (conv => whnf)
        refine nlA rfl ?_; (conv => whnf)
        refine blkK_of rfl ?_; (conv => whnf)
        refine nlA rfl ?_; (conv => whnf)
        replace h := W_bd h
        refine ref34_capacity_call h43 h (WkL.refl _) (fun _ h => ?_); (conv => whnf)
        refine hK _ _ _ ?_; clear hK K
        refine HT_fr DC_ok rfl fun K hK => ?_; (conv => whnf)
        refine hK _ _ _ ?_; clear hK K
        refine HT_block ?_
        replace h := W_bd h
        refine HT_lpR (body := ref34_Storm_b4 _ _ _ _) rfl h [2, 3, 9, 14, 15] [3] [] [] (fun kl kh kr ids b s => ⟨ofL ([(12, eI s.1), (18, eI s.2.1), (19, eI s.2.2.1), (10, .so (b + 0) 0 s.2.2.2.1.length 1), (11, .so (b + 64) 0 s.2.2.2.2.length 1)] ++ kl), ofH (([] ++ kh) ++ ([(b + 0, .cells (flE (ceE eI) s.2.2.2.1)), (b + 64, .cells (flE (ceE eI) s.2.2.2.2))] ++ kr)), b + 192⟩) ?_; (conv => whnf); refine And.intro ?_ (fun s m h => HT_st ?_)
        · refine weak_r ?_; (conv => whnf)
          exact And.intro rfl (And.intro (allL_c wkI (allL_c wkI (allL_c wkI (allL_c (WkR.so (fun _ => rfl)) (allL_c (WkR.so (fun _ => rfl)) (allL_c wkI (allL_c (WkR.ptr (fun _ => rfl)) (allL_c (wkr (loose_lst fun _ => (lo_TAttempt _))) (allL_c wkI (allL_c wkI allL_n)))))))))) (allL_c ⟨some _, rfl, BkR_c rfl (CkR_cons (wkr (loose_lst fun _ => (lo_TGrowth _))) (CkR_cons wkI CkR_nil))⟩ (allL_c ⟨some _, rfl, BkR_r rfl (fun _ => (loose_cons (loose_int _ _) loose_nil))⟩ (allL_c ⟨some _, rfl, BkR_r rfl (fun _ => (loose_cons (loose_int _ _) loose_nil))⟩ allL_n))))
        replace h := W_bref34_Storm_b4 (W_bd h)
        refine HT_seq ?_
        refine HT_fr DC_ok rfl fun K hK => ?_; (conv => whnf)
        refine hK _ _ _ ?_; clear hK K
        refine HT_if fun K1 K2 hK1 hK2 => ?_; (conv => whnf)
        refine cond_lk h (fun _ h => ?_) (fun _ h => ?_)
        · refine hK1 ?_; clear hK1 hK2 K1 K2
          refine HT_skip ?_
          refine Then_n ?_
          refine HT_seq ?_
          replace h := W_jn h
          refine HT_block ?_
          refine HT_seq ?_
          refine HT_fr DC_ok rfl fun K hK => ?_; (conv => whnf)
          replace h := W_jn h
          refine gd_lkN h (rfl) fun hx2437 h => ?_; (conv => whnf)
          refine nlA rfl ?_; (conv => whnf)
          refine blkK_of rfl ?_; (conv => whnf)
          refine get_flN (enc := eI) (d := default) (q := 0) (fun _ => rfl) (rfl) hx2437 (nle rfl) rfl ?_; (conv => whnf)
          refine cond_lk h (fun _ h => ?_) (fun _ h => ?_) <;> (conv => whnf)
          · refine hK _ _ _ ?_; clear hK K
            refine HT_if fun K1 K2 hK1 hK2 => ?_; (conv => whnf)
            refine hK1 ?_; clear hK1 hK2 K1 K2
            replace h := W_cnT h
            refine HT_exit ?_
            refine Then_e ?_
            refine InBlock_e ?_
            refine Then_n ?_
            refine HT_f DC_ok rfl fun K hK => ?_; (conv => whnf)
            refine hK _ _ _ ?_; clear hK K
            refine Then_n ?_
            replace h := W_xnx h
            refine ⟨_, h, ?_⟩
            refine weak_r ?_; (conv => whnf)
            exact And.intro rfl (And.intro (allL_c wkI (allL_c wkI (allL_c wkI (allL_c (WkR.so (fun _ => rfl)) (allL_c (WkR.so (fun _ => rfl)) (allL_c wkI (allL_c (WkR.ptr (fun _ => rfl)) (allL_c (wkr (loose_lst fun _ => (lo_TAttempt _))) (allL_c wkI (allL_c wkI allL_n)))))))))) (allL_c ⟨some _, rfl, BkR_c rfl (CkR_cons (wkr (loose_lst fun _ => (lo_TGrowth _))) (CkR_cons wkI CkR_nil))⟩ (allL_c ⟨some _, rfl, BkR_r rfl (fun _ => (loose_cons (loose_int _ _) loose_nil))⟩ (allL_c ⟨some _, rfl, BkR_r rfl (fun _ => (loose_cons (loose_int _ _) loose_nil))⟩ allL_n))))
          refine gd_lkN h (rfl) fun hx2438 h => ?_; (conv => whnf)
          refine nlA rfl ?_; (conv => whnf)
          refine blkK_of rfl ?_; (conv => whnf)
          refine get_flN (enc := eI) (d := default) (q := 0) (fun _ => rfl) (rfl) hx2438 (nle rfl) rfl ?_; (conv => whnf)
          refine hK _ _ _ ?_; clear hK K
          refine HT_if fun K1 K2 hK1 hK2 => ?_; (conv => whnf)
          refine cond_lk h (fun _ h => ?_) (fun _ h => ?_)
          · refine hK1 ?_; clear hK1 hK2 K1 K2
            refine HT_exit ?_
            refine Then_e ?_
            refine InBlock_e ?_
            refine Then_n ?_
            refine HT_f DC_ok rfl fun K hK => ?_; (conv => whnf)
            refine hK _ _ _ ?_; clear hK K
            refine Then_n ?_
            replace h := W_xnx h
            refine ⟨_, h, ?_⟩
            refine weak_r ?_; (conv => whnf)
            exact And.intro rfl (And.intro (allL_c wkI (allL_c wkI (allL_c wkI (allL_c (WkR.so (fun _ => rfl)) (allL_c (WkR.so (fun _ => rfl)) (allL_c wkI (allL_c (WkR.ptr (fun _ => rfl)) (allL_c (wkr (loose_lst fun _ => (lo_TAttempt _))) (allL_c wkI (allL_c wkI allL_n)))))))))) (allL_c ⟨some _, rfl, BkR_c rfl (CkR_cons (wkr (loose_lst fun _ => (lo_TGrowth _))) (CkR_cons wkI CkR_nil))⟩ (allL_c ⟨some _, rfl, BkR_r rfl (fun _ => (loose_cons (loose_int _ _) loose_nil))⟩ (allL_c ⟨some _, rfl, BkR_r rfl (fun _ => (loose_cons (loose_int _ _) loose_nil))⟩ allL_n))))
          refine hK2 ?_; clear hK1 hK2 K1 K2
          refine HT_skip ?_
          refine Then_n ?_
          refine HT_fr DC_ok rfl fun K hK => ?_; (conv => whnf)
          replace h := W_jn h
          refine ix_lk h fun _ h => ?_; (conv => whnf)
          refine getK_of rfl ?_; (conv => whnf)
          refine cond_lk h (fun _ h => ?_) (fun _ h => ?_) <;> (conv => whnf)
          · refine hK _ _ _ ?_; clear hK K
            replace h := W_jn h
            refine HT_if fun K1 K2 hK1 hK2 => ?_; (conv => whnf)
            refine hK1 ?_; clear hK1 hK2 K1 K2
            replace h := W_cnT h
            refine HT_fr DC_ok rfl fun K hK => ?_; (conv => whnf)
            refine gd_lkN h (rfl) fun hx2441 h => ?_; (conv => whnf)
            refine blkK_of rfl ?_; (conv => whnf)
            refine st_lk (enc := eI) (d := default) (q := 0) h (fun _ => rfl) (rfl) hx2441 rfl (nle rfl) rfl rfl (fun h => ?_); (conv => whnf)
            refine hK _ _ _ ?_; clear hK K
            refine HT_fr DC_ok rfl fun K hK => ?_; (conv => whnf)
            refine hK _ _ _ ?_; clear hK K
            refine HT_fr DC_ok rfl fun K hK => ?_; (conv => whnf)
            refine ix_lk h fun _ h => ?_; (conv => whnf)
            refine getK_of rfl ?_; (conv => whnf)
            refine hK _ _ _ ?_; clear hK K
            replace h := W_jn h
            refine HT_if fun K1 K2 hK1 hK2 => ?_; (conv => whnf)
            refine cond_lk h (fun _ h => ?_) (fun _ h => ?_)
            · refine hK1 ?_; clear hK1 hK2 K1 K2
              refine HT_f DC_ok rfl fun K hK => ?_; (conv => whnf)
              refine hK _ _ _ ?_; clear hK K
              refine InBlock_n ?_
              refine Then_n ?_
              refine HT_f DC_ok rfl fun K hK => ?_; (conv => whnf)
              refine hK _ _ _ ?_; clear hK K
              refine Then_n ?_
              replace h := W_xnx h
              refine ⟨_, h, ?_⟩
              refine weak_r ?_; (conv => whnf)
              exact And.intro rfl (And.intro (allL_c wkI (allL_c wkI (allL_c wkI (allL_c (WkR.so (fun _ => rfl)) (allL_c (WkR.soN (fun _ => rfl) (lenset rfl).symm) (allL_c wkI (allL_c (WkR.ptr (fun _ => rfl)) (allL_c (wkr (loose_lst fun _ => (lo_TAttempt _))) (allL_c wkI (allL_c wkI allL_n)))))))))) (allL_c ⟨some _, rfl, BkR_c rfl (CkR_cons (wkr (loose_lst fun _ => (lo_TGrowth _))) (CkR_cons wkI CkR_nil))⟩ (allL_c ⟨some _, rfl, BkR_r rfl (fun _ => (loose_cons (loose_int _ _) loose_nil))⟩ (allL_c ⟨some _, rfl, BkR_r rfl (fun _ => (loose_cons (loose_int _ _) loose_nil))⟩ allL_n))))
            refine hK2 ?_; clear hK1 hK2 K1 K2
            refine HT_skip ?_
            refine InBlock_n ?_
            refine Then_n ?_
            refine HT_f DC_ok rfl fun K hK => ?_; (conv => whnf)
            refine hK _ _ _ ?_; clear hK K
            refine Then_n ?_
            replace h := W_xnx h
            refine ⟨_, h, ?_⟩
            refine weak_r ?_; (conv => whnf)
            exact And.intro rfl (And.intro (allL_c wkI (allL_c wkI (allL_c wkI (allL_c (WkR.so (fun _ => rfl)) (allL_c (WkR.soN (fun _ => rfl) (lenset rfl).symm) (allL_c wkI (allL_c (WkR.ptr (fun _ => rfl)) (allL_c (wkr (loose_lst fun _ => (lo_TAttempt _))) (allL_c wkI (allL_c wkI allL_n)))))))))) (allL_c ⟨some _, rfl, BkR_c rfl (CkR_cons (wkr (loose_lst fun _ => (lo_TGrowth _))) (CkR_cons wkI CkR_nil))⟩ (allL_c ⟨some _, rfl, BkR_r rfl (fun _ => (loose_cons (loose_int _ _) loose_nil))⟩ (allL_c ⟨some _, rfl, BkR_r rfl (fun _ => (loose_cons (loose_int _ _) loose_nil))⟩ allL_n))))
          refine cond_lk h (fun _ h => ?_) (fun _ h => ?_) <;> (conv => whnf)
          · refine hK _ _ _ ?_; clear hK K
            replace h := W_jn h
            refine HT_if fun K1 K2 hK1 hK2 => ?_; (conv => whnf)
            refine cond_lk h (fun _ h => ?_) (fun _ h => ?_)
            · refine hK1 ?_; clear hK1 hK2 K1 K2
              refine HT_fr DC_ok rfl fun K hK => ?_; (conv => whnf)
              refine gd_lkN h (rfl) fun hx2444 h => ?_; (conv => whnf)
              refine blkK_of rfl ?_; (conv => whnf)
              refine st_lk (enc := eI) (d := default) (q := 0) h (fun _ => rfl) (rfl) hx2444 rfl (nle rfl) rfl rfl (fun h => ?_); (conv => whnf)
              refine hK _ _ _ ?_; clear hK K
              refine HT_fr DC_ok rfl fun K hK => ?_; (conv => whnf)
              refine hK _ _ _ ?_; clear hK K
              refine HT_fr DC_ok rfl fun K hK => ?_; (conv => whnf)
              refine ix_lk h fun _ h => ?_; (conv => whnf)
              refine getK_of rfl ?_; (conv => whnf)
              refine hK _ _ _ ?_; clear hK K
              replace h := W_jn h
              refine HT_if fun K1 K2 hK1 hK2 => ?_; (conv => whnf)
              refine cond_lk h (fun _ h => ?_) (fun _ h => ?_)
              · refine hK1 ?_; clear hK1 hK2 K1 K2
                refine HT_f DC_ok rfl fun K hK => ?_; (conv => whnf)
                refine hK _ _ _ ?_; clear hK K
                refine InBlock_n ?_
                refine Then_n ?_
                refine HT_f DC_ok rfl fun K hK => ?_; (conv => whnf)
                refine hK _ _ _ ?_; clear hK K
                refine Then_n ?_
                replace h := W_xnx h
                refine ⟨_, h, ?_⟩
                refine weak_r ?_; (conv => whnf)
                exact And.intro rfl (And.intro (allL_c wkI (allL_c wkI (allL_c wkI (allL_c (WkR.so (fun _ => rfl)) (allL_c (WkR.soN (fun _ => rfl) (lenset rfl).symm) (allL_c wkI (allL_c (WkR.ptr (fun _ => rfl)) (allL_c (wkr (loose_lst fun _ => (lo_TAttempt _))) (allL_c wkI (allL_c wkI allL_n)))))))))) (allL_c ⟨some _, rfl, BkR_c rfl (CkR_cons (wkr (loose_lst fun _ => (lo_TGrowth _))) (CkR_cons wkI CkR_nil))⟩ (allL_c ⟨some _, rfl, BkR_r rfl (fun _ => (loose_cons (loose_int _ _) loose_nil))⟩ (allL_c ⟨some _, rfl, BkR_r rfl (fun _ => (loose_cons (loose_int _ _) loose_nil))⟩ allL_n))))
              refine hK2 ?_; clear hK1 hK2 K1 K2
              refine HT_skip ?_
              refine InBlock_n ?_
              refine Then_n ?_
              refine HT_f DC_ok rfl fun K hK => ?_; (conv => whnf)
              refine hK _ _ _ ?_; clear hK K
              refine Then_n ?_
              replace h := W_xnx h
              refine ⟨_, h, ?_⟩
              refine weak_r ?_; (conv => whnf)
              exact And.intro rfl (And.intro (allL_c wkI (allL_c wkI (allL_c wkI (allL_c (WkR.so (fun _ => rfl)) (allL_c (WkR.soN (fun _ => rfl) (lenset rfl).symm) (allL_c wkI (allL_c (WkR.ptr (fun _ => rfl)) (allL_c (wkr (loose_lst fun _ => (lo_TAttempt _))) (allL_c wkI (allL_c wkI allL_n)))))))))) (allL_c ⟨some _, rfl, BkR_c rfl (CkR_cons (wkr (loose_lst fun _ => (lo_TGrowth _))) (CkR_cons wkI CkR_nil))⟩ (allL_c ⟨some _, rfl, BkR_r rfl (fun _ => (loose_cons (loose_int _ _) loose_nil))⟩ (allL_c ⟨some _, rfl, BkR_r rfl (fun _ => (loose_cons (loose_int _ _) loose_nil))⟩ allL_n))))
            refine hK2 ?_; clear hK1 hK2 K1 K2
            refine HT_f DC_ok rfl fun K hK => ?_; (conv => whnf)
            refine gd_lkN h (rfl) fun hx2445 h => ?_; (conv => whnf)
            refine blkK_of rfl ?_; (conv => whnf)
            refine st_lk (enc := eI) (d := default) (q := 0) h (fun _ => rfl) (rfl) hx2445 rfl (nle rfl) rfl rfl (fun h => ?_); (conv => whnf)
            refine hK _ _ _ ?_; clear hK K
            refine InBlock_n ?_
            refine Then_n ?_
            refine HT_f DC_ok rfl fun K hK => ?_; (conv => whnf)
            refine hK _ _ _ ?_; clear hK K
            refine Then_n ?_
            replace h := W_xnx h
            refine ⟨_, h, ?_⟩
            refine weak_r ?_; (conv => whnf)
            exact And.intro rfl (And.intro (allL_c wkI (allL_c wkI (allL_c wkI (allL_c (WkR.soN (fun _ => rfl) (lenset rfl).symm) (allL_c (WkR.so (fun _ => rfl)) (allL_c wkI (allL_c (WkR.ptr (fun _ => rfl)) (allL_c (wkr (loose_lst fun _ => (lo_TAttempt _))) (allL_c wkI (allL_c wkI allL_n)))))))))) (allL_c ⟨some _, rfl, BkR_c rfl (CkR_cons (wkr (loose_lst fun _ => (lo_TGrowth _))) (CkR_cons wkI CkR_nil))⟩ (allL_c ⟨some _, rfl, BkR_r rfl (fun _ => (loose_cons (loose_int _ _) loose_nil))⟩ (allL_c ⟨some _, rfl, BkR_r rfl (fun _ => (loose_cons (loose_int _ _) loose_nil))⟩ allL_n))))
          refine hK _ _ _ ?_; clear hK K
          replace h := W_jn h
          refine HT_if fun K1 K2 hK1 hK2 => ?_; (conv => whnf)
          refine hK2 ?_; clear hK1 hK2 K1 K2
          replace h := W_cnF h
          refine HT_f DC_ok rfl fun K hK => ?_; (conv => whnf)
          refine gd_lkN h (rfl) fun hx2448 h => ?_; (conv => whnf)
          refine blkK_of rfl ?_; (conv => whnf)
          refine st_lk (enc := eI) (d := default) (q := 0) h (fun _ => rfl) (rfl) hx2448 rfl (nle rfl) rfl rfl (fun h => ?_); (conv => whnf)
          refine hK _ _ _ ?_; clear hK K
          refine InBlock_n ?_
          refine Then_n ?_
          refine HT_f DC_ok rfl fun K hK => ?_; (conv => whnf)
          refine hK _ _ _ ?_; clear hK K
          refine Then_n ?_
          replace h := W_xnx h
          refine ⟨_, h, ?_⟩
          refine weak_r ?_; (conv => whnf)
          exact And.intro rfl (And.intro (allL_c wkI (allL_c wkI (allL_c wkI (allL_c (WkR.soN (fun _ => rfl) (lenset rfl).symm) (allL_c (WkR.so (fun _ => rfl)) (allL_c wkI (allL_c (WkR.ptr (fun _ => rfl)) (allL_c (wkr (loose_lst fun _ => (lo_TAttempt _))) (allL_c wkI (allL_c wkI allL_n)))))))))) (allL_c ⟨some _, rfl, BkR_c rfl (CkR_cons (wkr (loose_lst fun _ => (lo_TGrowth _))) (CkR_cons wkI CkR_nil))⟩ (allL_c ⟨some _, rfl, BkR_r rfl (fun _ => (loose_cons (loose_int _ _) loose_nil))⟩ (allL_c ⟨some _, rfl, BkR_r rfl (fun _ => (loose_cons (loose_int _ _) loose_nil))⟩ allL_n))))
        refine hK2 ?_; clear hK1 hK2 K1 K2
        refine HT_exit ?_
        refine Then_e ?_
        refine Then_e ?_
        refine InBlock_e ?_
        replace h := W_xbk h
        replace h := W_inl h
        refine InBlock_n ?_
        refine Then_n ?_
        refine HT_f DC_ok rfl fun K hK => ?_; (conv => whnf)
        refine hK _ _ _ ?_; clear hK K
        refine Then_n ?_
        replace h := W_xnx h
        refine ⟨_, h, ?_⟩
        refine weak_r ?_; (conv => whnf)
        exact And.intro rfl (And.intro (allL_c wkI (allL_c wkI (allL_c wkI (allL_c (WkR.so (fun _ => rfl)) (allL_c (WkR.so (fun _ => rfl)) (allL_c wkI (allL_c (WkR.ptr (fun _ => rfl)) (allL_c (wkr (loose_lst fun _ => (lo_TAttempt _))) allL_n)))))))) (allL_c ⟨some _, rfl, BkR_c rfl (CkR_cons (wkr (loose_lst fun _ => (lo_TGrowth _))) (CkR_cons wkI CkR_nil))⟩ (allL_c ⟨some _, rfl, BkR_r rfl (fun _ => (loose_cons (loose_int _ _) loose_nil))⟩ (allL_c ⟨some _, rfl, BkR_r rfl (fun _ => (loose_cons (loose_int _ _) loose_nil))⟩ allL_n))))
      refine hK2 ?_; clear hK1 hK2 K1 K2
      refine HT_skip ?_
      refine Then_n ?_
      refine HT_fr DC_ok rfl fun K hK => ?_; (conv => whnf)
      refine nlA rfl ?_; (conv => whnf)
      refine blkK_of rfl ?_; (conv => whnf)
      refine nlA rfl ?_; (conv => whnf)
      replace h := W_bd h
      refine ref34_capacity_call h43 h (WkL.refl _) (fun _ h => ?_); (conv => whnf)
      refine hK _ _ _ ?_; clear hK K
      refine HT_fr DC_ok rfl fun K hK => ?_; (conv => whnf)
      refine hK _ _ _ ?_; clear hK K
      refine HT_block ?_
      replace h := W_bd h
      refine HT_lpR (body := ref34_Storm_b4 _ _ _ _) rfl h [2, 3, 9, 14, 15] [3] [] [] (fun kl kh kr ids b s => ⟨ofL ([(12, eI s.1), (18, eI s.2.1), (19, eI s.2.2.1), (10, .so (b + 0) 0 s.2.2.2.1.length 1), (11, .so (b + 64) 0 s.2.2.2.2.length 1)] ++ kl), ofH (([] ++ kh) ++ ([(b + 0, .cells (flE (ceE eI) s.2.2.2.1)), (b + 64, .cells (flE (ceE eI) s.2.2.2.2))] ++ kr)), b + 192⟩) ?_; (conv => whnf); refine And.intro ?_ (fun s m h => HT_st ?_)
      · refine weak_r ?_; (conv => whnf)
        exact And.intro rfl (And.intro (allL_c wkI (allL_c wkI (allL_c wkI (allL_c (WkR.so (fun _ => rfl)) (allL_c (WkR.so (fun _ => rfl)) (allL_c wkI (allL_c (WkR.ptr (fun _ => rfl)) (allL_c (wkr (loose_lst fun _ => (lo_TAttempt _))) (allL_c wkI (allL_c wkI allL_n)))))))))) (allL_c ⟨some _, rfl, BkR_c rfl (CkR_cons (wkr (loose_lst fun _ => (lo_TGrowth _))) (CkR_cons wkI CkR_nil))⟩ (allL_c ⟨some _, rfl, BkR_r rfl (fun _ => (loose_cons (loose_int _ _) loose_nil))⟩ (allL_c ⟨some _, rfl, BkR_r rfl (fun _ => (loose_cons (loose_int _ _) loose_nil))⟩ allL_n))))
      replace h := W_bref34_Storm_b4 (W_bd h)
      refine HT_seq ?_
      refine HT_fr DC_ok rfl fun K hK => ?_; (conv => whnf)
      refine hK _ _ _ ?_; clear hK K
      refine HT_if fun K1 K2 hK1 hK2 => ?_; (conv => whnf)
      refine cond_lk h (fun _ h => ?_) (fun _ h => ?_)
      · refine hK1 ?_; clear hK1 hK2 K1 K2
        refine HT_skip ?_
        refine Then_n ?_
        refine HT_seq ?_
        replace h := W_jn h
        refine HT_block ?_
        refine HT_seq ?_
        refine HT_fr DC_ok rfl fun K hK => ?_; (conv => whnf)
        replace h := W_jn h
        refine gd_lkN h (rfl) fun hx2565 h => ?_; (conv => whnf)
        refine nlA rfl ?_; (conv => whnf)
        refine blkK_of rfl ?_; (conv => whnf)
        refine get_flN (enc := eI) (d := default) (q := 0) (fun _ => rfl) (rfl) hx2565 (nle rfl) rfl ?_; (conv => whnf)
        refine cond_lk h (fun _ h => ?_) (fun _ h => ?_) <;> (conv => whnf)
        · refine hK _ _ _ ?_; clear hK K
          refine HT_if fun K1 K2 hK1 hK2 => ?_; (conv => whnf)
          refine hK1 ?_; clear hK1 hK2 K1 K2
          replace h := W_cnT h
          refine HT_exit ?_
          refine Then_e ?_
          refine InBlock_e ?_
          refine Then_n ?_
          refine HT_f DC_ok rfl fun K hK => ?_; (conv => whnf)
          refine hK _ _ _ ?_; clear hK K
          refine Then_n ?_
          replace h := W_xnx h
          refine ⟨_, h, ?_⟩
          refine weak_r ?_; (conv => whnf)
          exact And.intro rfl (And.intro (allL_c wkI (allL_c wkI (allL_c wkI (allL_c (WkR.so (fun _ => rfl)) (allL_c (WkR.so (fun _ => rfl)) (allL_c wkI (allL_c (WkR.ptr (fun _ => rfl)) (allL_c (wkr (loose_lst fun _ => (lo_TAttempt _))) (allL_c wkI (allL_c wkI allL_n)))))))))) (allL_c ⟨some _, rfl, BkR_c rfl (CkR_cons (wkr (loose_lst fun _ => (lo_TGrowth _))) (CkR_cons wkI CkR_nil))⟩ (allL_c ⟨some _, rfl, BkR_r rfl (fun _ => (loose_cons (loose_int _ _) loose_nil))⟩ (allL_c ⟨some _, rfl, BkR_r rfl (fun _ => (loose_cons (loose_int _ _) loose_nil))⟩ allL_n))))
        refine gd_lkN h (rfl) fun hx2566 h => ?_; (conv => whnf)
        refine nlA rfl ?_; (conv => whnf)
        refine blkK_of rfl ?_; (conv => whnf)
        refine get_flN (enc := eI) (d := default) (q := 0) (fun _ => rfl) (rfl) hx2566 (nle rfl) rfl ?_; (conv => whnf)
        refine hK _ _ _ ?_; clear hK K
        refine HT_if fun K1 K2 hK1 hK2 => ?_; (conv => whnf)
        refine cond_lk h (fun _ h => ?_) (fun _ h => ?_)
        · refine hK1 ?_; clear hK1 hK2 K1 K2
          refine HT_exit ?_
          refine Then_e ?_
          refine InBlock_e ?_
          refine Then_n ?_
          refine HT_f DC_ok rfl fun K hK => ?_; (conv => whnf)
          refine hK _ _ _ ?_; clear hK K
          refine Then_n ?_
          replace h := W_xnx h
          refine ⟨_, h, ?_⟩
          refine weak_r ?_; (conv => whnf)
          exact And.intro rfl (And.intro (allL_c wkI (allL_c wkI (allL_c wkI (allL_c (WkR.so (fun _ => rfl)) (allL_c (WkR.so (fun _ => rfl)) (allL_c wkI (allL_c (WkR.ptr (fun _ => rfl)) (allL_c (wkr (loose_lst fun _ => (lo_TAttempt _))) (allL_c wkI (allL_c wkI allL_n)))))))))) (allL_c ⟨some _, rfl, BkR_c rfl (CkR_cons (wkr (loose_lst fun _ => (lo_TGrowth _))) (CkR_cons wkI CkR_nil))⟩ (allL_c ⟨some _, rfl, BkR_r rfl (fun _ => (loose_cons (loose_int _ _) loose_nil))⟩ (allL_c ⟨some _, rfl, BkR_r rfl (fun _ => (loose_cons (loose_int _ _) loose_nil))⟩ allL_n))))
        refine hK2 ?_; clear hK1 hK2 K1 K2
        refine HT_skip ?_
        refine Then_n ?_
        refine HT_fr DC_ok rfl fun K hK => ?_; (conv => whnf)
        replace h := W_jn h
        refine ix_lk h fun _ h => ?_; (conv => whnf)
        refine getK_of rfl ?_; (conv => whnf)
        refine cond_lk h (fun _ h => ?_) (fun _ h => ?_) <;> (conv => whnf)
        · refine hK _ _ _ ?_; clear hK K
          replace h := W_jn h
          refine HT_if fun K1 K2 hK1 hK2 => ?_; (conv => whnf)
          refine hK1 ?_; clear hK1 hK2 K1 K2
          replace h := W_cnT h
          refine HT_fr DC_ok rfl fun K hK => ?_; (conv => whnf)
          refine gd_lkN h (rfl) fun hx2569 h => ?_; (conv => whnf)
          refine blkK_of rfl ?_; (conv => whnf)
          refine st_lk (enc := eI) (d := default) (q := 0) h (fun _ => rfl) (rfl) hx2569 rfl (nle rfl) rfl rfl (fun h => ?_); (conv => whnf)
          refine hK _ _ _ ?_; clear hK K
          refine HT_fr DC_ok rfl fun K hK => ?_; (conv => whnf)
          refine hK _ _ _ ?_; clear hK K
          refine HT_fr DC_ok rfl fun K hK => ?_; (conv => whnf)
          refine ix_lk h fun _ h => ?_; (conv => whnf)
          refine getK_of rfl ?_; (conv => whnf)
          refine hK _ _ _ ?_; clear hK K
          replace h := W_jn h
          refine HT_if fun K1 K2 hK1 hK2 => ?_; (conv => whnf)
          refine cond_lk h (fun _ h => ?_) (fun _ h => ?_)
          · refine hK1 ?_; clear hK1 hK2 K1 K2
            refine HT_f DC_ok rfl fun K hK => ?_; (conv => whnf)
            refine hK _ _ _ ?_; clear hK K
            refine InBlock_n ?_
            refine Then_n ?_
            refine HT_f DC_ok rfl fun K hK => ?_; (conv => whnf)
            refine hK _ _ _ ?_; clear hK K
            refine Then_n ?_
            replace h := W_xnx h
            refine ⟨_, h, ?_⟩
            refine weak_r ?_; (conv => whnf)
            exact And.intro rfl (And.intro (allL_c wkI (allL_c wkI (allL_c wkI (allL_c (WkR.so (fun _ => rfl)) (allL_c (WkR.soN (fun _ => rfl) (lenset rfl).symm) (allL_c wkI (allL_c (WkR.ptr (fun _ => rfl)) (allL_c (wkr (loose_lst fun _ => (lo_TAttempt _))) (allL_c wkI (allL_c wkI allL_n)))))))))) (allL_c ⟨some _, rfl, BkR_c rfl (CkR_cons (wkr (loose_lst fun _ => (lo_TGrowth _))) (CkR_cons wkI CkR_nil))⟩ (allL_c ⟨some _, rfl, BkR_r rfl (fun _ => (loose_cons (loose_int _ _) loose_nil))⟩ (allL_c ⟨some _, rfl, BkR_r rfl (fun _ => (loose_cons (loose_int _ _) loose_nil))⟩ allL_n))))
          refine hK2 ?_; clear hK1 hK2 K1 K2
          refine HT_skip ?_
          refine InBlock_n ?_
          refine Then_n ?_
          refine HT_f DC_ok rfl fun K hK => ?_; (conv => whnf)
          refine hK _ _ _ ?_; clear hK K
          refine Then_n ?_
          replace h := W_xnx h
          refine ⟨_, h, ?_⟩
          refine weak_r ?_; (conv => whnf)
          exact And.intro rfl (And.intro (allL_c wkI (allL_c wkI (allL_c wkI (allL_c (WkR.so (fun _ => rfl)) (allL_c (WkR.soN (fun _ => rfl) (lenset rfl).symm) (allL_c wkI (allL_c (WkR.ptr (fun _ => rfl)) (allL_c (wkr (loose_lst fun _ => (lo_TAttempt _))) (allL_c wkI (allL_c wkI allL_n)))))))))) (allL_c ⟨some _, rfl, BkR_c rfl (CkR_cons (wkr (loose_lst fun _ => (lo_TGrowth _))) (CkR_cons wkI CkR_nil))⟩ (allL_c ⟨some _, rfl, BkR_r rfl (fun _ => (loose_cons (loose_int _ _) loose_nil))⟩ (allL_c ⟨some _, rfl, BkR_r rfl (fun _ => (loose_cons (loose_int _ _) loose_nil))⟩ allL_n))))
        refine cond_lk h (fun _ h => ?_) (fun _ h => ?_) <;> (conv => whnf)
        · refine hK _ _ _ ?_; clear hK K
          replace h := W_jn h
          refine HT_if fun K1 K2 hK1 hK2 => ?_; (conv => whnf)
          refine cond_lk h (fun _ h => ?_) (fun _ h => ?_)
          · refine hK1 ?_; clear hK1 hK2 K1 K2
            refine HT_fr DC_ok rfl fun K hK => ?_; (conv => whnf)
            refine gd_lkN h (rfl) fun hx2572 h => ?_; (conv => whnf)
            refine blkK_of rfl ?_; (conv => whnf)
            refine st_lk (enc := eI) (d := default) (q := 0) h (fun _ => rfl) (rfl) hx2572 rfl (nle rfl) rfl rfl (fun h => ?_); (conv => whnf)
            refine hK _ _ _ ?_; clear hK K
            refine HT_fr DC_ok rfl fun K hK => ?_; (conv => whnf)
            refine hK _ _ _ ?_; clear hK K
            refine HT_fr DC_ok rfl fun K hK => ?_; (conv => whnf)
            refine ix_lk h fun _ h => ?_; (conv => whnf)
            refine getK_of rfl ?_; (conv => whnf)
            refine hK _ _ _ ?_; clear hK K
            replace h := W_jn h
            refine HT_if fun K1 K2 hK1 hK2 => ?_; (conv => whnf)
            refine cond_lk h (fun _ h => ?_) (fun _ h => ?_)
            · refine hK1 ?_; clear hK1 hK2 K1 K2
              refine HT_f DC_ok rfl fun K hK => ?_; (conv => whnf)
              refine hK _ _ _ ?_; clear hK K
              refine InBlock_n ?_
              refine Then_n ?_
              refine HT_f DC_ok rfl fun K hK => ?_; (conv => whnf)
              refine hK _ _ _ ?_; clear hK K
              refine Then_n ?_
              replace h := W_xnx h
              refine ⟨_, h, ?_⟩
              refine weak_r ?_; (conv => whnf)
              exact And.intro rfl (And.intro (allL_c wkI (allL_c wkI (allL_c wkI (allL_c (WkR.so (fun _ => rfl)) (allL_c (WkR.soN (fun _ => rfl) (lenset rfl).symm) (allL_c wkI (allL_c (WkR.ptr (fun _ => rfl)) (allL_c (wkr (loose_lst fun _ => (lo_TAttempt _))) (allL_c wkI (allL_c wkI allL_n)))))))))) (allL_c ⟨some _, rfl, BkR_c rfl (CkR_cons (wkr (loose_lst fun _ => (lo_TGrowth _))) (CkR_cons wkI CkR_nil))⟩ (allL_c ⟨some _, rfl, BkR_r rfl (fun _ => (loose_cons (loose_int _ _) loose_nil))⟩ (allL_c ⟨some _, rfl, BkR_r rfl (fun _ => (loose_cons (loose_int _ _) loose_nil))⟩ allL_n))))
            refine hK2 ?_; clear hK1 hK2 K1 K2
            refine HT_skip ?_
            refine InBlock_n ?_
            refine Then_n ?_
            refine HT_f DC_ok rfl fun K hK => ?_; (conv => whnf)
            refine hK _ _ _ ?_; clear hK K
            refine Then_n ?_
            replace h := W_xnx h
            refine ⟨_, h, ?_⟩
            refine weak_r ?_; (conv => whnf)
            exact And.intro rfl (And.intro (allL_c wkI (allL_c wkI (allL_c wkI (allL_c (WkR.so (fun _ => rfl)) (allL_c (WkR.soN (fun _ => rfl) (lenset rfl).symm) (allL_c wkI (allL_c (WkR.ptr (fun _ => rfl)) (allL_c (wkr (loose_lst fun _ => (lo_TAttempt _))) (allL_c wkI (allL_c wkI allL_n)))))))))) (allL_c ⟨some _, rfl, BkR_c rfl (CkR_cons (wkr (loose_lst fun _ => (lo_TGrowth _))) (CkR_cons wkI CkR_nil))⟩ (allL_c ⟨some _, rfl, BkR_r rfl (fun _ => (loose_cons (loose_int _ _) loose_nil))⟩ (allL_c ⟨some _, rfl, BkR_r rfl (fun _ => (loose_cons (loose_int _ _) loose_nil))⟩ allL_n))))
          refine hK2 ?_; clear hK1 hK2 K1 K2
          refine HT_f DC_ok rfl fun K hK => ?_; (conv => whnf)
          refine gd_lkN h (rfl) fun hx2573 h => ?_; (conv => whnf)
          refine blkK_of rfl ?_; (conv => whnf)
          refine st_lk (enc := eI) (d := default) (q := 0) h (fun _ => rfl) (rfl) hx2573 rfl (nle rfl) rfl rfl (fun h => ?_); (conv => whnf)
          refine hK _ _ _ ?_; clear hK K
          refine InBlock_n ?_
          refine Then_n ?_
          refine HT_f DC_ok rfl fun K hK => ?_; (conv => whnf)
          refine hK _ _ _ ?_; clear hK K
          refine Then_n ?_
          replace h := W_xnx h
          refine ⟨_, h, ?_⟩
          refine weak_r ?_; (conv => whnf)
          exact And.intro rfl (And.intro (allL_c wkI (allL_c wkI (allL_c wkI (allL_c (WkR.soN (fun _ => rfl) (lenset rfl).symm) (allL_c (WkR.so (fun _ => rfl)) (allL_c wkI (allL_c (WkR.ptr (fun _ => rfl)) (allL_c (wkr (loose_lst fun _ => (lo_TAttempt _))) (allL_c wkI (allL_c wkI allL_n)))))))))) (allL_c ⟨some _, rfl, BkR_c rfl (CkR_cons (wkr (loose_lst fun _ => (lo_TGrowth _))) (CkR_cons wkI CkR_nil))⟩ (allL_c ⟨some _, rfl, BkR_r rfl (fun _ => (loose_cons (loose_int _ _) loose_nil))⟩ (allL_c ⟨some _, rfl, BkR_r rfl (fun _ => (loose_cons (loose_int _ _) loose_nil))⟩ allL_n))))
        refine hK _ _ _ ?_; clear hK K
        replace h := W_jn h
        refine HT_if fun K1 K2 hK1 hK2 => ?_; (conv => whnf)
        refine hK2 ?_; clear hK1 hK2 K1 K2
        replace h := W_cnF h
        refine HT_f DC_ok rfl fun K hK => ?_; (conv => whnf)
        refine gd_lkN h (rfl) fun hx2576 h => ?_; (conv => whnf)
        refine blkK_of rfl ?_; (conv => whnf)
        refine st_lk (enc := eI) (d := default) (q := 0) h (fun _ => rfl) (rfl) hx2576 rfl (nle rfl) rfl rfl (fun h => ?_); (conv => whnf)
        refine hK _ _ _ ?_; clear hK K
        refine InBlock_n ?_
        refine Then_n ?_
        refine HT_f DC_ok rfl fun K hK => ?_; (conv => whnf)
        refine hK _ _ _ ?_; clear hK K
        refine Then_n ?_
        replace h := W_xnx h
        refine ⟨_, h, ?_⟩
        refine weak_r ?_; (conv => whnf)
        exact And.intro rfl (And.intro (allL_c wkI (allL_c wkI (allL_c wkI (allL_c (WkR.soN (fun _ => rfl) (lenset rfl).symm) (allL_c (WkR.so (fun _ => rfl)) (allL_c wkI (allL_c (WkR.ptr (fun _ => rfl)) (allL_c (wkr (loose_lst fun _ => (lo_TAttempt _))) (allL_c wkI (allL_c wkI allL_n)))))))))) (allL_c ⟨some _, rfl, BkR_c rfl (CkR_cons (wkr (loose_lst fun _ => (lo_TGrowth _))) (CkR_cons wkI CkR_nil))⟩ (allL_c ⟨some _, rfl, BkR_r rfl (fun _ => (loose_cons (loose_int _ _) loose_nil))⟩ (allL_c ⟨some _, rfl, BkR_r rfl (fun _ => (loose_cons (loose_int _ _) loose_nil))⟩ allL_n))))
      refine hK2 ?_; clear hK1 hK2 K1 K2
      refine HT_exit ?_
      refine Then_e ?_
      refine Then_e ?_
      refine InBlock_e ?_
      replace h := W_xbk h
      replace h := W_inl h
      refine InBlock_n ?_
      refine Then_n ?_
      refine HT_f DC_ok rfl fun K hK => ?_; (conv => whnf)
      refine hK _ _ _ ?_; clear hK K
      refine Then_n ?_
      replace h := W_xnx h
      refine ⟨_, h, ?_⟩
      refine weak_r ?_; (conv => whnf)
      exact And.intro rfl (And.intro (allL_c wkI (allL_c wkI (allL_c wkI (allL_c (WkR.so (fun _ => rfl)) (allL_c (WkR.so (fun _ => rfl)) (allL_c wkI (allL_c (WkR.ptr (fun _ => rfl)) (allL_c (wkr (loose_lst fun _ => (lo_TAttempt _))) allL_n)))))))) (allL_c ⟨some _, rfl, BkR_c rfl (CkR_cons (wkr (loose_lst fun _ => (lo_TGrowth _))) (CkR_cons wkI CkR_nil))⟩ (allL_c ⟨some _, rfl, BkR_r rfl (fun _ => (loose_cons (loose_int _ _) loose_nil))⟩ (allL_c ⟨some _, rfl, BkR_r rfl (fun _ => (loose_cons (loose_int _ _) loose_nil))⟩ allL_n))))
    refine hK2 ?_; clear hK1 hK2 K1 K2
    refine HT_exit ?_
    refine Then_e ?_
    refine Then_e ?_
    refine InBlock_e ?_
    replace h := W_xbk h
    replace h := W_inl h
    refine Then_n ?_
    refine HT_fr DC_ok rfl fun K hK => ?_; (conv => whnf)
    refine hK _ _ _ ?_; clear hK K
    refine HT_seq ?_
    refine HT_fr DC_ok rfl fun K hK => ?_; (conv => whnf)
    refine hK _ _ _ ?_; clear hK K
    refine HT_block ?_
    replace h := W_bd h
    refine HT_lpR (body := ref34_Storm_b5 _ _) rfl h [9, 11, 14] [] [11] [] (fun kl kh kr ids b s => ⟨ofL ([(20, .lst (.tok (b + 0)) 3 s.1.length (fun j => eTTicket (s.1.getD j default))), (21, eI s.2)] ++ kl), ofH (([(b + 0, .cells [])] ++ kh) ++ ([] ++ kr)), b + 128⟩) ?_; (conv => whnf); refine And.intro ?_ (fun s m h => HT_st ?_)
    · refine weak_r ?_; (conv => whnf)
      exact And.intro rfl (And.intro (allL_c (WkR.nil (fun _ => rfl)) (allL_c wkI (allL_c (wkr (loose_lst fun _ => (lo_TAttempt _))) (allL_c (WkR.so (fun _ => rfl)) (allL_c wkI allL_n))))) (allL_c ⟨none, rfl, BkR_n⟩ (allL_c ⟨some _, rfl, BkR_r rfl (fun _ => (loose_cons (loose_int _ _) loose_nil))⟩ allL_n)))
    replace h := W_bref34_Storm_b5 (W_bd h)
    refine HT_seq ?_
    refine HT_fr DC_ok rfl fun K hK => ?_; (conv => whnf)
    refine hK _ _ _ ?_; clear hK K
    refine HT_if fun K1 K2 hK1 hK2 => ?_; (conv => whnf)
    refine cond_lk h (fun _ h => ?_) (fun _ h => ?_)
    · refine hK1 ?_; clear hK1 hK2 K1 K2
      refine HT_skip ?_
      refine Then_n ?_
      refine HT_seq ?_
      refine HT_block ?_
      refine HT_fr DC_ok rfl fun K hK => ?_; (conv => whnf)
      refine gd_lkN h (rfl) fun hx2613 h => ?_; (conv => whnf)
      refine nlA rfl ?_; (conv => whnf)
      refine blkK_of rfl ?_; (conv => whnf)
      refine get_flN (enc := eI) (d := default) (q := 0) (fun _ => rfl) (rfl) hx2613 (nle rfl) rfl ?_; (conv => whnf)
      refine hK _ _ _ ?_; clear hK K
      replace h := W_jn h
      refine HT_if fun K1 K2 hK1 hK2 => ?_; (conv => whnf)
      refine cond_lk h (fun _ h => ?_) (fun _ h => ?_)
      · refine hK1 ?_; clear hK1 hK2 K1 K2
        refine HT_fD DC_ok mix_ok rfl (by kernel_rfl) fun K hK => ?_; (conv => whnf)
        refine ix_lk h fun _ h => ?_; (conv => whnf)
        refine getK_of rfl ?_; (conv => whnf)
        refine ix_lk h fun _ h => ?_; (conv => whnf)
        refine getK_of rfl ?_; (conv => whnf)
        refine gd_lkN h (rfl) fun hx2615 h => ?_; (conv => whnf)
        refine nlA rfl ?_; (conv => whnf)
        refine blkK_of rfl ?_; (conv => whnf)
        refine get_flN (enc := eI) (d := default) (q := 0) (fun _ => rfl) (rfl) hx2615 (nle rfl) rfl ?_; (conv => whnf)
        refine lt_lk (enc := eTTicket) (d := default) DC_ok h rfl rfl rfl ⟨nle rfl, nle rfl, rfl⟩ rfl ⟨⟨rfl, nle rfl⟩, trivial⟩ (fun h => ?_); (conv => whnf)
        refine ap_lk (enc := eTTicket) (d := default) DC_ok h (.inl rfl) rfl rfl rfl ⟨rfl, nle rfl, nle rfl, nle rfl, rfl⟩ (fun _ => rfl) (.inr (.inr ⟨_, _, rfl, rfl, rfl⟩)) (fun h => ?_); (conv => whnf)
        refine hK _ _ _ ?_; clear hK K
        refine InBlock_n ?_
        refine Then_n ?_
        refine HT_f DC_ok rfl fun K hK => ?_; (conv => whnf)
        refine hK _ _ _ ?_; clear hK K
        refine Then_n ?_
        replace h := W_xnx h
        refine ⟨_, h, ?_⟩
        refine weak_r ?_; (conv => whnf)
        exact And.intro rfl (And.intro (allL_c (WkR.tok (fun _ => rfl) rfl (fun _ _ => Wk.refl _) (fun _ => (lo_TTicket _))) (allL_c wkI (allL_c (wkr (loose_lst fun _ => (lo_TAttempt _))) (allL_c (WkR.so (fun _ => rfl)) (allL_c wkI allL_n))))) (allL_c ⟨some _, rfl, BkR_c rfl CkR_nil⟩ (allL_c ⟨some _, rfl, BkR_r rfl (fun _ => (loose_cons (loose_int _ _) loose_nil))⟩ allL_n)))
      refine hK2 ?_; clear hK1 hK2 K1 K2
      refine HT_skip ?_
      refine InBlock_n ?_
      refine Then_n ?_
      refine HT_f DC_ok rfl fun K hK => ?_; (conv => whnf)
      refine hK _ _ _ ?_; clear hK K
      refine Then_n ?_
      replace h := W_xnx h
      refine ⟨_, h, ?_⟩
      refine weak_r ?_; (conv => whnf)
      exact And.intro rfl (And.intro (allL_c (WkR.tok (fun _ => rfl) rfl (fun _ _ => Wk.refl _) (fun _ => (lo_TTicket _))) (allL_c wkI (allL_c (wkr (loose_lst fun _ => (lo_TAttempt _))) (allL_c (WkR.so (fun _ => rfl)) (allL_c wkI allL_n))))) (allL_c ⟨some _, rfl, BkR_c rfl CkR_nil⟩ (allL_c ⟨some _, rfl, BkR_r rfl (fun _ => (loose_cons (loose_int _ _) loose_nil))⟩ allL_n)))
    refine hK2 ?_; clear hK1 hK2 K1 K2
    refine HT_exit ?_
    refine Then_e ?_
    refine Then_e ?_
    refine InBlock_e ?_
    replace h := W_xbk h
    replace h := W_inl h
    refine Then_n ?_
    refine HT_fr DC_ok rfl fun K hK => ?_; (conv => whnf)
    refine hK _ _ _ ?_; clear hK K
    refine HT_ret ?_
    replace h := W_some h
    refine PostP_r DC_ok fun K hK => ?_; (conv => whnf)
    refine hK _ ?_; clear hK K
    cases h
    exact Wk_tup (WkL_cons Wk_free (WkL_cons (Wk.refl _) (WkL_cons (Wk.refl _) WkL_nil)))
  refine hK _ _ _ ?_; clear hK K
  refine HT_if fun K1 K2 hK1 hK2 => ?_; (conv => whnf)
  refine hK2 ?_; clear hK1 hK2 K1 K2
  replace h := W_cnF h
  refine HT_exit ?_
  refine Then_e ?_
  refine Then_e ?_
  refine InBlock_e ?_
  replace h := W_xbk h
  replace h := W_inl h
  refine Then_n ?_
  refine HT_fr DC_ok rfl fun K hK => ?_; (conv => whnf)
  refine hK _ _ _ ?_; clear hK K
  refine HT_seq ?_
  refine HT_fr DC_ok rfl fun K hK => ?_; (conv => whnf)
  refine hK _ _ _ ?_; clear hK K
  refine HT_block ?_
  replace h := W_bd h
  refine HT_lpR (body := ref34_Storm_b5 _ _) rfl h [9, 11, 14] [] [11] [] (fun kl kh kr ids b s => ⟨ofL ([(20, .lst (.tok (b + 0)) 3 s.1.length (fun j => eTTicket (s.1.getD j default))), (21, eI s.2)] ++ kl), ofH (([(b + 0, .cells [])] ++ kh) ++ ([] ++ kr)), b + 128⟩) ?_; (conv => whnf); refine And.intro ?_ (fun s m h => HT_st ?_)
  · refine weak_r ?_; (conv => whnf)
    exact And.intro rfl (And.intro (allL_c (WkR.nil (fun _ => rfl)) (allL_c wkI (allL_c (wkr (loose_lst fun _ => (lo_TAttempt _))) (allL_c (WkR.so (fun _ => rfl)) (allL_c wkI allL_n))))) (allL_c ⟨none, rfl, BkR_n⟩ (allL_c ⟨some _, rfl, BkR_r rfl (fun _ => (loose_cons (loose_int _ _) loose_nil))⟩ allL_n)))
  replace h := W_bref34_Storm_b5 (W_bd h)
  refine HT_seq ?_
  refine HT_fr DC_ok rfl fun K hK => ?_; (conv => whnf)
  refine hK _ _ _ ?_; clear hK K
  refine HT_if fun K1 K2 hK1 hK2 => ?_; (conv => whnf)
  refine cond_lk h (fun _ h => ?_) (fun _ h => ?_)
  · refine hK1 ?_; clear hK1 hK2 K1 K2
    refine HT_skip ?_
    refine Then_n ?_
    refine HT_seq ?_
    refine HT_block ?_
    refine HT_fr DC_ok rfl fun K hK => ?_; (conv => whnf)
    refine gd_lkN h (rfl) fun hx2652 h => ?_; (conv => whnf)
    refine nlA rfl ?_; (conv => whnf)
    refine blkK_of rfl ?_; (conv => whnf)
    refine get_flN (enc := eI) (d := default) (q := 0) (fun _ => rfl) (rfl) hx2652 (nle rfl) rfl ?_; (conv => whnf)
    refine hK _ _ _ ?_; clear hK K
    replace h := W_jn h
    refine HT_if fun K1 K2 hK1 hK2 => ?_; (conv => whnf)
    refine cond_lk h (fun _ h => ?_) (fun _ h => ?_)
    · refine hK1 ?_; clear hK1 hK2 K1 K2
      refine HT_fD DC_ok mix_ok rfl (by kernel_rfl) fun K hK => ?_; (conv => whnf)
      refine ix_lk h fun _ h => ?_; (conv => whnf)
      refine getK_of rfl ?_; (conv => whnf)
      refine ix_lk h fun _ h => ?_; (conv => whnf)
      refine getK_of rfl ?_; (conv => whnf)
      refine gd_lkN h (rfl) fun hx2654 h => ?_; (conv => whnf)
      refine nlA rfl ?_; (conv => whnf)
      refine blkK_of rfl ?_; (conv => whnf)
      refine get_flN (enc := eI) (d := default) (q := 0) (fun _ => rfl) (rfl) hx2654 (nle rfl) rfl ?_; (conv => whnf)
      refine lt_lk (enc := eTTicket) (d := default) DC_ok h rfl rfl rfl ⟨nle rfl, nle rfl, rfl⟩ rfl ⟨⟨rfl, nle rfl⟩, trivial⟩ (fun h => ?_); (conv => whnf)
      refine ap_lk (enc := eTTicket) (d := default) DC_ok h (.inl rfl) rfl rfl rfl ⟨rfl, nle rfl, nle rfl, nle rfl, rfl⟩ (fun _ => rfl) (.inr (.inr ⟨_, _, rfl, rfl, rfl⟩)) (fun h => ?_); (conv => whnf)
      refine hK _ _ _ ?_; clear hK K
      refine InBlock_n ?_
      refine Then_n ?_
      refine HT_f DC_ok rfl fun K hK => ?_; (conv => whnf)
      refine hK _ _ _ ?_; clear hK K
      refine Then_n ?_
      replace h := W_xnx h
      refine ⟨_, h, ?_⟩
      refine weak_r ?_; (conv => whnf)
      exact And.intro rfl (And.intro (allL_c (WkR.tok (fun _ => rfl) rfl (fun _ _ => Wk.refl _) (fun _ => (lo_TTicket _))) (allL_c wkI (allL_c (wkr (loose_lst fun _ => (lo_TAttempt _))) (allL_c (WkR.so (fun _ => rfl)) (allL_c wkI allL_n))))) (allL_c ⟨some _, rfl, BkR_c rfl CkR_nil⟩ (allL_c ⟨some _, rfl, BkR_r rfl (fun _ => (loose_cons (loose_int _ _) loose_nil))⟩ allL_n)))
    refine hK2 ?_; clear hK1 hK2 K1 K2
    refine HT_skip ?_
    refine InBlock_n ?_
    refine Then_n ?_
    refine HT_f DC_ok rfl fun K hK => ?_; (conv => whnf)
    refine hK _ _ _ ?_; clear hK K
    refine Then_n ?_
    replace h := W_xnx h
    refine ⟨_, h, ?_⟩
    refine weak_r ?_; (conv => whnf)
    exact And.intro rfl (And.intro (allL_c (WkR.tok (fun _ => rfl) rfl (fun _ _ => Wk.refl _) (fun _ => (lo_TTicket _))) (allL_c wkI (allL_c (wkr (loose_lst fun _ => (lo_TAttempt _))) (allL_c (WkR.so (fun _ => rfl)) (allL_c wkI allL_n))))) (allL_c ⟨some _, rfl, BkR_c rfl CkR_nil⟩ (allL_c ⟨some _, rfl, BkR_r rfl (fun _ => (loose_cons (loose_int _ _) loose_nil))⟩ allL_n)))
  refine hK2 ?_; clear hK1 hK2 K1 K2
  refine HT_exit ?_
  refine Then_e ?_
  refine Then_e ?_
  refine InBlock_e ?_
  replace h := W_xbk h
  replace h := W_inl h
  refine Then_n ?_
  refine HT_fr DC_ok rfl fun K hK => ?_; (conv => whnf)
  refine hK _ _ _ ?_; clear hK K
  refine HT_ret ?_
  replace h := W_some h
  refine PostP_r DC_ok fun K hK => ?_; (conv => whnf)
  refine hK _ ?_; clear hK K
  cases h
  exact Wk_tup (WkL_cons Wk_free (WkL_cons (Wk.refl _) (WkL_cons (Wk.refl _) WkL_nil)))
theorem ref34_Storm_call {T : Tbl} (hT : T 35 = pureR ref34_Storm_S) {args : List AV} {hp : Heap} {id : Nat} {k : AV → Prop} {a0 : TRegion} {a1 : List TAttempt} {a2 : Int} {Φ : (List TTicket) × Int × Int → Prop} (h : W (ref34_Storm_F a0 a1 a2) Φ) (hw : WkL args [eTRegion a0, (eL 3 eTAttempt default) a1, eI a2]) (hk : ∀ y, Φ y → k (.tup [(eL 3 eTTicket default) y.1, eI y.2.1, eI y.2.2])) : callpK T 35 args hp id k := by
  obtain ⟨y, e, hy⟩ := W_inv h
  exact callpK_pure hT ⟨a0, a1, a2, rfl, W_of e rfl⟩ (by exact loose_tup (loose_cons (loose_lst fun _ => (lo_TTicket _)) (loose_cons (loose_int _ _) (loose_cons (loose_int _ _) loose_nil)))) hw (hk y hy)
def ref34_BentAttempts_b1 (a0 : List TAttempt) (a2 : Int) (s15 : (List TAttempt)) : Option (Ct ((List TAttempt)) (List TAttempt)) := jn (fun p16 : Bool =>
    cn p16 (bd (ref34_pick_F a2 20) fun y19 => lt ([(⟨(wr (50 + (s15.length : Int))), y19, false⟩ : TAttempt)] : List TAttempt) fun l20 => ap s15 l20 fun l21 =>
    some (.nx l21)) (some (.bk s15))) fun k17 => cn (decide ((s15.length : Int) < 41)) (bd (ref34_pick_F a2 2) fun y18 => cn (y18 == 0) (k17 true) (k17 ((s15.length : Int) ==
    (a0.length : Int)))) (k17 ((s15.length : Int) == (a0.length : Int)))
theorem W_bref34_BentAttempts_b1 {a0 : List TAttempt} {a2 : Int} {s15 : (List TAttempt)} {Φ : Ct ((List TAttempt)) (List TAttempt) → Prop} (h : W (ref34_BentAttempts_b1 a0 a2 s15) Φ) : W (jn (fun p16 : Bool => cn p16 (bd (ref34_pick_F a2 20) fun y19 => lt ([(⟨(wr (50 + (s15.length : Int))), y19, false⟩ : TAttempt)] : List TAttempt) fun l20 => ap s15 l20 fun l21 =>
    some (.nx l21)) (some (.bk s15))) fun k17 => cn (decide ((s15.length : Int) < 41)) (bd (ref34_pick_F a2 2) fun y18 => cn (y18 == 0) (k17 true) (k17 ((s15.length : Int) ==
    (a0.length : Int)))) (k17 ((s15.length : Int) == (a0.length : Int)))) Φ := h
def ref34_BentAttempts_F (a0 : List TAttempt) (a1 : Int) (a2 : Int) (a3 : Int) : Option (List TAttempt) := lt ([] : List TAttempt) fun l1 =>
    gd (a0.length ≤ 1048576) (lt a0 fun l2 => cn ((l2.length : Int) == 0) (lt ([(⟨a2, 0, false⟩ : TAttempt)] : List TAttempt) fun l3 =>
    some l3) (bd (ref34_pick_F a3 (l2.length : Int)) fun y4 => bd (ref34_pick_F a1 4) fun y5 => jn (fun p6 : (List TAttempt) => some p6) fun k7 => cn (y5 ==
    0) (gd (0 ≤ y4 ∧ y4 < (l2.length : Int)) (st l2 (y4) (⟨a2, (l2.getD (y4).toNat default).At, (l2.getD (y4).toNat default).Urgent⟩ : TAttempt) fun l8 =>
    k7 l8)) (jn (fun p9 : (List TAttempt) => k7 p9) fun k10 => cn (y5 ==
    1) (gd (0 ≤ y4 ∧ y4 < (l2.length : Int)) (st l2 (y4) (⟨(l2.getD (y4).toNat default).Caller, a2, (l2.getD (y4).toNat default).Urgent⟩ : TAttempt) fun l11 =>
    k10 l11)) (jn (fun p12 : (List TAttempt) => k10 p12) fun k13 => cn (y5 ==
    2) (gd (0 ≤ y4 ∧ y4 < (l2.length : Int)) (gd (0 ≤ y4 ∧ y4 < (l2.length : Int)) (st l2 (y4) (⟨(l2.getD (y4).toNat default).Caller, (l2.getD (y4).toNat default).At, (!((l2.getD (y4).toNat default).Urgent))⟩ : TAttempt) fun l14 =>
    k13 l14))) (bd (lp (ref34_BentAttempts_b1 a0 a2) FU l2) fun c22 => smK c22 (fun s23 => k13 s23) (fun r24 => some r24))))))
def ref34_BentAttempts_S : List AV → AV → Prop := fun args r => ∃ a0 a1 a2 a3, args = [(eL 3 eTAttempt default) a0, eI a1, eI a2, eI a3] ∧ W (ref34_BentAttempts_F a0 a1 a2 a3) fun y => r = ((eL 3 eTAttempt default) y)
theorem ref34_BentAttempts_ok {T : Tbl} (hT : TOk Try.prog T) (hpf : PfOk T PF) (h40 : T 40 = pureR ref34_pick_S) : FOk Try.prog 17 (pureR ref34_BentAttempts_S) := by
  refine FOk_pure hT hpf Try.func17 rfl Try.ntmps17 Try.results17 (by decide) ?_
  rintro args r ⟨a0, a1, a2, a3, rfl, h⟩
  refine ⟨nle rfl, ?_, ?_⟩
  · exact (loose_cons (loose_lst fun _ => (lo_TAttempt _)) (loose_cons (loose_int _ _) (loose_cons (loose_int _ _) (loose_cons (loose_int _ _) loose_nil))))
  rw [ref34_BentAttempts_F.eq_1] at h
  refine HT_fr DC_ok rfl fun K hK => ?_; (conv => whnf)
  refine hK _ _ _ ?_; clear hK K
  refine HT_fr DC_ok rfl fun K hK => ?_; (conv => whnf)
  refine lt_lk (enc := eTAttempt) (d := default) DC_ok h rfl rfl rfl ⟨nle rfl, nle rfl, rfl⟩ rfl trivial (fun h => ?_); (conv => whnf)
  refine gd_lk_u h fun hg h => ?_
  replace h := W_lt h
  refine apcf_lk (enc := eTAttempt) (d := default) DC_ok rfl rfl rfl ⟨rfl, nle rfl, nle rfl, nle rfl, rfl⟩ (fun _ => rfl) (fun _ => nofun) hg ?_; (conv => whnf)
  refine hK _ _ _ ?_; clear hK K
  refine HT_seq ?_
  refine HT_fr DC_ok rfl fun K hK => ?_; (conv => whnf)
  refine hK _ _ _ ?_; clear hK K
  refine HT_if fun K1 K2 hK1 hK2 => ?_; (conv => whnf)
  refine cond_lk h (fun _ h => ?_) (fun _ h => ?_)
  · refine hK1 ?_; clear hK1 hK2 K1 K2
    refine HT_fr DC_ok rfl fun K hK => ?_; (conv => whnf)
    refine lt_lk (enc := eTAttempt) (d := default) DC_ok h rfl rfl rfl ⟨nle rfl, nle rfl, rfl⟩ rfl ⟨⟨rfl, nle rfl⟩, trivial⟩ (fun h => ?_); (conv => whnf)
    refine hK _ _ _ ?_; clear hK K
    refine HT_ret ?_
    refine Then_r ?_
    replace h := W_some h
    refine PostP_r DC_ok fun K hK => ?_; (conv => whnf)
    refine hK _ ?_; clear hK K
    cases h
    exact Wk_free
  refine hK2 ?_; clear hK1 hK2 K1 K2
  refine HT_skip ?_
  refine Then_n ?_
  refine HT_fr DC_ok rfl fun K hK => ?_; (conv => whnf)
  replace h := W_bd h
  refine ref34_pick_call h40 h (WkL.refl _) (fun _ h => ?_); (conv => whnf)
  refine hK _ _ _ ?_; clear hK K
  refine HT_seq ?_
  refine HT_fr DC_ok rfl fun K hK => ?_; (conv => whnf)
  replace h := W_bd h
  refine ref34_pick_call h40 h (WkL.refl _) (fun _ h => ?_); (conv => whnf)
  refine hK _ _ _ ?_; clear hK K
  refine HT_block ?_
  refine HT_fr DC_ok rfl fun K hK => ?_; (conv => whnf)
  refine hK _ _ _ ?_; clear hK K
  replace h := W_jn h
  refine HT_if fun K1 K2 hK1 hK2 => ?_; (conv => whnf)
  refine cond_lk h (fun _ h => ?_) (fun _ h => ?_)
  · refine hK1 ?_; clear hK1 hK2 K1 K2
    refine HT_f DC_ok rfl fun K hK => ?_; (conv => whnf)
    refine gd_lkN h (rfl) fun hx2732 h => ?_; (conv => whnf)
    refine blkK_of rfl ?_; (conv => whnf)
    refine st_lk (enc := eTAttempt) (d := default) (q := 0) h (fun _ => rfl) (rfl) hx2732 rfl (nle rfl) rfl rfl (fun h => ?_); (conv => whnf)
    refine hK _ _ _ ?_; clear hK K
    refine InBlock_n ?_
    refine Then_n ?_
    refine HT_fr DC_ok rfl fun K hK => ?_; (conv => whnf)
    refine hK _ _ _ ?_; clear hK K
    refine HT_frzSK 8 (enc := eTAttempt) (e := 58) default (ElOk_agg DC_ok rfl rfl (fun _ => rfl) (fun _ => rfl)) ?_; (conv => whnf); refine ⟨_, _, rfl, (lenset rfl).symm, rfl, ?_⟩
    refine HT_ret ?_
    replace h := W_some h
    refine PostP_r DC_ok fun K hK => ?_; (conv => whnf)
    refine hK _ ?_; clear hK K
    cases h
    exact Wk.refl _
  refine hK2 ?_; clear hK1 hK2 K1 K2
  refine HT_fr DC_ok rfl fun K hK => ?_; (conv => whnf)
  refine hK _ _ _ ?_; clear hK K
  replace h := W_jn h
  refine HT_if fun K1 K2 hK1 hK2 => ?_; (conv => whnf)
  refine cond_lk h (fun _ h => ?_) (fun _ h => ?_)
  · refine hK1 ?_; clear hK1 hK2 K1 K2
    refine HT_f DC_ok rfl fun K hK => ?_; (conv => whnf)
    refine gd_lkN h (rfl) fun hx2738 h => ?_; (conv => whnf)
    refine blkK_of rfl ?_; (conv => whnf)
    refine st_lk (enc := eTAttempt) (d := default) (q := 1) h (fun _ => rfl) (rfl) hx2738 rfl (nle rfl) rfl rfl (fun h => ?_); (conv => whnf)
    refine hK _ _ _ ?_; clear hK K
    refine InBlock_n ?_
    refine Then_n ?_
    refine HT_fr DC_ok rfl fun K hK => ?_; (conv => whnf)
    refine hK _ _ _ ?_; clear hK K
    refine HT_frzSK 8 (enc := eTAttempt) (e := 58) default (ElOk_agg DC_ok rfl rfl (fun _ => rfl) (fun _ => rfl)) ?_; (conv => whnf); refine ⟨_, _, rfl, (lenset rfl).symm, rfl, ?_⟩
    refine HT_ret ?_
    replace h := W_some h
    refine PostP_r DC_ok fun K hK => ?_; (conv => whnf)
    refine hK _ ?_; clear hK K
    cases h
    exact Wk.refl _
  refine hK2 ?_; clear hK1 hK2 K1 K2
  refine HT_fr DC_ok rfl fun K hK => ?_; (conv => whnf)
  refine hK _ _ _ ?_; clear hK K
  replace h := W_jn h
  refine HT_if fun K1 K2 hK1 hK2 => ?_; (conv => whnf)
  refine cond_lk h (fun _ h => ?_) (fun _ h => ?_)
  · refine hK1 ?_; clear hK1 hK2 K1 K2
    refine HT_f DC_ok rfl fun K hK => ?_; (conv => whnf)
    refine gd_lkN h (rfl) fun hx2741 h => ?_; (conv => whnf)
    refine nlA rfl ?_; (conv => whnf)
    refine blkK_of rfl ?_; (conv => whnf)
    refine get_flN (enc := eTAttempt) (d := default) (q := 2) (fun _ => rfl) (rfl) hx2741 (nle rfl) rfl ?_; (conv => whnf)
    refine gd_lkN h (rfl) fun hx2742 h => ?_; (conv => whnf)
    refine blkK_of rfl ?_; (conv => whnf)
    refine st_lk (enc := eTAttempt) (d := default) (q := 2) h (fun _ => rfl) (rfl) hx2742 rfl (nle rfl) rfl rfl (fun h => ?_); (conv => whnf)
    refine hK _ _ _ ?_; clear hK K
    refine InBlock_n ?_
    refine Then_n ?_
    refine HT_fr DC_ok rfl fun K hK => ?_; (conv => whnf)
    refine hK _ _ _ ?_; clear hK K
    refine HT_frzSK 8 (enc := eTAttempt) (e := 58) default (ElOk_agg DC_ok rfl rfl (fun _ => rfl) (fun _ => rfl)) ?_; (conv => whnf); refine ⟨_, _, rfl, (lenset rfl).symm, rfl, ?_⟩
    refine HT_ret ?_
    replace h := W_some h
    refine PostP_r DC_ok fun K hK => ?_; (conv => whnf)
    refine hK _ ?_; clear hK K
    cases h
    exact Wk.refl _
  refine hK2 ?_; clear hK1 hK2 K1 K2
  refine HT_block ?_
  replace h := W_bd h
  refine HT_lpR (body := ref34_BentAttempts_b1 _ _) rfl h [0, 2] [] [] [] (fun kl kh kr ids b s => ⟨ofL ([(9, .so (b + 0) 0 s.length 3)] ++ kl), ofH (([] ++ kh) ++ ([(b + 0, .cells (flE (ceE eTAttempt) s))] ++ kr)), b + 128⟩) ?_; (conv => whnf); refine And.intro ?_ (fun s m h => HT_st ?_)
  · refine weak_r ?_; (conv => whnf)
    exact And.intro rfl (And.intro (allL_c (WkR.so (fun _ => rfl)) (allL_c (wkr (loose_lst fun _ => (lo_TAttempt _))) (allL_c wkI allL_n))) (allL_c ⟨some _, rfl, BkR_r rfl (fun _ => (loose_cons (loose_int _ _) (loose_cons (loose_int _ _) (loose_cons (loose_bool _) loose_nil))))⟩ allL_n))
  replace h := W_bref34_BentAttempts_b1 (W_bd h)
  refine HT_seq ?_
  refine HT_fr DC_ok rfl fun K hK => ?_; (conv => whnf)
  replace h := W_jn h
  refine cond_lk h (fun _ h => ?_) (fun _ h => ?_) <;> (conv => whnf)
  · replace h := W_bd h
    refine ref34_pick_call h40 h (WkL.refl _) (fun _ h => ?_); (conv => whnf)
    refine cond_lk h (fun _ h => ?_) (fun _ h => ?_) <;> (conv => whnf)
    · refine hK _ _ _ ?_; clear hK K
      refine HT_if fun K1 K2 hK1 hK2 => ?_; (conv => whnf)
      refine hK1 ?_; clear hK1 hK2 K1 K2
      replace h := W_cnT h
      refine HT_skip ?_
      refine Then_n ?_
      refine HT_block ?_
      refine HT_f DC_ok rfl fun K hK => ?_; (conv => whnf)
      replace h := W_bd h
      refine ref34_pick_call h40 h (WkL.refl _) (fun _ h => ?_); (conv => whnf)
      refine lt_lk (enc := eTAttempt) (d := default) DC_ok h rfl rfl rfl ⟨nle rfl, nle rfl, rfl⟩ rfl ⟨⟨rfl, nle rfl⟩, trivial⟩ (fun h => ?_); (conv => whnf)
      refine apo_lk (enc := eTAttempt) (d := default) DC_ok h rfl rfl rfl ⟨rfl, nle rfl, nle rfl, nle rfl, rfl⟩ (fun _ => rfl) (fun _ => rfl) (fun _ => nofun) rfl (rfl) (fun h => ?_); (conv => whnf)
      refine hK _ _ _ ?_; clear hK K
      refine InBlock_n ?_
      refine Then_n ?_
      replace h := W_xnx h
      refine ⟨_, h, ?_⟩
      refine weak_r ?_; (conv => whnf)
      exact And.intro rfl (And.intro (allL_c (WkR.so (fun _ => rfl)) (allL_c (wkr (loose_lst fun _ => (lo_TAttempt _))) (allL_c wkI allL_n))) (allL_c ⟨some _, rfl, BkR_r rfl (fun _ => (loose_cons (loose_int _ _) (loose_cons (loose_int _ _) (loose_cons (loose_bool _) loose_nil))))⟩ allL_n))
    refine hK _ _ _ ?_; clear hK K
    refine HT_if fun K1 K2 hK1 hK2 => ?_; (conv => whnf)
    refine cond_lk h (fun _ h => ?_) (fun _ h => ?_)
    · refine hK1 ?_; clear hK1 hK2 K1 K2
      refine HT_skip ?_
      refine Then_n ?_
      refine HT_block ?_
      refine HT_f DC_ok rfl fun K hK => ?_; (conv => whnf)
      replace h := W_bd h
      refine ref34_pick_call h40 h (WkL.refl _) (fun _ h => ?_); (conv => whnf)
      refine lt_lk (enc := eTAttempt) (d := default) DC_ok h rfl rfl rfl ⟨nle rfl, nle rfl, rfl⟩ rfl ⟨⟨rfl, nle rfl⟩, trivial⟩ (fun h => ?_); (conv => whnf)
      refine apo_lk (enc := eTAttempt) (d := default) DC_ok h rfl rfl rfl ⟨rfl, nle rfl, nle rfl, nle rfl, rfl⟩ (fun _ => rfl) (fun _ => rfl) (fun _ => nofun) rfl (rfl) (fun h => ?_); (conv => whnf)
      refine hK _ _ _ ?_; clear hK K
      refine InBlock_n ?_
      refine Then_n ?_
      replace h := W_xnx h
      refine ⟨_, h, ?_⟩
      refine weak_r ?_; (conv => whnf)
      exact And.intro rfl (And.intro (allL_c (WkR.so (fun _ => rfl)) (allL_c (wkr (loose_lst fun _ => (lo_TAttempt _))) (allL_c wkI allL_n))) (allL_c ⟨some _, rfl, BkR_r rfl (fun _ => (loose_cons (loose_int _ _) (loose_cons (loose_int _ _) (loose_cons (loose_bool _) loose_nil))))⟩ allL_n))
    refine hK2 ?_; clear hK1 hK2 K1 K2
    refine HT_exit ?_
    refine Then_e ?_
    refine Then_e ?_
    refine InBlock_e ?_
    replace h := W_xbk h
    replace h := W_inl h
    refine InBlock_n ?_
    refine Then_n ?_
    refine HT_fr DC_ok rfl fun K hK => ?_; (conv => whnf)
    refine hK _ _ _ ?_; clear hK K
    refine HT_frzSK 8 (enc := eTAttempt) (e := 58) default (ElOk_agg DC_ok rfl rfl (fun _ => rfl) (fun _ => rfl)) ?_; (conv => whnf); refine ⟨_, _, rfl, rfl, rfl, ?_⟩
    refine HT_ret ?_
    replace h := W_some h
    refine PostP_r DC_ok fun K hK => ?_; (conv => whnf)
    refine hK _ ?_; clear hK K
    cases h
    exact Wk.refl _
  refine hK _ _ _ ?_; clear hK K
  refine HT_if fun K1 K2 hK1 hK2 => ?_; (conv => whnf)
  refine cond_lk h (fun _ h => ?_) (fun _ h => ?_)
  · refine hK1 ?_; clear hK1 hK2 K1 K2
    refine HT_skip ?_
    refine Then_n ?_
    refine HT_block ?_
    refine HT_f DC_ok rfl fun K hK => ?_; (conv => whnf)
    replace h := W_bd h
    refine ref34_pick_call h40 h (WkL.refl _) (fun _ h => ?_); (conv => whnf)
    refine lt_lk (enc := eTAttempt) (d := default) DC_ok h rfl rfl rfl ⟨nle rfl, nle rfl, rfl⟩ rfl ⟨⟨rfl, nle rfl⟩, trivial⟩ (fun h => ?_); (conv => whnf)
    refine apo_lk (enc := eTAttempt) (d := default) DC_ok h rfl rfl rfl ⟨rfl, nle rfl, nle rfl, nle rfl, rfl⟩ (fun _ => rfl) (fun _ => rfl) (fun _ => nofun) rfl (rfl) (fun h => ?_); (conv => whnf)
    refine hK _ _ _ ?_; clear hK K
    refine InBlock_n ?_
    refine Then_n ?_
    replace h := W_xnx h
    refine ⟨_, h, ?_⟩
    refine weak_r ?_; (conv => whnf)
    exact And.intro rfl (And.intro (allL_c (WkR.so (fun _ => rfl)) (allL_c (wkr (loose_lst fun _ => (lo_TAttempt _))) (allL_c wkI allL_n))) (allL_c ⟨some _, rfl, BkR_r rfl (fun _ => (loose_cons (loose_int _ _) (loose_cons (loose_int _ _) (loose_cons (loose_bool _) loose_nil))))⟩ allL_n))
  refine hK2 ?_; clear hK1 hK2 K1 K2
  refine HT_exit ?_
  refine Then_e ?_
  refine Then_e ?_
  refine InBlock_e ?_
  replace h := W_xbk h
  replace h := W_inl h
  refine InBlock_n ?_
  refine Then_n ?_
  refine HT_fr DC_ok rfl fun K hK => ?_; (conv => whnf)
  refine hK _ _ _ ?_; clear hK K
  refine HT_frzSK 8 (enc := eTAttempt) (e := 58) default (ElOk_agg DC_ok rfl rfl (fun _ => rfl) (fun _ => rfl)) ?_; (conv => whnf); refine ⟨_, _, rfl, rfl, rfl, ?_⟩
  refine HT_ret ?_
  replace h := W_some h
  refine PostP_r DC_ok fun K hK => ?_; (conv => whnf)
  refine hK _ ?_; clear hK K
  cases h
  exact Wk.refl _
theorem ref34_BentAttempts_call {T : Tbl} (hT : T 17 = pureR ref34_BentAttempts_S) {args : List AV} {hp : Heap} {id : Nat} {k : AV → Prop} {a0 : List TAttempt} {a1 : Int} {a2 : Int} {a3 : Int} {Φ : List TAttempt → Prop} (h : W (ref34_BentAttempts_F a0 a1 a2 a3) Φ) (hw : WkL args [(eL 3 eTAttempt default) a0, eI a1, eI a2, eI a3]) (hk : ∀ y, Φ y → k ((eL 3 eTAttempt default) y)) : callpK T 17 args hp id k := by
  obtain ⟨y, e, hy⟩ := W_inv h
  exact callpK_pure hT ⟨a0, a1, a2, a3, rfl, W_of e rfl⟩ (by exact (loose_lst fun _ => (lo_TAttempt _))) hw (hk y hy)
def ref34_BentRegion_F (a0 : TRegion) (a1 : Int) (a2 : Int) (a3 : Int) : Option TRegion := lt ([] : List TGrowth) fun l1 => gd (a0.Steps.length ≤ 1048576) (lt a0.Steps fun l2 =>
    bd (ref34_pick_F a3 (l2.length : Int)) fun y3 => bd (ref34_pick_F a1 4) fun y4 => jn (fun p5 : TRegion => some p5) fun k6 => cn (y4 ==
    0) (k6 (⟨l2, a2⟩ : TRegion)) (jn (fun p7 : TRegion => k6 p7) fun k8 => cn (y4 ==
    1) (gd (0 ≤ y3 ∧ y3 < (l2.length : Int)) (st l2 (y3) (⟨a2, (l2.getD (y3).toNat default).Capacity⟩ : TGrowth) fun l9 =>
    k8 (⟨l9, a0.Signals⟩ : TRegion))) (jn (fun p10 : TRegion => k8 p10) fun k11 => cn (y4 ==
    2) (gd (0 ≤ y3 ∧ y3 < (l2.length : Int)) (st l2 (y3) (⟨(l2.getD (y3).toNat default).From, a2⟩ : TGrowth) fun l12 => k11 (⟨l12, a0.Signals⟩ : TRegion))) (slc l2 0 y3 fun l13 =>
    k11 (⟨l13, a0.Signals⟩ : TRegion)))))
def ref34_BentRegion_S : List AV → AV → Prop := fun args r => ∃ a0 a1 a2 a3, args = [eTRegion a0, eI a1, eI a2, eI a3] ∧ W (ref34_BentRegion_F a0 a1 a2 a3) fun y => r = (eTRegion y)
theorem ref34_BentRegion_ok {T : Tbl} (hT : TOk Try.prog T) (hpf : PfOk T PF) (h40 : T 40 = pureR ref34_pick_S) : FOk Try.prog 16 (pureR ref34_BentRegion_S) := by
  refine FOk_pure hT hpf Try.func16 rfl Try.ntmps16 Try.results16 (by decide) ?_
  rintro args r ⟨a0, a1, a2, a3, rfl, h⟩
  refine ⟨nle rfl, ?_, ?_⟩
  · exact (loose_cons (lo_TRegion _) (loose_cons (loose_int _ _) (loose_cons (loose_int _ _) (loose_cons (loose_int _ _) loose_nil))))
  rw [ref34_BentRegion_F.eq_1] at h
  refine HT_fr DC_ok rfl fun K hK => ?_; (conv => whnf)
  refine hK _ _ _ ?_; clear hK K
  refine HT_fd DC_ok mix_ok rfl (by kernel_rfl) fun K hK => ?_; (conv => whnf)
  refine lt_lk (enc := eTGrowth) (d := default) DC_ok h rfl rfl rfl ⟨nle rfl, nle rfl, rfl⟩ rfl trivial (fun h => ?_); (conv => whnf)
  refine nlA rfl ?_; (conv => whnf)
  refine blkK_of rfl ?_; (conv => whnf)
  refine getK_of rfl ?_; (conv => whnf)
  refine gd_lk_u h fun hg h => ?_
  replace h := W_lt h
  refine apcf_lk (enc := eTGrowth) (d := default) DC_ok rfl rfl rfl ⟨rfl, nle rfl, nle rfl, nle rfl, rfl⟩ (fun _ => rfl) (fun _ => nofun) hg ?_; (conv => whnf)
  refine nlA rfl ?_; (conv => whnf)
  refine blkK_of rfl ?_; (conv => whnf)
  refine getK_of rfl ?_; (conv => whnf)
  refine blkK_of rfl ?_; (conv => whnf)
  refine And.intro rfl (And.intro (nle rfl) (And.intro rfl ?_)); (conv => whnf)
  refine hK _ _ _ ?_; clear hK K
  refine HT_fr DC_ok rfl fun K hK => ?_; (conv => whnf)
  refine nlA rfl ?_; (conv => whnf)
  refine blkK_of rfl ?_; (conv => whnf)
  refine getK_of rfl ?_; (conv => whnf)
  replace h := W_bd h
  refine ref34_pick_call h40 h (WkL.refl _) (fun _ h => ?_); (conv => whnf)
  refine hK _ _ _ ?_; clear hK K
  refine HT_seq ?_
  refine HT_fr DC_ok rfl fun K hK => ?_; (conv => whnf)
  replace h := W_bd h
  refine ref34_pick_call h40 h (WkL.refl _) (fun _ h => ?_); (conv => whnf)
  refine hK _ _ _ ?_; clear hK K
  refine HT_block ?_
  refine HT_fr DC_ok rfl fun K hK => ?_; (conv => whnf)
  refine hK _ _ _ ?_; clear hK K
  replace h := W_jn h
  refine HT_if fun K1 K2 hK1 hK2 => ?_; (conv => whnf)
  refine cond_lk h (fun _ h => ?_) (fun _ h => ?_)
  · refine hK1 ?_; clear hK1 hK2 K1 K2
    refine HT_f DC_ok rfl fun K hK => ?_; (conv => whnf)
    refine blkK_of rfl ?_; (conv => whnf)
    refine And.intro rfl (And.intro (nle rfl) (And.intro rfl ?_)); (conv => whnf)
    refine hK _ _ _ ?_; clear hK K
    refine InBlock_n ?_
    refine Then_n ?_
    refine HT_frzBK 9 0 (enc := eTGrowth) (e := 65) default (ElOk_agg DC_ok rfl rfl (fun _ => rfl) (fun _ => rfl)) ?_; (conv => whnf); refine ⟨_, _, _, nofun, rfl, rfl, rfl, rfl, ?_⟩; (conv => whnf)
    refine HT_fr DC_ok rfl fun K hK => ?_; (conv => whnf)
    refine nlA rfl ?_; (conv => whnf)
    refine blkK_of rfl ?_; (conv => whnf)
    refine nlA rfl ?_; (conv => whnf)
    refine blkK_of rfl ?_; (conv => whnf)
    refine And.intro rfl (And.intro (nle rfl) (And.intro rfl ?_)); (conv => whnf)
    refine hK _ _ _ ?_; clear hK K
    refine HT_ret ?_
    replace h := W_some h
    refine PostP_r DC_ok fun K hK => ?_; (conv => whnf)
    refine nlA rfl ?_; (conv => whnf)
    refine blkK_of rfl ?_; (conv => whnf)
    refine nlA rfl ?_; (conv => whnf)
    refine hK _ ?_; clear hK K
    cases h
    exact Wk.refl _
  refine hK2 ?_; clear hK1 hK2 K1 K2
  refine HT_fr DC_ok rfl fun K hK => ?_; (conv => whnf)
  refine hK _ _ _ ?_; clear hK K
  replace h := W_jn h
  refine HT_if fun K1 K2 hK1 hK2 => ?_; (conv => whnf)
  refine cond_lk h (fun _ h => ?_) (fun _ h => ?_)
  · refine hK1 ?_; clear hK1 hK2 K1 K2
    refine HT_f DC_ok rfl fun K hK => ?_; (conv => whnf)
    refine nlA rfl ?_; (conv => whnf)
    refine blkK_of rfl ?_; (conv => whnf)
    refine getK_of rfl ?_; (conv => whnf)
    refine gd_lkN h (rfl) fun hx2788 h => ?_; (conv => whnf)
    refine blkK_of rfl ?_; (conv => whnf)
    refine st_lk (enc := eTGrowth) (d := default) (q := 0) h (fun _ => rfl) (rfl) hx2788 rfl (nle rfl) rfl rfl (fun h => ?_); (conv => whnf)
    refine hK _ _ _ ?_; clear hK K
    refine InBlock_n ?_
    refine Then_n ?_
    refine HT_frzBK 9 0 (enc := eTGrowth) (e := 65) default (ElOk_agg DC_ok rfl rfl (fun _ => rfl) (fun _ => rfl)) ?_; (conv => whnf); refine ⟨_, _, _, nofun, rfl, rfl, (lenset rfl).symm, rfl, ?_⟩; (conv => whnf)
    refine HT_fr DC_ok rfl fun K hK => ?_; (conv => whnf)
    refine nlA rfl ?_; (conv => whnf)
    refine blkK_of rfl ?_; (conv => whnf)
    refine nlA rfl ?_; (conv => whnf)
    refine blkK_of rfl ?_; (conv => whnf)
    refine And.intro rfl (And.intro (nle rfl) (And.intro rfl ?_)); (conv => whnf)
    refine hK _ _ _ ?_; clear hK K
    refine HT_ret ?_
    replace h := W_some h
    refine PostP_r DC_ok fun K hK => ?_; (conv => whnf)
    refine nlA rfl ?_; (conv => whnf)
    refine blkK_of rfl ?_; (conv => whnf)
    refine nlA rfl ?_; (conv => whnf)
    refine hK _ ?_; clear hK K
    cases h
    exact Wk.refl _
  refine hK2 ?_; clear hK1 hK2 K1 K2
  refine HT_fr DC_ok rfl fun K hK => ?_; (conv => whnf)
  refine hK _ _ _ ?_; clear hK K
  replace h := W_jn h
  refine HT_if fun K1 K2 hK1 hK2 => ?_; (conv => whnf)
  refine cond_lk h (fun _ h => ?_) (fun _ h => ?_)
  · refine hK1 ?_; clear hK1 hK2 K1 K2
    refine HT_f DC_ok rfl fun K hK => ?_; (conv => whnf)
    refine nlA rfl ?_; (conv => whnf)
    refine blkK_of rfl ?_; (conv => whnf)
    refine getK_of rfl ?_; (conv => whnf)
    refine gd_lkN h (rfl) fun hx2790 h => ?_; (conv => whnf)
    refine blkK_of rfl ?_; (conv => whnf)
    refine st_lk (enc := eTGrowth) (d := default) (q := 1) h (fun _ => rfl) (rfl) hx2790 rfl (nle rfl) rfl rfl (fun h => ?_); (conv => whnf)
    refine hK _ _ _ ?_; clear hK K
    refine InBlock_n ?_
    refine Then_n ?_
    refine HT_frzBK 9 0 (enc := eTGrowth) (e := 65) default (ElOk_agg DC_ok rfl rfl (fun _ => rfl) (fun _ => rfl)) ?_; (conv => whnf); refine ⟨_, _, _, nofun, rfl, rfl, (lenset rfl).symm, rfl, ?_⟩; (conv => whnf)
    refine HT_fr DC_ok rfl fun K hK => ?_; (conv => whnf)
    refine nlA rfl ?_; (conv => whnf)
    refine blkK_of rfl ?_; (conv => whnf)
    refine nlA rfl ?_; (conv => whnf)
    refine blkK_of rfl ?_; (conv => whnf)
    refine And.intro rfl (And.intro (nle rfl) (And.intro rfl ?_)); (conv => whnf)
    refine hK _ _ _ ?_; clear hK K
    refine HT_ret ?_
    replace h := W_some h
    refine PostP_r DC_ok fun K hK => ?_; (conv => whnf)
    refine nlA rfl ?_; (conv => whnf)
    refine blkK_of rfl ?_; (conv => whnf)
    refine nlA rfl ?_; (conv => whnf)
    refine hK _ ?_; clear hK K
    cases h
    exact Wk.refl _
  refine hK2 ?_; clear hK1 hK2 K1 K2
  refine HT_frzBK 9 0 (enc := eTGrowth) (e := 65) default (ElOk_agg DC_ok rfl rfl (fun _ => rfl) (fun _ => rfl)) ?_; (conv => whnf); refine ⟨_, _, _, nofun, rfl, rfl, rfl, rfl, ?_⟩; (conv => whnf)
  refine HT_f DC_ok rfl fun K hK => ?_; (conv => whnf)
  refine nlA rfl ?_; (conv => whnf)
  refine blkK_of rfl ?_; (conv => whnf)
  refine getK_of rfl ?_; (conv => whnf)
  refine sl_lk h (.inl ⟨rfl, rfl⟩) (.inr ⟨_, rfl⟩) (fun h => ?_); (conv => whnf)
  refine blkK_of rfl ?_; (conv => whnf)
  refine And.intro rfl (And.intro (nle rfl) (And.intro rfl ?_)); (conv => whnf)
  refine hK _ _ _ ?_; clear hK K
  refine InBlock_n ?_
  refine Then_n ?_
  refine HT_fr DC_ok rfl fun K hK => ?_; (conv => whnf)
  refine nlA rfl ?_; (conv => whnf)
  refine blkK_of rfl ?_; (conv => whnf)
  refine nlA rfl ?_; (conv => whnf)
  refine blkK_of rfl ?_; (conv => whnf)
  refine And.intro rfl (And.intro (nle rfl) (And.intro rfl ?_)); (conv => whnf)
  refine hK _ _ _ ?_; clear hK K
  refine HT_ret ?_
  replace h := W_some h
  refine PostP_r DC_ok fun K hK => ?_; (conv => whnf)
  refine nlA rfl ?_; (conv => whnf)
  refine blkK_of rfl ?_; (conv => whnf)
  refine nlA rfl ?_; (conv => whnf)
  refine hK _ ?_; clear hK K
  cases h
  exact Wk.refl _
theorem ref34_BentRegion_call {T : Tbl} (hT : T 16 = pureR ref34_BentRegion_S) {args : List AV} {hp : Heap} {id : Nat} {k : AV → Prop} {a0 : TRegion} {a1 : Int} {a2 : Int} {a3 : Int} {Φ : TRegion → Prop} (h : W (ref34_BentRegion_F a0 a1 a2 a3) Φ) (hw : WkL args [eTRegion a0, eI a1, eI a2, eI a3]) (hk : ∀ y, Φ y → k (eTRegion y)) : callpK T 16 args hp id k := by
  obtain ⟨y, e, hy⟩ := W_inv h
  exact callpK_pure hT ⟨a0, a1, a2, a3, rfl, W_of e rfl⟩ (by exact (lo_TRegion _)) hw (hk y hy)
end Go.Proofs.Ytcidmnpihffphaa
namespace Go.Proofs.Ytcidmnpihffphaa
open Go Go.Eng
set_option maxHeartbeats 0
set_option maxRecDepth 100000
def capsO (a0 : TRegion) (i : Nat) (n : Int) : List AV := [.ep [eI n] 0, .ep [.mp i] 0, .ep [(eL 2 eTGrowth default) a0.Steps, eI a0.Signals] 0]
def open_R : FSpec := fun args H _ r H' => ∃ (a0 : TRegion) (i : Nat) (m : GM Int) (n : Int), args = [eTRegion a0, .mp i, eI n] ∧ H i = some (abM eI m) ∧ r = .fn 56 [] (capsO a0 i n) ∧ H' = H
theorem open_ok {T : Tbl} (hT : TOk Try.prog T) (hpf : PfOk T PF) : FOk Try.prog 42 open_R := by
  refine FOk_anc hT hpf Try.func42 rfl Try.ntmps42 Try.results42 (by decide) ?_
  rintro args H base r H' ⟨a0, i, m, n, rfl, hi, rfl, rfl⟩
  refine ⟨[i], [eTRegion a0, .mp 0, eI n], [abM eI m], [abM eI m], [], nle rfl, nle rfl, Nat.zero_le _, by simp, rfl, rfl, .cons (WkA_loose (lo_TRegion _)) (.cons (WkA_mp rfl) (.cons (WkA_loose (loose_int _ _)) .nil)), (fun j i' b h1 h2 => ?_), (fun k b h => by simp at h), (fun j => rfl), (fun i' b h => ?_), ?_⟩
  · cases j with
    | zero => cases h1; cases h2; exact ⟨_, hi, BkA_m fun _ => loose_int _ _⟩
    | succ j => simp at h1
  · by_cases e : i' = i
    · subst e; rw [hi] at h; cases h; exact .inr (.inl ⟨0, rfl, rfl⟩)
    · exact .inl ⟨by simpa using e, h⟩
  refine HT_fr DC_ok rfl fun K hK => ?_; (conv => whnf)
  refine hK _ _ _ ?_; clear hK K
  refine HT_frzK 3 ?_; (conv => whnf); refine ⟨_, rfl, ?_⟩
  refine HT_frzK 4 ?_; (conv => whnf); refine ⟨_, rfl, ?_⟩
  refine HT_frzK 5 ?_; (conv => whnf); refine ⟨_, rfl, ?_⟩
  refine HT_fr DC_ok rfl fun K hK => ?_; (conv => whnf)
  refine hK _ _ _ ?_; clear hK K
  refine HT_ret ?_
  refine ⟨_, [], rfl, by simp, by simp, rfl, WkB_fn VsB_nil (VsB_cons (WkB_ep (VsB_cons (WkB_loose (Wk.refl _) (loose_int _ _)) VsB_nil)) (VsB_cons (WkB_ep (VsB_cons (WkB_mp (by simp [mm])) VsB_nil)) (VsB_cons (WkB_ep (VsB_cons (WkB_loose (Wk.refl _) (loose_lst fun _ => lo_TGrowth _)) (VsB_cons (WkB_loose (Wk.refl _) (loose_int _ _)) VsB_nil))) VsB_nil))), fun j b h => ?_, fun k n b h1 h2 => by simp at h1⟩
  cases j with
  | zero => cases h; exact ⟨_, rfl, BkX_m fun _ => loose_int _ _⟩
  | succ j => simp at h
theorem callsK_open {T : Tbl} (hT : T 42 = open_R) {args : List AV} {hp : Heap} {id i : Nat} {k : AV → Heap → Prop} {a0 : TRegion} {m : GM Int} {n : Int} (hw : WkL args [eTRegion a0, .mp i, eI n]) (hi : hp i = some (abM eI m)) (hk : k (.fn 56 [] (capsO a0 i n)) hp) : callsK T 42 args hp id k :=
  callsK_of hw (by rw [hT]; exact ⟨a0, i, m, n, rfl, hi, rfl, rfl⟩) hk
def open_b (a0 : TRegion) (m : GM Int) (t : Int) : Option (Ct Int Int) := bd (recovery_capacity_F a0 t) fun y => cn (decide ((m.get t 0) < y)) (some (.rt t)) (some (.nx (wr (t + 1))))
def open_F (a0 : TRegion) (m : GM Int) (n : Int) : Option Int := bd (lp (open_b a0 m) FU n) fun c => smK c (fun _ => none) (fun r => some r)
theorem W_open_b {a0 : TRegion} {m : GM Int} {t : Int} {Φ : Ct Int Int → Prop} (h : W (open_b a0 m t) Φ) : W (bd (recovery_capacity_F a0 t) fun y => cn (decide ((m.get t 0) < y)) (some (.rt t)) (some (.nx (wr (t + 1))))) Φ := h
def iter_R : FSpec := fun args H _ r H' => ∃ (S : Type) (G : Gh S) (s fin : S) (a0 : TRegion) (i b0 : Nat) (m : GM Int) (n k : Int), args = .yld b0 :: capsO a0 i n ∧ i ≠ b0 ∧ H b0 = some (.gh S G s) ∧ H i = some (abM eI m) ∧ G.P = Try.prog ∧ open_F a0 m n = some k ∧ G.Y [.int .i64 k] s false fin ∧ r = .tup [] ∧ H' = upd H b0 (some (.gh S G fin))
theorem iter_ok {T : Tbl} (hT : TOk Try.prog T) (hpf : PfOk T PF) (h48 : T 48 = pureR recovery_capacity_S) : FOk Try.prog 56 iter_R := by
  refine FOk_anc hT hpf Try.func56 rfl Try.ntmps56 Try.results56 (by decide) ?_
  rintro args H base r H' ⟨S, G, s, fin, a0, i, b0, m, n, k, rfl, hne, hb, hi, hP, hF, hY, rfl, rfl⟩
  refine ⟨[b0, i], .yld 0 :: capsO a0 1 n, [.gh S G s, abM eI m], [.gh S G fin, abM eI m], [], nle rfl, nle rfl, Nat.zero_le _, by simpa using Ne.symm hne, rfl, rfl, .cons (WkA_yld rfl) (.cons (WkA_loose (loose_ep (loose_cons (loose_int _ _) loose_nil))) (.cons (WkA_ep (VsA_cons (WkA_mp rfl) VsA_nil)) (.cons (WkA_loose (loose_ep (loose_cons (loose_lst fun _ => lo_TGrowth _) (loose_cons (loose_int _ _) loose_nil)))) .nil))), (fun j i' b h1 h2 => ?_), (fun k b h => by simp at h), (fun j => ?_), (fun i' b h => ?_), ?_⟩
  · match j with
    | 0 => cases h1; cases h2; exact ⟨_, hb, .gh⟩
    | 1 => cases h1; cases h2; exact ⟨_, hi, BkA_m fun _ => loose_int _ _⟩
    | j + 2 => simp at h1
  · match j with
    | 0 => rfl
    | 1 => rfl
    | j + 2 => rfl
  · by_cases e : i' = b0
    · subst e; rw [upd_same] at h; cases h; exact .inr (.inl ⟨0, rfl, rfl⟩)
    · rw [upd_other _ _ e] at h
      by_cases e' : i' = i
      · subst e'; rw [hi] at h; cases h; exact .inr (.inl ⟨1, rfl, rfl⟩)
      · exact .inl ⟨by simp [e, e'], h⟩
  have h : W (open_F a0 m n) (fun y => G.Y [.int .i64 y] s false fin) := W_of hF hY
  rw [open_F.eq_1] at h
  refine HT_fr DC_ok rfl fun K hK => ?_; (conv => whnf)
  refine getK_of rfl ?_; (conv => whnf)
  refine hK _ _ _ ?_; clear hK K
  refine HT_block ?_
  replace h := W_bd h
  refine HT_lpK (body := open_b _ _) rfl h [0, 1, 2, 3] [] [] (fun kl kh ids b t => ⟨ofL ([(5, eI t)] ++ kl), ofH [(0, .gh S G s), (1, abM eI m)], b + 64⟩) ?_; (conv => whnf); refine And.intro ?_ (fun t mm h => HT_st ?_)
  · refine weak_k ?_; (conv => whnf)
    exact And.intro rfl (And.intro (allL_c wkI (allL_c (WkR_yld (fun _ => rfl)) (allL_c (wkr (loose_ep (loose_cons (loose_int _ _) loose_nil))) (allL_c (WkR_ep (VsR_cons (WkR.mp (fun _ => rfl)) VsR_nil)) (allL_c (wkr (loose_ep (loose_cons (loose_lst fun _ => lo_TGrowth _) (loose_cons (loose_int _ _) loose_nil)))) allL_n))))) (allL_c ⟨some _, rfl, BkR_g rfl⟩ (allL_c ⟨some _, rfl, BkR_m rfl (fun _ => loose_int _ _)⟩ allL_n)))
  replace h := W_open_b (W_bd h)
  refine HT_seq ?_
  refine HT_block ?_
  refine HT_fd DC_ok mix_ok rfl (by kernel_rfl) fun K hK => ?_; (conv => whnf)
  refine getK_of rfl ?_; (conv => whnf)
  refine mget_lk (enc := eI) DC_ok rfl (0 : Int) rfl rfl (nle rfl) ?_; (conv => whnf)
  refine nlA rfl ?_; (conv => whnf)
  replace h := W_bd h
  refine recovery_capacity_call h48 h (WkL.refl _) (fun y h => ?_); (conv => whnf)
  refine cond_lk h (fun _ h => ?_) (fun _ h => ?_) <;> (conv => whnf)
  · have hy0 := W_some (W_inr (W_xrt h)); have hy : G.Y [.int .i64 t] s false fin := hy0
    refine yldK_of ⟨S, G, s, false, fin, [.int .i64 t], rfl, hP, fun β vs hv => ?_, hy, rfl, rfl⟩ ?_
    · simpa [Vs, V, eI] using hv
    (conv => whnf)
    refine hK _ _ _ ?_; clear hK K
    refine HT_if fun K1 K2 hK1 hK2 => ?_; (conv => whnf)
    refine hK1 ?_; clear hK1 hK2 K1 K2
    refine HT_ret ?_
    refine InBlock_r ?_
    refine Then_r ?_
    refine Then_r ?_
    refine InBlock_r ?_
    refine ⟨_, [], rfl, by simp, by simp, rfl, WkB_tup VsB_nil, fun j b h => ?_, fun k n b h1 h2 => by simp at h1⟩
    match j with
    | 0 => cases h; exact ⟨_, rfl, .gh⟩
    | 1 => cases h; exact ⟨_, rfl, BkX_m fun _ => loose_int _ _⟩
    | j + 2 => simp at h
  refine hK _ _ _ ?_; clear hK K
  refine HT_if fun K1 K2 hK1 hK2 => ?_; (conv => whnf)
  refine hK2 ?_; clear hK1 hK2 K1 K2
  refine HT_skip ?_
  refine InBlock_n ?_
  refine Then_n ?_
  refine HT_f DC_ok rfl fun K hK => ?_; (conv => whnf)
  refine hK _ _ _ ?_; clear hK K
  refine Then_n ?_
  replace h := W_xnx h
  refine ⟨_, h, ?_⟩
  refine weak_k ?_; (conv => whnf)
  exact And.intro rfl (And.intro (allL_c wkI (allL_c (WkR_yld (fun _ => rfl)) (allL_c (wkr (loose_ep (loose_cons (loose_int _ _) loose_nil))) (allL_c (WkR_ep (VsR_cons (WkR.mp (fun _ => rfl)) VsR_nil)) (allL_c (wkr (loose_ep (loose_cons (loose_lst fun _ => lo_TGrowth _) (loose_cons (loose_int _ _) loose_nil)))) allL_n))))) (allL_c ⟨some _, rfl, BkR_g rfl⟩ (allL_c ⟨some _, rfl, BkR_m rfl (fun _ => loose_int _ _)⟩ allL_n)))
end Go.Proofs.Ytcidmnpihffphaa
namespace Go.Proofs.Ytcidmnpihffphaa
open Go Go.Eng
set_option maxHeartbeats 0
set_option maxRecDepth 100000

    def recovery_Plan_b1 (a0 : TRegion) (y5 : List TAttempt) (s6 : (List TTicket) × Int × Int × (GM Int)) : Option (Ct ((List TTicket) × Int × Int × (GM Int)) ((List TTicket) × Int)) := cn (decide (s6.2.2.1 < (y5.length : Int))) (ix y5 default s6.2.2.1 fun e7 =>
    jn (fun p8 : Int × (GM Int) × TTicket => lt ([p8.2.2] : List TTicket) fun l12 => ap s6.1 l12 fun l13 => some (.nx (l13, p8.1, (wr (s6.2.2.1 + 1)), p8.2.1))) fun k9 =>
    cn (!e7.Urgent) (bd (open_F a0 s6.2.2.2 (imax s6.2.1 e7.At)) fun y10 => let m11 := s6.2.2.2.put y10 (wr ((s6.2.2.2.get y10 0) + 1));
    k9 (y10, m11, (⟨e7.Caller, e7.At, y10⟩ : TTicket))) (k9 (s6.2.1, s6.2.2.2, (⟨e7.Caller, e7.At, e7.At⟩ : TTicket)))) (some (.bk (s6.1, s6.2.1, s6.2.2.1, s6.2.2.2)))
theorem W_brecovery_Plan_b1 {a0 : TRegion} {y5 : List TAttempt} {s6 : (List TTicket) × Int × Int × (GM Int)} {Φ : Ct ((List TTicket) × Int × Int × (GM Int)) ((List TTicket) × Int) → Prop} (h : W (recovery_Plan_b1 a0 y5 s6) Φ) : W (cn (decide (s6.2.2.1 < (y5.length : Int))) (ix y5 default s6.2.2.1 fun e7 => jn (fun p8 : Int × (GM Int) × TTicket => lt ([p8.2.2] : List TTicket) fun l12 => ap s6.1 l12 fun l13 =>
    some (.nx (l13, p8.1, (wr (s6.2.2.1 + 1)), p8.2.1))) fun k9 => cn (!e7.Urgent) (bd (open_F a0 s6.2.2.2 (imax s6.2.1 e7.At)) fun y10 =>
    let m11 := s6.2.2.2.put y10 (wr ((s6.2.2.2.get y10 0) + 1));
    k9 (y10, m11, (⟨e7.Caller, e7.At, y10⟩ : TTicket))) (k9 (s6.2.1, s6.2.2.2, (⟨e7.Caller, e7.At, e7.At⟩ : TTicket)))) (some (.bk (s6.1, s6.2.1, s6.2.2.1, s6.2.2.2)))) Φ := h
def recovery_Plan_F (a0 : TRegion) (a1 : List TAttempt) : Option ((List TTicket) × Int) := jn (fun p1 : (List TAttempt) × Bool =>
    cn p1.2 (some ([], 340)) (bd (recovery_ordered_F p1.1) fun y5 => bd (lp (recovery_Plan_b1 a0 y5) FU ([], 0, 0, (GM.mt Int))) fun c14 => smK c14 (fun s15 =>
    some (s15.1, 0)) (fun r16 => some r16))) fun k2 => bd (recovery_Valid_F a0) fun y3 => cn (!y3) (k2 (a1, true)) (bd (recovery_Ready_F a1) fun y4 => k2 (a1, (!y4)))
def recovery_Plan_S : List AV → AV → Prop := fun args r => ∃ a0 a1, args = [eTRegion a0, (eL 3 eTAttempt default) a1] ∧ W (recovery_Plan_F a0 a1) fun y => r = (.tup [(eL 3 eTTicket default) y.1, eI y.2])
theorem recovery_Plan_ok {T : Tbl} (hT : TOk Try.prog T) (hpf : PfOk T PF) (h24 : T 24 = pureR recovery_Valid_S) (h26 : T 26 = pureR recovery_Ready_S) (h41 : T 41 = pureR recovery_ordered_S) (h42 : T 42 = open_R) (h56 : T 56 = iter_R) : FOk Try.prog 18 (pureR recovery_Plan_S) := by
  refine FOk_pure hT hpf Try.func18 rfl Try.ntmps18 Try.results18 (by decide) ?_
  rintro args r ⟨a0, a1, rfl, h⟩
  refine ⟨nle rfl, ?_, ?_⟩
  · exact (loose_cons (lo_TRegion _) (loose_cons (loose_lst fun _ => (lo_TAttempt _)) loose_nil))
  rw [recovery_Plan_F.eq_1] at h
  refine HT_fr DC_ok rfl fun K hK => ?_; (conv => whnf)
  refine hK _ _ _ ?_; clear hK K
  refine HT_seq ?_
  refine HT_fr DC_ok rfl fun K hK => ?_; (conv => whnf)
  replace h := W_jn h
  refine nlA rfl ?_; (conv => whnf)
  refine blkK_of rfl ?_; (conv => whnf)
  refine nlA rfl ?_; (conv => whnf)
  replace h := W_bd h
  refine recovery_Valid_call h24 h (WkL.refl _) (fun _ h => ?_); (conv => whnf)
  refine cond_lk h (fun _ h => ?_) (fun _ h => ?_) <;> (conv => whnf)
  · refine hK _ _ _ ?_; clear hK K
    refine HT_if fun K1 K2 hK1 hK2 => ?_; (conv => whnf)
    refine hK1 ?_; clear hK1 hK2 K1 K2
    replace h := W_cnT h
    refine HT_fr DC_ok rfl fun K hK => ?_; (conv => whnf)
    refine hK _ _ _ ?_; clear hK K
    refine HT_ret ?_
    refine Then_r ?_
    replace h := W_some h
    refine PostP_r DC_ok fun K hK => ?_; (conv => whnf)
    refine hK _ ?_; clear hK K
    cases h
    exact Wk_tup (WkL_cons Wk_nil (WkL_cons (Wk.refl _) WkL_nil))
  replace h := W_bd h
  refine recovery_Ready_call h26 h (WkL.refl _) (fun _ h => ?_); (conv => whnf)
  refine hK _ _ _ ?_; clear hK K
  refine HT_if fun K1 K2 hK1 hK2 => ?_; (conv => whnf)
  refine cond_lk h (fun _ h => ?_) (fun _ h => ?_)
  · refine hK1 ?_; clear hK1 hK2 K1 K2
    refine HT_fr DC_ok rfl fun K hK => ?_; (conv => whnf)
    refine hK _ _ _ ?_; clear hK K
    refine HT_ret ?_
    refine Then_r ?_
    replace h := W_some h
    refine PostP_r DC_ok fun K hK => ?_; (conv => whnf)
    refine hK _ ?_; clear hK K
    cases h
    exact Wk_tup (WkL_cons Wk_nil (WkL_cons (Wk.refl _) WkL_nil))
  refine hK2 ?_; clear hK1 hK2 K1 K2
  refine HT_skip ?_
  refine Then_n ?_
  refine HT_fr DC_ok rfl fun K hK => ?_; (conv => whnf)
  refine hK _ _ _ ?_; clear hK K
  refine HT_fr DC_ok rfl fun K hK => ?_; (conv => whnf)
  refine hK _ _ _ ?_; clear hK K
  refine HT_fr DC_ok rfl fun K hK => ?_; (conv => whnf)
  refine hK _ _ _ ?_; clear hK K
  refine HT_seq ?_
  refine HT_ancK rfl rfl [1, 2, 6, 7, 8] [(6, 32), (2, 33)] ?_; (conv => whnf)
  refine And.intro ?_ ?_
  · refine weak_kN ?_; (conv => whnf)
    exact And.intro rfl (And.intro (allL_c (wkr (loose_lst fun _ => (lo_TAttempt _))) (allL_c (WkR.ptr (fun _ => rfl)) (allL_c (WkR.mp (fun _ => rfl)) (allL_c (wkr loose_nils) (allL_c wkI allL_n))))) (allL_c ⟨some _, rfl, BkR_m (enc := eI) (m := (GM.mt Int)) rfl (fun _ => (loose_int _ _))⟩ (allL_c ⟨some _, rfl, BkR_c rfl (CkR_cons (wkr (loose_lst fun _ => (lo_TGrowth _))) (CkR_cons wkI CkR_nil))⟩ allL_n)))
  refine HT_fr DC_ok rfl fun K hK => ?_; (conv => whnf)
  replace h := W_bd h
  refine recovery_ordered_call h41 h (WkL.refl _) (fun _ h => ?_); (conv => whnf)
  refine hK _ _ _ ?_; clear hK K
  refine HT_block ?_
  replace h := W_bd h
  refine HT_lpK (body := recovery_Plan_b1 _ _) rfl h [2, 6, 23, 24] [2] [6] (fun kl kh ids b s => ⟨ofL ([(7, .lst (.tok (b + 0)) 3 s.1.length (fun j => eTTicket (s.1.getD j default))), (8, eI s.2.1), (25, eI s.2.2.1)] ++ kl), ofH ([(nthN ids 0, abM eI s.2.2.2), (b + 0, .cells [])] ++ kh), b + 128⟩) ?_; (conv => whnf); refine And.intro ?_ (fun s m h => HT_st ?_)
  · refine weak_k ?_; (conv => whnf)
    exact And.intro rfl (And.intro (allL_c (WkR.nil (fun _ => rfl)) (allL_c wkI (allL_c wkI (allL_c (WkR.ptr (fun _ => rfl)) (allL_c (WkR.mp (fun _ => rfl)) (allL_c (wkr (loose_lst fun _ => (lo_TAttempt _))) (allL_c wkI allL_n))))))) (allL_c ⟨some _, rfl, BkR_m (enc := eI) rfl (fun _ => (loose_int _ _))⟩ (allL_c ⟨none, rfl, BkR_n⟩ (allL_c ⟨some _, rfl, BkR_c rfl (CkR_cons (wkr (loose_lst fun _ => (lo_TGrowth _))) (CkR_cons wkI CkR_nil))⟩ allL_n))))
  replace h := W_brecovery_Plan_b1 (W_bd h)
  refine HT_fr DC_ok rfl fun K hK => ?_; (conv => whnf)
  refine hK _ _ _ ?_; clear hK K
  refine HT_seq ?_
  refine HT_if fun K1 K2 hK1 hK2 => ?_; (conv => whnf)
  refine cond_lk h (fun _ h => ?_) (fun _ h => ?_)
  · refine hK1 ?_; clear hK1 hK2 K1 K2
    refine HT_skip ?_
    refine Then_n ?_
    refine HT_seq ?_
    refine HT_block ?_
    refine HT_fr DC_ok rfl fun K hK => ?_; (conv => whnf)
    refine ix_lk h fun _ h => ?_; (conv => whnf)
    refine nlA rfl ?_; (conv => whnf)
    refine blkK_of rfl ?_; (conv => whnf)
    refine And.intro rfl (And.intro (nle rfl) (And.intro rfl ?_)); (conv => whnf)
    refine hK _ _ _ ?_; clear hK K
    refine HT_fr DC_ok rfl fun K hK => ?_; (conv => whnf)
    refine nlA rfl ?_; (conv => whnf)
    refine blkK_of rfl ?_; (conv => whnf)
    refine getK_of rfl ?_; (conv => whnf)
    refine nlA rfl ?_; (conv => whnf)
    refine blkK_of rfl ?_; (conv => whnf)
    refine getK_of rfl ?_; (conv => whnf)
    refine nlA rfl ?_; (conv => whnf)
    refine blkK_of rfl ?_; (conv => whnf)
    refine getK_of rfl ?_; (conv => whnf)
    refine blkK_of rfl ?_; (conv => whnf)
    refine And.intro rfl (And.intro (nle rfl) (And.intro rfl ?_)); (conv => whnf)
    refine hK _ _ _ ?_; clear hK K
    refine HT_seq ?_
    refine HT_fr DC_ok rfl fun K hK => ?_; (conv => whnf)
    refine nlA rfl ?_; (conv => whnf)
    refine blkK_of rfl ?_; (conv => whnf)
    refine getK_of rfl ?_; (conv => whnf)
    refine hK _ _ _ ?_; clear hK K
    replace h := W_jn h
    refine HT_if fun K1 K2 hK1 hK2 => ?_; (conv => whnf)
    refine cond_lk h (fun _ h => ?_) (fun _ h => ?_)
    · refine hK1 ?_; clear hK1 hK2 K1 K2
      refine HT_seq ?_
      refine HT_fr DC_ok rfl fun K hK => ?_; (conv => whnf)
      refine nlA rfl ?_; (conv => whnf)
      refine blkK_of rfl ?_; (conv => whnf)
      refine nlA rfl ?_; (conv => whnf)
      refine nlA rfl ?_; (conv => whnf)
      refine blkK_of rfl ?_; (conv => whnf)
      refine getK_of rfl ?_; (conv => whnf)
      refine callsK_open h42 (WkL_cons (Wk.refl _) (WkL.refl _)) rfl ?_; (conv => whnf)
      refine hK _ _ _ ?_; clear hK K
      refine HT_block ?_
      refine HT_ancK rfl rfl [2, 6, 7, 8, 10, 11, 23, 24, 25, 45] [(6, 32), (2, 33), (7, 34), (10, 35), (11, 36)] ?_; (conv => whnf)
      refine And.intro ?_ ?_
      · refine weak_kN ?_; (conv => whnf)
        exact And.intro rfl (And.intro (allL_c (WkR.ptr (fun _ => rfl)) (allL_c (WkR.mp (fun _ => rfl)) (allL_c (WkR.tok (fun _ => rfl) rfl (fun _ _ => Wk.refl _) (fun _ => (lo_TTicket _))) (allL_c wkI (allL_c (WkR.ptr (fun _ => rfl)) (allL_c (WkR.ptr (fun _ => rfl)) (allL_c (wkr (loose_lst fun _ => (lo_TAttempt _))) (allL_c wkI (allL_c wkI (allL_c (WkR_fn VsR_nil (VsR_cons (wkr (loose_ep (loose_cons (loose_int _ _) loose_nil))) (VsR_cons (WkR_ep (VsR_cons (WkR.mp (fun _ => rfl)) VsR_nil)) (VsR_cons (wkr (loose_ep (loose_cons (loose_lst fun _ => (lo_TGrowth _)) (loose_cons (loose_int _ _) loose_nil)))) VsR_nil)))) allL_n)))))))))) (allL_c ⟨some _, rfl, BkR_m (enc := eI) rfl (fun _ => (loose_int _ _))⟩ (allL_c ⟨some _, rfl, BkR_c rfl (CkR_cons (wkr (loose_lst fun _ => (lo_TGrowth _))) (CkR_cons wkI CkR_nil))⟩ (allL_c ⟨some _, rfl, BkR_c rfl CkR_nil⟩ (allL_c ⟨some _, rfl, BkR_c rfl (CkR_cons wkI (CkR_cons wkI (CkR_cons (wkr (loose_bool _)) CkR_nil)))⟩ (allL_c ⟨some _, rfl, BkR_c rfl (CkR_cons wkI (CkR_cons wkI (CkR_cons wkI CkR_nil)))⟩ allL_n))))))
      replace h := W_bd h
      obtain ⟨k, hk, h⟩ := W_inv h
      refine HT_rngI (k := k) rfl rfl (by decide) rfl 2 (by decide) (allL_c (a64_ptr (by decide)) (allL_c (a64_mp (by decide)) (allL_c (a64_tok (by decide) (fun _ => (lo_TTicket _))) (allL_c (a64_loose (loose_int _ _)) (allL_c (a64_ptr (by decide)) (allL_c (a64_ptr (by decide)) (allL_c (a64_loose (loose_lst fun _ => (lo_TAttempt _))) (allL_c (a64_loose (loose_int _ _)) (allL_c (a64_loose (loose_int _ _)) (allL_c (a64_fn a64_nil (a64_cons (a64_ep (a64_cons (a64_loose (loose_int _ _)) a64_nil)) (a64_cons (a64_ep (a64_cons (a64_mp (by decide)) a64_nil)) (a64_cons (a64_ep (a64_cons (a64_loose (loose_lst fun _ => (lo_TGrowth _))) (a64_cons (a64_loose (loose_int _ _)) a64_nil))) a64_nil)))) allL_n)))))))))) 32 36 2 (by decide) (by decide) rfl rfl rfl (allL_c rfl (allL_c rfl (allL_c rfl (allL_c rfl (allL_c rfl allL_n))))) (fun G H hP hY hb hm => ?_) (fun x s => ?_) ?_
      · exact ⟨.tup [], by show T 56 _ _ _ _ _; rw [h56]; exact ⟨_, G, _, _, _, _, _, _, _, k, rfl, (by decide), hb, hm (by decide), hP, hk, hY, rfl, rfl⟩⟩
      · refine HT_f DC_ok rfl fun K hK => ?_; (conv => whnf)
        refine hK _ _ _ ?_; clear hK K
        refine Then_n ?_
        refine HT_block ?_
        refine HT_fr DC_ok rfl fun K hK => ?_; (conv => whnf)
        refine blkK_of rfl ?_; (conv => whnf)
        refine And.intro rfl (And.intro (nle rfl) (And.intro rfl ?_)); (conv => whnf)
        refine hK _ _ _ ?_; clear hK K
        refine HT_exit ?_
        refine InBlock_o (by decide) ?_
        refine ⟨rfl, weak_rngI (nle rfl) (nle rfl) (allL_c ⟨nle rfl, .inr (.inl rfl)⟩ (allL_c ⟨nle rfl, .inr (.inr (a64_cons (a64_loose (loose_lst fun _ => (lo_TGrowth _))) (a64_cons (a64_loose (loose_int _ _)) a64_nil)))⟩ (allL_c ⟨nle rfl, .inr (.inr a64_nil)⟩ (allL_c ⟨nle rfl, .inr (.inr (a64_cons (a64_loose (loose_int _ _)) (a64_cons (a64_loose (loose_int _ _)) (a64_cons (a64_loose (loose_bool _)) a64_nil))))⟩ (allL_c ⟨nle rfl, .inl rfl⟩ allL_n))))) (a64_cons (a64_loose (loose_int _ _)) (a64_cons (a64_loose (loose_int _ _)) (a64_cons (a64_loose (loose_int _ _)) a64_nil)))⟩
      refine InBlock_e ?_
      refine Then_n ?_
      refine HT_fr DC_ok rfl fun K hK => ?_; (conv => whnf)
      refine nlA rfl ?_; (conv => whnf)
      refine blkK_of rfl ?_; (conv => whnf)
      refine getK_of rfl ?_; (conv => whnf)
      refine mget_lk (enc := eI) DC_ok rfl (0 : Int) rfl rfl (nle rfl) ?_; (conv => whnf)
      refine mput_lk (enc := eI) DC_ok rfl rfl ?_; (conv => whnf)
      refine hK _ _ _ ?_; clear hK K
      refine HT_f DC_ok rfl fun K hK => ?_; (conv => whnf)
      refine nlA rfl ?_; (conv => whnf)
      refine blkK_of rfl ?_; (conv => whnf)
      refine getK_of rfl ?_; (conv => whnf)
      refine hK _ _ _ ?_; clear hK K
      refine Then_n ?_
      refine HT_f DC_ok rfl fun K hK => ?_; (conv => whnf)
      refine nlA rfl ?_; (conv => whnf)
      refine blkK_of rfl ?_; (conv => whnf)
      refine nlA rfl ?_; (conv => whnf)
      refine lt_lk (enc := eTTicket) (d := default) DC_ok h rfl rfl rfl ⟨nle rfl, nle rfl, rfl⟩ rfl ⟨⟨rfl, nle rfl⟩, trivial⟩ (fun h => ?_); (conv => whnf)
      refine ap_lk (enc := eTTicket) (d := default) DC_ok h (.inl rfl) rfl rfl rfl ⟨rfl, nle rfl, nle rfl, nle rfl, rfl⟩ (fun _ => rfl) (.inr (.inr ⟨_, _, rfl, rfl, rfl⟩)) (fun h => ?_); (conv => whnf)
      refine hK _ _ _ ?_; clear hK K
      refine InBlock_n ?_
      refine Then_n ?_
      refine HT_f DC_ok rfl fun K hK => ?_; (conv => whnf)
      refine hK _ _ _ ?_; clear hK K
      refine Then_n ?_
      replace h := W_xnx h
      refine ⟨_, h, ?_⟩
      refine weak_k ?_; (conv => whnf)
      exact And.intro rfl (And.intro (allL_c (WkR.tok (fun _ => rfl) rfl (fun _ _ => Wk.refl _) (fun _ => (lo_TTicket _))) (allL_c wkI (allL_c wkI (allL_c (WkR.ptr (fun _ => rfl)) (allL_c (WkR.mp (fun _ => rfl)) (allL_c (wkr (loose_lst fun _ => (lo_TAttempt _))) (allL_c wkI allL_n))))))) (allL_c ⟨some _, rfl, BkR_m (enc := eI) rfl (fun _ => (loose_int _ _))⟩ (allL_c ⟨some _, rfl, BkR_c rfl CkR_nil⟩ (allL_c ⟨some _, rfl, BkR_c rfl (CkR_cons (wkr (loose_lst fun _ => (lo_TGrowth _))) (CkR_cons wkI CkR_nil))⟩ allL_n))))
    refine hK2 ?_; clear hK1 hK2 K1 K2
    refine HT_skip ?_
    refine Then_n ?_
    refine HT_f DC_ok rfl fun K hK => ?_; (conv => whnf)
    refine nlA rfl ?_; (conv => whnf)
    refine blkK_of rfl ?_; (conv => whnf)
    refine nlA rfl ?_; (conv => whnf)
    refine lt_lk (enc := eTTicket) (d := default) DC_ok h rfl rfl rfl ⟨nle rfl, nle rfl, rfl⟩ rfl ⟨⟨rfl, nle rfl⟩, trivial⟩ (fun h => ?_); (conv => whnf)
    refine ap_lk (enc := eTTicket) (d := default) DC_ok h (.inl rfl) rfl rfl rfl ⟨rfl, nle rfl, nle rfl, nle rfl, rfl⟩ (fun _ => rfl) (.inr (.inr ⟨_, _, rfl, rfl, rfl⟩)) (fun h => ?_); (conv => whnf)
    refine hK _ _ _ ?_; clear hK K
    refine InBlock_n ?_
    refine Then_n ?_
    refine HT_f DC_ok rfl fun K hK => ?_; (conv => whnf)
    refine hK _ _ _ ?_; clear hK K
    refine Then_n ?_
    replace h := W_xnx h
    refine ⟨_, h, ?_⟩
    refine weak_k ?_; (conv => whnf)
    exact And.intro rfl (And.intro (allL_c (WkR.tok (fun _ => rfl) rfl (fun _ _ => Wk.refl _) (fun _ => (lo_TTicket _))) (allL_c wkI (allL_c wkI (allL_c (WkR.ptr (fun _ => rfl)) (allL_c (WkR.mp (fun _ => rfl)) (allL_c (wkr (loose_lst fun _ => (lo_TAttempt _))) (allL_c wkI allL_n))))))) (allL_c ⟨some _, rfl, BkR_m (enc := eI) rfl (fun _ => (loose_int _ _))⟩ (allL_c ⟨some _, rfl, BkR_c rfl CkR_nil⟩ (allL_c ⟨some _, rfl, BkR_c rfl (CkR_cons (wkr (loose_lst fun _ => (lo_TGrowth _))) (CkR_cons wkI CkR_nil))⟩ allL_n))))
  refine hK2 ?_; clear hK1 hK2 K1 K2
  refine HT_exit ?_
  refine Then_e ?_
  refine Then_e ?_
  refine InBlock_e ?_
  replace h := W_xbk h
  replace h := W_inl h
  refine Then_n ?_
  refine HT_fr DC_ok rfl fun K hK => ?_; (conv => whnf)
  refine hK _ _ _ ?_; clear hK K
  refine HT_ret ?_
  replace h := W_some h
  refine PostP_r DC_ok fun K hK => ?_; (conv => whnf)
  refine hK _ ?_; clear hK K
  cases h
  exact Wk_tup (WkL_cons Wk_free (WkL_cons (Wk.refl _) WkL_nil))
theorem recovery_Plan_call {T : Tbl} (hT : T 18 = pureR recovery_Plan_S) {args : List AV} {hp : Heap} {id : Nat} {k : AV → Prop} {a0 : TRegion} {a1 : List TAttempt} {Φ : (List TTicket) × Int → Prop} (h : W (recovery_Plan_F a0 a1) Φ) (hw : WkL args [eTRegion a0, (eL 3 eTAttempt default) a1]) (hk : ∀ y, Φ y → k (.tup [(eL 3 eTTicket default) y.1, eI y.2])) : callpK T 18 args hp id k := by
  obtain ⟨y, e, hy⟩ := W_inv h
  exact callpK_pure hT ⟨a0, a1, rfl, W_of e rfl⟩ (by exact loose_tup (loose_cons (loose_lst fun _ => (lo_TTicket _)) (loose_cons (loose_int _ _) loose_nil))) hw (hk y hy)
end Go.Proofs.Ytcidmnpihffphaa
namespace Go.Proofs.Ytcidmnpihffphaa
open Go Go.Eng
set_option maxHeartbeats 0
set_option maxRecDepth 100000
def recovery_Last_b1 (y1 : (List TTicket) × Int) (s2 : Int × Int) : Option (Ct (Int × Int) (Int × Int)) := cn (decide (s2.2 < (y1.1.length : Int))) (ix y1.1 default s2.2 fun e3 =>
    some (.nx ((imax s2.1 e3.At), (wr (s2.2 + 1))))) (some (.bk (s2.1, s2.2)))
theorem W_brecovery_Last_b1 {y1 : (List TTicket) × Int} {s2 : Int × Int} {Φ : Ct (Int × Int) (Int × Int) → Prop} (h : W (recovery_Last_b1 y1 s2) Φ) : W (cn (decide (s2.2 < (y1.1.length : Int))) (ix y1.1 default s2.2 fun e3 => some (.nx ((imax s2.1 e3.At), (wr (s2.2 + 1))))) (some (.bk (s2.1, s2.2)))) Φ := h
def recovery_Last_F (a0 : TRegion) (a1 : List TAttempt) : Option (Int × Int) := bd (recovery_Plan_F a0 a1) fun y1 => cn (y1.2 !=
    0) (some (0, y1.2)) (bd (lp (recovery_Last_b1 y1) FU ((-1), 0)) fun c4 => smK c4 (fun s5 => some (s5.1, 0)) (fun r6 => some r6))
def recovery_Last_S : List AV → AV → Prop := fun args r => ∃ a0 a1, args = [eTRegion a0, (eL 3 eTAttempt default) a1] ∧ W (recovery_Last_F a0 a1) fun y => r = (.tup [eI y.1, eI y.2])
theorem recovery_Last_ok {T : Tbl} (hT : TOk Try.prog T) (hpf : PfOk T PF) (h18 : T 18 = pureR recovery_Plan_S) : FOk Try.prog 22 (pureR recovery_Last_S) := by
  refine FOk_pure hT hpf Try.func22 rfl Try.ntmps22 Try.results22 (by decide) ?_
  rintro args r ⟨a0, a1, rfl, h⟩
  refine ⟨nle rfl, ?_, ?_⟩
  · exact (loose_cons (lo_TRegion _) (loose_cons (loose_lst fun _ => (lo_TAttempt _)) loose_nil))
  rw [recovery_Last_F.eq_1] at h
  refine HT_fr DC_ok rfl fun K hK => ?_; (conv => whnf)
  refine hK _ _ _ ?_; clear hK K
  refine HT_fr DC_ok rfl fun K hK => ?_; (conv => whnf)
  refine nlA rfl ?_; (conv => whnf)
  refine blkK_of rfl ?_; (conv => whnf)
  refine nlA rfl ?_; (conv => whnf)
  replace h := W_bd h
  refine recovery_Plan_call h18 h (WkL.refl _) (fun _ h => ?_); (conv => whnf)
  refine hK _ _ _ ?_; clear hK K
  refine HT_seq ?_
  refine HT_fr DC_ok rfl fun K hK => ?_; (conv => whnf)
  refine hK _ _ _ ?_; clear hK K
  refine HT_if fun K1 K2 hK1 hK2 => ?_; (conv => whnf)
  refine cond_lk h (fun _ h => ?_) (fun _ h => ?_)
  · refine hK1 ?_; clear hK1 hK2 K1 K2
    refine HT_fr DC_ok rfl fun K hK => ?_; (conv => whnf)
    refine hK _ _ _ ?_; clear hK K
    refine HT_ret ?_
    refine Then_r ?_
    replace h := W_some h
    refine PostP_r DC_ok fun K hK => ?_; (conv => whnf)
    refine hK _ ?_; clear hK K
    cases h
    exact Wk.refl _
  refine hK2 ?_; clear hK1 hK2 K1 K2
  refine HT_skip ?_
  refine Then_n ?_
  refine HT_fr DC_ok rfl fun K hK => ?_; (conv => whnf)
  refine hK _ _ _ ?_; clear hK K
  refine HT_seq ?_
  refine HT_fr DC_ok rfl fun K hK => ?_; (conv => whnf)
  refine hK _ _ _ ?_; clear hK K
  refine HT_block ?_
  replace h := W_bd h
  refine HT_lpK (body := recovery_Last_b1 _) rfl h [20, 21] [] [] (fun kl kh ids b s => ⟨ofL ([(8, eI s.1), (22, eI s.2)] ++ kl), ofH ([] ++ kh), b + 64⟩) ?_; (conv => whnf); refine And.intro ?_ (fun s m h => HT_st ?_)
  · refine weak_k ?_; (conv => whnf)
    exact And.intro rfl (And.intro (allL_c wkI (allL_c wkI (allL_c (wkr (loose_lst fun _ => (lo_TTicket _))) (allL_c wkI allL_n)))) allL_n)
  replace h := W_brecovery_Last_b1 (W_bd h)
  refine HT_fr DC_ok rfl fun K hK => ?_; (conv => whnf)
  refine hK _ _ _ ?_; clear hK K
  refine HT_seq ?_
  refine HT_if fun K1 K2 hK1 hK2 => ?_; (conv => whnf)
  refine cond_lk h (fun _ h => ?_) (fun _ h => ?_)
  · refine hK1 ?_; clear hK1 hK2 K1 K2
    refine HT_skip ?_
    refine Then_n ?_
    refine HT_seq ?_
    refine HT_block ?_
    refine HT_fr DC_ok rfl fun K hK => ?_; (conv => whnf)
    refine ix_lk h fun _ h => ?_; (conv => whnf)
    refine nlA rfl ?_; (conv => whnf)
    refine blkK_of rfl ?_; (conv => whnf)
    refine And.intro rfl (And.intro (nle rfl) (And.intro rfl ?_)); (conv => whnf)
    refine hK _ _ _ ?_; clear hK K
    refine HT_f DC_ok rfl fun K hK => ?_; (conv => whnf)
    refine nlA rfl ?_; (conv => whnf)
    refine blkK_of rfl ?_; (conv => whnf)
    refine getK_of rfl ?_; (conv => whnf)
    refine hK _ _ _ ?_; clear hK K
    refine InBlock_n ?_
    refine Then_n ?_
    refine HT_f DC_ok rfl fun K hK => ?_; (conv => whnf)
    refine hK _ _ _ ?_; clear hK K
    refine Then_n ?_
    replace h := W_xnx h
    refine ⟨_, h, ?_⟩
    refine weak_k ?_; (conv => whnf)
    exact And.intro rfl (And.intro (allL_c wkI (allL_c wkI (allL_c (wkr (loose_lst fun _ => (lo_TTicket _))) (allL_c wkI allL_n)))) allL_n)
  refine hK2 ?_; clear hK1 hK2 K1 K2
  refine HT_exit ?_
  refine Then_e ?_
  refine Then_e ?_
  refine InBlock_e ?_
  replace h := W_xbk h
  replace h := W_inl h
  refine Then_n ?_
  refine HT_fr DC_ok rfl fun K hK => ?_; (conv => whnf)
  refine hK _ _ _ ?_; clear hK K
  refine HT_ret ?_
  replace h := W_some h
  refine PostP_r DC_ok fun K hK => ?_; (conv => whnf)
  refine hK _ ?_; clear hK K
  cases h
  exact Wk.refl _
theorem recovery_Last_call {T : Tbl} (hT : T 22 = pureR recovery_Last_S) {args : List AV} {hp : Heap} {id : Nat} {k : AV → Prop} {a0 : TRegion} {a1 : List TAttempt} {Φ : Int × Int → Prop} (h : W (recovery_Last_F a0 a1) Φ) (hw : WkL args [eTRegion a0, (eL 3 eTAttempt default) a1]) (hk : ∀ y, Φ y → k (.tup [eI y.1, eI y.2])) : callpK T 22 args hp id k := by
  obtain ⟨y, e, hy⟩ := W_inv h
  exact callpK_pure hT ⟨a0, a1, rfl, W_of e rfl⟩ (by exact loose_tup (loose_cons (loose_int _ _) (loose_cons (loose_int _ _) loose_nil))) hw (hk y hy)
def recovery_Check_F (a0 : TRegion) (a1 : List TAttempt) (a2 : List TTicket) : Option Bool := bd (recovery_Plan_F a0 a1) fun y1 => jn (fun p2 : Bool => some p2) fun k3 =>
    cn (y1.2 == 0) (bd (slices_Equal_Ticket_F a2 y1.1) fun y4 => k3 y4) (k3 false)
def recovery_Check_S : List AV → AV → Prop := fun args r => ∃ a0 a1 a2, args = [eTRegion a0, (eL 3 eTAttempt default) a1, (eL 3 eTTicket default) a2] ∧ W (recovery_Check_F a0 a1 a2) fun y => r = (eB y)
theorem recovery_Check_ok {T : Tbl} (hT : TOk Try.prog T) (hpf : PfOk T PF) (h18 : T 18 = pureR recovery_Plan_S) (h51 : T 51 = pureR slices_Equal_Ticket_S) : FOk Try.prog 36 (pureR recovery_Check_S) := by
  refine FOk_pure hT hpf Try.func36 rfl Try.ntmps36 Try.results36 (by decide) ?_
  rintro args r ⟨a0, a1, a2, rfl, h⟩
  refine ⟨nle rfl, ?_, ?_⟩
  · exact (loose_cons (lo_TRegion _) (loose_cons (loose_lst fun _ => (lo_TAttempt _)) (loose_cons (loose_lst fun _ => (lo_TTicket _)) loose_nil)))
  rw [recovery_Check_F.eq_1] at h
  refine HT_fr DC_ok rfl fun K hK => ?_; (conv => whnf)
  refine hK _ _ _ ?_; clear hK K
  refine HT_fr DC_ok rfl fun K hK => ?_; (conv => whnf)
  refine nlA rfl ?_; (conv => whnf)
  refine blkK_of rfl ?_; (conv => whnf)
  refine nlA rfl ?_; (conv => whnf)
  replace h := W_bd h
  refine recovery_Plan_call h18 h (WkL.refl _) (fun _ h => ?_); (conv => whnf)
  refine hK _ _ _ ?_; clear hK K
  refine HT_fr DC_ok rfl fun K hK => ?_; (conv => whnf)
  replace h := W_jn h
  refine cond_lk h (fun _ h => ?_) (fun _ h => ?_) <;> (conv => whnf)
  · replace h := W_bd h
    refine slices_Equal_Ticket_call h51 h (WkL.refl _) (fun _ h => ?_); (conv => whnf)
    refine hK _ _ _ ?_; clear hK K
    refine HT_ret ?_
    replace h := W_some h
    refine PostP_r DC_ok fun K hK => ?_; (conv => whnf)
    refine hK _ ?_; clear hK K
    cases h
    exact Wk.refl _
  refine hK _ _ _ ?_; clear hK K
  refine HT_ret ?_
  replace h := W_some h
  refine PostP_r DC_ok fun K hK => ?_; (conv => whnf)
  refine hK _ ?_; clear hK K
  cases h
  exact Wk.refl _
theorem recovery_Check_call {T : Tbl} (hT : T 36 = pureR recovery_Check_S) {args : List AV} {hp : Heap} {id : Nat} {k : AV → Prop} {a0 : TRegion} {a1 : List TAttempt} {a2 : List TTicket} {Φ : Bool → Prop} (h : W (recovery_Check_F a0 a1 a2) Φ) (hw : WkL args [eTRegion a0, (eL 3 eTAttempt default) a1, (eL 3 eTTicket default) a2]) (hk : ∀ y, Φ y → k (eB y)) : callpK T 36 args hp id k := by
  obtain ⟨y, e, hy⟩ := W_inv h
  exact callpK_pure hT ⟨a0, a1, a2, rfl, W_of e rfl⟩ (by exact (loose_bool _)) hw (hk y hy)

    def ref34_Safe_b1 (a0 : TRegion) (y1 : (List TTicket) × Int) (y2 : List TAttempt) (s3 : Int) : Option (Ct Int (Int × Bool)) := cn (decide (s3 ≤ 1040)) (bd (ref34_load_F y2 y1.1 s3) fun y4 =>
    cn (decide (y4 > a0.Signals)) (some (.rt (s3, false))) (some (.nx (wr (s3 + 1))))) (some (.bk s3))
theorem W_bref34_Safe_b1 {a0 : TRegion} {y1 : (List TTicket) × Int} {y2 : List TAttempt} {s3 : Int} {Φ : Ct Int (Int × Bool) → Prop} (h : W (ref34_Safe_b1 a0 y1 y2 s3) Φ) : W (cn (decide (s3 ≤ 1040)) (bd (ref34_load_F y2 y1.1 s3) fun y4 => cn (decide (y4 > a0.Signals)) (some (.rt (s3, false))) (some (.nx (wr (s3 + 1))))) (some (.bk s3))) Φ := h
def ref34_Safe_F (a0 : TRegion) (a1 : List TAttempt) : Option (Int × Bool) := bd (ref34_Plan_F a0 a1) fun y1 => cn (y1.2 !=
    0) (some ((-1), false)) (bd (ref34_Ordered_F a1) fun y2 => bd (lp (ref34_Safe_b1 a0 y1 y2) FU 0) fun c5 => smK c5 (fun s6 => some ((-1), true)) (fun r7 => some r7))
def ref34_Safe_S : List AV → AV → Prop := fun args r => ∃ a0 a1, args = [eTRegion a0, (eL 3 eTAttempt default) a1] ∧ W (ref34_Safe_F a0 a1) fun y => r = (.tup [eI y.1, eB y.2])
theorem ref34_Safe_ok {T : Tbl} (hT : TOk Try.prog T) (hpf : PfOk T PF) (h19 : T 19 = pureR ref34_Plan_S) (h38 : T 38 = pureR ref34_Ordered_S) (h45 : T 45 = pureR ref34_load_S) : FOk Try.prog 21 (pureR ref34_Safe_S) := by
  refine FOk_pure hT hpf Try.func21 rfl Try.ntmps21 Try.results21 (by decide) ?_
  rintro args r ⟨a0, a1, rfl, h⟩
  refine ⟨nle rfl, ?_, ?_⟩
  · exact (loose_cons (lo_TRegion _) (loose_cons (loose_lst fun _ => (lo_TAttempt _)) loose_nil))
  rw [ref34_Safe_F.eq_1] at h
  refine HT_fr DC_ok rfl fun K hK => ?_; (conv => whnf)
  refine hK _ _ _ ?_; clear hK K
  refine HT_fr DC_ok rfl fun K hK => ?_; (conv => whnf)
  refine nlA rfl ?_; (conv => whnf)
  refine blkK_of rfl ?_; (conv => whnf)
  refine nlA rfl ?_; (conv => whnf)
  replace h := W_bd h
  refine ref34_Plan_call h19 h (WkL.refl _) (fun _ h => ?_); (conv => whnf)
  refine hK _ _ _ ?_; clear hK K
  refine HT_seq ?_
  refine HT_fr DC_ok rfl fun K hK => ?_; (conv => whnf)
  refine hK _ _ _ ?_; clear hK K
  refine HT_if fun K1 K2 hK1 hK2 => ?_; (conv => whnf)
  refine cond_lk h (fun _ h => ?_) (fun _ h => ?_)
  · refine hK1 ?_; clear hK1 hK2 K1 K2
    refine HT_fr DC_ok rfl fun K hK => ?_; (conv => whnf)
    refine hK _ _ _ ?_; clear hK K
    refine HT_ret ?_
    refine Then_r ?_
    replace h := W_some h
    refine PostP_r DC_ok fun K hK => ?_; (conv => whnf)
    refine hK _ ?_; clear hK K
    cases h
    exact Wk.refl _
  refine hK2 ?_; clear hK1 hK2 K1 K2
  refine HT_skip ?_
  refine Then_n ?_
  refine HT_fr DC_ok rfl fun K hK => ?_; (conv => whnf)
  replace h := W_bd h
  refine ref34_Ordered_call h38 h (WkL.refl _) (fun _ h => ?_); (conv => whnf)
  refine hK _ _ _ ?_; clear hK K
  refine HT_seq ?_
  refine HT_fr DC_ok rfl fun K hK => ?_; (conv => whnf)
  refine hK _ _ _ ?_; clear hK K
  refine HT_block ?_
  replace h := W_bd h
  refine HT_lpK (body := ref34_Safe_b1 _ _ _) rfl h [2, 6, 8] [2] [] (fun kl kh ids b s => ⟨ofL ([(9, eI s)] ++ kl), ofH ([] ++ kh), b + 64⟩) ?_; (conv => whnf); refine And.intro ?_ (fun s m h => HT_st ?_)
  · refine weak_k ?_; (conv => whnf)
    exact And.intro rfl (And.intro (allL_c wkI (allL_c (WkR.ptr (fun _ => rfl)) (allL_c (wkr (loose_lst fun _ => (lo_TTicket _))) (allL_c (wkr (loose_lst fun _ => (lo_TAttempt _))) allL_n)))) (allL_c ⟨some _, rfl, BkR_c rfl (CkR_cons (wkr (loose_lst fun _ => (lo_TGrowth _))) (CkR_cons wkI CkR_nil))⟩ allL_n))
  replace h := W_bref34_Safe_b1 (W_bd h)
  refine HT_seq ?_
  refine HT_fr DC_ok rfl fun K hK => ?_; (conv => whnf)
  refine hK _ _ _ ?_; clear hK K
  refine HT_if fun K1 K2 hK1 hK2 => ?_; (conv => whnf)
  refine cond_lk h (fun _ h => ?_) (fun _ h => ?_)
  · refine hK1 ?_; clear hK1 hK2 K1 K2
    refine HT_skip ?_
    refine Then_n ?_
    refine HT_seq ?_
    refine HT_block ?_
    refine HT_fd DC_ok mix_ok rfl (by kernel_rfl) fun K hK => ?_; (conv => whnf)
    replace h := W_bd h
    refine ref34_load_call h45 h (WkL.refl _) (fun _ h => ?_); (conv => whnf)
    refine nlA rfl ?_; (conv => whnf)
    refine blkK_of rfl ?_; (conv => whnf)
    refine getK_of rfl ?_; (conv => whnf)
    refine hK _ _ _ ?_; clear hK K
    refine HT_if fun K1 K2 hK1 hK2 => ?_; (conv => whnf)
    refine cond_lk h (fun _ h => ?_) (fun _ h => ?_)
    · refine hK1 ?_; clear hK1 hK2 K1 K2
      refine HT_fr DC_ok rfl fun K hK => ?_; (conv => whnf)
      refine hK _ _ _ ?_; clear hK K
      refine HT_ret ?_
      refine InBlock_r ?_
      refine Then_r ?_
      refine Then_r ?_
      refine InBlock_r ?_
      refine Then_r ?_
      replace h := W_xrt h
      replace h := W_inr h
      replace h := W_some h
      refine PostP_r DC_ok fun K hK => ?_; (conv => whnf)
      refine hK _ ?_; clear hK K
      cases h
      exact Wk.refl _
    refine hK2 ?_; clear hK1 hK2 K1 K2
    refine HT_skip ?_
    refine InBlock_n ?_
    refine Then_n ?_
    refine HT_f DC_ok rfl fun K hK => ?_; (conv => whnf)
    refine hK _ _ _ ?_; clear hK K
    refine Then_n ?_
    replace h := W_xnx h
    refine ⟨_, h, ?_⟩
    refine weak_k ?_; (conv => whnf)
    exact And.intro rfl (And.intro (allL_c wkI (allL_c (WkR.ptr (fun _ => rfl)) (allL_c (wkr (loose_lst fun _ => (lo_TTicket _))) (allL_c (wkr (loose_lst fun _ => (lo_TAttempt _))) allL_n)))) (allL_c ⟨some _, rfl, BkR_c rfl (CkR_cons (wkr (loose_lst fun _ => (lo_TGrowth _))) (CkR_cons wkI CkR_nil))⟩ allL_n))
  refine hK2 ?_; clear hK1 hK2 K1 K2
  refine HT_exit ?_
  refine Then_e ?_
  refine Then_e ?_
  refine InBlock_e ?_
  replace h := W_xbk h
  replace h := W_inl h
  refine Then_n ?_
  refine HT_fr DC_ok rfl fun K hK => ?_; (conv => whnf)
  refine hK _ _ _ ?_; clear hK K
  refine HT_ret ?_
  replace h := W_some h
  refine PostP_r DC_ok fun K hK => ?_; (conv => whnf)
  refine hK _ ?_; clear hK K
  cases h
  exact Wk.refl _
theorem ref34_Safe_call {T : Tbl} (hT : T 21 = pureR ref34_Safe_S) {args : List AV} {hp : Heap} {id : Nat} {k : AV → Prop} {a0 : TRegion} {a1 : List TAttempt} {Φ : Int × Bool → Prop} (h : W (ref34_Safe_F a0 a1) Φ) (hw : WkL args [eTRegion a0, (eL 3 eTAttempt default) a1]) (hk : ∀ y, Φ y → k (.tup [eI y.1, eB y.2])) : callpK T 21 args hp id k := by
  obtain ⟨y, e, hy⟩ := W_inv h
  exact callpK_pure hT ⟨a0, a1, rfl, W_of e rfl⟩ (by exact loose_tup (loose_cons (loose_int _ _) (loose_cons (loose_bool _) loose_nil))) hw (hk y hy)
def ref34_Last_b1 (y1 : (List TTicket) × Int) (s2 : Int × Int) : Option (Ct (Int × Int) (Int × Int)) := cn (decide (s2.2 < (y1.1.length : Int))) (ix y1.1 default s2.2 fun e3 =>
    some (.nx ((imax s2.1 e3.At), (wr (s2.2 + 1))))) (some (.bk (s2.1, s2.2)))
theorem W_bref34_Last_b1 {y1 : (List TTicket) × Int} {s2 : Int × Int} {Φ : Ct (Int × Int) (Int × Int) → Prop} (h : W (ref34_Last_b1 y1 s2) Φ) : W (cn (decide (s2.2 < (y1.1.length : Int))) (ix y1.1 default s2.2 fun e3 => some (.nx ((imax s2.1 e3.At), (wr (s2.2 + 1))))) (some (.bk (s2.1, s2.2)))) Φ := h
def ref34_Last_F (a0 : TRegion) (a1 : List TAttempt) : Option (Int × Int) := bd (ref34_Plan_F a0 a1) fun y1 => cn (y1.2 !=
    0) (some (0, y1.2)) (bd (lp (ref34_Last_b1 y1) FU ((-1), 0)) fun c4 => smK c4 (fun s5 => some (s5.1, 0)) (fun r6 => some r6))
def ref34_Last_S : List AV → AV → Prop := fun args r => ∃ a0 a1, args = [eTRegion a0, (eL 3 eTAttempt default) a1] ∧ W (ref34_Last_F a0 a1) fun y => r = (.tup [eI y.1, eI y.2])
theorem ref34_Last_ok {T : Tbl} (hT : TOk Try.prog T) (hpf : PfOk T PF) (h19 : T 19 = pureR ref34_Plan_S) : FOk Try.prog 23 (pureR ref34_Last_S) := by
  refine FOk_pure hT hpf Try.func23 rfl Try.ntmps23 Try.results23 (by decide) ?_
  rintro args r ⟨a0, a1, rfl, h⟩
  refine ⟨nle rfl, ?_, ?_⟩
  · exact (loose_cons (lo_TRegion _) (loose_cons (loose_lst fun _ => (lo_TAttempt _)) loose_nil))
  rw [ref34_Last_F.eq_1] at h
  refine HT_fr DC_ok rfl fun K hK => ?_; (conv => whnf)
  refine hK _ _ _ ?_; clear hK K
  refine HT_fr DC_ok rfl fun K hK => ?_; (conv => whnf)
  refine nlA rfl ?_; (conv => whnf)
  refine blkK_of rfl ?_; (conv => whnf)
  refine nlA rfl ?_; (conv => whnf)
  replace h := W_bd h
  refine ref34_Plan_call h19 h (WkL.refl _) (fun _ h => ?_); (conv => whnf)
  refine hK _ _ _ ?_; clear hK K
  refine HT_seq ?_
  refine HT_fr DC_ok rfl fun K hK => ?_; (conv => whnf)
  refine hK _ _ _ ?_; clear hK K
  refine HT_if fun K1 K2 hK1 hK2 => ?_; (conv => whnf)
  refine cond_lk h (fun _ h => ?_) (fun _ h => ?_)
  · refine hK1 ?_; clear hK1 hK2 K1 K2
    refine HT_fr DC_ok rfl fun K hK => ?_; (conv => whnf)
    refine hK _ _ _ ?_; clear hK K
    refine HT_ret ?_
    refine Then_r ?_
    replace h := W_some h
    refine PostP_r DC_ok fun K hK => ?_; (conv => whnf)
    refine hK _ ?_; clear hK K
    cases h
    exact Wk.refl _
  refine hK2 ?_; clear hK1 hK2 K1 K2
  refine HT_skip ?_
  refine Then_n ?_
  refine HT_fr DC_ok rfl fun K hK => ?_; (conv => whnf)
  refine hK _ _ _ ?_; clear hK K
  refine HT_seq ?_
  refine HT_fr DC_ok rfl fun K hK => ?_; (conv => whnf)
  refine hK _ _ _ ?_; clear hK K
  refine HT_block ?_
  replace h := W_bd h
  refine HT_lpK (body := ref34_Last_b1 _) rfl h [6] [] [] (fun kl kh ids b s => ⟨ofL ([(8, eI s.1), (9, eI s.2)] ++ kl), ofH ([] ++ kh), b + 64⟩) ?_; (conv => whnf); refine And.intro ?_ (fun s m h => HT_st ?_)
  · refine weak_k ?_; (conv => whnf)
    exact And.intro rfl (And.intro (allL_c wkI (allL_c wkI (allL_c (wkr (loose_lst fun _ => (lo_TTicket _))) allL_n))) allL_n)
  replace h := W_bref34_Last_b1 (W_bd h)
  refine HT_seq ?_
  refine HT_fr DC_ok rfl fun K hK => ?_; (conv => whnf)
  refine hK _ _ _ ?_; clear hK K
  refine HT_if fun K1 K2 hK1 hK2 => ?_; (conv => whnf)
  refine cond_lk h (fun _ h => ?_) (fun _ h => ?_)
  · refine hK1 ?_; clear hK1 hK2 K1 K2
    refine HT_skip ?_
    refine Then_n ?_
    refine HT_seq ?_
    refine HT_block ?_
    refine HT_f DC_ok rfl fun K hK => ?_; (conv => whnf)
    refine ix_lk h fun _ h => ?_; (conv => whnf)
    refine getK_of rfl ?_; (conv => whnf)
    refine hK _ _ _ ?_; clear hK K
    refine InBlock_n ?_
    refine Then_n ?_
    refine HT_f DC_ok rfl fun K hK => ?_; (conv => whnf)
    refine hK _ _ _ ?_; clear hK K
    refine Then_n ?_
    replace h := W_xnx h
    refine ⟨_, h, ?_⟩
    refine weak_k ?_; (conv => whnf)
    exact And.intro rfl (And.intro (allL_c wkI (allL_c wkI (allL_c (wkr (loose_lst fun _ => (lo_TTicket _))) allL_n))) allL_n)
  refine hK2 ?_; clear hK1 hK2 K1 K2
  refine HT_exit ?_
  refine Then_e ?_
  refine Then_e ?_
  refine InBlock_e ?_
  replace h := W_xbk h
  replace h := W_inl h
  refine Then_n ?_
  refine HT_fr DC_ok rfl fun K hK => ?_; (conv => whnf)
  refine hK _ _ _ ?_; clear hK K
  refine HT_ret ?_
  replace h := W_some h
  refine PostP_r DC_ok fun K hK => ?_; (conv => whnf)
  refine hK _ ?_; clear hK K
  cases h
  exact Wk.refl _
theorem ref34_Last_call {T : Tbl} (hT : T 23 = pureR ref34_Last_S) {args : List AV} {hp : Heap} {id : Nat} {k : AV → Prop} {a0 : TRegion} {a1 : List TAttempt} {Φ : Int × Int → Prop} (h : W (ref34_Last_F a0 a1) Φ) (hw : WkL args [eTRegion a0, (eL 3 eTAttempt default) a1]) (hk : ∀ y, Φ y → k (.tup [eI y.1, eI y.2])) : callpK T 23 args hp id k := by
  obtain ⟨y, e, hy⟩ := W_inv h
  exact callpK_pure hT ⟨a0, a1, rfl, W_of e rfl⟩ (by exact loose_tup (loose_cons (loose_int _ _) (loose_cons (loose_int _ _) loose_nil))) hw (hk y hy)
def ref34_Load_F (a0 : TRegion) (a1 : List TAttempt) (a2 : Int) : Option (Int × Int) := bd (ref34_Plan_F a0 a1) fun y1 => jn (fun p2 : Int × Bool =>
    cn p2.2 (some (0, 340)) (bd (ref34_Ordered_F a1) fun y4 => bd (ref34_load_F y4 y1.1 p2.1) fun y5 => some (y5, 0))) fun k3 => cn (y1.2 !=
    0) (k3 (a2, true)) (k3 (a2, (decide (a2 < 0))))
def ref34_Load_S : List AV → AV → Prop := fun args r => ∃ a0 a1 a2, args = [eTRegion a0, (eL 3 eTAttempt default) a1, eI a2] ∧ W (ref34_Load_F a0 a1 a2) fun y => r = (.tup [eI y.1, eI y.2])
theorem ref34_Load_ok {T : Tbl} (hT : TOk Try.prog T) (hpf : PfOk T PF) (h19 : T 19 = pureR ref34_Plan_S) (h38 : T 38 = pureR ref34_Ordered_S) (h45 : T 45 = pureR ref34_load_S) : FOk Try.prog 31 (pureR ref34_Load_S) := by
  refine FOk_pure hT hpf Try.func31 rfl Try.ntmps31 Try.results31 (by decide) ?_
  rintro args r ⟨a0, a1, a2, rfl, h⟩
  refine ⟨nle rfl, ?_, ?_⟩
  · exact (loose_cons (lo_TRegion _) (loose_cons (loose_lst fun _ => (lo_TAttempt _)) (loose_cons (loose_int _ _) loose_nil)))
  rw [ref34_Load_F.eq_1] at h
  refine HT_fr DC_ok rfl fun K hK => ?_; (conv => whnf)
  refine hK _ _ _ ?_; clear hK K
  refine HT_fr DC_ok rfl fun K hK => ?_; (conv => whnf)
  refine nlA rfl ?_; (conv => whnf)
  refine blkK_of rfl ?_; (conv => whnf)
  refine nlA rfl ?_; (conv => whnf)
  replace h := W_bd h
  refine ref34_Plan_call h19 h (WkL.refl _) (fun _ h => ?_); (conv => whnf)
  refine hK _ _ _ ?_; clear hK K
  refine HT_seq ?_
  refine HT_fr DC_ok rfl fun K hK => ?_; (conv => whnf)
  replace h := W_jn h
  refine cond_lk h (fun _ h => ?_) (fun _ h => ?_) <;> (conv => whnf)
  · refine hK _ _ _ ?_; clear hK K
    refine HT_if fun K1 K2 hK1 hK2 => ?_; (conv => whnf)
    refine hK1 ?_; clear hK1 hK2 K1 K2
    replace h := W_cnT h
    refine HT_fr DC_ok rfl fun K hK => ?_; (conv => whnf)
    refine hK _ _ _ ?_; clear hK K
    refine HT_ret ?_
    refine Then_r ?_
    replace h := W_some h
    refine PostP_r DC_ok fun K hK => ?_; (conv => whnf)
    refine hK _ ?_; clear hK K
    cases h
    exact Wk.refl _
  refine hK _ _ _ ?_; clear hK K
  refine HT_if fun K1 K2 hK1 hK2 => ?_; (conv => whnf)
  refine cond_lk h (fun _ h => ?_) (fun _ h => ?_)
  · refine hK1 ?_; clear hK1 hK2 K1 K2
    refine HT_fr DC_ok rfl fun K hK => ?_; (conv => whnf)
    refine hK _ _ _ ?_; clear hK K
    refine HT_ret ?_
    refine Then_r ?_
    replace h := W_some h
    refine PostP_r DC_ok fun K hK => ?_; (conv => whnf)
    refine hK _ ?_; clear hK K
    cases h
    exact Wk.refl _
  refine hK2 ?_; clear hK1 hK2 K1 K2
  refine HT_skip ?_
  refine Then_n ?_
  refine HT_fr DC_ok rfl fun K hK => ?_; (conv => whnf)
  replace h := W_bd h
  refine ref34_Ordered_call h38 h (WkL.refl _) (fun _ h => ?_); (conv => whnf)
  replace h := W_bd h
  refine ref34_load_call h45 h (WkL.refl _) (fun _ h => ?_); (conv => whnf)
  refine hK _ _ _ ?_; clear hK K
  refine HT_ret ?_
  replace h := W_some h
  refine PostP_r DC_ok fun K hK => ?_; (conv => whnf)
  refine hK _ ?_; clear hK K
  cases h
  exact Wk.refl _
theorem ref34_Load_call {T : Tbl} (hT : T 31 = pureR ref34_Load_S) {args : List AV} {hp : Heap} {id : Nat} {k : AV → Prop} {a0 : TRegion} {a1 : List TAttempt} {a2 : Int} {Φ : Int × Int → Prop} (h : W (ref34_Load_F a0 a1 a2) Φ) (hw : WkL args [eTRegion a0, (eL 3 eTAttempt default) a1, eI a2]) (hk : ∀ y, Φ y → k (.tup [eI y.1, eI y.2])) : callpK T 31 args hp id k := by
  obtain ⟨y, e, hy⟩ := W_inv h
  exact callpK_pure hT ⟨a0, a1, a2, rfl, W_of e rfl⟩ (by exact loose_tup (loose_cons (loose_int _ _) (loose_cons (loose_int _ _) loose_nil))) hw (hk y hy)
def ref34_Check_F (a0 : TRegion) (a1 : List TAttempt) (a2 : List TTicket) : Option Bool := bd (ref34_Plan_F a0 a1) fun y1 => jn (fun p2 : Bool => some p2) fun k3 => cn (y1.2 ==
    0) (bd (ref34_Same_F a2 y1.1) fun y4 => k3 y4) (k3 false)
def ref34_Check_S : List AV → AV → Prop := fun args r => ∃ a0 a1 a2, args = [eTRegion a0, (eL 3 eTAttempt default) a1, (eL 3 eTTicket default) a2] ∧ W (ref34_Check_F a0 a1 a2) fun y => r = (eB y)
theorem ref34_Check_ok {T : Tbl} (hT : TOk Try.prog T) (hpf : PfOk T PF) (h19 : T 19 = pureR ref34_Plan_S) (h28 : T 28 = pureR ref34_Same_S) : FOk Try.prog 37 (pureR ref34_Check_S) := by
  refine FOk_pure hT hpf Try.func37 rfl Try.ntmps37 Try.results37 (by decide) ?_
  rintro args r ⟨a0, a1, a2, rfl, h⟩
  refine ⟨nle rfl, ?_, ?_⟩
  · exact (loose_cons (lo_TRegion _) (loose_cons (loose_lst fun _ => (lo_TAttempt _)) (loose_cons (loose_lst fun _ => (lo_TTicket _)) loose_nil)))
  rw [ref34_Check_F.eq_1] at h
  refine HT_fr DC_ok rfl fun K hK => ?_; (conv => whnf)
  refine hK _ _ _ ?_; clear hK K
  refine HT_fr DC_ok rfl fun K hK => ?_; (conv => whnf)
  refine nlA rfl ?_; (conv => whnf)
  refine blkK_of rfl ?_; (conv => whnf)
  refine nlA rfl ?_; (conv => whnf)
  replace h := W_bd h
  refine ref34_Plan_call h19 h (WkL.refl _) (fun _ h => ?_); (conv => whnf)
  refine hK _ _ _ ?_; clear hK K
  refine HT_fr DC_ok rfl fun K hK => ?_; (conv => whnf)
  replace h := W_jn h
  refine cond_lk h (fun _ h => ?_) (fun _ h => ?_) <;> (conv => whnf)
  · replace h := W_bd h
    refine ref34_Same_call h28 h (WkL.refl _) (fun _ h => ?_); (conv => whnf)
    refine hK _ _ _ ?_; clear hK K
    refine HT_ret ?_
    replace h := W_some h
    refine PostP_r DC_ok fun K hK => ?_; (conv => whnf)
    refine hK _ ?_; clear hK K
    cases h
    exact Wk.refl _
  refine hK _ _ _ ?_; clear hK K
  refine HT_ret ?_
  replace h := W_some h
  refine PostP_r DC_ok fun K hK => ?_; (conv => whnf)
  refine hK _ ?_; clear hK K
  cases h
  exact Wk.refl _
theorem ref34_Check_call {T : Tbl} (hT : T 37 = pureR ref34_Check_S) {args : List AV} {hp : Heap} {id : Nat} {k : AV → Prop} {a0 : TRegion} {a1 : List TAttempt} {a2 : List TTicket} {Φ : Bool → Prop} (h : W (ref34_Check_F a0 a1 a2) Φ) (hw : WkL args [eTRegion a0, (eL 3 eTAttempt default) a1, (eL 3 eTTicket default) a2]) (hk : ∀ y, Φ y → k (eB y)) : callpK T 37 args hp id k := by
  obtain ⟨y, e, hy⟩ := W_inv h
  exact callpK_pure hT ⟨a0, a1, a2, rfl, W_of e rfl⟩ (by exact (loose_bool _)) hw (hk y hy)
end Go.Proofs.Ytcidmnpihffphaa
namespace Go.Proofs.Ytcidmnpihffphaa
open Go Go.Eng
set_option maxHeartbeats 0
set_option maxRecDepth 100000

    def recovery_loads_b1 (y1 : (List TTicket) × Int) (y2 : List TAttempt) (s3 : Int × (GM Int)) : Option (Ct (Int × (GM Int)) (Option (GM Int))) := cn (decide (s3.1 < (y2.length : Int))) (jn (fun p4 : (GM Int) =>
    some (.nx ((wr (s3.1 + 1)), p4))) fun k5 => ix y2 default s3.1 fun e6 => cn e6.Urgent (k5 s3.2) (let m7 := s3.2.put e6.At (wr ((s3.2.get e6.At 0) + 1));
    ix y1.1 default s3.1 fun e8 => jn (fun p9 : (GM Int) => k5 p9) fun k10 => cn (decide (e8.At > e6.At)) (ix y1.1 default s3.1 fun e11 =>
    let m12 := m7.put e11.At (wr ((m7.get e11.At 0) + 1)); k10 m12) (k10 m7))) (some (.bk (s3.1, s3.2)))

    theorem W_brecovery_loads_b1 {y1 : (List TTicket) × Int} {y2 : List TAttempt} {s3 : Int × (GM Int)} {Φ : Ct (Int × (GM Int)) (Option (GM Int)) → Prop} (h : W (recovery_loads_b1 y1 y2 s3) Φ) : W (cn (decide (s3.1 < (y2.length : Int))) (jn (fun p4 : (GM Int) =>
    some (.nx ((wr (s3.1 + 1)), p4))) fun k5 => ix y2 default s3.1 fun e6 => cn e6.Urgent (k5 s3.2) (let m7 := s3.2.put e6.At (wr ((s3.2.get e6.At 0) + 1));
    ix y1.1 default s3.1 fun e8 => jn (fun p9 : (GM Int) => k5 p9) fun k10 => cn (decide (e8.At > e6.At)) (ix y1.1 default s3.1 fun e11 =>
    let m12 := m7.put e11.At (wr ((m7.get e11.At 0) + 1)); k10 m12) (k10 m7))) (some (.bk (s3.1, s3.2)))) Φ := h
def recovery_loads_F (a0 : TRegion) (a1 : List TAttempt) : Option (Option (GM Int)) := bd (recovery_Plan_F a0 a1) fun y1 => cn (y1.2 !=
    0) (some none) (bd (recovery_ordered_F a1) fun y2 => bd (lp (recovery_loads_b1 y1 y2) FU (0, (GM.mt Int))) fun c13 => smK c13 (fun s14 => some (some s14.2)) (fun r15 =>
    some r15))
def resM : Option (GM Int) → Nat → AV
  | none, _ => .tup [.nilm, eB false]
  | some _, b => .tup [.mp b, eB true]
def hpM : Option (GM Int) → Nat → Heap → Heap
  | none, _, H => H
  | some m, b, H => upd H b (some (abM eI m))
def nbM : Option (GM Int) → List AB
  | none => []
  | some m => [abM eI m]
def loads_R : FSpec := fun args H base r H' => ∃ a0 a1 y, args = [eTRegion a0, (eL 3 eTAttempt default) a1] ∧ recovery_loads_F a0 a1 = some y ∧ r = resM y base ∧ H' = hpM y base H
theorem loads_end {P : Program} {rs : Array ResultVar} {base g : Nat} {m : GM Int} {sl : Nat → AV} {hp : Heap} {b : Nat} (hr : resA P rs ⟨sl, hp, b⟩ = some (.tup [.mp g, eB true])) (hg : hp g = some (abM eI m)) (h64 : 64 ≤ g) : PostA P rs [] base (resM (some m) base) [] (nbM (some m)) .ret ⟨sl, hp, b⟩ :=
  ⟨_, [g], rfl, List.nodup_cons.2 ⟨by simp, List.nodup_nil⟩, fun n hn => by simp at hn; subst hn; exact h64, hr, WkB_tup (VsB_cons (WkB_mp (mm_ns (k := 0) rfl)) (VsB_cons (WkB_loose (Wk.refl _) (loose_bool _)) VsB_nil)), fun j b h => by simp at h, fun k n b h1 h2 => by
    cases k with
    | zero => simp [nbM] at h1 h2; subst h1 h2; exact ⟨_, hg, BkX_m fun _ => loose_int _ _⟩
    | succ k => simp at h1⟩
theorem recovery_loads_ok {T : Tbl} (hT : TOk Try.prog T) (hpf : PfOk T PF) (h18 : T 18 = pureR recovery_Plan_S) (h41 : T 41 = pureR recovery_ordered_S) : FOk Try.prog 44 loads_R := by
  refine FOk_anc hT hpf Try.func44 rfl Try.ntmps44 Try.results44 (by decide) ?_
  rintro args H base r H' ⟨a0, a1, y, rfl, hy, rfl, rfl⟩
  have h : W (recovery_loads_F a0 a1) (fun z => z = y) := W_of hy rfl
  refine ⟨[], [eTRegion a0, (eL 3 eTAttempt default) a1], [], [], nbM y, nle rfl, Nat.zero_le _, by cases y <;> simp [nbM], .nil, rfl, rfl, .cons (WkA_loose (lo_TRegion _)) (.cons (WkA_loose (loose_lst fun _ => lo_TAttempt _)) .nil), (fun j i b h1 h2 => by simp at h1), (fun k b h => ?_), (fun j => rfl), (fun i b h => ?_), ?_⟩
  · cases y with
    | none => simp [nbM] at h
    | some m => cases k with
      | zero => simp [nbM] at h; subst h; rfl
      | succ k => simp [nbM] at h
  · cases y with
    | none => exact .inl ⟨by simp, h⟩
    | some m =>
      simp only [hpM] at h
      by_cases e : i = base
      · subst e; rw [upd_same] at h; exact .inr (.inr ⟨0, rfl, h⟩)
      · rw [upd_other _ _ e] at h; exact .inl ⟨by simp, h⟩
  rw [recovery_loads_F.eq_1] at h
  refine HT_fr DC_ok rfl fun K hK => ?_; (conv => whnf)
  refine hK _ _ _ ?_; clear hK K
  refine HT_fr DC_ok rfl fun K hK => ?_; (conv => whnf)
  refine nlA rfl ?_; (conv => whnf)
  refine blkK_of rfl ?_; (conv => whnf)
  refine nlA rfl ?_; (conv => whnf)
  replace h := W_bd h
  refine recovery_Plan_call h18 h (WkL.refl _) (fun _ h => ?_); (conv => whnf)
  refine hK _ _ _ ?_; clear hK K
  refine HT_seq ?_
  refine HT_fr DC_ok rfl fun K hK => ?_; (conv => whnf)
  refine hK _ _ _ ?_; clear hK K
  refine HT_if fun K1 K2 hK1 hK2 => ?_; (conv => whnf)
  refine cond_lk h (fun _ h => ?_) (fun _ h => ?_)
  · refine hK1 ?_; clear hK1 hK2 K1 K2
    refine HT_fr DC_ok rfl fun K hK => ?_; (conv => whnf)
    refine hK _ _ _ ?_; clear hK K
    refine HT_ret ?_
    refine Then_r ?_
    replace h := W_some h
    cases h
    exact ⟨_, [], rfl, by simp, by simp, rfl, WkB_loose (Wk.refl _) (loose_tup (loose_cons loose_nilm (loose_cons (loose_bool _) loose_nil))), fun j b h => by simp at h, fun k n b h1 h2 => by simp at h1⟩
  refine hK2 ?_; clear hK1 hK2 K1 K2
  refine HT_skip ?_
  refine Then_n ?_
  refine HT_fr DC_ok rfl fun K hK => ?_; (conv => whnf)
  refine hK _ _ _ ?_; clear hK K
  refine HT_seq ?_
  refine HT_fr DC_ok rfl fun K hK => ?_; (conv => whnf)
  replace h := W_bd h
  refine recovery_ordered_call h41 h (WkL.refl _) (fun _ h => ?_); (conv => whnf)
  refine hK _ _ _ ?_; clear hK K
  refine HT_block ?_
  replace h := W_bd h
  refine HT_lpK (body := recovery_loads_b1 _ _) rfl h [6, 8, 21, 22] [] [8] (fun kl kh ids b s => ⟨ofL ([(23, eI s.1)] ++ kl), ofH ([(nthN ids 0, abM eI s.2)] ++ kh), b + 64⟩) ?_; (conv => whnf); refine And.intro ?_ (fun s m h => HT_st ?_)
  · refine weak_k ?_; (conv => whnf)
    exact And.intro rfl (And.intro (allL_c wkI (allL_c (wkr (loose_lst fun _ => (lo_TTicket _))) (allL_c (WkR.mp (fun _ => rfl)) (allL_c (wkr (loose_lst fun _ => (lo_TAttempt _))) (allL_c wkI allL_n))))) (allL_c ⟨some _, rfl, BkR_m (enc := eI) rfl (fun _ => (loose_int _ _))⟩ allL_n))
  replace h := W_brecovery_loads_b1 (W_bd h)
  refine HT_fr DC_ok rfl fun K hK => ?_; (conv => whnf)
  refine hK _ _ _ ?_; clear hK K
  refine HT_seq ?_
  refine HT_if fun K1 K2 hK1 hK2 => ?_; (conv => whnf)
  refine cond_lk h (fun _ h => ?_) (fun _ h => ?_)
  · refine hK1 ?_; clear hK1 hK2 K1 K2
    refine HT_skip ?_
    refine Then_n ?_
    refine HT_seq ?_
    replace h := W_jn h
    refine HT_block ?_
    refine HT_fr DC_ok rfl fun K hK => ?_; (conv => whnf)
    refine ix_lk h fun _ h => ?_; (conv => whnf)
    refine nlA rfl ?_; (conv => whnf)
    refine blkK_of rfl ?_; (conv => whnf)
    refine And.intro rfl (And.intro (nle rfl) (And.intro rfl ?_)); (conv => whnf)
    refine hK _ _ _ ?_; clear hK K
    refine HT_seq ?_
    refine HT_fr DC_ok rfl fun K hK => ?_; (conv => whnf)
    refine nlA rfl ?_; (conv => whnf)
    refine blkK_of rfl ?_; (conv => whnf)
    refine getK_of rfl ?_; (conv => whnf)
    refine hK _ _ _ ?_; clear hK K
    refine HT_if fun K1 K2 hK1 hK2 => ?_; (conv => whnf)
    refine cond_lk h (fun _ h => ?_) (fun _ h => ?_)
    · refine hK1 ?_; clear hK1 hK2 K1 K2
      refine HT_exit ?_
      refine Then_e ?_
      refine InBlock_e ?_
      refine Then_n ?_
      refine HT_f DC_ok rfl fun K hK => ?_; (conv => whnf)
      refine hK _ _ _ ?_; clear hK K
      refine Then_n ?_
      replace h := W_xnx h
      refine ⟨_, h, ?_⟩
      refine weak_k ?_; (conv => whnf)
      exact And.intro rfl (And.intro (allL_c wkI (allL_c (wkr (loose_lst fun _ => (lo_TTicket _))) (allL_c (WkR.mp (fun _ => rfl)) (allL_c (wkr (loose_lst fun _ => (lo_TAttempt _))) (allL_c wkI allL_n))))) (allL_c ⟨some _, rfl, BkR_m (enc := eI) rfl (fun _ => (loose_int _ _))⟩ allL_n))
    refine hK2 ?_; clear hK1 hK2 K1 K2
    refine HT_skip ?_
    refine Then_n ?_
    refine HT_fr DC_ok rfl fun K hK => ?_; (conv => whnf)
    refine nlA rfl ?_; (conv => whnf)
    refine blkK_of rfl ?_; (conv => whnf)
    refine getK_of rfl ?_; (conv => whnf)
    refine mget_lk (enc := eI) DC_ok rfl (0 : Int) rfl rfl (nle rfl) ?_; (conv => whnf)
    refine mput_lk (enc := eI) DC_ok rfl rfl ?_; (conv => whnf)
    refine hK _ _ _ ?_; clear hK K
    refine HT_fd DC_ok mix_ok rfl (by kernel_rfl) fun K hK => ?_; (conv => whnf)
    refine ix_lk h fun _ h => ?_; (conv => whnf)
    refine getK_of rfl ?_; (conv => whnf)
    refine nlA rfl ?_; (conv => whnf)
    refine blkK_of rfl ?_; (conv => whnf)
    refine getK_of rfl ?_; (conv => whnf)
    refine hK _ _ _ ?_; clear hK K
    replace h := W_jn h
    refine HT_if fun K1 K2 hK1 hK2 => ?_; (conv => whnf)
    refine cond_lk h (fun _ h => ?_) (fun _ h => ?_)
    · refine hK1 ?_; clear hK1 hK2 K1 K2
      refine HT_f DC_ok rfl fun K hK => ?_; (conv => whnf)
      refine ix_lk h fun _ h => ?_; (conv => whnf)
      refine getK_of rfl ?_; (conv => whnf)
      refine mget_lk (enc := eI) DC_ok rfl (0 : Int) rfl rfl (nle rfl) ?_; (conv => whnf)
      refine mput_lk (enc := eI) DC_ok rfl rfl ?_; (conv => whnf)
      refine hK _ _ _ ?_; clear hK K
      refine InBlock_n ?_
      refine Then_n ?_
      refine HT_f DC_ok rfl fun K hK => ?_; (conv => whnf)
      refine hK _ _ _ ?_; clear hK K
      refine Then_n ?_
      replace h := W_xnx h
      refine ⟨_, h, ?_⟩
      refine weak_k ?_; (conv => whnf)
      exact And.intro rfl (And.intro (allL_c wkI (allL_c (wkr (loose_lst fun _ => (lo_TTicket _))) (allL_c (WkR.mp (fun _ => rfl)) (allL_c (wkr (loose_lst fun _ => (lo_TAttempt _))) (allL_c wkI allL_n))))) (allL_c ⟨some _, rfl, BkR_m (enc := eI) rfl (fun _ => (loose_int _ _))⟩ allL_n))
    refine hK2 ?_; clear hK1 hK2 K1 K2
    refine HT_skip ?_
    refine InBlock_n ?_
    refine Then_n ?_
    refine HT_f DC_ok rfl fun K hK => ?_; (conv => whnf)
    refine hK _ _ _ ?_; clear hK K
    refine Then_n ?_
    replace h := W_xnx h
    refine ⟨_, h, ?_⟩
    refine weak_k ?_; (conv => whnf)
    exact And.intro rfl (And.intro (allL_c wkI (allL_c (wkr (loose_lst fun _ => (lo_TTicket _))) (allL_c (WkR.mp (fun _ => rfl)) (allL_c (wkr (loose_lst fun _ => (lo_TAttempt _))) (allL_c wkI allL_n))))) (allL_c ⟨some _, rfl, BkR_m (enc := eI) rfl (fun _ => (loose_int _ _))⟩ allL_n))
  refine hK2 ?_; clear hK1 hK2 K1 K2
  refine HT_exit ?_
  refine Then_e ?_
  refine Then_e ?_
  refine InBlock_e ?_
  replace h := W_xbk h
  replace h := W_inl h
  refine Then_n ?_
  refine HT_fr DC_ok rfl fun K hK => ?_; (conv => whnf)
  refine hK _ _ _ ?_; clear hK K
  refine HT_ret ?_
  replace h := W_some h
  cases h
  exact loads_end rfl rfl (nle rfl)
theorem callsK_loads {T : Tbl} (hT : T 44 = loads_R) {β : Type} {args : List AV} {hp : Heap} {id : Nat} {k : AV → Heap → Prop} {a0 : TRegion} {a1 : List TAttempt} {x : Option β} {f : GM Int → Option β} {Φ : β → Prop} (h : W (bd (recovery_loads_F a0 a1) fun y => mo y x f) Φ) (hw : WkL args [eTRegion a0, (eL 3 eTAttempt default) a1])
    (hn : W x Φ → k (.tup [.nilm, eB false]) hp) (hs : ∀ m, W (f m) Φ → k (.tup [.mp id, eB true]) (upd hp id (some (abM eI m)))) : callsK T 44 args hp id k := by
  obtain ⟨y, e, hy⟩ := W_inv (W_bd h)
  cases y with
  | none => exact callsK_of (r := .tup [.nilm, eB false]) (H' := hp) hw (by rw [hT]; exact ⟨a0, a1, none, rfl, e, rfl, rfl⟩) (hn (W_mo_n hy))
  | some m => exact callsK_of (r := .tup [.mp id, eB true]) (H' := upd hp id (some (abM eI m))) hw (by rw [hT]; exact ⟨a0, a1, some m, rfl, e, rfl, rfl⟩) (hs m (W_mo_s hy))
def recovery_Load_F (a0 : TRegion) (a1 : List TAttempt) (a2 : Int) : Option (Int × Int) := bd (recovery_loads_F a0 a1) fun y1 => mo y1 (some (0, 340)) fun m2 =>
    cn (decide (a2 < 0)) (some (0, 340)) (some ((m2.get a2 0), 0))
def recovery_Load_S : List AV → AV → Prop := fun args r => ∃ a0 a1 a2, args = [eTRegion a0, (eL 3 eTAttempt default) a1, eI a2] ∧ W (recovery_Load_F a0 a1 a2) fun y => r = (.tup [eI y.1, eI y.2])
theorem recovery_Load_ok {T : Tbl} (hT : TOk Try.prog T) (hpf : PfOk T PF) (h44 : T 44 = loads_R) : FOk Try.prog 30 (pureR recovery_Load_S) := by
  refine FOk_pure hT hpf Try.func30 rfl Try.ntmps30 Try.results30 (by decide) ?_
  rintro args r ⟨a0, a1, a2, rfl, h⟩
  refine ⟨nle rfl, ?_, ?_⟩
  · exact (loose_cons (lo_TRegion _) (loose_cons (loose_lst fun _ => (lo_TAttempt _)) (loose_cons (loose_int _ _) loose_nil)))
  rw [recovery_Load_F.eq_1] at h
  refine HT_fr DC_ok rfl fun K hK => ?_; (conv => whnf)
  refine hK _ _ _ ?_; clear hK K
  refine HT_fr DC_ok rfl fun K hK => ?_; (conv => whnf)
  refine nlA rfl ?_; (conv => whnf)
  refine blkK_of rfl ?_; (conv => whnf)
  refine nlA rfl ?_; (conv => whnf)
  refine callsK_loads h44 h (WkL_cons (Wk.refl _) (WkL_cons (Wk.refl _) WkL_nil)) (fun h => ?_) (fun m h => ?_) <;> (conv => whnf)
  · refine hK _ _ _ ?_; clear hK K
    refine HT_seq ?_
    refine HT_fr DC_ok rfl fun K hK => ?_; (conv => whnf)
    refine hK _ _ _ ?_; clear hK K
    refine HT_if fun K1 K2 hK1 hK2 => ?_; (conv => whnf)
    refine hK1 ?_; clear hK1 hK2 K1 K2
    refine HT_fr DC_ok rfl fun K hK => ?_; (conv => whnf)
    refine hK _ _ _ ?_; clear hK K
    refine HT_ret ?_
    refine Then_r ?_
    replace h := W_some h
    refine PostP_r DC_ok fun K hK => ?_; (conv => whnf)
    refine hK _ ?_; clear hK K
    cases h
    exact Wk.refl _
  refine hK _ _ _ ?_; clear hK K
  refine HT_seq ?_
  refine HT_fr DC_ok rfl fun K hK => ?_; (conv => whnf)
  refine hK _ _ _ ?_; clear hK K
  refine HT_if fun K1 K2 hK1 hK2 => ?_; (conv => whnf)
  refine cond_lk h (fun _ h => ?_) (fun _ h => ?_)
  · refine hK1 ?_; clear hK1 hK2 K1 K2
    refine HT_fr DC_ok rfl fun K hK => ?_; (conv => whnf)
    refine hK _ _ _ ?_; clear hK K
    refine HT_ret ?_
    refine Then_r ?_
    replace h := W_some h
    refine PostP_r DC_ok fun K hK => ?_; (conv => whnf)
    refine hK _ ?_; clear hK K
    cases h
    exact Wk.refl _
  refine hK2 ?_; clear hK1 hK2 K1 K2
  refine HT_skip ?_
  refine Then_n ?_
  refine HT_fr DC_ok rfl fun K hK => ?_; (conv => whnf)
  refine mget_lk (enc := eI) DC_ok rfl (0 : Int) rfl rfl (nle rfl) ?_; (conv => whnf)
  refine hK _ _ _ ?_; clear hK K
  refine HT_ret ?_
  replace h := W_some h
  refine PostP_r DC_ok fun K hK => ?_; (conv => whnf)
  refine hK _ ?_; clear hK K
  cases h
  exact Wk.refl _
theorem recovery_Load_call {T : Tbl} (hT : T 30 = pureR recovery_Load_S) {args : List AV} {hp : Heap} {id : Nat} {k : AV → Prop} {a0 : TRegion} {a1 : List TAttempt} {a2 : Int} {Φ : Int × Int → Prop} (h : W (recovery_Load_F a0 a1 a2) Φ) (hw : WkL args [eTRegion a0, (eL 3 eTAttempt default) a1, eI a2]) (hk : ∀ y, Φ y → k (.tup [eI y.1, eI y.2])) : callpK T 30 args hp id k := by
  obtain ⟨y, e, hy⟩ := W_inv h
  exact callpK_pure hT ⟨a0, a1, a2, rfl, W_of e rfl⟩ (by exact loose_tup (loose_cons (loose_int _ _) (loose_cons (loose_int _ _) loose_nil))) hw (hk y hy)
end Go.Proofs.Ytcidmnpihffphaa
namespace Go.Proofs.Ytcidmnpihffphaa
open Go Go.Eng
set_option maxHeartbeats 0
set_option maxRecDepth 100000
theorem noGh_ofH {l : List (Nat × AB)} {i : Nat} (h : (l.all fun p => p.1 == i || noGh p.2) = true) (j : Nat) (b : AB) (hj : j ≠ i) (hb : ofH l j = some b) : noGh b = true := by
  have := List.all_eq_true.1 h _ (ofH_mem hb)
  simpa [hj] using this
theorem HT_outSh {E : Env} {N : Nat} {c : Code} {σ : AS} {Q : Exit → AS → Prop} {α β : Type} {enc : α → AV} {d : α} {sz : Nat} {n : Int} (i : Nat) {m : GM (List α)} {l : List α} {F : List α → List α → Option β} {Φ : β → Prop} (h : W (lt l fun y => ap (m.get n []) y (F y)) Φ) (hsz : 0 < sz) (hi : σ.hp i = some (abS sz enc d m)) (hib : i ≠ σ.b)
    (hno : W (lt l fun y => ap [] y (F y)) Φ → m.has n = false → HT E N c ⟨σ.sl, upd σ.hp i (some (.maps sz (encM .i64 (encE (eL sz enc d) m.es)) m.clk (some (hidx n (encE (eL sz enc d) m.es))))), σ.b⟩ Q)
    (hyes : W (lt l fun y => ap (m.get n []) y (F y)) Φ → m.has n = true → HT E N c ⟨σ.sl, upd (upd σ.hp i (some (.maps sz (encM .i64 (mput n (.lst (.tok σ.b) sz (m.get n []).length fun j => enc ((m.get n []).getD j d)) (encE (eL sz enc d) m.es) m.clk)) m.clk (some (hidx n (encE (eL sz enc d) m.es)))))) σ.b (some (.cells [])), σ.b + 64⟩ Q) : HT E N c σ Q :=
  HT_outS i n hsz hi hib (fun hh => hno (by rw [get_no hh] at h; exact h) hh) (fun hh => hyes h hh)

    def recovery_Storm_b4 (s33 : Int × Int × (GM (List Int)) × (GM Int)) (y6 : List TAttempt) (s35 : (List TTicket) × Int) : Option (Ct ((List TTicket) × Int) ((List TTicket) × Int × Int)) := cn (decide (s35.2 < (y6.length : Int))) (jn (fun p36 : (List TTicket) =>
    some (.nx (p36, (wr (s35.2 + 1))))) fun k37 => ix y6 default s35.2 fun e38 => jn (fun p39 : TTicket => lt ([p39] : List TTicket) fun l43 => ap s35.1 l43 fun l44 =>
    k37 l44) fun k40 => cn (!e38.Urgent) (cn (!(s33.2.2.2.has s35.2)) (k37 s35.1) (k40 (⟨e38.Caller, e38.At, (s33.2.2.2.get s35.2 0)⟩ : TTicket))) (jn (fun p41 : Bool =>
    cn p41 (k37 s35.1) (k40 (⟨e38.Caller, e38.At, e38.At⟩ : TTicket))) fun k42 => cn (decide (s33.1 ≥ 0)) (k42 (decide (e38.At > s33.1))) (k42 false))) (some (.bk (s35.1, s35.2)))
theorem W_brecovery_Storm_b4 {s33 : Int × Int × (GM (List Int)) × (GM Int)} {y6 : List TAttempt} {s35 : (List TTicket) × Int} {Φ : Ct ((List TTicket) × Int) ((List TTicket) × Int × Int) → Prop} (h : W (recovery_Storm_b4 s33 y6 s35) Φ) : W (cn (decide (s35.2 < (y6.length : Int))) (jn (fun p36 : (List TTicket) => some (.nx (p36, (wr (s35.2 + 1))))) fun k37 => ix y6 default s35.2 fun e38 => jn (fun p39 : TTicket =>
    lt ([p39] : List TTicket) fun l43 => ap s35.1 l43 fun l44 => k37 l44) fun k40 =>
    cn (!e38.Urgent) (cn (!(s33.2.2.2.has s35.2)) (k37 s35.1) (k40 (⟨e38.Caller, e38.At, (s33.2.2.2.get s35.2 0)⟩ : TTicket))) (jn (fun p41 : Bool =>
    cn p41 (k37 s35.1) (k40 (⟨e38.Caller, e38.At, e38.At⟩ : TTicket))) fun k42 => cn (decide (s33.1 ≥ 0)) (k42 (decide (e38.At > s33.1))) (k42 false))) (some (.bk (s35.1, s35.2)))) Φ := h

    def recovery_Storm_b3 (a0 : TRegion) (p1 : (List TAttempt) × Int × Bool) (s17 : Int × Int × (GM (List Int)) × (GM Int)) (y18 : List Int) (s20 : Int × (GM (List Int)) × (GM Int)) : Option (Ct (Int × (GM (List Int)) × (GM Int)) ((List TTicket) × Int × Int)) := cn (decide (s20.1 < (y18.length : Int))) (ix y18 default s20.1 fun e21 =>
    bd (recovery_capacity_F a0 s17.2.1) fun y22 => jn (fun p23 : (GM (List Int)) × (GM Int) => some (.nx ((wr (s20.1 + 1)), p23.1, p23.2))) fun k24 =>
    cn (decide (s20.1 < y22)) (let m25 := s20.2.2.put e21 s17.2.1; k24 (s20.2.1, m25)) (lt ([e21] : List Int) fun l26 => ap (s20.2.1.get (wr (s17.2.1 + p1.2.1)) []) l26 fun l27 =>
    let m28 := s20.2.1.put (wr (s17.2.1 + p1.2.1)) l27; k24 (m28, s20.2.2))) (some (.bk (s20.1, s20.2.1, s20.2.2)))
theorem W_brecovery_Storm_b3 {a0 : TRegion} {p1 : (List TAttempt) × Int × Bool} {s17 : Int × Int × (GM (List Int)) × (GM Int)} {y18 : List Int} {s20 : Int × (GM (List Int)) × (GM Int)} {Φ : Ct (Int × (GM (List Int)) × (GM Int)) ((List TTicket) × Int × Int) → Prop} (h : W (recovery_Storm_b3 a0 p1 s17 y18 s20) Φ) : W (cn (decide (s20.1 < (y18.length : Int))) (ix y18 default s20.1 fun e21 => bd (recovery_capacity_F a0 s17.2.1) fun y22 => jn (fun p23 : (GM (List Int)) × (GM Int) =>
    some (.nx ((wr (s20.1 + 1)), p23.1, p23.2))) fun k24 => cn (decide (s20.1 < y22)) (let m25 := s20.2.2.put e21 s17.2.1; k24 (s20.2.1, m25)) (lt ([e21] : List Int) fun l26 =>
    ap (s20.2.1.get (wr (s17.2.1 + p1.2.1)) []) l26 fun l27 => let m28 := s20.2.1.put (wr (s17.2.1 + p1.2.1)) l27; k24 (m28, s20.2.2))) (some (.bk (s20.1, s20.2.1, s20.2.2)))) Φ := h

    def recovery_Storm_b2 (a0 : TRegion) (p1 : (List TAttempt) × Int × Bool) (s17 : Int × Int × (GM (List Int)) × (GM Int)) : Option (Ct (Int × Int × (GM (List Int)) × (GM Int)) ((List TTicket) × Int × Int)) := cn (decide (s17.2.2.1.len >
    0)) (bd (recovery_sorted_int_50_F (s17.2.2.1.get s17.2.1 [])) fun y18 => let m19 := s17.2.2.1.del s17.2.1; cn (decide ((y18.length : Int) >
    a0.Signals)) (some (.bk (s17.2.1, s17.2.1, m19, s17.2.2.2))) (bd (lp (recovery_Storm_b3 a0 p1 s17 y18) FU (0, m19, s17.2.2.2)) fun c29 => smK c29 (fun s30 =>
    some (.nx (s17.1, (wr (s17.2.1 + 1)), s30.2.1, s30.2.2))) (fun r31 => some (.rt r31)))) (some (.bk (s17.1, s17.2.1, s17.2.2.1, s17.2.2.2)))
theorem W_brecovery_Storm_b2 {a0 : TRegion} {p1 : (List TAttempt) × Int × Bool} {s17 : Int × Int × (GM (List Int)) × (GM Int)} {Φ : Ct (Int × Int × (GM (List Int)) × (GM Int)) ((List TTicket) × Int × Int) → Prop} (h : W (recovery_Storm_b2 a0 p1 s17) Φ) : W (cn (decide (s17.2.2.1.len > 0)) (bd (recovery_sorted_int_50_F (s17.2.2.1.get s17.2.1 [])) fun y18 => let m19 := s17.2.2.1.del s17.2.1; cn (decide ((y18.length : Int) >
    a0.Signals)) (some (.bk (s17.2.1, s17.2.1, m19, s17.2.2.2))) (bd (lp (recovery_Storm_b3 a0 p1 s17 y18) FU (0, m19, s17.2.2.2)) fun c29 => smK c29 (fun s30 =>
    some (.nx (s17.1, (wr (s17.2.1 + 1)), s30.2.1, s30.2.2))) (fun r31 => some (.rt r31)))) (some (.bk (s17.1, s17.2.1, s17.2.2.1, s17.2.2.2)))) Φ := h

    def recovery_Storm_b1 (y6 : List TAttempt) (s7 : Int × (GM (List Int))) : Option (Ct (Int × (GM (List Int))) ((List TTicket) × Int × Int)) := cn (decide (s7.1 < (y6.length : Int))) (ix y6 default s7.1 fun e8 =>
    jn (fun p9 : (GM (List Int)) => some (.nx ((wr (s7.1 + 1)), p9))) fun k10 => cn (!e8.Urgent) (lt ([s7.1] : List Int) fun l11 => ap (s7.2.get e8.At []) l11 fun l12 =>
    let m13 := s7.2.put e8.At l12; k10 m13) (k10 s7.2)) (some (.bk (s7.1, s7.2)))
theorem W_brecovery_Storm_b1 {y6 : List TAttempt} {s7 : Int × (GM (List Int))} {Φ : Ct (Int × (GM (List Int))) ((List TTicket) × Int × Int) → Prop} (h : W (recovery_Storm_b1 y6 s7) Φ) : W (cn (decide (s7.1 < (y6.length : Int))) (ix y6 default s7.1 fun e8 => jn (fun p9 : (GM (List Int)) => some (.nx ((wr (s7.1 + 1)), p9))) fun k10 =>
    cn (!e8.Urgent) (lt ([s7.1] : List Int) fun l11 => ap (s7.2.get e8.At []) l11 fun l12 => let m13 := s7.2.put e8.At l12; k10 m13) (k10 s7.2)) (some (.bk (s7.1, s7.2)))) Φ := h
def recovery_Storm_F (a0 : TRegion) (a1 : List TAttempt) (a2 : Int) : Option ((List TTicket) × Int × Int) := jn (fun p1 : (List TAttempt) × Int × Bool =>
    cn p1.2.2 (some ([], (-1), 340)) (bd (recovery_ordered_F p1.1) fun y6 => bd (lp (recovery_Storm_b1 y6) FU (0, (GM.mt (List Int)))) fun c14 => smK c14 (fun s15 =>
    bd (lp (recovery_Storm_b2 a0 p1) FU ((-1), 0, s15.2, (GM.mt Int))) fun c32 => smK c32 (fun s33 => bd (lp (recovery_Storm_b4 s33 y6) FU ([], 0)) fun c45 => smK c45 (fun s46 =>
    some (s46.1, s33.1, 0)) (fun r47 => some r47)) (fun r34 => some r34)) (fun r16 => some r16))) fun k2 => bd (recovery_Valid_F a0) fun y3 =>
    cn (!y3) (k2 (a1, a2, true)) (bd (recovery_Ready_F a1) fun y4 => cn (!y4) (k2 (a1, a2, true)) (bd (recovery_isWithin_F a2 1 100) fun y5 => k2 (a1, a2, (!y5))))
def recovery_Storm_S : List AV → AV → Prop := fun args r => ∃ a0 a1 a2, args = [eTRegion a0, (eL 3 eTAttempt default) a1, eI a2] ∧ W (recovery_Storm_F a0 a1 a2) fun y => r = (.tup [(eL 3 eTTicket default) y.1, eI y.2.1, eI y.2.2])
theorem recovery_Storm_ok {T : Tbl} (hT : TOk Try.prog T) (hpf : PfOk T PF) (h24 : T 24 = pureR recovery_Valid_S) (h26 : T 26 = pureR recovery_Ready_S) (h41 : T 41 = pureR recovery_ordered_S) (h46 : T 46 = pureR recovery_isWithin_S) (h48 : T 48 = pureR recovery_capacity_S) (h49 : T 49 = pureR recovery_sorted_int_S) : FOk Try.prog 34 (pureR recovery_Storm_S) := by
  refine FOk_pure hT hpf Try.func34 rfl Try.ntmps34 Try.results34 (by decide) ?_
  rintro args r ⟨a0, a1, a2, rfl, h⟩
  refine ⟨nle rfl, ?_, ?_⟩
  · exact (loose_cons (lo_TRegion _) (loose_cons (loose_lst fun _ => (lo_TAttempt _)) (loose_cons (loose_int _ _) loose_nil)))
  rw [recovery_Storm_F.eq_1] at h
  refine HT_fr DC_ok rfl fun K hK => ?_; (conv => whnf)
  refine hK _ _ _ ?_; clear hK K
  refine HT_scope ?_
  refine HT_seq ?_
  refine HT_fr DC_ok rfl fun K hK => ?_; (conv => whnf)
  replace h := W_jn h
  refine nlA rfl ?_; (conv => whnf)
  refine blkK_of rfl ?_; (conv => whnf)
  refine nlA rfl ?_; (conv => whnf)
  replace h := W_bd h
  refine recovery_Valid_call h24 h (WkL.refl _) (fun _ h => ?_); (conv => whnf)
  refine cond_lk h (fun _ h => ?_) (fun _ h => ?_) <;> (conv => whnf)
  · refine hK _ _ _ ?_; clear hK K
    refine HT_if fun K1 K2 hK1 hK2 => ?_; (conv => whnf)
    refine hK1 ?_; clear hK1 hK2 K1 K2
    replace h := W_cnT h
    refine HT_fr DC_ok rfl fun K hK => ?_; (conv => whnf)
    refine hK _ _ _ ?_; clear hK K
    refine HT_ret ?_
    refine Then_r ?_
    refine NoGoto_r ?_
    replace h := W_some h
    refine PostP_r DC_ok fun K hK => ?_; (conv => whnf)
    refine hK _ ?_; clear hK K
    cases h
    exact Wk_tup (WkL_cons Wk_nil (WkL_cons (Wk.refl _) (WkL_cons (Wk.refl _) WkL_nil)))
  replace h := W_bd h
  refine recovery_Ready_call h26 h (WkL.refl _) (fun _ h => ?_); (conv => whnf)
  refine cond_lk h (fun _ h => ?_) (fun _ h => ?_) <;> (conv => whnf)
  · refine hK _ _ _ ?_; clear hK K
    refine HT_if fun K1 K2 hK1 hK2 => ?_; (conv => whnf)
    refine hK1 ?_; clear hK1 hK2 K1 K2
    replace h := W_cnT h
    refine HT_fr DC_ok rfl fun K hK => ?_; (conv => whnf)
    refine hK _ _ _ ?_; clear hK K
    refine HT_ret ?_
    refine Then_r ?_
    refine NoGoto_r ?_
    replace h := W_some h
    refine PostP_r DC_ok fun K hK => ?_; (conv => whnf)
    refine hK _ ?_; clear hK K
    cases h
    exact Wk_tup (WkL_cons Wk_nil (WkL_cons (Wk.refl _) (WkL_cons (Wk.refl _) WkL_nil)))
  replace h := W_bd h
  refine recovery_isWithin_call h46 h (WkL.refl _) (fun _ h => ?_); (conv => whnf)
  refine hK _ _ _ ?_; clear hK K
  refine HT_if fun K1 K2 hK1 hK2 => ?_; (conv => whnf)
  refine cond_lk h (fun _ h => ?_) (fun _ h => ?_)
  · refine hK1 ?_; clear hK1 hK2 K1 K2
    refine HT_fr DC_ok rfl fun K hK => ?_; (conv => whnf)
    refine hK _ _ _ ?_; clear hK K
    refine HT_ret ?_
    refine Then_r ?_
    refine NoGoto_r ?_
    replace h := W_some h
    refine PostP_r DC_ok fun K hK => ?_; (conv => whnf)
    refine hK _ ?_; clear hK K
    cases h
    exact Wk_tup (WkL_cons Wk_nil (WkL_cons (Wk.refl _) (WkL_cons (Wk.refl _) WkL_nil)))
  refine hK2 ?_; clear hK1 hK2 K1 K2
  refine HT_skip ?_
  refine Then_n ?_
  refine HT_fr DC_ok rfl fun K hK => ?_; (conv => whnf)
  replace h := W_bd h
  refine recovery_ordered_call h41 h (WkL.refl _) (fun _ h => ?_); (conv => whnf)
  refine hK _ _ _ ?_; clear hK K
  refine HT_fr DC_ok rfl fun K hK => ?_; (conv => whnf)
  refine hK _ _ _ ?_; clear hK K
  refine HT_ancK rfl rfl [2, 3, 6, 7, 8, 9, 10] [(10, 32), (3, 33)] ?_; (conv => whnf)
  refine And.intro ?_ ?_
  · refine weak_kN ?_; (conv => whnf)
    exact And.intro rfl (And.intro (allL_c wkI (allL_c (WkR.ptr (fun _ => rfl)) (allL_c (wkr loose_nils) (allL_c wkI (allL_c wkI (allL_c (wkr (loose_lst fun _ => (lo_TAttempt _))) (allL_c (WkR.mp (fun _ => rfl)) allL_n))))))) (allL_c ⟨some _, rfl, BkR_m (enc := (eL 1 eI default)) (m := (GM.mt (List Int))) rfl (fun _ => (loose_lst fun _ => (loose_int _ _)))⟩ (allL_c ⟨some _, rfl, BkR_c rfl (CkR_cons (wkr (loose_lst fun _ => (lo_TGrowth _))) (CkR_cons wkI CkR_nil))⟩ allL_n)))
  refine HT_mkMaps 32 1 rfl (noGh_ofH rfl) ?_
  refine HT_fr DC_ok rfl fun K hK => ?_; (conv => whnf)
  refine hK _ _ _ ?_; clear hK K
  refine HT_seq ?_
  refine HT_fr DC_ok rfl fun K hK => ?_; (conv => whnf)
  refine hK _ _ _ ?_; clear hK K
  refine HT_block ?_
  replace h := W_bd h
  refine HT_lpK (body := recovery_Storm_b1 _) rfl h [2, 3, 9, 10, 11, 42, 43] [3, 11] [10] (fun kl kh ids b s => ⟨ofL ([(44, eI s.1)] ++ kl), ofH ([(nthN ids 0, abS 1 eI default s.2)] ++ kh), b + 64⟩) ?_; (conv => whnf); refine And.intro ?_ (fun s m h => HT_st ?_)
  · refine weak_k ?_; (conv => whnf)
    exact And.intro rfl (And.intro (allL_c wkI (allL_c wkI (allL_c (WkR.ptr (fun _ => rfl)) (allL_c (wkr (loose_lst fun _ => (lo_TAttempt _))) (allL_c (WkR.mp (fun _ => rfl)) (allL_c (WkR.mp (fun _ => rfl)) (allL_c (wkr (loose_lst fun _ => (lo_TAttempt _))) (allL_c wkI allL_n)))))))) (allL_c ⟨some _, rfl, BkR_S (sz := 1) (enc := eI) (d := default) (m := (GM.mt (List Int))) rfl (fun _ => (loose_int _ _))⟩ (allL_c ⟨some _, rfl, BkR_c rfl (CkR_cons (wkr (loose_lst fun _ => (lo_TGrowth _))) (CkR_cons wkI CkR_nil))⟩ (allL_c ⟨some _, rfl, BkR_m (enc := eI) (m := (GM.mt Int)) rfl (fun _ => (loose_int _ _))⟩ allL_n))))
  replace h := W_brecovery_Storm_b1 (W_bd h)
  refine HT_fr DC_ok rfl fun K hK => ?_; (conv => whnf)
  refine hK _ _ _ ?_; clear hK K
  refine HT_seq ?_
  refine HT_if fun K1 K2 hK1 hK2 => ?_; (conv => whnf)
  refine cond_lk h (fun _ h => ?_) (fun _ h => ?_)
  · refine hK1 ?_; clear hK1 hK2 K1 K2
    refine HT_skip ?_
    refine Then_n ?_
    refine HT_seq ?_
    refine HT_block ?_
    refine HT_fr DC_ok rfl fun K hK => ?_; (conv => whnf)
    refine ix_lk h fun _ h => ?_; (conv => whnf)
    refine nlA rfl ?_; (conv => whnf)
    refine blkK_of rfl ?_; (conv => whnf)
    refine And.intro rfl (And.intro (nle rfl) (And.intro rfl ?_)); (conv => whnf)
    refine hK _ _ _ ?_; clear hK K
    refine HT_fr DC_ok rfl fun K hK => ?_; (conv => whnf)
    refine nlA rfl ?_; (conv => whnf)
    refine blkK_of rfl ?_; (conv => whnf)
    refine getK_of rfl ?_; (conv => whnf)
    refine hK _ _ _ ?_; clear hK K
    replace h := W_jn h
    refine HT_if fun K1 K2 hK1 hK2 => ?_; (conv => whnf)
    refine cond_lk h (fun _ h => ?_) (fun _ h => ?_)
    · refine hK1 ?_; clear hK1 hK2 K1 K2
      refine HT_outSh (sz := 1) (enc := eI) (d := default) 32 h (by decide) rfl (Nat.ne_of_beq_eq_false rfl) (fun h hno => ?_) (fun h hyes => ?_)
      · refine HT_fDP (.step 0 (.step 1 (.step 3 (.step 4 (.step 5 (.step 6 (.step 7 (.step 8 (.two 2 9 (.step 9 (.step 10 .nil)) (.step 2 (.step 10 .nil))))))))))) DC_ok mix_ok rfl (by kernel_rfl) fun K hK => ?_; (conv => whnf)
        refine nlA rfl ?_; (conv => whnf)
        refine blkK_of rfl ?_; (conv => whnf)
        refine getK_of rfl ?_; (conv => whnf)
        refine mgetN_lk (sz := 1) (enc := eI) (d := default) DC_ok rfl rfl (nle rfl) hno ?_; (conv => whnf)
        refine lt_lk (enc := eI) (d := default) DC_ok h rfl rfl rfl ⟨nle rfl, nle rfl, rfl⟩ rfl ⟨⟨rfl, rfl, rfl⟩, trivial⟩ (fun h => ?_); (conv => whnf)
        refine And.intro ?_ ?_ <;> (conv => whnf)
        · refine nlA rfl ?_; (conv => whnf)
          refine blkK_of rfl ?_; (conv => whnf)
          refine getK_of rfl ?_; (conv => whnf)
          refine ap_lk (enc := eI) (m := .free) (d := default) DC_ok h (.inr ⟨rfl, rfl⟩) rfl rfl rfl ⟨rfl, nle rfl, nle rfl, nle rfl, rfl⟩ (fun _ => rfl) (.inl ⟨rfl, rfl⟩) (fun h => ?_); (conv => whnf)
          refine mputN_lk DC_ok rfl rfl ?_; (conv => whnf)
          refine hK _ _ _ ?_; clear hK K
          refine InBlock_n ?_
          refine Then_n ?_
          refine HT_inS (enc := eI) (d := default) 32 _ _ (by decide) (by exact Nat.ne_of_beq_eq_false rfl) rfl rfl ?_
          refine HT_f DC_ok rfl fun K hK => ?_; (conv => whnf)
          refine hK _ _ _ ?_; clear hK K
          refine Then_n ?_
          replace h := W_xnx h
          refine ⟨_, h, ?_⟩
          refine weak_k ?_; (conv => whnf)
          exact And.intro rfl (And.intro (allL_c wkI (allL_c wkI (allL_c (WkR.ptr (fun _ => rfl)) (allL_c (wkr (loose_lst fun _ => (lo_TAttempt _))) (allL_c (WkR.mp (fun _ => rfl)) (allL_c (WkR.mp (fun _ => rfl)) (allL_c (wkr (loose_lst fun _ => (lo_TAttempt _))) (allL_c wkI allL_n)))))))) (allL_c ⟨some _, rfl, BkR_S (sz := 1) (enc := eI) (d := default) rfl (fun _ => (loose_int _ _))⟩ (allL_c ⟨some _, rfl, BkR_c rfl (CkR_cons (wkr (loose_lst fun _ => (lo_TGrowth _))) (CkR_cons wkI CkR_nil))⟩ (allL_c ⟨some _, rfl, BkR_m (enc := eI) (m := (GM.mt Int)) rfl (fun _ => (loose_int _ _))⟩ allL_n))))
        refine ap_lk (enc := eI) (m := .free) (d := default) DC_ok h (.inr ⟨rfl, rfl⟩) rfl rfl rfl ⟨rfl, nle rfl, nle rfl, nle rfl, rfl⟩ (fun _ => rfl) (.inl ⟨rfl, rfl⟩) (fun h => ?_); (conv => whnf)
        refine nlA rfl ?_; (conv => whnf)
        refine blkK_of rfl ?_; (conv => whnf)
        refine getK_of rfl ?_; (conv => whnf)
        refine mputN_lk DC_ok rfl rfl ?_; (conv => whnf)
        refine hK _ _ _ ?_; clear hK K
        refine InBlock_n ?_
        refine Then_n ?_
        refine HT_inS (enc := eI) (d := default) 32 _ _ (by decide) (by exact Nat.ne_of_beq_eq_false rfl) rfl rfl ?_
        refine HT_f DC_ok rfl fun K hK => ?_; (conv => whnf)
        refine hK _ _ _ ?_; clear hK K
        refine Then_n ?_
        replace h := W_xnx h
        refine ⟨_, h, ?_⟩
        refine weak_k ?_; (conv => whnf)
        exact And.intro rfl (And.intro (allL_c wkI (allL_c wkI (allL_c (WkR.ptr (fun _ => rfl)) (allL_c (wkr (loose_lst fun _ => (lo_TAttempt _))) (allL_c (WkR.mp (fun _ => rfl)) (allL_c (WkR.mp (fun _ => rfl)) (allL_c (wkr (loose_lst fun _ => (lo_TAttempt _))) (allL_c wkI allL_n)))))))) (allL_c ⟨some _, rfl, BkR_S (sz := 1) (enc := eI) (d := default) rfl (fun _ => (loose_int _ _))⟩ (allL_c ⟨some _, rfl, BkR_c rfl (CkR_cons (wkr (loose_lst fun _ => (lo_TGrowth _))) (CkR_cons wkI CkR_nil))⟩ (allL_c ⟨some _, rfl, BkR_m (enc := eI) (m := (GM.mt Int)) rfl (fun _ => (loose_int _ _))⟩ allL_n))))
      refine HT_fDP (.step 0 (.step 1 (.step 3 (.step 4 (.step 5 (.step 6 (.step 7 (.step 8 (.two 2 9 (.step 9 (.step 10 .nil)) (.step 2 (.step 10 .nil))))))))))) DC_ok mix_ok rfl (by kernel_rfl) fun K hK => ?_; (conv => whnf)
      refine nlA rfl ?_; (conv => whnf)
      refine blkK_of rfl ?_; (conv => whnf)
      refine getK_of rfl ?_; (conv => whnf)
      refine mgetY_lk DC_ok rfl rfl (nle rfl) ?_; (conv => whnf)
      refine lt_lk (enc := eI) (d := default) DC_ok h rfl rfl rfl ⟨nle rfl, nle rfl, rfl⟩ rfl ⟨⟨rfl, rfl, rfl⟩, trivial⟩ (fun h => ?_); (conv => whnf)
      refine And.intro ?_ ?_ <;> (conv => whnf)
      · refine nlA rfl ?_; (conv => whnf)
        refine blkK_of rfl ?_; (conv => whnf)
        refine getK_of rfl ?_; (conv => whnf)
        refine ap_lk (enc := eI) (d := default) DC_ok h (.inl rfl) rfl rfl rfl ⟨rfl, nle rfl, nle rfl, nle rfl, rfl⟩ (fun _ => rfl) (.inr (.inr ⟨_, _, rfl, rfl, rfl⟩)) (fun h => ?_); (conv => whnf)
        refine mputY_lk (sz := 1) DC_ok rfl ((has_enc _ _ _).trans hyes) rfl ?_; (conv => whnf)
        refine hK _ _ _ ?_; clear hK K
        refine InBlock_n ?_
        refine Then_n ?_
        refine HT_inS (enc := eI) (d := default) 32 _ _ (by decide) (by exact Nat.ne_of_beq_eq_false rfl) rfl rfl ?_
        refine HT_f DC_ok rfl fun K hK => ?_; (conv => whnf)
        refine hK _ _ _ ?_; clear hK K
        refine Then_n ?_
        replace h := W_xnx h
        refine ⟨_, h, ?_⟩
        refine weak_k ?_; (conv => whnf)
        exact And.intro rfl (And.intro (allL_c wkI (allL_c wkI (allL_c (WkR.ptr (fun _ => rfl)) (allL_c (wkr (loose_lst fun _ => (lo_TAttempt _))) (allL_c (WkR.mp (fun _ => rfl)) (allL_c (WkR.mp (fun _ => rfl)) (allL_c (wkr (loose_lst fun _ => (lo_TAttempt _))) (allL_c wkI allL_n)))))))) (allL_c ⟨some _, rfl, BkR_S (sz := 1) (enc := eI) (d := default) rfl (fun _ => (loose_int _ _))⟩ (allL_c ⟨some _, rfl, BkR_c rfl (CkR_cons (wkr (loose_lst fun _ => (lo_TGrowth _))) (CkR_cons wkI CkR_nil))⟩ (allL_c ⟨some _, rfl, BkR_m (enc := eI) (m := (GM.mt Int)) rfl (fun _ => (loose_int _ _))⟩ allL_n))))
      refine ap_lk (enc := eI) (d := default) DC_ok h (.inl rfl) rfl rfl rfl ⟨rfl, nle rfl, nle rfl, nle rfl, rfl⟩ (fun _ => rfl) (.inr (.inr ⟨_, _, rfl, rfl, rfl⟩)) (fun h => ?_); (conv => whnf)
      refine nlA rfl ?_; (conv => whnf)
      refine blkK_of rfl ?_; (conv => whnf)
      refine getK_of rfl ?_; (conv => whnf)
      refine mputY_lk (sz := 1) DC_ok rfl ((has_enc _ _ _).trans hyes) rfl ?_; (conv => whnf)
      refine hK _ _ _ ?_; clear hK K
      refine InBlock_n ?_
      refine Then_n ?_
      refine HT_inS (enc := eI) (d := default) 32 _ _ (by decide) (by exact Nat.ne_of_beq_eq_false rfl) rfl rfl ?_
      refine HT_f DC_ok rfl fun K hK => ?_; (conv => whnf)
      refine hK _ _ _ ?_; clear hK K
      refine Then_n ?_
      replace h := W_xnx h
      refine ⟨_, h, ?_⟩
      refine weak_k ?_; (conv => whnf)
      exact And.intro rfl (And.intro (allL_c wkI (allL_c wkI (allL_c (WkR.ptr (fun _ => rfl)) (allL_c (wkr (loose_lst fun _ => (lo_TAttempt _))) (allL_c (WkR.mp (fun _ => rfl)) (allL_c (WkR.mp (fun _ => rfl)) (allL_c (wkr (loose_lst fun _ => (lo_TAttempt _))) (allL_c wkI allL_n)))))))) (allL_c ⟨some _, rfl, BkR_S (sz := 1) (enc := eI) (d := default) rfl (fun _ => (loose_int _ _))⟩ (allL_c ⟨some _, rfl, BkR_c rfl (CkR_cons (wkr (loose_lst fun _ => (lo_TGrowth _))) (CkR_cons wkI CkR_nil))⟩ (allL_c ⟨some _, rfl, BkR_m (enc := eI) (m := (GM.mt Int)) rfl (fun _ => (loose_int _ _))⟩ allL_n))))
    refine hK2 ?_; clear hK1 hK2 K1 K2
    refine HT_skip ?_
    refine InBlock_n ?_
    refine Then_n ?_
    refine HT_f DC_ok rfl fun K hK => ?_; (conv => whnf)
    refine hK _ _ _ ?_; clear hK K
    refine Then_n ?_
    replace h := W_xnx h
    refine ⟨_, h, ?_⟩
    refine weak_k ?_; (conv => whnf)
    exact And.intro rfl (And.intro (allL_c wkI (allL_c wkI (allL_c (WkR.ptr (fun _ => rfl)) (allL_c (wkr (loose_lst fun _ => (lo_TAttempt _))) (allL_c (WkR.mp (fun _ => rfl)) (allL_c (WkR.mp (fun _ => rfl)) (allL_c (wkr (loose_lst fun _ => (lo_TAttempt _))) (allL_c wkI allL_n)))))))) (allL_c ⟨some _, rfl, BkR_S (sz := 1) (enc := eI) (d := default) rfl (fun _ => (loose_int _ _))⟩ (allL_c ⟨some _, rfl, BkR_c rfl (CkR_cons (wkr (loose_lst fun _ => (lo_TGrowth _))) (CkR_cons wkI CkR_nil))⟩ (allL_c ⟨some _, rfl, BkR_m (enc := eI) (m := (GM.mt Int)) rfl (fun _ => (loose_int _ _))⟩ allL_n))))
  refine hK2 ?_; clear hK1 hK2 K1 K2
  refine HT_exit ?_
  refine Then_e ?_
  refine Then_e ?_
  refine InBlock_e ?_
  replace h := W_xbk h
  replace h := W_inl h
  refine Then_n ?_
  refine HT_fr DC_ok rfl fun K hK => ?_; (conv => whnf)
  refine hK _ _ _ ?_; clear hK K
  refine HT_seq ?_
  refine HT_label ?_
  refine Then_n ?_
  refine HT_seq ?_
  refine HT_fr DC_ok rfl fun K hK => ?_; (conv => whnf)
  refine hK _ _ _ ?_; clear hK K
  refine HT_block ?_
  replace h := W_bd h
  refine HT_lpK (body := recovery_Storm_b2 _ _) rfl h [2, 3, 9, 10, 11] [3] [10, 11] (fun kl kh ids b s => ⟨ofL ([(14, eI s.1), (15, eI s.2.1)] ++ kl), ofH ([(nthN ids 0, abS 1 eI default s.2.2.1), (nthN ids 1, abM eI s.2.2.2)] ++ kh), b + 64⟩) ?_; (conv => whnf); refine And.intro ?_ (fun s m h => HT_st ?_)
  · refine weak_k ?_; (conv => whnf)
    exact And.intro rfl (And.intro (allL_c wkI (allL_c wkI (allL_c wkI (allL_c (WkR.ptr (fun _ => rfl)) (allL_c (wkr (loose_lst fun _ => (lo_TAttempt _))) (allL_c (WkR.mp (fun _ => rfl)) (allL_c (WkR.mp (fun _ => rfl)) allL_n))))))) (allL_c ⟨some _, rfl, BkR_S (sz := 1) (enc := eI) (d := default) rfl (fun _ => (loose_int _ _))⟩ (allL_c ⟨some _, rfl, BkR_m (enc := eI) (m := (GM.mt Int)) rfl (fun _ => (loose_int _ _))⟩ (allL_c ⟨some _, rfl, BkR_c rfl (CkR_cons (wkr (loose_lst fun _ => (lo_TGrowth _))) (CkR_cons wkI CkR_nil))⟩ allL_n))))
  replace h := W_brecovery_Storm_b2 (W_bd h)
  refine HT_seq ?_
  refine HT_fr DC_ok rfl fun K hK => ?_; (conv => whnf)
  refine mlenS_lk (sz := 1) (enc := eI) (d := default) DC_ok rfl rfl (nle rfl) ?_; (conv => whnf)
  refine hK _ _ _ ?_; clear hK K
  refine HT_if fun K1 K2 hK1 hK2 => ?_; (conv => whnf)
  refine cond_lk h (fun _ h => ?_) (fun _ h => ?_)
  · refine hK1 ?_; clear hK1 hK2 K1 K2
    refine HT_skip ?_
    refine Then_n ?_
    refine HT_seq ?_
    refine HT_block ?_
    refine HT_fr DC_ok rfl fun K hK => ?_; (conv => whnf)
    refine mgetS_lk (sz := 1) (enc := eI) (d := default) DC_ok rfl rfl (nle rfl) ?_; (conv => whnf)
    replace h := W_bd h
    refine recovery_sorted_int_50_call h49 h (WkL.refl _) (fun _ h => ?_); (conv => whnf)
    refine hK _ _ _ ?_; clear hK K
    refine HT_fr DC_ok rfl fun K hK => ?_; (conv => whnf)
    refine mdelS_lk (sz := 1) (enc := eI) (d := default) DC_ok rfl rfl ?_; (conv => whnf)
    refine hK _ _ _ ?_; clear hK K
    refine HT_seq ?_
    refine HT_fr DC_ok rfl fun K hK => ?_; (conv => whnf)
    refine nlA rfl ?_; (conv => whnf)
    refine blkK_of rfl ?_; (conv => whnf)
    refine getK_of rfl ?_; (conv => whnf)
    refine hK _ _ _ ?_; clear hK K
    refine HT_if fun K1 K2 hK1 hK2 => ?_; (conv => whnf)
    refine cond_lk h (fun _ h => ?_) (fun _ h => ?_)
    · refine hK1 ?_; clear hK1 hK2 K1 K2
      refine HT_fr DC_ok rfl fun K hK => ?_; (conv => whnf)
      refine hK _ _ _ ?_; clear hK K
      refine HT_exit ?_
      refine Then_e ?_
      refine InBlock_o (by decide) ?_
      refine Then_e ?_
      refine Then_e ?_
      refine InBlock_e ?_
      replace h := W_xbk h
      replace h := W_inl h
      refine Then_n ?_
      refine HT_fr DC_ok rfl fun K hK => ?_; (conv => whnf)
      refine hK _ _ _ ?_; clear hK K
      refine HT_seq ?_
      refine HT_fr DC_ok rfl fun K hK => ?_; (conv => whnf)
      refine hK _ _ _ ?_; clear hK K
      refine HT_block ?_
      replace h := W_bd h
      refine HT_lpK (body := recovery_Storm_b4 _ _) rfl h [11, 14, 108, 109] [11] [] (fun kl kh ids b s => ⟨ofL ([(19, .lst (.tok (b + 0)) 3 s.1.length (fun j => eTTicket (s.1.getD j default))), (110, eI s.2)] ++ kl), ofH ([(b + 0, .cells [])] ++ kh), b + 128⟩) ?_; (conv => whnf); refine And.intro ?_ (fun s m h => HT_st ?_)
      · refine weak_k ?_; (conv => whnf)
        exact And.intro rfl (And.intro (allL_c (WkR.nil (fun _ => rfl)) (allL_c wkI (allL_c (WkR.mp (fun _ => rfl)) (allL_c wkI (allL_c (wkr (loose_lst fun _ => (lo_TAttempt _))) (allL_c wkI allL_n)))))) (allL_c ⟨none, rfl, BkR_n⟩ (allL_c ⟨some _, rfl, BkR_m (enc := eI) rfl (fun _ => (loose_int _ _))⟩ allL_n)))
      replace h := W_brecovery_Storm_b4 (W_bd h)
      refine HT_fr DC_ok rfl fun K hK => ?_; (conv => whnf)
      refine hK _ _ _ ?_; clear hK K
      refine HT_seq ?_
      refine HT_if fun K1 K2 hK1 hK2 => ?_; (conv => whnf)
      refine cond_lk h (fun _ h => ?_) (fun _ h => ?_)
      · refine hK1 ?_; clear hK1 hK2 K1 K2
        refine HT_skip ?_
        refine Then_n ?_
        refine HT_seq ?_
        replace h := W_jn h
        refine HT_block ?_
        refine HT_fr DC_ok rfl fun K hK => ?_; (conv => whnf)
        refine ix_lk h fun _ h => ?_; (conv => whnf)
        refine nlA rfl ?_; (conv => whnf)
        refine blkK_of rfl ?_; (conv => whnf)
        refine And.intro rfl (And.intro (nle rfl) (And.intro rfl ?_)); (conv => whnf)
        refine hK _ _ _ ?_; clear hK K
        refine HT_fr DC_ok rfl fun K hK => ?_; (conv => whnf)
        refine nlA rfl ?_; (conv => whnf)
        refine blkK_of rfl ?_; (conv => whnf)
        refine getK_of rfl ?_; (conv => whnf)
        refine nlA rfl ?_; (conv => whnf)
        refine blkK_of rfl ?_; (conv => whnf)
        refine getK_of rfl ?_; (conv => whnf)
        refine nlA rfl ?_; (conv => whnf)
        refine blkK_of rfl ?_; (conv => whnf)
        refine getK_of rfl ?_; (conv => whnf)
        refine blkK_of rfl ?_; (conv => whnf)
        refine And.intro rfl (And.intro (nle rfl) (And.intro rfl ?_)); (conv => whnf)
        refine hK _ _ _ ?_; clear hK K
        refine HT_seq ?_
        refine HT_fr DC_ok rfl fun K hK => ?_; (conv => whnf)
        refine nlA rfl ?_; (conv => whnf)
        refine blkK_of rfl ?_; (conv => whnf)
        refine getK_of rfl ?_; (conv => whnf)
        refine hK _ _ _ ?_; clear hK K
        replace h := W_jn h
        refine HT_if fun K1 K2 hK1 hK2 => ?_; (conv => whnf)
        refine cond_lk h (fun _ h => ?_) (fun _ h => ?_)
        · refine hK1 ?_; clear hK1 hK2 K1 K2
          refine HT_fr DC_ok rfl fun K hK => ?_; (conv => whnf)
          refine mget2_lk (enc := eI) DC_ok rfl (0 : Int) rfl rfl (nle rfl) ?_; (conv => whnf)
          refine hK _ _ _ ?_; clear hK K
          refine HT_seq ?_
          refine HT_fr DC_ok rfl fun K hK => ?_; (conv => whnf)
          refine hK _ _ _ ?_; clear hK K
          refine HT_if fun K1 K2 hK1 hK2 => ?_; (conv => whnf)
          refine cond_lk h (fun _ h => ?_) (fun _ h => ?_)
          · refine hK1 ?_; clear hK1 hK2 K1 K2
            refine HT_exit ?_
            refine Then_e ?_
            refine Then_e ?_
            refine InBlock_e ?_
            refine Then_n ?_
            refine HT_f DC_ok rfl fun K hK => ?_; (conv => whnf)
            refine hK _ _ _ ?_; clear hK K
            refine Then_n ?_
            replace h := W_xnx h
            refine ⟨_, h, ?_⟩
            refine weak_k ?_; (conv => whnf)
            exact And.intro rfl (And.intro (allL_c (WkR.tok (fun _ => rfl) rfl (fun _ _ => Wk.refl _) (fun _ => (lo_TTicket _))) (allL_c wkI (allL_c (WkR.mp (fun _ => rfl)) (allL_c wkI (allL_c (wkr (loose_lst fun _ => (lo_TAttempt _))) (allL_c wkI allL_n)))))) (allL_c ⟨some _, rfl, BkR_c rfl CkR_nil⟩ (allL_c ⟨some _, rfl, BkR_m (enc := eI) rfl (fun _ => (loose_int _ _))⟩ allL_n)))
          refine hK2 ?_; clear hK1 hK2 K1 K2
          refine HT_skip ?_
          refine Then_n ?_
          refine HT_f DC_ok rfl fun K hK => ?_; (conv => whnf)
          refine blkK_of rfl ?_; (conv => whnf)
          refine And.intro rfl (And.intro (nle rfl) (And.intro rfl ?_)); (conv => whnf)
          refine hK _ _ _ ?_; clear hK K
          refine Then_n ?_
          refine HT_f DC_ok rfl fun K hK => ?_; (conv => whnf)
          refine nlA rfl ?_; (conv => whnf)
          refine blkK_of rfl ?_; (conv => whnf)
          refine nlA rfl ?_; (conv => whnf)
          refine lt_lk (enc := eTTicket) (d := default) DC_ok h rfl rfl rfl ⟨nle rfl, nle rfl, rfl⟩ rfl ⟨⟨rfl, nle rfl⟩, trivial⟩ (fun h => ?_); (conv => whnf)
          refine ap_lk (enc := eTTicket) (d := default) DC_ok h (.inl rfl) rfl rfl rfl ⟨rfl, nle rfl, nle rfl, nle rfl, rfl⟩ (fun _ => rfl) (.inr (.inr ⟨_, _, rfl, rfl, rfl⟩)) (fun h => ?_); (conv => whnf)
          refine hK _ _ _ ?_; clear hK K
          refine InBlock_n ?_
          refine Then_n ?_
          refine HT_f DC_ok rfl fun K hK => ?_; (conv => whnf)
          refine hK _ _ _ ?_; clear hK K
          refine Then_n ?_
          replace h := W_xnx h
          refine ⟨_, h, ?_⟩
          refine weak_k ?_; (conv => whnf)
          exact And.intro rfl (And.intro (allL_c (WkR.tok (fun _ => rfl) rfl (fun _ _ => Wk.refl _) (fun _ => (lo_TTicket _))) (allL_c wkI (allL_c (WkR.mp (fun _ => rfl)) (allL_c wkI (allL_c (wkr (loose_lst fun _ => (lo_TAttempt _))) (allL_c wkI allL_n)))))) (allL_c ⟨some _, rfl, BkR_c rfl CkR_nil⟩ (allL_c ⟨some _, rfl, BkR_m (enc := eI) rfl (fun _ => (loose_int _ _))⟩ allL_n)))
        refine hK2 ?_; clear hK1 hK2 K1 K2
        refine HT_fr DC_ok rfl fun K hK => ?_; (conv => whnf)
        replace h := W_jn h
        refine cond_lk h (fun _ h => ?_) (fun _ h => ?_) <;> (conv => whnf)
        · refine nlA rfl ?_; (conv => whnf)
          refine blkK_of rfl ?_; (conv => whnf)
          refine getK_of rfl ?_; (conv => whnf)
          refine hK _ _ _ ?_; clear hK K
          refine HT_if fun K1 K2 hK1 hK2 => ?_; (conv => whnf)
          refine cond_lk h (fun _ h => ?_) (fun _ h => ?_)
          · refine hK1 ?_; clear hK1 hK2 K1 K2
            refine HT_exit ?_
            refine Then_e ?_
            refine InBlock_e ?_
            refine Then_n ?_
            refine HT_f DC_ok rfl fun K hK => ?_; (conv => whnf)
            refine hK _ _ _ ?_; clear hK K
            refine Then_n ?_
            replace h := W_xnx h
            refine ⟨_, h, ?_⟩
            refine weak_k ?_; (conv => whnf)
            exact And.intro rfl (And.intro (allL_c (WkR.tok (fun _ => rfl) rfl (fun _ _ => Wk.refl _) (fun _ => (lo_TTicket _))) (allL_c wkI (allL_c (WkR.mp (fun _ => rfl)) (allL_c wkI (allL_c (wkr (loose_lst fun _ => (lo_TAttempt _))) (allL_c wkI allL_n)))))) (allL_c ⟨some _, rfl, BkR_c rfl CkR_nil⟩ (allL_c ⟨some _, rfl, BkR_m (enc := eI) rfl (fun _ => (loose_int _ _))⟩ allL_n)))
          refine hK2 ?_; clear hK1 hK2 K1 K2
          refine HT_skip ?_
          refine Then_n ?_
          refine HT_f DC_ok rfl fun K hK => ?_; (conv => whnf)
          refine nlA rfl ?_; (conv => whnf)
          refine blkK_of rfl ?_; (conv => whnf)
          refine nlA rfl ?_; (conv => whnf)
          refine lt_lk (enc := eTTicket) (d := default) DC_ok h rfl rfl rfl ⟨nle rfl, nle rfl, rfl⟩ rfl ⟨⟨rfl, nle rfl⟩, trivial⟩ (fun h => ?_); (conv => whnf)
          refine ap_lk (enc := eTTicket) (d := default) DC_ok h (.inl rfl) rfl rfl rfl ⟨rfl, nle rfl, nle rfl, nle rfl, rfl⟩ (fun _ => rfl) (.inr (.inr ⟨_, _, rfl, rfl, rfl⟩)) (fun h => ?_); (conv => whnf)
          refine hK _ _ _ ?_; clear hK K
          refine InBlock_n ?_
          refine Then_n ?_
          refine HT_f DC_ok rfl fun K hK => ?_; (conv => whnf)
          refine hK _ _ _ ?_; clear hK K
          refine Then_n ?_
          replace h := W_xnx h
          refine ⟨_, h, ?_⟩
          refine weak_k ?_; (conv => whnf)
          exact And.intro rfl (And.intro (allL_c (WkR.tok (fun _ => rfl) rfl (fun _ _ => Wk.refl _) (fun _ => (lo_TTicket _))) (allL_c wkI (allL_c (WkR.mp (fun _ => rfl)) (allL_c wkI (allL_c (wkr (loose_lst fun _ => (lo_TAttempt _))) (allL_c wkI allL_n)))))) (allL_c ⟨some _, rfl, BkR_c rfl CkR_nil⟩ (allL_c ⟨some _, rfl, BkR_m (enc := eI) rfl (fun _ => (loose_int _ _))⟩ allL_n)))
        refine hK _ _ _ ?_; clear hK K
        refine HT_if fun K1 K2 hK1 hK2 => ?_; (conv => whnf)
        refine hK2 ?_; clear hK1 hK2 K1 K2
        replace h := W_cnF h
        refine HT_skip ?_
        refine Then_n ?_
        refine HT_f DC_ok rfl fun K hK => ?_; (conv => whnf)
        refine nlA rfl ?_; (conv => whnf)
        refine blkK_of rfl ?_; (conv => whnf)
        refine nlA rfl ?_; (conv => whnf)
        refine lt_lk (enc := eTTicket) (d := default) DC_ok h rfl rfl rfl ⟨nle rfl, nle rfl, rfl⟩ rfl ⟨⟨rfl, nle rfl⟩, trivial⟩ (fun h => ?_); (conv => whnf)
        refine ap_lk (enc := eTTicket) (d := default) DC_ok h (.inl rfl) rfl rfl rfl ⟨rfl, nle rfl, nle rfl, nle rfl, rfl⟩ (fun _ => rfl) (.inr (.inr ⟨_, _, rfl, rfl, rfl⟩)) (fun h => ?_); (conv => whnf)
        refine hK _ _ _ ?_; clear hK K
        refine InBlock_n ?_
        refine Then_n ?_
        refine HT_f DC_ok rfl fun K hK => ?_; (conv => whnf)
        refine hK _ _ _ ?_; clear hK K
        refine Then_n ?_
        replace h := W_xnx h
        refine ⟨_, h, ?_⟩
        refine weak_k ?_; (conv => whnf)
        exact And.intro rfl (And.intro (allL_c (WkR.tok (fun _ => rfl) rfl (fun _ _ => Wk.refl _) (fun _ => (lo_TTicket _))) (allL_c wkI (allL_c (WkR.mp (fun _ => rfl)) (allL_c wkI (allL_c (wkr (loose_lst fun _ => (lo_TAttempt _))) (allL_c wkI allL_n)))))) (allL_c ⟨some _, rfl, BkR_c rfl CkR_nil⟩ (allL_c ⟨some _, rfl, BkR_m (enc := eI) rfl (fun _ => (loose_int _ _))⟩ allL_n)))
      refine hK2 ?_; clear hK1 hK2 K1 K2
      refine HT_exit ?_
      refine Then_e ?_
      refine Then_e ?_
      refine InBlock_e ?_
      replace h := W_xbk h
      replace h := W_inl h
      refine Then_n ?_
      refine HT_fr DC_ok rfl fun K hK => ?_; (conv => whnf)
      refine hK _ _ _ ?_; clear hK K
      refine HT_ret ?_
      refine NoGoto_r ?_
      replace h := W_some h
      refine PostP_r DC_ok fun K hK => ?_; (conv => whnf)
      refine hK _ ?_; clear hK K
      cases h
      exact Wk_tup (WkL_cons Wk_free (WkL_cons (Wk.refl _) (WkL_cons (Wk.refl _) WkL_nil)))
    refine hK2 ?_; clear hK1 hK2 K1 K2
    refine HT_skip ?_
    refine Then_n ?_
    refine HT_fr DC_ok rfl fun K hK => ?_; (conv => whnf)
    refine hK _ _ _ ?_; clear hK K
    refine HT_block ?_
    replace h := W_bd h
    refine HT_lpK (body := recovery_Storm_b3 _ _ _ _) rfl h [2, 3, 9, 10, 11, 14, 15, 80, 81] [3] [10, 11] (fun kl kh ids b s => ⟨ofL ([(82, eI s.1)] ++ kl), ofH ([(nthN ids 0, abS 1 eI default s.2.1), (nthN ids 1, abM eI s.2.2)] ++ kh), b + 64⟩) ?_; (conv => whnf); refine And.intro ?_ (fun s m h => HT_st ?_)
    · refine weak_k ?_; (conv => whnf)
      exact And.intro rfl (And.intro (allL_c wkI (allL_c wkI (allL_c (WkR.ptr (fun _ => rfl)) (allL_c (wkr (loose_lst fun _ => (lo_TAttempt _))) (allL_c (WkR.mp (fun _ => rfl)) (allL_c (WkR.mp (fun _ => rfl)) (allL_c wkI (allL_c wkI (allL_c (wkr (loose_lst fun _ => (loose_int _ _))) (allL_c wkI allL_n)))))))))) (allL_c ⟨some _, rfl, BkR_S (sz := 1) (enc := eI) (d := default) rfl (fun _ => (loose_int _ _))⟩ (allL_c ⟨some _, rfl, BkR_m (enc := eI) rfl (fun _ => (loose_int _ _))⟩ (allL_c ⟨some _, rfl, BkR_c rfl (CkR_cons (wkr (loose_lst fun _ => (lo_TGrowth _))) (CkR_cons wkI CkR_nil))⟩ allL_n))))
    replace h := W_brecovery_Storm_b3 (W_bd h)
    refine HT_fr DC_ok rfl fun K hK => ?_; (conv => whnf)
    refine hK _ _ _ ?_; clear hK K
    refine HT_seq ?_
    refine HT_if fun K1 K2 hK1 hK2 => ?_; (conv => whnf)
    refine cond_lk h (fun _ h => ?_) (fun _ h => ?_)
    · refine hK1 ?_; clear hK1 hK2 K1 K2
      refine HT_skip ?_
      refine Then_n ?_
      refine HT_seq ?_
      refine HT_block ?_
      refine HT_fr DC_ok rfl fun K hK => ?_; (conv => whnf)
      refine ix_lk h fun _ h => ?_; (conv => whnf)
      refine getK_of rfl ?_; (conv => whnf)
      refine hK _ _ _ ?_; clear hK K
      refine HT_fr DC_ok rfl fun K hK => ?_; (conv => whnf)
      refine nlA rfl ?_; (conv => whnf)
      refine blkK_of rfl ?_; (conv => whnf)
      refine nlA rfl ?_; (conv => whnf)
      replace h := W_bd h
      refine recovery_capacity_call h48 h (WkL.refl _) (fun _ h => ?_); (conv => whnf)
      refine hK _ _ _ ?_; clear hK K
      replace h := W_jn h
      refine HT_if fun K1 K2 hK1 hK2 => ?_; (conv => whnf)
      refine cond_lk h (fun _ h => ?_) (fun _ h => ?_)
      · refine hK1 ?_; clear hK1 hK2 K1 K2
        refine HT_f DC_ok rfl fun K hK => ?_; (conv => whnf)
        refine mput_lk (enc := eI) DC_ok rfl rfl ?_; (conv => whnf)
        refine hK _ _ _ ?_; clear hK K
        refine InBlock_n ?_
        refine Then_n ?_
        refine HT_f DC_ok rfl fun K hK => ?_; (conv => whnf)
        refine hK _ _ _ ?_; clear hK K
        refine Then_n ?_
        replace h := W_xnx h
        refine ⟨_, h, ?_⟩
        refine weak_k ?_; (conv => whnf)
        exact And.intro rfl (And.intro (allL_c wkI (allL_c wkI (allL_c (WkR.ptr (fun _ => rfl)) (allL_c (wkr (loose_lst fun _ => (lo_TAttempt _))) (allL_c (WkR.mp (fun _ => rfl)) (allL_c (WkR.mp (fun _ => rfl)) (allL_c wkI (allL_c wkI (allL_c (wkr (loose_lst fun _ => (loose_int _ _))) (allL_c wkI allL_n)))))))))) (allL_c ⟨some _, rfl, BkR_S (sz := 1) (enc := eI) (d := default) rfl (fun _ => (loose_int _ _))⟩ (allL_c ⟨some _, rfl, BkR_m (enc := eI) rfl (fun _ => (loose_int _ _))⟩ (allL_c ⟨some _, rfl, BkR_c rfl (CkR_cons (wkr (loose_lst fun _ => (lo_TGrowth _))) (CkR_cons wkI CkR_nil))⟩ allL_n))))
      refine hK2 ?_; clear hK1 hK2 K1 K2
      refine HT_outSh (sz := 1) (enc := eI) (d := default) 32 h (by decide) rfl (Nat.ne_of_beq_eq_false rfl) (fun h hno => ?_) (fun h hyes => ?_)
      · refine HT_f DC_ok rfl fun K hK => ?_; (conv => whnf)
        refine mgetN_lk (sz := 1) (enc := eI) (d := default) DC_ok rfl rfl (nle rfl) hno ?_; (conv => whnf)
        refine lt_lk (enc := eI) (d := default) DC_ok h rfl rfl rfl ⟨nle rfl, nle rfl, rfl⟩ rfl ⟨⟨rfl, rfl, rfl⟩, trivial⟩ (fun h => ?_); (conv => whnf)
        refine ap_lk (enc := eI) (m := .free) (d := default) DC_ok h (.inr ⟨rfl, rfl⟩) rfl rfl rfl ⟨rfl, nle rfl, nle rfl, nle rfl, rfl⟩ (fun _ => rfl) (.inl ⟨rfl, rfl⟩) (fun h => ?_); (conv => whnf)
        refine mputN_lk DC_ok rfl rfl ?_; (conv => whnf)
        refine hK _ _ _ ?_; clear hK K
        refine InBlock_n ?_
        refine Then_n ?_
        refine HT_inS (enc := eI) (d := default) 32 _ _ (by decide) (by exact Nat.ne_of_beq_eq_false rfl) rfl rfl ?_
        refine HT_f DC_ok rfl fun K hK => ?_; (conv => whnf)
        refine hK _ _ _ ?_; clear hK K
        refine Then_n ?_
        replace h := W_xnx h
        refine ⟨_, h, ?_⟩
        refine weak_k ?_; (conv => whnf)
        exact And.intro rfl (And.intro (allL_c wkI (allL_c wkI (allL_c (WkR.ptr (fun _ => rfl)) (allL_c (wkr (loose_lst fun _ => (lo_TAttempt _))) (allL_c (WkR.mp (fun _ => rfl)) (allL_c (WkR.mp (fun _ => rfl)) (allL_c wkI (allL_c wkI (allL_c (wkr (loose_lst fun _ => (loose_int _ _))) (allL_c wkI allL_n)))))))))) (allL_c ⟨some _, rfl, BkR_S (sz := 1) (enc := eI) (d := default) rfl (fun _ => (loose_int _ _))⟩ (allL_c ⟨some _, rfl, BkR_m (enc := eI) rfl (fun _ => (loose_int _ _))⟩ (allL_c ⟨some _, rfl, BkR_c rfl (CkR_cons (wkr (loose_lst fun _ => (lo_TGrowth _))) (CkR_cons wkI CkR_nil))⟩ allL_n))))
      refine HT_f DC_ok rfl fun K hK => ?_; (conv => whnf)
      refine mgetY_lk DC_ok rfl rfl (nle rfl) ?_; (conv => whnf)
      refine lt_lk (enc := eI) (d := default) DC_ok h rfl rfl rfl ⟨nle rfl, nle rfl, rfl⟩ rfl ⟨⟨rfl, rfl, rfl⟩, trivial⟩ (fun h => ?_); (conv => whnf)
      refine ap_lk (enc := eI) (d := default) DC_ok h (.inl rfl) rfl rfl rfl ⟨rfl, nle rfl, nle rfl, nle rfl, rfl⟩ (fun _ => rfl) (.inr (.inr ⟨_, _, rfl, rfl, rfl⟩)) (fun h => ?_); (conv => whnf)
      refine mputY_lk (sz := 1) DC_ok rfl ((has_enc _ _ _).trans hyes) rfl ?_; (conv => whnf)
      refine hK _ _ _ ?_; clear hK K
      refine InBlock_n ?_
      refine Then_n ?_
      refine HT_inS (enc := eI) (d := default) 32 _ _ (by decide) (by exact Nat.ne_of_beq_eq_false rfl) rfl rfl ?_
      refine HT_f DC_ok rfl fun K hK => ?_; (conv => whnf)
      refine hK _ _ _ ?_; clear hK K
      refine Then_n ?_
      replace h := W_xnx h
      refine ⟨_, h, ?_⟩
      refine weak_k ?_; (conv => whnf)
      exact And.intro rfl (And.intro (allL_c wkI (allL_c wkI (allL_c (WkR.ptr (fun _ => rfl)) (allL_c (wkr (loose_lst fun _ => (lo_TAttempt _))) (allL_c (WkR.mp (fun _ => rfl)) (allL_c (WkR.mp (fun _ => rfl)) (allL_c wkI (allL_c wkI (allL_c (wkr (loose_lst fun _ => (loose_int _ _))) (allL_c wkI allL_n)))))))))) (allL_c ⟨some _, rfl, BkR_S (sz := 1) (enc := eI) (d := default) rfl (fun _ => (loose_int _ _))⟩ (allL_c ⟨some _, rfl, BkR_m (enc := eI) rfl (fun _ => (loose_int _ _))⟩ (allL_c ⟨some _, rfl, BkR_c rfl (CkR_cons (wkr (loose_lst fun _ => (lo_TGrowth _))) (CkR_cons wkI CkR_nil))⟩ allL_n))))
    refine hK2 ?_; clear hK1 hK2 K1 K2
    refine HT_exit ?_
    refine Then_e ?_
    refine Then_e ?_
    refine InBlock_e ?_
    replace h := W_xbk h
    replace h := W_inl h
    refine InBlock_n ?_
    refine Then_n ?_
    refine HT_f DC_ok rfl fun K hK => ?_; (conv => whnf)
    refine hK _ _ _ ?_; clear hK K
    refine Then_n ?_
    replace h := W_xnx h
    refine ⟨_, h, ?_⟩
    refine weak_k ?_; (conv => whnf)
    exact And.intro rfl (And.intro (allL_c wkI (allL_c wkI (allL_c wkI (allL_c (WkR.ptr (fun _ => rfl)) (allL_c (wkr (loose_lst fun _ => (lo_TAttempt _))) (allL_c (WkR.mp (fun _ => rfl)) (allL_c (WkR.mp (fun _ => rfl)) allL_n))))))) (allL_c ⟨some _, rfl, BkR_S (sz := 1) (enc := eI) (d := default) rfl (fun _ => (loose_int _ _))⟩ (allL_c ⟨some _, rfl, BkR_m (enc := eI) rfl (fun _ => (loose_int _ _))⟩ (allL_c ⟨some _, rfl, BkR_c rfl (CkR_cons (wkr (loose_lst fun _ => (lo_TGrowth _))) (CkR_cons wkI CkR_nil))⟩ allL_n))))
  refine hK2 ?_; clear hK1 hK2 K1 K2
  refine HT_exit ?_
  refine Then_e ?_
  refine Then_e ?_
  refine InBlock_e ?_
  replace h := W_xbk h
  replace h := W_inl h
  refine Then_n ?_
  refine HT_fr DC_ok rfl fun K hK => ?_; (conv => whnf)
  refine hK _ _ _ ?_; clear hK K
  refine HT_seq ?_
  refine HT_fr DC_ok rfl fun K hK => ?_; (conv => whnf)
  refine hK _ _ _ ?_; clear hK K
  refine HT_block ?_
  replace h := W_bd h
  refine HT_lpK (body := recovery_Storm_b4 _ _) rfl h [11, 14, 108, 109] [11] [] (fun kl kh ids b s => ⟨ofL ([(19, .lst (.tok (b + 0)) 3 s.1.length (fun j => eTTicket (s.1.getD j default))), (110, eI s.2)] ++ kl), ofH ([(b + 0, .cells [])] ++ kh), b + 128⟩) ?_; (conv => whnf); refine And.intro ?_ (fun s m h => HT_st ?_)
  · refine weak_k ?_; (conv => whnf)
    exact And.intro rfl (And.intro (allL_c (WkR.nil (fun _ => rfl)) (allL_c wkI (allL_c (WkR.mp (fun _ => rfl)) (allL_c wkI (allL_c (wkr (loose_lst fun _ => (lo_TAttempt _))) (allL_c wkI allL_n)))))) (allL_c ⟨none, rfl, BkR_n⟩ (allL_c ⟨some _, rfl, BkR_m (enc := eI) rfl (fun _ => (loose_int _ _))⟩ allL_n)))
  replace h := W_brecovery_Storm_b4 (W_bd h)
  refine HT_fr DC_ok rfl fun K hK => ?_; (conv => whnf)
  refine hK _ _ _ ?_; clear hK K
  refine HT_seq ?_
  refine HT_if fun K1 K2 hK1 hK2 => ?_; (conv => whnf)
  refine cond_lk h (fun _ h => ?_) (fun _ h => ?_)
  · refine hK1 ?_; clear hK1 hK2 K1 K2
    refine HT_skip ?_
    refine Then_n ?_
    refine HT_seq ?_
    replace h := W_jn h
    refine HT_block ?_
    refine HT_fr DC_ok rfl fun K hK => ?_; (conv => whnf)
    refine ix_lk h fun _ h => ?_; (conv => whnf)
    refine nlA rfl ?_; (conv => whnf)
    refine blkK_of rfl ?_; (conv => whnf)
    refine And.intro rfl (And.intro (nle rfl) (And.intro rfl ?_)); (conv => whnf)
    refine hK _ _ _ ?_; clear hK K
    refine HT_fr DC_ok rfl fun K hK => ?_; (conv => whnf)
    refine nlA rfl ?_; (conv => whnf)
    refine blkK_of rfl ?_; (conv => whnf)
    refine getK_of rfl ?_; (conv => whnf)
    refine nlA rfl ?_; (conv => whnf)
    refine blkK_of rfl ?_; (conv => whnf)
    refine getK_of rfl ?_; (conv => whnf)
    refine nlA rfl ?_; (conv => whnf)
    refine blkK_of rfl ?_; (conv => whnf)
    refine getK_of rfl ?_; (conv => whnf)
    refine blkK_of rfl ?_; (conv => whnf)
    refine And.intro rfl (And.intro (nle rfl) (And.intro rfl ?_)); (conv => whnf)
    refine hK _ _ _ ?_; clear hK K
    refine HT_seq ?_
    refine HT_fr DC_ok rfl fun K hK => ?_; (conv => whnf)
    refine nlA rfl ?_; (conv => whnf)
    refine blkK_of rfl ?_; (conv => whnf)
    refine getK_of rfl ?_; (conv => whnf)
    refine hK _ _ _ ?_; clear hK K
    replace h := W_jn h
    refine HT_if fun K1 K2 hK1 hK2 => ?_; (conv => whnf)
    refine cond_lk h (fun _ h => ?_) (fun _ h => ?_)
    · refine hK1 ?_; clear hK1 hK2 K1 K2
      refine HT_fr DC_ok rfl fun K hK => ?_; (conv => whnf)
      refine mget2_lk (enc := eI) DC_ok rfl (0 : Int) rfl rfl (nle rfl) ?_; (conv => whnf)
      refine hK _ _ _ ?_; clear hK K
      refine HT_seq ?_
      refine HT_fr DC_ok rfl fun K hK => ?_; (conv => whnf)
      refine hK _ _ _ ?_; clear hK K
      refine HT_if fun K1 K2 hK1 hK2 => ?_; (conv => whnf)
      refine cond_lk h (fun _ h => ?_) (fun _ h => ?_)
      · refine hK1 ?_; clear hK1 hK2 K1 K2
        refine HT_exit ?_
        refine Then_e ?_
        refine Then_e ?_
        refine InBlock_e ?_
        refine Then_n ?_
        refine HT_f DC_ok rfl fun K hK => ?_; (conv => whnf)
        refine hK _ _ _ ?_; clear hK K
        refine Then_n ?_
        replace h := W_xnx h
        refine ⟨_, h, ?_⟩
        refine weak_k ?_; (conv => whnf)
        exact And.intro rfl (And.intro (allL_c (WkR.tok (fun _ => rfl) rfl (fun _ _ => Wk.refl _) (fun _ => (lo_TTicket _))) (allL_c wkI (allL_c (WkR.mp (fun _ => rfl)) (allL_c wkI (allL_c (wkr (loose_lst fun _ => (lo_TAttempt _))) (allL_c wkI allL_n)))))) (allL_c ⟨some _, rfl, BkR_c rfl CkR_nil⟩ (allL_c ⟨some _, rfl, BkR_m (enc := eI) rfl (fun _ => (loose_int _ _))⟩ allL_n)))
      refine hK2 ?_; clear hK1 hK2 K1 K2
      refine HT_skip ?_
      refine Then_n ?_
      refine HT_f DC_ok rfl fun K hK => ?_; (conv => whnf)
      refine blkK_of rfl ?_; (conv => whnf)
      refine And.intro rfl (And.intro (nle rfl) (And.intro rfl ?_)); (conv => whnf)
      refine hK _ _ _ ?_; clear hK K
      refine Then_n ?_
      refine HT_f DC_ok rfl fun K hK => ?_; (conv => whnf)
      refine nlA rfl ?_; (conv => whnf)
      refine blkK_of rfl ?_; (conv => whnf)
      refine nlA rfl ?_; (conv => whnf)
      refine lt_lk (enc := eTTicket) (d := default) DC_ok h rfl rfl rfl ⟨nle rfl, nle rfl, rfl⟩ rfl ⟨⟨rfl, nle rfl⟩, trivial⟩ (fun h => ?_); (conv => whnf)
      refine ap_lk (enc := eTTicket) (d := default) DC_ok h (.inl rfl) rfl rfl rfl ⟨rfl, nle rfl, nle rfl, nle rfl, rfl⟩ (fun _ => rfl) (.inr (.inr ⟨_, _, rfl, rfl, rfl⟩)) (fun h => ?_); (conv => whnf)
      refine hK _ _ _ ?_; clear hK K
      refine InBlock_n ?_
      refine Then_n ?_
      refine HT_f DC_ok rfl fun K hK => ?_; (conv => whnf)
      refine hK _ _ _ ?_; clear hK K
      refine Then_n ?_
      replace h := W_xnx h
      refine ⟨_, h, ?_⟩
      refine weak_k ?_; (conv => whnf)
      exact And.intro rfl (And.intro (allL_c (WkR.tok (fun _ => rfl) rfl (fun _ _ => Wk.refl _) (fun _ => (lo_TTicket _))) (allL_c wkI (allL_c (WkR.mp (fun _ => rfl)) (allL_c wkI (allL_c (wkr (loose_lst fun _ => (lo_TAttempt _))) (allL_c wkI allL_n)))))) (allL_c ⟨some _, rfl, BkR_c rfl CkR_nil⟩ (allL_c ⟨some _, rfl, BkR_m (enc := eI) rfl (fun _ => (loose_int _ _))⟩ allL_n)))
    refine hK2 ?_; clear hK1 hK2 K1 K2
    refine HT_fr DC_ok rfl fun K hK => ?_; (conv => whnf)
    replace h := W_jn h
    refine cond_lk h (fun _ h => ?_) (fun _ h => ?_) <;> (conv => whnf)
    · refine nlA rfl ?_; (conv => whnf)
      refine blkK_of rfl ?_; (conv => whnf)
      refine getK_of rfl ?_; (conv => whnf)
      refine hK _ _ _ ?_; clear hK K
      refine HT_if fun K1 K2 hK1 hK2 => ?_; (conv => whnf)
      refine cond_lk h (fun _ h => ?_) (fun _ h => ?_)
      · refine hK1 ?_; clear hK1 hK2 K1 K2
        refine HT_exit ?_
        refine Then_e ?_
        refine InBlock_e ?_
        refine Then_n ?_
        refine HT_f DC_ok rfl fun K hK => ?_; (conv => whnf)
        refine hK _ _ _ ?_; clear hK K
        refine Then_n ?_
        replace h := W_xnx h
        refine ⟨_, h, ?_⟩
        refine weak_k ?_; (conv => whnf)
        exact And.intro rfl (And.intro (allL_c (WkR.tok (fun _ => rfl) rfl (fun _ _ => Wk.refl _) (fun _ => (lo_TTicket _))) (allL_c wkI (allL_c (WkR.mp (fun _ => rfl)) (allL_c wkI (allL_c (wkr (loose_lst fun _ => (lo_TAttempt _))) (allL_c wkI allL_n)))))) (allL_c ⟨some _, rfl, BkR_c rfl CkR_nil⟩ (allL_c ⟨some _, rfl, BkR_m (enc := eI) rfl (fun _ => (loose_int _ _))⟩ allL_n)))
      refine hK2 ?_; clear hK1 hK2 K1 K2
      refine HT_skip ?_
      refine Then_n ?_
      refine HT_f DC_ok rfl fun K hK => ?_; (conv => whnf)
      refine nlA rfl ?_; (conv => whnf)
      refine blkK_of rfl ?_; (conv => whnf)
      refine nlA rfl ?_; (conv => whnf)
      refine lt_lk (enc := eTTicket) (d := default) DC_ok h rfl rfl rfl ⟨nle rfl, nle rfl, rfl⟩ rfl ⟨⟨rfl, nle rfl⟩, trivial⟩ (fun h => ?_); (conv => whnf)
      refine ap_lk (enc := eTTicket) (d := default) DC_ok h (.inl rfl) rfl rfl rfl ⟨rfl, nle rfl, nle rfl, nle rfl, rfl⟩ (fun _ => rfl) (.inr (.inr ⟨_, _, rfl, rfl, rfl⟩)) (fun h => ?_); (conv => whnf)
      refine hK _ _ _ ?_; clear hK K
      refine InBlock_n ?_
      refine Then_n ?_
      refine HT_f DC_ok rfl fun K hK => ?_; (conv => whnf)
      refine hK _ _ _ ?_; clear hK K
      refine Then_n ?_
      replace h := W_xnx h
      refine ⟨_, h, ?_⟩
      refine weak_k ?_; (conv => whnf)
      exact And.intro rfl (And.intro (allL_c (WkR.tok (fun _ => rfl) rfl (fun _ _ => Wk.refl _) (fun _ => (lo_TTicket _))) (allL_c wkI (allL_c (WkR.mp (fun _ => rfl)) (allL_c wkI (allL_c (wkr (loose_lst fun _ => (lo_TAttempt _))) (allL_c wkI allL_n)))))) (allL_c ⟨some _, rfl, BkR_c rfl CkR_nil⟩ (allL_c ⟨some _, rfl, BkR_m (enc := eI) rfl (fun _ => (loose_int _ _))⟩ allL_n)))
    refine hK _ _ _ ?_; clear hK K
    refine HT_if fun K1 K2 hK1 hK2 => ?_; (conv => whnf)
    refine hK2 ?_; clear hK1 hK2 K1 K2
    replace h := W_cnF h
    refine HT_skip ?_
    refine Then_n ?_
    refine HT_f DC_ok rfl fun K hK => ?_; (conv => whnf)
    refine nlA rfl ?_; (conv => whnf)
    refine blkK_of rfl ?_; (conv => whnf)
    refine nlA rfl ?_; (conv => whnf)
    refine lt_lk (enc := eTTicket) (d := default) DC_ok h rfl rfl rfl ⟨nle rfl, nle rfl, rfl⟩ rfl ⟨⟨rfl, nle rfl⟩, trivial⟩ (fun h => ?_); (conv => whnf)
    refine ap_lk (enc := eTTicket) (d := default) DC_ok h (.inl rfl) rfl rfl rfl ⟨rfl, nle rfl, nle rfl, nle rfl, rfl⟩ (fun _ => rfl) (.inr (.inr ⟨_, _, rfl, rfl, rfl⟩)) (fun h => ?_); (conv => whnf)
    refine hK _ _ _ ?_; clear hK K
    refine InBlock_n ?_
    refine Then_n ?_
    refine HT_f DC_ok rfl fun K hK => ?_; (conv => whnf)
    refine hK _ _ _ ?_; clear hK K
    refine Then_n ?_
    replace h := W_xnx h
    refine ⟨_, h, ?_⟩
    refine weak_k ?_; (conv => whnf)
    exact And.intro rfl (And.intro (allL_c (WkR.tok (fun _ => rfl) rfl (fun _ _ => Wk.refl _) (fun _ => (lo_TTicket _))) (allL_c wkI (allL_c (WkR.mp (fun _ => rfl)) (allL_c wkI (allL_c (wkr (loose_lst fun _ => (lo_TAttempt _))) (allL_c wkI allL_n)))))) (allL_c ⟨some _, rfl, BkR_c rfl CkR_nil⟩ (allL_c ⟨some _, rfl, BkR_m (enc := eI) rfl (fun _ => (loose_int _ _))⟩ allL_n)))
  refine hK2 ?_; clear hK1 hK2 K1 K2
  refine HT_exit ?_
  refine Then_e ?_
  refine Then_e ?_
  refine InBlock_e ?_
  replace h := W_xbk h
  replace h := W_inl h
  refine Then_n ?_
  refine HT_fr DC_ok rfl fun K hK => ?_; (conv => whnf)
  refine hK _ _ _ ?_; clear hK K
  refine HT_ret ?_
  refine NoGoto_r ?_
  replace h := W_some h
  refine PostP_r DC_ok fun K hK => ?_; (conv => whnf)
  refine hK _ ?_; clear hK K
  cases h
  exact Wk_tup (WkL_cons Wk_free (WkL_cons (Wk.refl _) (WkL_cons (Wk.refl _) WkL_nil)))
theorem recovery_Storm_call {T : Tbl} (hT : T 34 = pureR recovery_Storm_S) {args : List AV} {hp : Heap} {id : Nat} {k : AV → Prop} {a0 : TRegion} {a1 : List TAttempt} {a2 : Int} {Φ : (List TTicket) × Int × Int → Prop} (h : W (recovery_Storm_F a0 a1 a2) Φ) (hw : WkL args [eTRegion a0, (eL 3 eTAttempt default) a1, eI a2]) (hk : ∀ y, Φ y → k (.tup [(eL 3 eTTicket default) y.1, eI y.2.1, eI y.2.2])) : callpK T 34 args hp id k := by
  obtain ⟨y, e, hy⟩ := W_inv h
  exact callpK_pure hT ⟨a0, a1, a2, rfl, W_of e rfl⟩ (by exact loose_tup (loose_cons (loose_lst fun _ => (lo_TTicket _)) (loose_cons (loose_int _ _) (loose_cons (loose_int _ _) loose_nil)))) hw (hk y hy)
end Go.Proofs.Ytcidmnpihffphaa
namespace Go.Proofs.Ytcidmnpihffphaa
open Go Go.Eng
set_option maxHeartbeats 0
set_option maxRecDepth 100000
def okM (m : GM Int) : Prop := (∀ p ∈ m.es, p.1 < m.clk ∧ 0 ≤ p.2.1) ∧ (m.es.map (·.1)).Nodup
instance (m : GM Int) : Decidable (okM m) := by unfold okM; infer_instance
def safeStep (S s k v : Int) : Int := if v > S ∧ (s < 0 ∨ k < s) then k else s
def safe_b (S s k v : Int) : Option Int := jn (fun p : Bool => cn p (some k) (some s)) fun kk => cn (decide (v > S)) (cn (decide (s < 0)) (kk true) (kk (decide (k < s)))) (kk false)
theorem safe_b_eq (S s k v : Int) : safe_b S s k v = some (safeStep S s k v) := by
  unfold safe_b safeStep
  simp only [jn_d, cn_dec]
  by_cases h1 : v > S
  · by_cases h2 : s < 0
    · simp [h1, h2, cn]
    · by_cases h3 : k < s <;> simp [h1, h2, h3, cn]
  · simp [h1, cn]
theorem safe_comm {S : Int} {x y : Nat × Int × Int} (hx : 0 ≤ x.2.1) (hy : 0 ≤ y.2.1) (z : Int) : safeStep S (safeStep S z x.2.1 x.2.2) y.2.1 y.2.2 = safeStep S (safeStep S z y.2.1 y.2.2) x.2.1 x.2.2 := by
  unfold safeStep
  repeat' split
  all_goals omega
theorem safe_perm {S : Int} {m : GM Int} (hg : okM m) {L : List (Nat × Int × Int)} (h : L.Perm m.es) : L.foldl (fun s p => safeStep S s p.2.1 p.2.2) (-1) = m.es.foldl (fun s p => safeStep S s p.2.1 p.2.2) (-1) :=
  h.foldl_eq' (fun x hx y hy z => safe_comm (hg.1 x (h.mem_iff.1 hx)).2 (hg.1 y (h.mem_iff.1 hy)).2 z) _
def recovery_Safe_F (a0 : TRegion) (a1 : List TAttempt) : Option (Int × Bool) := bd (recovery_loads_F a0 a1) fun y => mo y (some ((-1), false)) fun m =>
  gd (okM m) (some (m.es.foldl (fun s p => safeStep a0.Signals s p.2.1 p.2.2) (-1), decide (m.es.foldl (fun s p => safeStep a0.Signals s p.2.1 p.2.2) (-1) < 0)))
def recovery_Safe_S : List AV → AV → Prop := fun args r => ∃ a0 a1, args = [eTRegion a0, (eL 3 eTAttempt default) a1] ∧ W (recovery_Safe_F a0 a1) fun y => r = (.tup [eI y.1, eB y.2])
theorem recovery_Safe_ok {T : Tbl} (hT : TOk Try.prog T) (hpf : PfOk T PF) (h44 : T 44 = loads_R) : FOk Try.prog 20 (pureR recovery_Safe_S) := by
  refine FOk_pure hT hpf Try.func20 rfl Try.ntmps20 Try.results20 (by decide) ?_
  rintro args r ⟨a0, a1, rfl, h⟩
  refine ⟨nle rfl, ?_, ?_⟩
  · exact (loose_cons (lo_TRegion _) (loose_cons (loose_lst fun _ => (lo_TAttempt _)) loose_nil))
  rw [recovery_Safe_F.eq_1] at h
  refine HT_fr DC_ok rfl fun K hK => ?_; (conv => whnf)
  refine hK _ _ _ ?_; clear hK K
  refine HT_fr DC_ok rfl fun K hK => ?_; (conv => whnf)
  refine nlA rfl ?_; (conv => whnf)
  refine blkK_of rfl ?_; (conv => whnf)
  refine nlA rfl ?_; (conv => whnf)
  refine callsK_loads h44 h (WkL_cons (Wk.refl _) (WkL_cons (Wk.refl _) WkL_nil)) (fun h => ?_) (fun m h => ?_) <;> (conv => whnf)
  · refine hK _ _ _ ?_; clear hK K
    refine HT_fr DC_ok rfl fun K hK => ?_; (conv => whnf)
    refine hK _ _ _ ?_; clear hK K
    refine HT_seq ?_
    refine HT_rmapN ⟨rfl, rfl, rfl⟩ ⟨rfl, rfl, rfl⟩ ⟨rfl, rfl, rfl⟩ ⟨rfl, rfl, rfl⟩ Try.underlying72 (by decide) rfl ?_
    refine Then_n ?_
    refine HT_fr DC_ok rfl fun K hK => ?_; (conv => whnf)
    refine hK _ _ _ ?_; clear hK K
    refine HT_ret ?_
    replace h := W_some h
    refine PostP_r DC_ok fun K hK => ?_; (conv => whnf)
    refine hK _ ?_; clear hK K
    cases h
    exact Wk.refl _
  refine hK _ _ _ ?_; clear hK K
  refine HT_fr DC_ok rfl fun K hK => ?_; (conv => whnf)
  refine hK _ _ _ ?_; clear hK K
  refine HT_seq ?_
  refine gd_lk_u h fun hg h => ?_
  refine HT_rmap (m := m) (S := Int) rfl rfl ⟨rfl, rfl, rfl⟩ ⟨rfl, rfl, rfl⟩ ⟨rfl, rfl, rfl⟩ ⟨rfl, rfl, rfl⟩ ⟨rfl, rfl, rfl⟩ ⟨rfl, rfl, rfl⟩ ⟨rfl, rfl, rfl⟩ ⟨rfl, rfl, rfl⟩ ⟨rfl, rfl, rfl⟩ Try.underlying72 (by decide) (by decide) rfl rfl ⟨fun p hp => (hg.1 p hp).1, hg.2⟩
    (fun s => ⟨ofL [(2, .ptr 33 0), (7, eB true), (8, eI s), (18, .ptr 63 0)], ofH [(33, .cells [eL 2 eTGrowth default a0.Steps, eI a0.Signals])], 4096⟩) (-1) (safeStep a0.Signals) ?_ (fun _ => rfl) (fun _ => ⟨rfl, rfl, rfl, rfl, rfl⟩) ?_ ?_
  · refine weak_kN ?_; (conv => whnf)
    exact And.intro rfl (And.intro (allL_c (WkR.ptr (fun _ => rfl)) (allL_c (wkr (loose_bool _)) (allL_c wkI (allL_c (WkR.ptr (fun _ => rfl)) allL_n)))) (allL_c ⟨some _, rfl, BkR_c rfl (CkR_cons (wkr (loose_lst fun _ => (lo_TGrowth _))) (CkR_cons wkI CkR_nil))⟩ allL_n))
  · intro s b k v hp
    replace h : W (safe_b a0.Signals s k v) (fun z => z = safeStep a0.Signals s k v) := W_of (safe_b_eq _ _ _ _) rfl
    rw [safe_b.eq_1] at h
    refine HT_fr DC_ok rfl fun K hK => ?_; (conv => whnf)
    replace h := W_jn h
    refine nlA rfl ?_; (conv => whnf)
    refine blkK_of rfl ?_; (conv => whnf)
    refine getK_of rfl ?_; (conv => whnf)
    refine cond_lk h (fun _ h => ?_) (fun _ h => ?_) <;> (conv => whnf)
    · refine cond_lk h (fun _ h => ?_) (fun _ h => ?_) <;> (conv => whnf)
      · refine hK _ _ _ ?_; clear hK K
        refine HT_if fun K1 K2 hK1 hK2 => ?_; (conv => whnf)
        refine hK1 ?_; clear hK1 hK2 K1 K2
        replace h := W_cnT h
        replace h := W_some h
        refine HT_f DC_ok rfl fun K hK => ?_; (conv => whnf)
        refine hK _ _ _ ?_; clear hK K
        refine ⟨.inl rfl, ?_⟩
        rw [← h]
        refine weak_k ?_; (conv => whnf)
        exact And.intro rfl (And.intro (allL_c (WkR.ptr (fun _ => rfl)) (allL_c (wkr (loose_bool _)) (allL_c wkI (allL_c (WkR.ptr (fun _ => rfl)) allL_n)))) (allL_c ⟨some _, rfl, BkR_c rfl (CkR_cons (wkr (loose_lst fun _ => (lo_TGrowth _))) (CkR_cons wkI CkR_nil))⟩ allL_n))
      · refine hK _ _ _ ?_; clear hK K
        refine HT_if fun K1 K2 hK1 hK2 => ?_; (conv => whnf)
        refine cond_lk h (fun _ h => ?_) (fun _ h => ?_)
        · refine hK1 ?_; clear hK1 hK2 K1 K2
          replace h := W_some h
          refine HT_f DC_ok rfl fun K hK => ?_; (conv => whnf)
          refine hK _ _ _ ?_; clear hK K
          refine ⟨.inl rfl, ?_⟩
          rw [← h]
          refine weak_k ?_; (conv => whnf)
          exact And.intro rfl (And.intro (allL_c (WkR.ptr (fun _ => rfl)) (allL_c (wkr (loose_bool _)) (allL_c wkI (allL_c (WkR.ptr (fun _ => rfl)) allL_n)))) (allL_c ⟨some _, rfl, BkR_c rfl (CkR_cons (wkr (loose_lst fun _ => (lo_TGrowth _))) (CkR_cons wkI CkR_nil))⟩ allL_n))
        · refine hK2 ?_; clear hK1 hK2 K1 K2
          replace h := W_some h
          refine HT_skip ?_
          refine ⟨.inl rfl, ?_⟩
          rw [← h]
          refine weak_k ?_; (conv => whnf)
          exact And.intro rfl (And.intro (allL_c (WkR.ptr (fun _ => rfl)) (allL_c (wkr (loose_bool _)) (allL_c wkI (allL_c (WkR.ptr (fun _ => rfl)) allL_n)))) (allL_c ⟨some _, rfl, BkR_c rfl (CkR_cons (wkr (loose_lst fun _ => (lo_TGrowth _))) (CkR_cons wkI CkR_nil))⟩ allL_n))
    · refine hK _ _ _ ?_; clear hK K
      refine HT_if fun K1 K2 hK1 hK2 => ?_; (conv => whnf)
      refine hK2 ?_; clear hK1 hK2 K1 K2
      replace h := W_cnF h
      replace h := W_some h
      refine HT_skip ?_
      refine ⟨.inl rfl, ?_⟩
      rw [← h]
      refine weak_k ?_; (conv => whnf)
      exact And.intro rfl (And.intro (allL_c (WkR.ptr (fun _ => rfl)) (allL_c (wkr (loose_bool _)) (allL_c wkI (allL_c (WkR.ptr (fun _ => rfl)) allL_n)))) (allL_c ⟨some _, rfl, BkR_c rfl (CkR_cons (wkr (loose_lst fun _ => (lo_TGrowth _))) (CkR_cons wkI CkR_nil))⟩ allL_n))
  · intro L' hL
    refine Then_n ?_
    rw [safe_perm hg hL]
    refine HT_fr DC_ok rfl fun K hK => ?_; (conv => whnf)
    refine hK _ _ _ ?_; clear hK K
    refine HT_ret ?_
    replace h := W_some h
    refine PostP_r DC_ok fun K hK => ?_; (conv => whnf)
    refine hK _ ?_; clear hK K
    cases h
    exact Wk.refl _
theorem recovery_Safe_call {T : Tbl} (hT : T 20 = pureR recovery_Safe_S) {args : List AV} {hp : Heap} {id : Nat} {k : AV → Prop} {a0 : TRegion} {a1 : List TAttempt} {Φ : Int × Bool → Prop} (h : W (recovery_Safe_F a0 a1) Φ) (hw : WkL args [eTRegion a0, (eL 3 eTAttempt default) a1]) (hk : ∀ y, Φ y → k (.tup [eI y.1, eB y.2])) : callpK T 20 args hp id k := by
  obtain ⟨y, e, hy⟩ := W_inv h
  exact callpK_pure hT ⟨a0, a1, rfl, W_of e rfl⟩ (by exact loose_tup (loose_cons (loose_int _ _) (loose_cons (loose_bool _) loose_nil))) hw (hk y hy)
end Go.Proofs.Ytcidmnpihffphaa
