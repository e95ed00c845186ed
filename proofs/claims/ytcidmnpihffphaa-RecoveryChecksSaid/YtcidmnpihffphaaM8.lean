import Derived.Test.YtcidmnpihffphaaM7
set_option linter.unusedVariables false
set_option linter.unusedSimpArgs false
set_option linter.unusedSectionVars false
/-! V12 -/
namespace Go.Proofs.Ytcidmnpihffphaa
open Go Go.Eng
set_option maxHeartbeats 0
set_option maxRecDepth 100000
/-! dialtonelaw34.RecoveryChecks -/
def law34_RecoveryChecks_F (a0 : List (Int × Int)) (a1 : Int) (a2 : List (Int × Int)) (a3 : Int) (a4 : Int) (a5 : Int) (a6 : Int) : Option Bool := bd (law34_sane_F ) fun y1 =>
    cn (!y1) (some false) (bd (ref34_Made_F a0 a1) fun y2 => bd (ref34_Attempts_F a2) fun y3 => bd (recovery_Plan_F y2 y3) fun y4 => jn (fun p5 : Int × Int × Bool =>
    cn p5.2.2 (some false) (lt ([] : List TTicket) fun l8 => gd (y4.1.length ≤ 1048576) (lt y4.1 fun l9 => cn ((l9.length : Int) ==
    0) (lt ([(⟨0, 0, 0⟩ : TTicket)] : List TTicket) fun l10 => bd (recovery_Check_F y2 y3 l10) fun y11 => some (!y11)) (bd (law34_pick_F a3 (l9.length : Int)) fun y12 =>
    bd (law34_pick_F a4 (l9.length : Int)) fun y13 => bd (law34_pick_F p5.1 5) fun y14 => jn (fun p15 : (List TTicket) => jn (fun p31 : Bool => some p31) fun k32 =>
    bd (recovery_Check_F y2 y3 p15) fun y33 => bd (law34_pick_F p5.1 5) fun y34 => cn (y34 == 2) (k32 (y33 == (y12 == y13))) (k32 (y33 == false))) fun k16 => cn (y14 ==
    0) (gd (0 ≤ y12 ∧ y12 < (l9.length : Int)) (bd (law34_pick_F p5.2.1 3) fun y17 =>
    gd (0 ≤ y12 ∧ y12 < (l9.length : Int)) (st l9 (y12) (⟨(l9.getD (y12).toNat default).Caller, (l9.getD (y12).toNat default).First, (wr ((wr (((l9.getD (y12).toNat default).At) + 1)) + y17))⟩ : TTicket) fun l18 =>
    k16 l18))) (jn (fun p19 : (List TTicket) => k16 p19) fun k20 => cn (y14 ==
    1) (gd (0 ≤ y12 ∧ y12 < (l9.length : Int)) (gd (0 ≤ y12 ∧ y12 < (l9.length : Int)) (st l9 (y12) (⟨(l9.getD (y12).toNat default).Caller, (wr (((l9.getD (y12).toNat default).First) - 1)), (l9.getD (y12).toNat default).At⟩ : TTicket) fun l21 =>
    k20 l21))) (jn (fun p22 : (List TTicket) => k20 p22) fun k23 => cn (y14 ==
    2) (gd (0 ≤ y13 ∧ y13 < (l9.length : Int)) (gd (0 ≤ y12 ∧ y12 < (l9.length : Int)) (gd (0 ≤ y12 ∧ y12 < (l9.length : Int)) (st l9 (y12) (l9.getD (y13).toNat default) fun l24 =>
    gd (0 ≤ y13 ∧ y13 < (l24.length : Int)) (st l24 (y13) (l9.getD (y12).toNat default) fun l25 => k23 l25))))) (jn (fun p26 : (List TTicket) => k23 p26) fun k27 => cn (y14 ==
    3) (gd (0 ≤ 0 ∧ 0 ≤ y12 ∧ y12 ≤ (l9.length : Int)) (gd (0 ≤ (wr (y12 + 1)) ∧ (wr (y12 + 1)) ≤ (l9.length : Int) ∧ (l9.length : Int) ≤ (l9.length : Int)) (gd ((y12).toNat + (l9.length - ((wr (y12 + 1))).toNat) ≤ 1048576) (lt (l9.take (y12).toNat ++ l9.drop ((wr (y12 + 1))).toNat) fun l28 =>
    k27 l28)))) (gd (0 ≤ y12 ∧ y12 < (l9.length : Int)) (lt ([(l9.getD (y12).toNat default)] : List TTicket) fun l29 => ap l9 l29 fun l30 => k27 l30))))))))) fun k6 => cn (y4.2 !=
    0) (k6 (a5, a6, true)) (bd (recovery_Check_F y2 y3 y4.1) fun y7 => k6 (a5, a6, (!y7))))
def law34_RecoveryChecks_S : List AV → AV → Prop := fun args r => ∃ a0 a1 a2 a3 a4 a5 a6, args = [(eL 2 eA71 default) a0, eI a1, (eL 2 eA71 default) a2, eI a3, eI a4, eI a5, eI a6] ∧ W (law34_RecoveryChecks_F a0 a1 a2 a3 a4 a5 a6) fun y => r = (eB y)
theorem law34_RecoveryChecks_ok {T : Tbl} (hT : TOk Try.prog T) (hpf : PfOk T PF) (h13 : T 13 = pureR law34_sane_S) (h14 : T 14 = pureR ref34_Made_S) (h15 : T 15 = pureR ref34_Attempts_S) (h18 : T 18 = pureR recovery_Plan_S) (h29 : T 29 = pureR law34_pick_S) (h36 : T 36 = pureR recovery_Check_S) : FOk Try.prog 12 (pureR law34_RecoveryChecks_S) := by
  refine FOk_pure hT hpf Try.func12 rfl Try.ntmps12 Try.results12 (by decide) ?_
  rintro args r ⟨a0, a1, a2, a3, a4, a5, a6, rfl, h⟩
  refine ⟨Nat.le_of_ble_eq_true rfl, ?_, ?_⟩
  · exact (loose_cons (loose_lst fun _ => (lo_A71 _)) (loose_cons (loose_int _ _) (loose_cons (loose_lst fun _ => (lo_A71 _)) (loose_cons (loose_int _ _) (loose_cons (loose_int _ _) (loose_cons (loose_int _ _) (loose_cons (loose_int _ _) loose_nil)))))))
  rw [law34_RecoveryChecks_F.eq_1] at h
  refine HT_fr DC_ok rfl fun K hK => ?_; (conv => whnf)
  refine hK _ _ _ ?_; clear hK K
  refine HT_fr DC_ok rfl fun K hK => ?_; (conv => whnf)
  replace h := W_bd h
  refine law34_sane_call h13 h (WkL.refl _) (fun _ h => ?_); (conv => whnf)
  refine hK _ _ _ ?_; clear hK K
  refine HT_seq ?_
  refine HT_fr DC_ok rfl fun K hK => ?_; (conv => whnf)
  refine hK _ _ _ ?_; clear hK K
  refine HT_if fun K1 K2 hK1 hK2 => ?_; (conv => whnf)
  refine cond_lk h (fun _ h => ?_) (fun _ h => ?_)
  · refine hK1 ?_; clear hK1 hK2 K1 K2
    refine HT_fr DC_ok rfl fun K hK => ?_; (conv => whnf)
    refine hK _ _ _ ?_; clear hK K
    refine HT_ret ?_
    refine Then_r ?_
    replace h := W_some h
    refine PostP_r DC_ok fun K hK => ?_; (conv => whnf)
    refine hK _ ?_; clear hK K
    cases h
    exact Wk.refl _
  refine hK2 ?_; clear hK1 hK2 K1 K2
  refine HT_skip ?_
  refine Then_n ?_
  refine HT_fr DC_ok rfl fun K hK => ?_; (conv => whnf)
  replace h := W_bd h
  refine ref34_Made_call h14 h (WkL.refl _) (fun _ h => ?_); (conv => whnf)
  refine blkK_of rfl ?_; (conv => whnf)
  refine And.intro rfl (And.intro (Nat.le_of_ble_eq_true rfl) (And.intro rfl ?_)); (conv => whnf)
  refine hK _ _ _ ?_; clear hK K
  refine HT_fr DC_ok rfl fun K hK => ?_; (conv => whnf)
  replace h := W_bd h
  refine ref34_Attempts_call h15 h (WkL.refl _) (fun _ h => ?_); (conv => whnf)
  refine hK _ _ _ ?_; clear hK K
  refine HT_fr DC_ok rfl fun K hK => ?_; (conv => whnf)
  refine And.intro (Nat.le_of_ble_eq_true rfl) ?_; (conv => whnf)
  refine blkK_of rfl ?_; (conv => whnf)
  refine And.intro (Nat.le_of_ble_eq_true rfl) ?_; (conv => whnf)
  replace h := W_bd h
  refine recovery_Plan_call h18 h (WkL.refl _) (fun _ h => ?_); (conv => whnf)
  refine hK _ _ _ ?_; clear hK K
  refine HT_seq ?_
  refine HT_fr DC_ok rfl fun K hK => ?_; (conv => whnf)
  replace h := W_jn h
  refine cond_lk h (fun _ h => ?_) (fun _ h => ?_) <;> (conv => whnf)
  · refine hK _ _ _ ?_; clear hK K
    refine HT_if fun K1 K2 hK1 hK2 => ?_; (conv => whnf)
    refine hK1 ?_; clear hK1 hK2 K1 K2
    replace h := W_cnT h
    refine HT_fr DC_ok rfl fun K hK => ?_; (conv => whnf)
    refine hK _ _ _ ?_; clear hK K
    refine HT_ret ?_
    refine Then_r ?_
    replace h := W_some h
    refine PostP_r DC_ok fun K hK => ?_; (conv => whnf)
    refine hK _ ?_; clear hK K
    cases h
    exact Wk.refl _
  refine And.intro (Nat.le_of_ble_eq_true rfl) ?_; (conv => whnf)
  refine blkK_of rfl ?_; (conv => whnf)
  refine And.intro (Nat.le_of_ble_eq_true rfl) ?_; (conv => whnf)
  replace h := W_bd h
  refine recovery_Check_call h36 h (WkL.refl _) (fun _ h => ?_); (conv => whnf)
  refine hK _ _ _ ?_; clear hK K
  refine HT_if fun K1 K2 hK1 hK2 => ?_; (conv => whnf)
  refine cond_lk h (fun _ h => ?_) (fun _ h => ?_)
  · refine hK1 ?_; clear hK1 hK2 K1 K2
    refine HT_fr DC_ok rfl fun K hK => ?_; (conv => whnf)
    refine hK _ _ _ ?_; clear hK K
    refine HT_ret ?_
    refine Then_r ?_
    replace h := W_some h
    refine PostP_r DC_ok fun K hK => ?_; (conv => whnf)
    refine hK _ ?_; clear hK K
    cases h
    exact Wk.refl _
  refine hK2 ?_; clear hK1 hK2 K1 K2
  refine HT_skip ?_
  refine Then_n ?_
  refine HT_fr DC_ok rfl fun K hK => ?_; (conv => whnf)
  refine lt_lk (enc := eTTicket) (d := default) DC_ok h rfl rfl rfl ⟨Nat.le_of_ble_eq_true rfl, Nat.le_of_ble_eq_true rfl, rfl⟩ rfl trivial (fun h => ?_); (conv => whnf)
  refine gd_lk_u h fun hg h => ?_
  replace h := W_lt h
  refine apcf_lk (enc := eTTicket) (d := default) DC_ok rfl rfl rfl ⟨rfl, Nat.le_of_ble_eq_true rfl, Nat.le_of_ble_eq_true rfl, Nat.le_of_ble_eq_true rfl, rfl⟩ (fun _ => rfl) (fun _ => nofun) hg ?_; (conv => whnf)
  refine hK _ _ _ ?_; clear hK K
  refine HT_seq ?_
  refine HT_fr DC_ok rfl fun K hK => ?_; (conv => whnf)
  refine hK _ _ _ ?_; clear hK K
  refine HT_if fun K1 K2 hK1 hK2 => ?_; (conv => whnf)
  refine cond_lk h (fun _ h => ?_) (fun _ h => ?_)
  · refine hK1 ?_; clear hK1 hK2 K1 K2
    refine HT_fr DC_ok rfl fun K hK => ?_; (conv => whnf)
    refine And.intro (Nat.le_of_ble_eq_true rfl) ?_; (conv => whnf)
    refine blkK_of rfl ?_; (conv => whnf)
    refine And.intro (Nat.le_of_ble_eq_true rfl) ?_; (conv => whnf)
    refine lt_lk (enc := eTTicket) (d := default) DC_ok h rfl rfl rfl ⟨Nat.le_of_ble_eq_true rfl, Nat.le_of_ble_eq_true rfl, rfl⟩ rfl ⟨⟨rfl, Nat.le_of_ble_eq_true rfl⟩, trivial⟩ (fun h => ?_); (conv => whnf)
    replace h := W_bd h
    refine recovery_Check_call h36 h (WkL_cons (Wk.refl _) (WkL_cons (Wk.refl _) (WkL_cons Wk_free WkL_nil))) (fun _ h => ?_); (conv => whnf)
    refine hK _ _ _ ?_; clear hK K
    refine HT_ret ?_
    refine Then_r ?_
    replace h := W_some h
    refine PostP_r DC_ok fun K hK => ?_; (conv => whnf)
    refine hK _ ?_; clear hK K
    cases h
    exact Wk.refl _
  refine hK2 ?_; clear hK1 hK2 K1 K2
  refine HT_skip ?_
  refine Then_n ?_
  refine HT_fr DC_ok rfl fun K hK => ?_; (conv => whnf)
  replace h := W_bd h
  refine law34_pick_call h29 h (WkL.refl _) (fun _ h => ?_); (conv => whnf)
  refine hK _ _ _ ?_; clear hK K
  refine HT_fr DC_ok rfl fun K hK => ?_; (conv => whnf)
  replace h := W_bd h
  refine law34_pick_call h29 h (WkL.refl _) (fun _ h => ?_); (conv => whnf)
  refine hK _ _ _ ?_; clear hK K
  refine HT_seq ?_
  refine HT_fr DC_ok rfl fun K hK => ?_; (conv => whnf)
  replace h := W_bd h
  refine law34_pick_call h29 h (WkL.refl _) (fun _ h => ?_); (conv => whnf)
  refine hK _ _ _ ?_; clear hK K
  refine HT_block ?_
  refine HT_fr DC_ok rfl fun K hK => ?_; (conv => whnf)
  refine hK _ _ _ ?_; clear hK K
  replace h := W_jn h
  refine HT_if fun K1 K2 hK1 hK2 => ?_; (conv => whnf)
  refine cond_lk h (fun _ h => ?_) (fun _ h => ?_)
  · refine hK1 ?_; clear hK1 hK2 K1 K2
    refine HT_fD DC_ok mix_ok rfl (by kernel_rfl) fun K hK => ?_; (conv => whnf)
    refine gd_lkN h (rfl) fun hx323 h => ?_; (conv => whnf)
    refine And.intro (Nat.le_of_ble_eq_true rfl) ?_; (conv => whnf)
    refine blkK_of rfl ?_; (conv => whnf)
    refine get_flN (enc := eTTicket) (d := default) (q := 2) (fun _ => rfl) (rfl) hx323 (Nat.le_of_ble_eq_true rfl) rfl ?_; (conv => whnf)
    replace h := W_bd h
    refine law34_pick_call h29 h (WkL.refl _) (fun _ h => ?_); (conv => whnf)
    refine gd_lkN h (rfl) fun hx324 h => ?_; (conv => whnf)
    refine blkK_of rfl ?_; (conv => whnf)
    refine st_lk (enc := eTTicket) (d := default) (q := 2) h (fun _ => rfl) (rfl) hx324 rfl (Nat.le_of_ble_eq_true rfl) rfl rfl (fun h => ?_); (conv => whnf)
    refine hK _ _ _ ?_; clear hK K
    refine InBlock_n ?_
    refine Then_n ?_
    refine HT_frzSK 20 (enc := eTTicket) (e := 53) default (ElOk_agg DC_ok rfl rfl (fun _ => rfl) (fun _ => rfl)) ?_; (conv => whnf); refine ⟨_, _, rfl, (lenset rfl).symm, rfl, ?_⟩
    refine HT_fr DC_ok rfl fun K hK => ?_; (conv => whnf)
    replace h := W_jn h
    refine And.intro (Nat.le_of_ble_eq_true rfl) ?_; (conv => whnf)
    refine blkK_of rfl ?_; (conv => whnf)
    refine And.intro (Nat.le_of_ble_eq_true rfl) ?_; (conv => whnf)
    replace h := W_bd h
    refine recovery_Check_call h36 h (WkL.refl _) (fun _ h => ?_); (conv => whnf)
    replace h := W_bd h
    refine law34_pick_call h29 h (WkL.refl _) (fun _ h => ?_); (conv => whnf)
    refine cond_lk h (fun _ h => ?_) (fun _ h => ?_) <;> (conv => whnf)
    · refine eqK_e (eqv_bool DC_ok rfl _ _) ?_; (conv => whnf)
      refine hK _ _ _ ?_; clear hK K
      refine HT_ret ?_
      replace h := W_some h
      refine PostP_r DC_ok fun K hK => ?_; (conv => whnf)
      refine hK _ ?_; clear hK K
      cases h
      exact Wk.refl _
    refine eqK_e (eqv_bool DC_ok rfl _ _) ?_; (conv => whnf)
    refine hK _ _ _ ?_; clear hK K
    refine HT_ret ?_
    replace h := W_some h
    refine PostP_r DC_ok fun K hK => ?_; (conv => whnf)
    refine hK _ ?_; clear hK K
    cases h
    exact Wk.refl _
  refine hK2 ?_; clear hK1 hK2 K1 K2
  refine HT_fr DC_ok rfl fun K hK => ?_; (conv => whnf)
  refine hK _ _ _ ?_; clear hK K
  replace h := W_jn h
  refine HT_if fun K1 K2 hK1 hK2 => ?_; (conv => whnf)
  refine cond_lk h (fun _ h => ?_) (fun _ h => ?_)
  · refine hK1 ?_; clear hK1 hK2 K1 K2
    refine HT_f DC_ok rfl fun K hK => ?_; (conv => whnf)
    refine gd_lkN h (rfl) fun hx347 h => ?_; (conv => whnf)
    refine And.intro (Nat.le_of_ble_eq_true rfl) ?_; (conv => whnf)
    refine blkK_of rfl ?_; (conv => whnf)
    refine get_flN (enc := eTTicket) (d := default) (q := 1) (fun _ => rfl) (rfl) hx347 (Nat.le_of_ble_eq_true rfl) rfl ?_; (conv => whnf)
    refine gd_lkN h (rfl) fun hx348 h => ?_; (conv => whnf)
    refine blkK_of rfl ?_; (conv => whnf)
    refine st_lk (enc := eTTicket) (d := default) (q := 1) h (fun _ => rfl) (rfl) hx348 rfl (Nat.le_of_ble_eq_true rfl) rfl rfl (fun h => ?_); (conv => whnf)
    refine hK _ _ _ ?_; clear hK K
    refine InBlock_n ?_
    refine Then_n ?_
    refine HT_frzSK 20 (enc := eTTicket) (e := 53) default (ElOk_agg DC_ok rfl rfl (fun _ => rfl) (fun _ => rfl)) ?_; (conv => whnf); refine ⟨_, _, rfl, (lenset rfl).symm, rfl, ?_⟩
    refine HT_fr DC_ok rfl fun K hK => ?_; (conv => whnf)
    replace h := W_jn h
    refine And.intro (Nat.le_of_ble_eq_true rfl) ?_; (conv => whnf)
    refine blkK_of rfl ?_; (conv => whnf)
    refine And.intro (Nat.le_of_ble_eq_true rfl) ?_; (conv => whnf)
    replace h := W_bd h
    refine recovery_Check_call h36 h (WkL.refl _) (fun _ h => ?_); (conv => whnf)
    replace h := W_bd h
    refine law34_pick_call h29 h (WkL.refl _) (fun _ h => ?_); (conv => whnf)
    refine cond_lk h (fun _ h => ?_) (fun _ h => ?_) <;> (conv => whnf)
    · refine eqK_e (eqv_bool DC_ok rfl _ _) ?_; (conv => whnf)
      refine hK _ _ _ ?_; clear hK K
      refine HT_ret ?_
      replace h := W_some h
      refine PostP_r DC_ok fun K hK => ?_; (conv => whnf)
      refine hK _ ?_; clear hK K
      cases h
      exact Wk.refl _
    refine eqK_e (eqv_bool DC_ok rfl _ _) ?_; (conv => whnf)
    refine hK _ _ _ ?_; clear hK K
    refine HT_ret ?_
    replace h := W_some h
    refine PostP_r DC_ok fun K hK => ?_; (conv => whnf)
    refine hK _ ?_; clear hK K
    cases h
    exact Wk.refl _
  refine hK2 ?_; clear hK1 hK2 K1 K2
  refine HT_fr DC_ok rfl fun K hK => ?_; (conv => whnf)
  refine hK _ _ _ ?_; clear hK K
  replace h := W_jn h
  refine HT_if fun K1 K2 hK1 hK2 => ?_; (conv => whnf)
  refine cond_lk h (fun _ h => ?_) (fun _ h => ?_)
  · refine hK1 ?_; clear hK1 hK2 K1 K2
    refine HT_fD DC_ok mix_ok rfl (by kernel_rfl) fun K hK => ?_; (conv => whnf)
    refine gd_lkN h (rfl) fun hx359 h => ?_; (conv => whnf)
    refine And.intro (Nat.le_of_ble_eq_true rfl) ?_; (conv => whnf)
    refine blkK_of rfl ?_; (conv => whnf)
    refine part_flN (enc := eTTicket) (d := default) (fun _ => rfl) (rfl) hx359 ?_; (conv => whnf)
    refine gd_lkN h (rfl) fun hx360 h => ?_; (conv => whnf)
    refine And.intro (Nat.le_of_ble_eq_true rfl) ?_; (conv => whnf)
    refine blkK_of rfl ?_; (conv => whnf)
    refine part_flN (enc := eTTicket) (d := default) (fun _ => rfl) (rfl) hx360 ?_; (conv => whnf)
    refine gd_lkN h (rfl) fun hx361 h => ?_; (conv => whnf)
    refine blkK_of rfl ?_; (conv => whnf)
    refine st_lk (enc := eTTicket) (d := default) (q := 0) h (fun _ => rfl) (rfl) hx361 rfl (Nat.le_of_ble_eq_true rfl) rfl rfl (fun h => ?_); (conv => whnf)
    refine gd_lkN h (lenset rfl) fun hx362 h => ?_; (conv => whnf)
    refine blkK_of rfl ?_; (conv => whnf)
    refine st_lk (enc := eTTicket) (d := default) (q := 0) h (fun _ => rfl) (lenset rfl) hx362 rfl (Nat.le_of_ble_eq_true rfl) rfl rfl (fun h => ?_); (conv => whnf)
    refine hK _ _ _ ?_; clear hK K
    refine InBlock_n ?_
    refine Then_n ?_
    refine HT_frzSK 20 (enc := eTTicket) (e := 53) default (ElOk_agg DC_ok rfl rfl (fun _ => rfl) (fun _ => rfl)) ?_; (conv => whnf); refine ⟨_, _, rfl, (lenset (lenset rfl)).symm, rfl, ?_⟩
    refine HT_fr DC_ok rfl fun K hK => ?_; (conv => whnf)
    replace h := W_jn h
    refine And.intro (Nat.le_of_ble_eq_true rfl) ?_; (conv => whnf)
    refine blkK_of rfl ?_; (conv => whnf)
    refine And.intro (Nat.le_of_ble_eq_true rfl) ?_; (conv => whnf)
    replace h := W_bd h
    refine recovery_Check_call h36 h (WkL.refl _) (fun _ h => ?_); (conv => whnf)
    replace h := W_bd h
    refine law34_pick_call h29 h (WkL.refl _) (fun _ h => ?_); (conv => whnf)
    refine cond_lk h (fun _ h => ?_) (fun _ h => ?_) <;> (conv => whnf)
    · refine eqK_e (eqv_bool DC_ok rfl _ _) ?_; (conv => whnf)
      refine hK _ _ _ ?_; clear hK K
      refine HT_ret ?_
      replace h := W_some h
      refine PostP_r DC_ok fun K hK => ?_; (conv => whnf)
      refine hK _ ?_; clear hK K
      cases h
      exact Wk.refl _
    refine eqK_e (eqv_bool DC_ok rfl _ _) ?_; (conv => whnf)
    refine hK _ _ _ ?_; clear hK K
    refine HT_ret ?_
    replace h := W_some h
    refine PostP_r DC_ok fun K hK => ?_; (conv => whnf)
    refine hK _ ?_; clear hK K
    cases h
    exact Wk.refl _
  refine hK2 ?_; clear hK1 hK2 K1 K2
  refine HT_fr DC_ok rfl fun K hK => ?_; (conv => whnf)
  refine hK _ _ _ ?_; clear hK K
  replace h := W_jn h
  refine HT_if fun K1 K2 hK1 hK2 => ?_; (conv => whnf)
  refine cond_lk h (fun _ h => ?_) (fun _ h => ?_)
  · refine hK1 ?_; clear hK1 hK2 K1 K2
    refine HT_fD DC_ok mix_ok rfl (by kernel_rfl) fun K hK => ?_; (conv => whnf)
    refine gd_lk_u h fun hx366 h => ?_
    refine And.intro (by first | omega | (unfold wr at *; omega)) ?_; (conv => whnf)
    refine And.intro (by first | omega | (unfold wr at *; omega)) ?_; (conv => whnf)
    refine gd_lk_u h fun hx367 h => ?_
    refine And.intro (by first | omega | (unfold wr at *; omega)) ?_; (conv => whnf)
    refine And.intro (by first | omega | (unfold wr at *; omega)) ?_; (conv => whnf)
    refine gd_lk_u h fun hg h => ?_
    replace h := W_lt h
    refine aps_lk (enc := eTTicket) DC_ok rfl rfl rfl ⟨rfl, Nat.le_of_ble_eq_true rfl, Nat.le_of_ble_eq_true rfl, Nat.le_of_ble_eq_true rfl, rfl⟩ (fun _ => rfl) (fun _ => rfl) rfl (rfl) (by first | omega | (unfold wr at *; omega)) (by first | omega | (unfold wr at *; omega)) hg rfl ?_; (conv => whnf)
    refine hK _ _ _ ?_; clear hK K
    refine InBlock_n ?_
    refine Then_n ?_
    refine HT_frzSK 20 (enc := eTTicket) (e := 53) default (ElOk_agg DC_ok rfl rfl (fun _ => rfl) (fun _ => rfl)) ?_; (conv => whnf); refine ⟨_, _, rfl, rfl, rfl, ?_⟩
    refine HT_fr DC_ok rfl fun K hK => ?_; (conv => whnf)
    replace h := W_jn h
    refine And.intro (Nat.le_of_ble_eq_true rfl) ?_; (conv => whnf)
    refine blkK_of rfl ?_; (conv => whnf)
    refine And.intro (Nat.le_of_ble_eq_true rfl) ?_; (conv => whnf)
    replace h := W_bd h
    refine recovery_Check_call h36 h (WkL.refl _) (fun _ h => ?_); (conv => whnf)
    replace h := W_bd h
    refine law34_pick_call h29 h (WkL.refl _) (fun _ h => ?_); (conv => whnf)
    refine cond_lk h (fun _ h => ?_) (fun _ h => ?_) <;> (conv => whnf)
    · refine eqK_e (eqv_bool DC_ok rfl _ _) ?_; (conv => whnf)
      refine hK _ _ _ ?_; clear hK K
      refine HT_ret ?_
      replace h := W_some h
      refine PostP_r DC_ok fun K hK => ?_; (conv => whnf)
      refine hK _ ?_; clear hK K
      cases h
      exact Wk.refl _
    refine eqK_e (eqv_bool DC_ok rfl _ _) ?_; (conv => whnf)
    refine hK _ _ _ ?_; clear hK K
    refine HT_ret ?_
    replace h := W_some h
    refine PostP_r DC_ok fun K hK => ?_; (conv => whnf)
    refine hK _ ?_; clear hK K
    cases h
    exact Wk.refl _
  refine hK2 ?_; clear hK1 hK2 K1 K2
  refine HT_f DC_ok rfl fun K hK => ?_; (conv => whnf)
  refine gd_lkN h (rfl) fun hx368 h => ?_; (conv => whnf)
  refine And.intro (Nat.le_of_ble_eq_true rfl) ?_; (conv => whnf)
  refine blkK_of rfl ?_; (conv => whnf)
  refine part_flN (enc := eTTicket) (d := default) (fun _ => rfl) (rfl) hx368 ?_; (conv => whnf)
  refine lt_lk (enc := eTTicket) (d := default) DC_ok h rfl rfl rfl ⟨Nat.le_of_ble_eq_true rfl, Nat.le_of_ble_eq_true rfl, rfl⟩ rfl ⟨⟨rfl, Nat.le_of_ble_eq_true rfl⟩, trivial⟩ (fun h => ?_); (conv => whnf)
  refine apo_lk (enc := eTTicket) (d := default) DC_ok h rfl rfl rfl ⟨rfl, Nat.le_of_ble_eq_true rfl, Nat.le_of_ble_eq_true rfl, Nat.le_of_ble_eq_true rfl, rfl⟩ (fun _ => rfl) (fun _ => rfl) (fun _ => nofun) rfl (rfl) (fun h => ?_); (conv => whnf)
  refine hK _ _ _ ?_; clear hK K
  refine InBlock_n ?_
  refine Then_n ?_
  refine HT_frzSK 20 (enc := eTTicket) (e := 53) default (ElOk_agg DC_ok rfl rfl (fun _ => rfl) (fun _ => rfl)) ?_; (conv => whnf); refine ⟨_, _, rfl, rfl, rfl, ?_⟩
  refine HT_fr DC_ok rfl fun K hK => ?_; (conv => whnf)
  replace h := W_jn h
  refine And.intro (Nat.le_of_ble_eq_true rfl) ?_; (conv => whnf)
  refine blkK_of rfl ?_; (conv => whnf)
  refine And.intro (Nat.le_of_ble_eq_true rfl) ?_; (conv => whnf)
  replace h := W_bd h
  refine recovery_Check_call h36 h (WkL.refl _) (fun _ h => ?_); (conv => whnf)
  replace h := W_bd h
  refine law34_pick_call h29 h (WkL.refl _) (fun _ h => ?_); (conv => whnf)
  refine cond_lk h (fun _ h => ?_) (fun _ h => ?_) <;> (conv => whnf)
  · refine eqK_e (eqv_bool DC_ok rfl _ _) ?_; (conv => whnf)
    refine hK _ _ _ ?_; clear hK K
    refine HT_ret ?_
    replace h := W_some h
    refine PostP_r DC_ok fun K hK => ?_; (conv => whnf)
    refine hK _ ?_; clear hK K
    cases h
    exact Wk.refl _
  refine eqK_e (eqv_bool DC_ok rfl _ _) ?_; (conv => whnf)
  refine hK _ _ _ ?_; clear hK K
  refine HT_ret ?_
  replace h := W_some h
  refine PostP_r DC_ok fun K hK => ?_; (conv => whnf)
  refine hK _ ?_; clear hK K
  cases h
  exact Wk.refl _
theorem law34_RecoveryChecks_call {T : Tbl} (hT : T 12 = pureR law34_RecoveryChecks_S) {args : List AV} {hp : Heap} {id : Nat} {k : AV → Prop} {a0 : List (Int × Int)} {a1 : Int} {a2 : List (Int × Int)} {a3 : Int} {a4 : Int} {a5 : Int} {a6 : Int} {Φ : Bool → Prop} (h : W (law34_RecoveryChecks_F a0 a1 a2 a3 a4 a5 a6) Φ) (hw : WkL args [(eL 2 eA71 default) a0, eI a1, (eL 2 eA71 default) a2, eI a3, eI a4, eI a5, eI a6]) (hk : ∀ y, Φ y → k (eB y)) : callpK T 12 args hp id k := by
  obtain ⟨y, e, hy⟩ := W_inv h
  exact callpK_pure hT ⟨a0, a1, a2, a3, a4, a5, a6, rfl, W_of e rfl⟩ (by exact (loose_bool _)) hw (hk y hy)
end Go.Proofs.Ytcidmnpihffphaa
/-! P12 -/
namespace Go.Proofs.Ytcidmnpihffphaa
open Go Go.Eng
set_option maxRecDepth 100000
theorem plain12 (a0 : List (Int × Int)) (a1 : Int) (a2 : List (Int × Int)) (a3 a4 a5 a6 : Int) (o0 : okL okA71 a0) (o1 : okI a1) (o2 : okL okA71 a2) (o3 : okI a3) (o4 : okI a4) (o5 : okI a5) (o6 : okI a6) : law34_RecoveryChecks_F a0 a1 a2 a3 a4 a5 a6 = some true := by
  unfold law34_RecoveryChecks_F
  rw [sane_ok, bd_s]
  simp only [Bool.not_true, cn_f, jn_d]
  obtain ⟨r, e, hr⟩ := made_ok a0 a1 o0 o1
  obtain ⟨l, e2, hla⟩ := attempts_ok a2 o2
  have hl := hla.lv
  rw [e, bd_s, e2, bd_s]
  obtain ⟨ts, e3, hp, hs⟩ := plan_ok hr hl
  rw [e3, bd_s]
  have hC := check_ok e3
  generalize sortF attCmp l = ys at hs hp
  have hy := hs.lv hl
  have hyl := hy.len
  have htl := hp.len
  have hb : ∀ j, j < ts.length → -10 ≤ (ts.getD j default).At ∧ (ts.getD j default).At ≤ 5000 ∧ 0 ≤ (ts.getD j default).First ∧ (ts.getD j default).First ≤ 5000 := fun j hj => by
    have h1 := hp.ge j (by omega)
    have h2 := hp.le j (by omega)
    have h3 := hp.cf j (by omega)
    have h4 := hy.rg _ (List.getElem_mem (show j < ys.length by omega))
    rw [← getD_lt] at h4
    omega
  obtain ⟨v, ev, hv⟩ := hC ts (by omega)
  simp only [bne_self_eq_false, cn_f]
  rw [ev, hv.2 rfl, bd_s]
  simp only [Bool.not_true, cn_f]
  rw [lt_d, gd_p _ (by omega), lt_d, cn_beq]
  by_cases h0 : (ts.length : Int) = 0
  · rw [if_pos h0, lt_d]
    obtain ⟨v, ev, hv⟩ := hC [⟨0, 0, 0⟩] (by simp)
    rw [ev, bd_s]
    have : v = false := by
      cases v
      · rfl
      · have := hv.1 rfl
        rw [← this] at h0
        simp at h0
    rw [this]; rfl
  · rw [if_neg h0, pick_law a3 _ o3 (by omega), bd_s, pick_law a4 _ o4 (by omega), bd_s, pick_law a5 _ o5 (by omega)]
    obtain ⟨p1, p2⟩ := pickZ_lt a3 (n := (ts.length : Int)) (by omega)
    obtain ⟨q1, q2⟩ := pickZ_lt a4 (n := (ts.length : Int)) (by omega)
    obtain ⟨u1, u2⟩ := pickZ_lt a5 (n := 5) (by omega)
    rw [pick_law a6 3 o6 (by omega)]
    obtain ⟨w1, w2⟩ := pickZ_lt a6 (n := 3) (by omega)
    generalize pickZ a3 (ts.length : Int) = k at p1 p2 ⊢
    generalize pickZ a4 (ts.length : Int) = m at q1 q2 ⊢
    generalize pickZ a5 5 = h at u1 u2 ⊢
    generalize pickZ a6 3 = by' at w1 w2 ⊢
    obtain ⟨k, rfl⟩ := Int.eq_ofNat_of_zero_le p1
    obtain ⟨m, rfl⟩ := Int.eq_ofNat_of_zero_le q1
    have hk : k < ts.length := by omega
    have hm : m < ts.length := by omega
    simp only [bd_s]
    have fin : ∀ q : List TTicket, q.length ≤ 1048576 → (q = ts ↔ h = 2 ∧ k = m) → (bd (recovery_Check_F r l q) fun y33 => cn (h == 2) (some (y33 == ((k : Int) == (m : Int)))) (some (y33 == false))) = some true := fun q hq hiff => by
      obtain ⟨v, ev, hv⟩ := hC q hq
      rw [ev, bd_s, cn_beq]
      by_cases e : h = 2
      · rw [if_pos e]
        by_cases e2 : k = m
        · rw [hv.2 (hiff.2 ⟨e, e2⟩)]; simp [e2]
        · have : v = false := by
            cases v
            · rfl
            · exact absurd (hiff.1 (hv.1 rfl)).2 e2
          rw [this]
          have : ((k : Int) == (m : Int)) = false := by simp; omega
          rw [this]; rfl
      · rw [if_neg e]
        have : v = false := by
          cases v
          · rfl
          · exact absurd (hiff.1 (hv.1 rfl)).1 e
        rw [this]; rfl
    simp only [Int.toNat_natCast]
    have hbk := hb k hk
    simp only [cn_beq] at fin ⊢
    have hset : ∀ (x : TTicket), ts.set k x = ts → x = ts.getD k default := fun x hx => by
      have : (ts.set k x).getD k default = x := by simp [hk]
      rw [← this, hx]
    by_cases c0 : h = 0
    · rw [if_pos c0, gd_p _ (by omega), gd_p _ (by omega), st_d]
      refine fin _ (by simp; omega) ⟨fun hx => ?_, fun hx => by omega⟩
      have := congrArg TTicket.At (hset _ hx)
      simp only at this
      rw [wr_id (x := (ts.getD k default).At + 1) (by omega) (by omega), wr_id (by omega) (by omega)] at this
      omega
    rw [if_neg c0]
    by_cases c1 : h = 1
    · rw [if_pos c1, gd_p _ (by omega), gd_p _ (by omega), st_d]
      refine fin _ (by simp; omega) ⟨fun hx => ?_, fun hx => by omega⟩
      have := congrArg TTicket.First (hset _ hx)
      simp only at this
      rw [wr_id (by omega) (by omega)] at this
      omega
    rw [if_neg c1]
    by_cases c2 : h = 2
    · rw [if_pos c2, gd_p _ (by omega), gd_p _ (by omega), gd_p _ (by omega), st_d, gd_p _ (by simp; omega), st_d]
      refine fin _ (by simp; omega) ⟨fun hx => ⟨c2, ?_⟩, fun hx => ?_⟩
      · have h1 : ((ts.set k (ts.getD m default)).set m (ts.getD k default)).getD m default = ts.getD k default := by simp [hm]
        simp only [Int.toNat_natCast] at hx
        rw [hx] at h1
        have h2 := (own_ticket hy hp (show m < ys.length by omega) (show k < ys.length by omega)).1 (by rw [h1]; exact (hp.cf k (by omega)).1)
        exact h2.symm
      · obtain ⟨_, rfl⟩ := hx
        simp only [Int.toNat_natCast]
        rw [List.set_set]
        rw [getD_lt hk, List.set_getElem_self]
    rw [if_neg c2]
    by_cases c3 : h = 3
    · rw [if_pos c3, wr_id (by omega) (by omega), gd_p _ (by omega), gd_p _ (by omega), show ((k : Int) + 1).toNat = k + 1 by omega, gd_p _ (by omega), lt_d]
      refine fin _ (by simp; omega) ⟨fun hx => ?_, fun hx => by omega⟩
      have := congrArg List.length hx
      simp at this; omega
    rw [if_neg c3, gd_p _ (by omega), lt_d, ap_p (by simp; omega)]
    refine fin _ (by simp; omega) ⟨fun hx => ?_, fun hx => by omega⟩
    have := congrArg List.length hx
    simp at this
end Go.Proofs.Ytcidmnpihffphaa
