import Derived.Test.YtcidmnpihffphaaM7
set_option linter.unusedVariables false
set_option linter.unusedSimpArgs false
set_option linter.unusedSectionVars false
/-! V5 -/
namespace Go.Proofs.Ytcidmnpihffphaa
open Go Go.Eng
set_option maxHeartbeats 0
set_option maxRecDepth 100000
/-! dialtonelaw34.RecoveryEarliest -/

    def law34_RecoveryEarliest_b4 (y4 : (List TTicket) × Int) (y7 : Int) (s43 : Int × Int) : Option (Ct (Int × Int) Bool) := cn (decide (s43.2 < (y4.1.length : Int))) (ix y4.1 default s43.2 fun e44 =>
    jn (fun p45 : Int => some (.nx (p45, (wr (s43.2 + 1))))) fun k46 => cn (decide (e44.At ≤ y7)) (k46 (wr (s43.1 + 1))) (k46 s43.1)) (some (.bk (s43.1, s43.2)))
theorem W_blaw34_RecoveryEarliest_b4 {y4 : (List TTicket) × Int} {y7 : Int} {s43 : Int × Int} {Φ : Ct (Int × Int) Bool → Prop} (h : W (law34_RecoveryEarliest_b4 y4 y7 s43) Φ) : W (cn (decide (s43.2 < (y4.1.length : Int))) (ix y4.1 default s43.2 fun e44 => jn (fun p45 : Int => some (.nx (p45, (wr (s43.2 + 1))))) fun k46 =>
    cn (decide (e44.At ≤ y7)) (k46 (wr (s43.1 + 1))) (k46 s43.1)) (some (.bk (s43.1, s43.2)))) Φ := h

    def law34_RecoveryEarliest_b3 (s10 : Int × Int × Int × (List Int) × (List Bool)) (y2 : TRegion) (s32 : Int) : Option (Ct Int Bool) := cn (decide (s32 < 199)) (bd (recovery_Capacity_F y2 s32) fun y33 =>
    cn (y33.2 !=
    0) (some (.rt false)) (gd (0 ≤ s32 ∧ s32 < (s10.2.2.2.1.length : Int)) (cn (decide ((s10.2.2.2.1.getD (s32).toNat default) < y33.1)) (some (.bk s32)) (some (.nx (wr (s32 + 1))))))) (some (.bk s32))
theorem W_blaw34_RecoveryEarliest_b3 {s10 : Int × Int × Int × (List Int) × (List Bool)} {y2 : TRegion} {s32 : Int} {Φ : Ct Int Bool → Prop} (h : W (law34_RecoveryEarliest_b3 s10 y2 s32) Φ) : W (cn (decide (s32 < 199)) (bd (recovery_Capacity_F y2 s32) fun y33 => cn (y33.2 !=
    0) (some (.rt false)) (gd (0 ≤ s32 ∧ s32 < (s10.2.2.2.1.length : Int)) (cn (decide ((s10.2.2.2.1.getD (s32).toNat default) < y33.1)) (some (.bk s32)) (some (.nx (wr (s32 + 1))))))) (some (.bk s32))) Φ := h

    def law34_RecoveryEarliest_b2 (s10 : Int × Int × Int × (List Int) × (List Bool)) (y3 : List TAttempt) (s17 : Int) : Option (Ct Int Bool) := gd (0 ≤ s17 ∧ s17 < (s10.2.2.2.2.length : Int)) (cn (s10.2.2.2.2.getD (s17).toNat default) (gd ((y3.length : Int) ≠ 0) (let v18 := (Int.tmod (wr (s17 + 1)) (y3.length : Int));
    some (.nx v18))) (some (.bk s17)))
theorem W_blaw34_RecoveryEarliest_b2 {s10 : Int × Int × Int × (List Int) × (List Bool)} {y3 : List TAttempt} {s17 : Int} {Φ : Ct Int Bool → Prop} (h : W (law34_RecoveryEarliest_b2 s10 y3 s17) Φ) : W (gd (0 ≤ s17 ∧ s17 < (s10.2.2.2.2.length : Int)) (cn (s10.2.2.2.2.getD (s17).toNat default) (gd ((y3.length : Int) ≠ 0) (let v18 := (Int.tmod (wr (s17 + 1)) (y3.length : Int));
    some (.nx v18))) (some (.bk s17)))) Φ := h

    def law34_RecoveryEarliest_b1 (a3 : List Int) (a4 : List Int) (y2 : TRegion) (y3 : List TAttempt) (y7 : Int) (s10 : Int × Int × Int × (List Int) × (List Bool)) : Option (Ct (Int × Int × Int × (List Int) × (List Bool)) Bool) := cn (decide (s10.2.2.1 < (y3.length : Int))) (jn (fun p11 : (List Int) × (List Bool) × Int × Int =>
    some (.nx (p11.2.2.1, p11.2.2.2, (wr (s10.2.2.1 + 1)), p11.1, p11.2.1))) fun k12 => jn (fun p13 : Int => bd (lp (law34_RecoveryEarliest_b2 s10 y3) FU p13) fun c19 =>
    smK c19 (fun s20 => gd (0 ≤ s20 ∧ s20 < (s10.2.2.2.2.length : Int)) (st s10.2.2.2.2 (s20) true fun l22 => ix y3 default s20 fun e23 =>
    cn e23.Urgent (ix y3 default s20 fun e24 => jn (fun p25 : Int => k12 (s10.2.2.2.1, l22, s10.1, p25)) fun k26 =>
    cn (decide (e24.At ≤ y7)) (k26 (wr (s10.2.1 + 1))) (k26 s10.2.1)) (ix y3 default s20 fun e27 => jn (fun p28 : Int => bd (lp (law34_RecoveryEarliest_b3 s10 y2) FU p28) fun c34 =>
    smK c34 (fun s35 =>
    gd (0 ≤ s35 ∧ s35 < (s10.2.2.2.1.length : Int)) (gd (0 ≤ s35 ∧ s35 < (s10.2.2.2.1.length : Int)) (st s10.2.2.2.1 (s35) (wr ((s10.2.2.2.1.getD (s35).toNat default) + 1)) fun l37 =>
    jn (fun p38 : Int => k12 (l37, l22, p38, s10.2.1)) fun k39 => cn (decide (s35 ≤ y7)) (k39 (wr (s10.1 + 1))) (k39 s10.1)))) (fun r36 => some (.rt r36))) fun k29 =>
    cn (decide (s10.2.2.1 < (a4.length : Int))) (ix a4 default s10.2.2.1 fun e30 => bd (law34_pick_F e30 5) fun y31 => k29 (wr (e27.At + y31))) (k29 e27.At)))) (fun r21 =>
    some (.rt r21))) fun k14 => cn (decide (s10.2.2.1 < (a3.length : Int))) (ix a3 default s10.2.2.1 fun e15 => bd (law34_pick_F e15 (y3.length : Int)) fun y16 =>
    k14 y16) (k14 0)) (some (.bk (s10.1, s10.2.1, s10.2.2.1, s10.2.2.2.1, s10.2.2.2.2)))
theorem W_blaw34_RecoveryEarliest_b1 {a3 : List Int} {a4 : List Int} {y2 : TRegion} {y3 : List TAttempt} {y7 : Int} {s10 : Int × Int × Int × (List Int) × (List Bool)} {Φ : Ct (Int × Int × Int × (List Int) × (List Bool)) Bool → Prop} (h : W (law34_RecoveryEarliest_b1 a3 a4 y2 y3 y7 s10) Φ) : W (cn (decide (s10.2.2.1 < (y3.length : Int))) (jn (fun p11 : (List Int) × (List Bool) × Int × Int =>
    some (.nx (p11.2.2.1, p11.2.2.2, (wr (s10.2.2.1 + 1)), p11.1, p11.2.1))) fun k12 => jn (fun p13 : Int => bd (lp (law34_RecoveryEarliest_b2 s10 y3) FU p13) fun c19 =>
    smK c19 (fun s20 => gd (0 ≤ s20 ∧ s20 < (s10.2.2.2.2.length : Int)) (st s10.2.2.2.2 (s20) true fun l22 => ix y3 default s20 fun e23 =>
    cn e23.Urgent (ix y3 default s20 fun e24 => jn (fun p25 : Int => k12 (s10.2.2.2.1, l22, s10.1, p25)) fun k26 =>
    cn (decide (e24.At ≤ y7)) (k26 (wr (s10.2.1 + 1))) (k26 s10.2.1)) (ix y3 default s20 fun e27 => jn (fun p28 : Int => bd (lp (law34_RecoveryEarliest_b3 s10 y2) FU p28) fun c34 =>
    smK c34 (fun s35 =>
    gd (0 ≤ s35 ∧ s35 < (s10.2.2.2.1.length : Int)) (gd (0 ≤ s35 ∧ s35 < (s10.2.2.2.1.length : Int)) (st s10.2.2.2.1 (s35) (wr ((s10.2.2.2.1.getD (s35).toNat default) + 1)) fun l37 =>
    jn (fun p38 : Int => k12 (l37, l22, p38, s10.2.1)) fun k39 => cn (decide (s35 ≤ y7)) (k39 (wr (s10.1 + 1))) (k39 s10.1)))) (fun r36 => some (.rt r36))) fun k29 =>
    cn (decide (s10.2.2.1 < (a4.length : Int))) (ix a4 default s10.2.2.1 fun e30 => bd (law34_pick_F e30 5) fun y31 => k29 (wr (e27.At + y31))) (k29 e27.At)))) (fun r21 =>
    some (.rt r21))) fun k14 => cn (decide (s10.2.2.1 < (a3.length : Int))) (ix a3 default s10.2.2.1 fun e15 => bd (law34_pick_F e15 (y3.length : Int)) fun y16 =>
    k14 y16) (k14 0)) (some (.bk (s10.1, s10.2.1, s10.2.2.1, s10.2.2.2.1, s10.2.2.2.2)))) Φ := h
def law34_RecoveryEarliest_F (a0 : List (Int × Int)) (a1 : Int) (a2 : List (Int × Int)) (a3 : List Int) (a4 : List Int) (a5 : Int) : Option Bool := bd (law34_sane_F ) fun y1 =>
    cn (!y1) (some false) (bd (ref34_Made_F a0 a1) fun y2 => bd (ref34_Attempts_F a2) fun y3 => bd (recovery_Plan_F y2 y3) fun y4 => jn (fun p5 : Int × Bool =>
    cn p5.2 (some false) (bd (law34_pick_F p5.1 60) fun y7 =>
    gd ((0 : Int) ≤ (200 : Int) ∧ (200 : Int) ≤ (1048576 : Int)) (lt (List.replicate ((200 : Int)).toNat (0 : Int)) fun l8 =>
    gd ((0 : Int) ≤ (y3.length : Int) ∧ (y3.length : Int) ≤ (1048576 : Int)) (lt (List.replicate ((y3.length : Int)).toNat (false : Bool)) fun l9 =>
    bd (lp (law34_RecoveryEarliest_b1 a3 a4 y2 y3 y7) FU (0, 0, 0, l8, l9)) fun c40 => smK c40 (fun s41 => bd (lp (law34_RecoveryEarliest_b4 y4 y7) FU (0, 0)) fun c47 =>
    smK c47 (fun s48 => let v50 := (decide (s48.1 ≥ (wr (s41.1 + s41.2.1)))); some v50) (fun r49 => some r49)) (fun r42 => some r42))))) fun k6 => cn (y4.2 !=
    0) (k6 (a5, true)) (k6 (a5, ((y4.1.length : Int) != (y3.length : Int)))))
def law34_RecoveryEarliest_S : List AV → AV → Prop := fun args r => ∃ a0 a1 a2 a3 a4 a5, args = [(eL 2 eA71 default) a0, eI a1, (eL 2 eA71 default) a2, (eL 1 eI default) a3, (eL 1 eI default) a4, eI a5] ∧ W (law34_RecoveryEarliest_F a0 a1 a2 a3 a4 a5) fun y => r = (eB y)
theorem law34_RecoveryEarliest_ok {T : Tbl} (hT : TOk Try.prog T) (hpf : PfOk T PF) (h13 : T 13 = pureR law34_sane_S) (h14 : T 14 = pureR ref34_Made_S) (h15 : T 15 = pureR ref34_Attempts_S) (h18 : T 18 = pureR recovery_Plan_S) (h29 : T 29 = pureR law34_pick_S) (h32 : T 32 = pureR recovery_Capacity_S) : FOk Try.prog 5 (pureR law34_RecoveryEarliest_S) := by
  refine FOk_pure hT hpf Try.func5 rfl Try.ntmps5 Try.results5 (by decide) ?_
  rintro args r ⟨a0, a1, a2, a3, a4, a5, rfl, h⟩
  refine ⟨Nat.le_of_ble_eq_true rfl, ?_, ?_⟩
  · exact (loose_cons (loose_lst fun _ => (lo_A71 _)) (loose_cons (loose_int _ _) (loose_cons (loose_lst fun _ => (lo_A71 _)) (loose_cons (loose_lst fun _ => (loose_int _ _)) (loose_cons (loose_lst fun _ => (loose_int _ _)) (loose_cons (loose_int _ _) loose_nil))))))
  rw [law34_RecoveryEarliest_F.eq_1] at h
  refine HT_fr DC_ok rfl fun K hK => ?_; (conv => whnf)
  refine hK _ _ _ ?_; clear hK K
  refine HT_fr DC_ok rfl fun K hK => ?_; (conv => whnf)
  replace h := W_bd h
  refine law34_sane_call h13 h (WkL.refl _) (fun _ h => ?_); (conv => whnf)
  refine hK _ _ _ ?_; clear hK K
  refine HT_seq ?_
  refine HT_fr DC_ok rfl fun K hK => ?_; (conv => whnf)
  refine hK _ _ _ ?_; clear hK K
  refine HT_if fun K1 K2 hK1 hK2 => ?_; (conv => whnf)
  refine cond_lk h (fun _ h => ?_) (fun _ h => ?_)
  · refine hK1 ?_; clear hK1 hK2 K1 K2
    refine HT_fr DC_ok rfl fun K hK => ?_; (conv => whnf)
    refine hK _ _ _ ?_; clear hK K
    refine HT_ret ?_
    refine Then_r ?_
    replace h := W_some h
    refine PostP_r DC_ok fun K hK => ?_; (conv => whnf)
    refine hK _ ?_; clear hK K
    cases h
    exact Wk.refl _
  refine hK2 ?_; clear hK1 hK2 K1 K2
  refine HT_skip ?_
  refine Then_n ?_
  refine HT_fr DC_ok rfl fun K hK => ?_; (conv => whnf)
  replace h := W_bd h
  refine ref34_Made_call h14 h (WkL.refl _) (fun _ h => ?_); (conv => whnf)
  refine blkK_of rfl ?_; (conv => whnf)
  refine And.intro rfl (And.intro (Nat.le_of_ble_eq_true rfl) (And.intro rfl ?_)); (conv => whnf)
  refine hK _ _ _ ?_; clear hK K
  refine HT_fr DC_ok rfl fun K hK => ?_; (conv => whnf)
  replace h := W_bd h
  refine ref34_Attempts_call h15 h (WkL.refl _) (fun _ h => ?_); (conv => whnf)
  refine hK _ _ _ ?_; clear hK K
  refine HT_fr DC_ok rfl fun K hK => ?_; (conv => whnf)
  refine And.intro (Nat.le_of_ble_eq_true rfl) ?_; (conv => whnf)
  refine blkK_of rfl ?_; (conv => whnf)
  refine And.intro (Nat.le_of_ble_eq_true rfl) ?_; (conv => whnf)
  replace h := W_bd h
  refine recovery_Plan_call h18 h (WkL.refl _) (fun _ h => ?_); (conv => whnf)
  refine hK _ _ _ ?_; clear hK K
  refine HT_seq ?_
  refine HT_fr DC_ok rfl fun K hK => ?_; (conv => whnf)
  replace h := W_jn h
  refine cond_lk h (fun _ h => ?_) (fun _ h => ?_) <;> (conv => whnf)
  · refine hK _ _ _ ?_; clear hK K
    refine HT_if fun K1 K2 hK1 hK2 => ?_; (conv => whnf)
    refine hK1 ?_; clear hK1 hK2 K1 K2
    replace h := W_cnT h
    refine HT_fr DC_ok rfl fun K hK => ?_; (conv => whnf)
    refine hK _ _ _ ?_; clear hK K
    refine HT_ret ?_
    refine Then_r ?_
    replace h := W_some h
    refine PostP_r DC_ok fun K hK => ?_; (conv => whnf)
    refine hK _ ?_; clear hK K
    cases h
    exact Wk.refl _
  refine hK _ _ _ ?_; clear hK K
  refine HT_if fun K1 K2 hK1 hK2 => ?_; (conv => whnf)
  refine cond_lk h (fun _ h => ?_) (fun _ h => ?_)
  · refine hK1 ?_; clear hK1 hK2 K1 K2
    refine HT_fr DC_ok rfl fun K hK => ?_; (conv => whnf)
    refine hK _ _ _ ?_; clear hK K
    refine HT_ret ?_
    refine Then_r ?_
    replace h := W_some h
    refine PostP_r DC_ok fun K hK => ?_; (conv => whnf)
    refine hK _ ?_; clear hK K
    cases h
    exact Wk.refl _
  refine hK2 ?_; clear hK1 hK2 K1 K2
  refine HT_skip ?_
  refine Then_n ?_
  refine HT_fr DC_ok rfl fun K hK => ?_; (conv => whnf)
  replace h := W_bd h
  refine law34_pick_call h29 h (WkL.refl _) (fun _ h => ?_); (conv => whnf)
  refine hK _ _ _ ?_; clear hK K
  refine HT_fr DC_ok rfl fun K hK => ?_; (conv => whnf)
  refine mks_lk (enc := eI) DC_ok (0 : Int) h rfl rfl ⟨Nat.le_of_ble_eq_true rfl, Nat.le_of_ble_eq_true rfl, rfl⟩ rfl (fun h => ?_); (conv => whnf)
  refine hK _ _ _ ?_; clear hK K
  refine HT_fr DC_ok rfl fun K hK => ?_; (conv => whnf)
  refine mks_lk (enc := eB) DC_ok (false : Bool) h rfl rfl ⟨Nat.le_of_ble_eq_true rfl, Nat.le_of_ble_eq_true rfl, rfl⟩ rfl (fun h => ?_); (conv => whnf)
  refine hK _ _ _ ?_; clear hK K
  refine HT_fr DC_ok rfl fun K hK => ?_; (conv => whnf)
  refine hK _ _ _ ?_; clear hK K
  refine HT_fr DC_ok rfl fun K hK => ?_; (conv => whnf)
  refine hK _ _ _ ?_; clear hK K
  refine HT_seq ?_
  refine HT_fr DC_ok rfl fun K hK => ?_; (conv => whnf)
  refine hK _ _ _ ?_; clear hK K
  refine HT_block ?_
  replace h := W_bd h
  refine HT_lpR (body := law34_RecoveryEarliest_b1 _ _ _ _ _) rfl h [3, 4, 14, 15, 16, 18] [14] [] [] (fun kl kh kr ids b s => ⟨ofL ([(21, eI s.1), (22, eI s.2.1), (23, eI s.2.2.1), (19, .so (b + 0) 0 s.2.2.2.1.length 1), (20, .so (b + 64) 0 s.2.2.2.2.length 1)] ++ kl), ofH (([] ++ kh) ++ ([(b + 0, .cells (flE (ceE eI) s.2.2.2.1)), (b + 64, .cells (flE (ceE eB) s.2.2.2.2))] ++ kr)), b + 192⟩) ?_; (conv => whnf); refine And.intro ?_ (fun s m h => HT_st ?_)
  · refine weak_r ?_; (conv => whnf)
    exact And.intro rfl (And.intro (allL_c (WkR.wk (Wk.refl _) (loose_int _ _)) (allL_c (WkR.wk (Wk.refl _) (loose_int _ _)) (allL_c (WkR.wk (Wk.refl _) (loose_int _ _)) (allL_c (WkR.so (fun _ => rfl)) (allL_c (WkR.so (fun _ => rfl)) (allL_c (WkR.wk (Wk.refl _) (loose_lst fun _ => (loose_int _ _))) (allL_c (WkR.wk (Wk.refl _) (loose_lst fun _ => (loose_int _ _))) (allL_c (WkR.ptr (fun _ => rfl)) (allL_c (WkR.wk (Wk.refl _) (loose_lst fun _ => (lo_TAttempt _))) (allL_c (WkR.wk (Wk.refl _) (loose_lst fun _ => (lo_TTicket _))) (allL_c (WkR.wk (Wk.refl _) (loose_int _ _)) allL_n))))))))))) (allL_c ⟨some _, rfl, BkR_c rfl (CkR_cons (WkR.wk (Wk.refl _) (loose_lst fun _ => (lo_TGrowth _))) (CkR_cons (WkR.wk (Wk.refl _) (loose_int _ _)) CkR_nil))⟩ (allL_c ⟨some _, rfl, BkR_r rfl (fun _ => (loose_cons (loose_int _ _) loose_nil))⟩ (allL_c ⟨some _, rfl, BkR_r rfl (fun _ => (loose_cons (loose_bool _) loose_nil))⟩ allL_n))))
  replace h := W_blaw34_RecoveryEarliest_b1 (W_bd h)
  refine HT_seq ?_
  refine HT_fr DC_ok rfl fun K hK => ?_; (conv => whnf)
  refine hK _ _ _ ?_; clear hK K
  refine HT_if fun K1 K2 hK1 hK2 => ?_; (conv => whnf)
  refine cond_lk h (fun _ h => ?_) (fun _ h => ?_)
  · refine hK1 ?_; clear hK1 hK2 K1 K2
    refine HT_skip ?_
    refine Then_n ?_
    refine HT_seq ?_
    replace h := W_jn h
    refine HT_block ?_
    refine HT_fr DC_ok rfl fun K hK => ?_; (conv => whnf)
    refine hK _ _ _ ?_; clear hK K
    refine HT_seq ?_
    refine HT_fr DC_ok rfl fun K hK => ?_; (conv => whnf)
    refine hK _ _ _ ?_; clear hK K
    replace h := W_jn h
    refine HT_if fun K1 K2 hK1 hK2 => ?_; (conv => whnf)
    refine cond_lk h (fun _ h => ?_) (fun _ h => ?_)
    · refine hK1 ?_; clear hK1 hK2 K1 K2
      refine HT_f DC_ok rfl fun K hK => ?_; (conv => whnf)
      refine ix_lk h fun _ h => ?_; (conv => whnf)
      refine getK_of rfl ?_; (conv => whnf)
      replace h := W_bd h
      refine law34_pick_call h29 h (WkL.refl _) (fun _ h => ?_); (conv => whnf)
      refine hK _ _ _ ?_; clear hK K
      refine Then_n ?_
      refine HT_seq ?_
      refine HT_block ?_
      replace h := W_bd h
      refine HT_lpR (body := law34_RecoveryEarliest_b2 _ _) rfl h [3, 4, 14, 15, 16, 18, 19, 20, 21, 22, 23] [14] [19, 20] [] (fun kl kh kr ids b s => ⟨ofL ([(24, eI s)] ++ kl), ofH (([] ++ kh) ++ ([] ++ kr)), b + 64⟩) ?_; (conv => whnf); refine And.intro ?_ (fun s m h => HT_st ?_)
      · refine weak_r ?_; (conv => whnf)
        exact And.intro rfl (And.intro (allL_c (WkR.wk (Wk.refl _) (loose_int _ _)) (allL_c (WkR.wk (Wk.refl _) (loose_lst fun _ => (loose_int _ _))) (allL_c (WkR.wk (Wk.refl _) (loose_lst fun _ => (loose_int _ _))) (allL_c (WkR.ptr (fun _ => rfl)) (allL_c (WkR.wk (Wk.refl _) (loose_lst fun _ => (lo_TAttempt _))) (allL_c (WkR.wk (Wk.refl _) (loose_lst fun _ => (lo_TTicket _))) (allL_c (WkR.wk (Wk.refl _) (loose_int _ _)) (allL_c (WkR.so (fun _ => rfl)) (allL_c (WkR.so (fun _ => rfl)) (allL_c (WkR.wk (Wk.refl _) (loose_int _ _)) (allL_c (WkR.wk (Wk.refl _) (loose_int _ _)) (allL_c (WkR.wk (Wk.refl _) (loose_int _ _)) allL_n)))))))))))) (allL_c ⟨some _, rfl, BkR_c rfl (CkR_cons (WkR.wk (Wk.refl _) (loose_lst fun _ => (lo_TGrowth _))) (CkR_cons (WkR.wk (Wk.refl _) (loose_int _ _)) CkR_nil))⟩ (allL_c ⟨some _, rfl, BkR_r rfl (fun _ => (loose_cons (loose_int _ _) loose_nil))⟩ (allL_c ⟨some _, rfl, BkR_r rfl (fun _ => (loose_cons (loose_bool _) loose_nil))⟩ allL_n))))
      replace h := W_blaw34_RecoveryEarliest_b2 (W_bd h)
      refine HT_seq ?_
      refine HT_fr DC_ok rfl fun K hK => ?_; (conv => whnf)
      refine gd_lkN h (rfl) fun hx267 h => ?_; (conv => whnf)
      refine And.intro (Nat.le_of_ble_eq_true rfl) ?_; (conv => whnf)
      refine blkK_of rfl ?_; (conv => whnf)
      refine get_flN (enc := eB) (d := default) (q := 0) (fun _ => rfl) (rfl) hx267 (Nat.le_of_ble_eq_true rfl) rfl ?_; (conv => whnf)
      refine hK _ _ _ ?_; clear hK K
      refine HT_if fun K1 K2 hK1 hK2 => ?_; (conv => whnf)
      refine cond_lk h (fun _ h => ?_) (fun _ h => ?_)
      · refine hK1 ?_; clear hK1 hK2 K1 K2
        refine HT_skip ?_
        refine Then_n ?_
        refine HT_block ?_
        refine HT_f DC_ok rfl fun K hK => ?_; (conv => whnf)
        refine gd_lk h fun _ h => ?_; (conv => whnf)
        refine hK _ _ _ ?_; clear hK K
        refine InBlock_n ?_
        refine Then_n ?_
        replace h := W_xnx h
        refine ⟨_, h, ?_⟩
        refine weak_r ?_; (conv => whnf)
        exact And.intro rfl (And.intro (allL_c (WkR.wk (Wk.refl _) (loose_int _ _)) (allL_c (WkR.wk (Wk.refl _) (loose_lst fun _ => (loose_int _ _))) (allL_c (WkR.wk (Wk.refl _) (loose_lst fun _ => (loose_int _ _))) (allL_c (WkR.ptr (fun _ => rfl)) (allL_c (WkR.wk (Wk.refl _) (loose_lst fun _ => (lo_TAttempt _))) (allL_c (WkR.wk (Wk.refl _) (loose_lst fun _ => (lo_TTicket _))) (allL_c (WkR.wk (Wk.refl _) (loose_int _ _)) (allL_c (WkR.so (fun _ => rfl)) (allL_c (WkR.so (fun _ => rfl)) (allL_c (WkR.wk (Wk.refl _) (loose_int _ _)) (allL_c (WkR.wk (Wk.refl _) (loose_int _ _)) (allL_c (WkR.wk (Wk.refl _) (loose_int _ _)) allL_n)))))))))))) (allL_c ⟨some _, rfl, BkR_c rfl (CkR_cons (WkR.wk (Wk.refl _) (loose_lst fun _ => (lo_TGrowth _))) (CkR_cons (WkR.wk (Wk.refl _) (loose_int _ _)) CkR_nil))⟩ (allL_c ⟨some _, rfl, BkR_r rfl (fun _ => (loose_cons (loose_int _ _) loose_nil))⟩ (allL_c ⟨some _, rfl, BkR_r rfl (fun _ => (loose_cons (loose_bool _) loose_nil))⟩ allL_n))))
      refine hK2 ?_; clear hK1 hK2 K1 K2
      refine HT_exit ?_
      refine Then_e ?_
      refine Then_e ?_
      refine InBlock_e ?_
      replace h := W_xbk h
      replace h := W_inl h
      refine Then_n ?_
      refine HT_fr DC_ok rfl fun K hK => ?_; (conv => whnf)
      refine gd_lkN h (rfl) fun hx268 h => ?_; (conv => whnf)
      refine blkK_of rfl ?_; (conv => whnf)
      refine st_lk (enc := eB) (d := default) (q := 0) h (fun _ => rfl) (rfl) hx268 rfl (Nat.le_of_ble_eq_true rfl) rfl rfl (fun h => ?_); (conv => whnf)
      refine hK _ _ _ ?_; clear hK K
      refine HT_seq ?_
      refine HT_fr DC_ok rfl fun K hK => ?_; (conv => whnf)
      refine ix_lk h fun _ h => ?_; (conv => whnf)
      refine getK_of rfl ?_; (conv => whnf)
      refine hK _ _ _ ?_; clear hK K
      refine HT_if fun K1 K2 hK1 hK2 => ?_; (conv => whnf)
      refine cond_lk h (fun _ h => ?_) (fun _ h => ?_)
      · refine hK1 ?_; clear hK1 hK2 K1 K2
        refine HT_seq ?_
        refine HT_fr DC_ok rfl fun K hK => ?_; (conv => whnf)
        refine ix_lk h fun _ h => ?_; (conv => whnf)
        refine getK_of rfl ?_; (conv => whnf)
        refine hK _ _ _ ?_; clear hK K
        replace h := W_jn h
        refine HT_if fun K1 K2 hK1 hK2 => ?_; (conv => whnf)
        refine cond_lk h (fun _ h => ?_) (fun _ h => ?_)
        · refine hK1 ?_; clear hK1 hK2 K1 K2
          refine HT_f DC_ok rfl fun K hK => ?_; (conv => whnf)
          refine hK _ _ _ ?_; clear hK K
          refine Then_n ?_
          refine HT_exit ?_
          refine Then_e ?_
          refine InBlock_e ?_
          refine Then_n ?_
          refine HT_f DC_ok rfl fun K hK => ?_; (conv => whnf)
          refine hK _ _ _ ?_; clear hK K
          refine Then_n ?_
          replace h := W_xnx h
          refine ⟨_, h, ?_⟩
          refine weak_r ?_; (conv => whnf)
          exact And.intro rfl (And.intro (allL_c (WkR.wk (Wk.refl _) (loose_int _ _)) (allL_c (WkR.wk (Wk.refl _) (loose_int _ _)) (allL_c (WkR.wk (Wk.refl _) (loose_int _ _)) (allL_c (WkR.so (fun _ => rfl)) (allL_c (WkR.soN (fun _ => rfl) (lenset rfl).symm) (allL_c (WkR.wk (Wk.refl _) (loose_lst fun _ => (loose_int _ _))) (allL_c (WkR.wk (Wk.refl _) (loose_lst fun _ => (loose_int _ _))) (allL_c (WkR.ptr (fun _ => rfl)) (allL_c (WkR.wk (Wk.refl _) (loose_lst fun _ => (lo_TAttempt _))) (allL_c (WkR.wk (Wk.refl _) (loose_lst fun _ => (lo_TTicket _))) (allL_c (WkR.wk (Wk.refl _) (loose_int _ _)) allL_n))))))))))) (allL_c ⟨some _, rfl, BkR_c rfl (CkR_cons (WkR.wk (Wk.refl _) (loose_lst fun _ => (lo_TGrowth _))) (CkR_cons (WkR.wk (Wk.refl _) (loose_int _ _)) CkR_nil))⟩ (allL_c ⟨some _, rfl, BkR_r rfl (fun _ => (loose_cons (loose_int _ _) loose_nil))⟩ (allL_c ⟨some _, rfl, BkR_r rfl (fun _ => (loose_cons (loose_bool _) loose_nil))⟩ allL_n))))
        refine hK2 ?_; clear hK1 hK2 K1 K2
        refine HT_skip ?_
        refine Then_n ?_
        refine HT_exit ?_
        refine Then_e ?_
        refine InBlock_e ?_
        refine Then_n ?_
        refine HT_f DC_ok rfl fun K hK => ?_; (conv => whnf)
        refine hK _ _ _ ?_; clear hK K
        refine Then_n ?_
        replace h := W_xnx h
        refine ⟨_, h, ?_⟩
        refine weak_r ?_; (conv => whnf)
        exact And.intro rfl (And.intro (allL_c (WkR.wk (Wk.refl _) (loose_int _ _)) (allL_c (WkR.wk (Wk.refl _) (loose_int _ _)) (allL_c (WkR.wk (Wk.refl _) (loose_int _ _)) (allL_c (WkR.so (fun _ => rfl)) (allL_c (WkR.soN (fun _ => rfl) (lenset rfl).symm) (allL_c (WkR.wk (Wk.refl _) (loose_lst fun _ => (loose_int _ _))) (allL_c (WkR.wk (Wk.refl _) (loose_lst fun _ => (loose_int _ _))) (allL_c (WkR.ptr (fun _ => rfl)) (allL_c (WkR.wk (Wk.refl _) (loose_lst fun _ => (lo_TAttempt _))) (allL_c (WkR.wk (Wk.refl _) (loose_lst fun _ => (lo_TTicket _))) (allL_c (WkR.wk (Wk.refl _) (loose_int _ _)) allL_n))))))))))) (allL_c ⟨some _, rfl, BkR_c rfl (CkR_cons (WkR.wk (Wk.refl _) (loose_lst fun _ => (lo_TGrowth _))) (CkR_cons (WkR.wk (Wk.refl _) (loose_int _ _)) CkR_nil))⟩ (allL_c ⟨some _, rfl, BkR_r rfl (fun _ => (loose_cons (loose_int _ _) loose_nil))⟩ (allL_c ⟨some _, rfl, BkR_r rfl (fun _ => (loose_cons (loose_bool _) loose_nil))⟩ allL_n))))
      refine hK2 ?_; clear hK1 hK2 K1 K2
      refine HT_skip ?_
      refine Then_n ?_
      refine HT_fr DC_ok rfl fun K hK => ?_; (conv => whnf)
      refine ix_lk h fun _ h => ?_; (conv => whnf)
      refine getK_of rfl ?_; (conv => whnf)
      refine hK _ _ _ ?_; clear hK K
      refine HT_seq ?_
      refine HT_fr DC_ok rfl fun K hK => ?_; (conv => whnf)
      refine hK _ _ _ ?_; clear hK K
      replace h := W_jn h
      refine HT_if fun K1 K2 hK1 hK2 => ?_; (conv => whnf)
      refine cond_lk h (fun _ h => ?_) (fun _ h => ?_)
      · refine hK1 ?_; clear hK1 hK2 K1 K2
        refine HT_f DC_ok rfl fun K hK => ?_; (conv => whnf)
        refine ix_lk h fun _ h => ?_; (conv => whnf)
        refine getK_of rfl ?_; (conv => whnf)
        replace h := W_bd h
        refine law34_pick_call h29 h (WkL.refl _) (fun _ h => ?_); (conv => whnf)
        refine hK _ _ _ ?_; clear hK K
        refine Then_n ?_
        refine HT_seq ?_
        refine HT_block ?_
        replace h := W_bd h
        refine HT_lpR (body := law34_RecoveryEarliest_b3 _ _) rfl h [3, 4, 14, 15, 16, 18, 19, 20, 21, 22, 23] [14] [19, 20] [] (fun kl kh kr ids b s => ⟨ofL ([(25, eI s)] ++ kl), ofH (([] ++ kh) ++ ([] ++ kr)), b + 64⟩) ?_; (conv => whnf); refine And.intro ?_ (fun s m h => HT_st ?_)
        · refine weak_r ?_; (conv => whnf)
          exact And.intro rfl (And.intro (allL_c (WkR.wk (Wk.refl _) (loose_int _ _)) (allL_c (WkR.wk (Wk.refl _) (loose_lst fun _ => (loose_int _ _))) (allL_c (WkR.wk (Wk.refl _) (loose_lst fun _ => (loose_int _ _))) (allL_c (WkR.ptr (fun _ => rfl)) (allL_c (WkR.wk (Wk.refl _) (loose_lst fun _ => (lo_TAttempt _))) (allL_c (WkR.wk (Wk.refl _) (loose_lst fun _ => (lo_TTicket _))) (allL_c (WkR.wk (Wk.refl _) (loose_int _ _)) (allL_c (WkR.so (fun _ => rfl)) (allL_c (WkR.so (fun _ => rfl)) (allL_c (WkR.wk (Wk.refl _) (loose_int _ _)) (allL_c (WkR.wk (Wk.refl _) (loose_int _ _)) (allL_c (WkR.wk (Wk.refl _) (loose_int _ _)) allL_n)))))))))))) (allL_c ⟨some _, rfl, BkR_c rfl (CkR_cons (WkR.wk (Wk.refl _) (loose_lst fun _ => (lo_TGrowth _))) (CkR_cons (WkR.wk (Wk.refl _) (loose_int _ _)) CkR_nil))⟩ (allL_c ⟨some _, rfl, BkR_r rfl (fun _ => (loose_cons (loose_int _ _) loose_nil))⟩ (allL_c ⟨some _, rfl, BkR_r rfl (fun _ => (loose_cons (loose_bool _) loose_nil))⟩ allL_n))))
        replace h := W_blaw34_RecoveryEarliest_b3 (W_bd h)
        refine HT_seq ?_
        refine HT_fr DC_ok rfl fun K hK => ?_; (conv => whnf)
        refine hK _ _ _ ?_; clear hK K
        refine HT_if fun K1 K2 hK1 hK2 => ?_; (conv => whnf)
        refine cond_lk h (fun _ h => ?_) (fun _ h => ?_)
        · refine hK1 ?_; clear hK1 hK2 K1 K2
          refine HT_skip ?_
          refine Then_n ?_
          refine HT_block ?_
          refine HT_fr DC_ok rfl fun K hK => ?_; (conv => whnf)
          refine And.intro (Nat.le_of_ble_eq_true rfl) ?_; (conv => whnf)
          refine blkK_of rfl ?_; (conv => whnf)
          refine And.intro (Nat.le_of_ble_eq_true rfl) ?_; (conv => whnf)
          replace h := W_bd h
          refine recovery_Capacity_call h32 h (WkL.refl _) (fun _ h => ?_); (conv => whnf)
          refine hK _ _ _ ?_; clear hK K
          refine HT_seq ?_
          refine HT_fr DC_ok rfl fun K hK => ?_; (conv => whnf)
          refine hK _ _ _ ?_; clear hK K
          refine HT_if fun K1 K2 hK1 hK2 => ?_; (conv => whnf)
          refine cond_lk h (fun _ h => ?_) (fun _ h => ?_)
          · refine hK1 ?_; clear hK1 hK2 K1 K2
            refine HT_fr DC_ok rfl fun K hK => ?_; (conv => whnf)
            refine hK _ _ _ ?_; clear hK K
            refine HT_ret ?_
            refine Then_r ?_
            refine InBlock_r ?_
            refine Then_r ?_
            refine InBlock_r ?_
            refine Then_r ?_
            refine InBlock_r ?_
            refine Then_r ?_
            refine Then_r ?_
            refine InBlock_r ?_
            refine Then_r ?_
            replace h := W_xrt h
            replace h := W_inr h
            replace h := W_xrt h
            replace h := W_inr h
            replace h := W_some h
            refine PostP_r DC_ok fun K hK => ?_; (conv => whnf)
            refine hK _ ?_; clear hK K
            cases h
            exact Wk.refl _
          refine hK2 ?_; clear hK1 hK2 K1 K2
          refine HT_skip ?_
          refine Then_n ?_
          refine HT_seq ?_
          refine HT_fr DC_ok rfl fun K hK => ?_; (conv => whnf)
          refine gd_lkN h (rfl) fun hx276 h => ?_; (conv => whnf)
          refine And.intro (Nat.le_of_ble_eq_true rfl) ?_; (conv => whnf)
          refine blkK_of rfl ?_; (conv => whnf)
          refine get_flN (enc := eI) (d := default) (q := 0) (fun _ => rfl) (rfl) hx276 (Nat.le_of_ble_eq_true rfl) rfl ?_; (conv => whnf)
          refine hK _ _ _ ?_; clear hK K
          refine HT_if fun K1 K2 hK1 hK2 => ?_; (conv => whnf)
          refine cond_lk h (fun _ h => ?_) (fun _ h => ?_)
          · refine hK1 ?_; clear hK1 hK2 K1 K2
            refine HT_exit ?_
            refine Then_e ?_
            refine InBlock_o (by decide) ?_
            refine Then_e ?_
            refine InBlock_e ?_
            replace h := W_xbk h
            replace h := W_inl h
            refine Then_n ?_
            refine HT_fr DC_ok rfl fun K hK => ?_; (conv => whnf)
            refine gd_lkN h (rfl) fun hx277 h => ?_; (conv => whnf)
            refine And.intro (Nat.le_of_ble_eq_true rfl) ?_; (conv => whnf)
            refine blkK_of rfl ?_; (conv => whnf)
            refine get_flN (enc := eI) (d := default) (q := 0) (fun _ => rfl) (rfl) hx277 (Nat.le_of_ble_eq_true rfl) rfl ?_; (conv => whnf)
            refine gd_lkN h (rfl) fun hx278 h => ?_; (conv => whnf)
            refine blkK_of rfl ?_; (conv => whnf)
            refine st_lk (enc := eI) (d := default) (q := 0) h (fun _ => rfl) (rfl) hx278 rfl (Nat.le_of_ble_eq_true rfl) rfl rfl (fun h => ?_); (conv => whnf)
            refine hK _ _ _ ?_; clear hK K
            refine HT_fr DC_ok rfl fun K hK => ?_; (conv => whnf)
            refine hK _ _ _ ?_; clear hK K
            replace h := W_jn h
            refine HT_if fun K1 K2 hK1 hK2 => ?_; (conv => whnf)
            refine cond_lk h (fun _ h => ?_) (fun _ h => ?_)
            · refine hK1 ?_; clear hK1 hK2 K1 K2
              refine HT_f DC_ok rfl fun K hK => ?_; (conv => whnf)
              refine hK _ _ _ ?_; clear hK K
              refine InBlock_n ?_
              refine Then_n ?_
              refine HT_f DC_ok rfl fun K hK => ?_; (conv => whnf)
              refine hK _ _ _ ?_; clear hK K
              refine Then_n ?_
              replace h := W_xnx h
              refine ⟨_, h, ?_⟩
              refine weak_r ?_; (conv => whnf)
              exact And.intro rfl (And.intro (allL_c (WkR.wk (Wk.refl _) (loose_int _ _)) (allL_c (WkR.wk (Wk.refl _) (loose_int _ _)) (allL_c (WkR.wk (Wk.refl _) (loose_int _ _)) (allL_c (WkR.soN (fun _ => rfl) (lenset rfl).symm) (allL_c (WkR.soN (fun _ => rfl) (lenset rfl).symm) (allL_c (WkR.wk (Wk.refl _) (loose_lst fun _ => (loose_int _ _))) (allL_c (WkR.wk (Wk.refl _) (loose_lst fun _ => (loose_int _ _))) (allL_c (WkR.ptr (fun _ => rfl)) (allL_c (WkR.wk (Wk.refl _) (loose_lst fun _ => (lo_TAttempt _))) (allL_c (WkR.wk (Wk.refl _) (loose_lst fun _ => (lo_TTicket _))) (allL_c (WkR.wk (Wk.refl _) (loose_int _ _)) allL_n))))))))))) (allL_c ⟨some _, rfl, BkR_c rfl (CkR_cons (WkR.wk (Wk.refl _) (loose_lst fun _ => (lo_TGrowth _))) (CkR_cons (WkR.wk (Wk.refl _) (loose_int _ _)) CkR_nil))⟩ (allL_c ⟨some _, rfl, BkR_r rfl (fun _ => (loose_cons (loose_int _ _) loose_nil))⟩ (allL_c ⟨some _, rfl, BkR_r rfl (fun _ => (loose_cons (loose_bool _) loose_nil))⟩ allL_n))))
            refine hK2 ?_; clear hK1 hK2 K1 K2
            refine HT_skip ?_
            refine InBlock_n ?_
            refine Then_n ?_
            refine HT_f DC_ok rfl fun K hK => ?_; (conv => whnf)
            refine hK _ _ _ ?_; clear hK K
            refine Then_n ?_
            replace h := W_xnx h
            refine ⟨_, h, ?_⟩
            refine weak_r ?_; (conv => whnf)
            exact And.intro rfl (And.intro (allL_c (WkR.wk (Wk.refl _) (loose_int _ _)) (allL_c (WkR.wk (Wk.refl _) (loose_int _ _)) (allL_c (WkR.wk (Wk.refl _) (loose_int _ _)) (allL_c (WkR.soN (fun _ => rfl) (lenset rfl).symm) (allL_c (WkR.soN (fun _ => rfl) (lenset rfl).symm) (allL_c (WkR.wk (Wk.refl _) (loose_lst fun _ => (loose_int _ _))) (allL_c (WkR.wk (Wk.refl _) (loose_lst fun _ => (loose_int _ _))) (allL_c (WkR.ptr (fun _ => rfl)) (allL_c (WkR.wk (Wk.refl _) (loose_lst fun _ => (lo_TAttempt _))) (allL_c (WkR.wk (Wk.refl _) (loose_lst fun _ => (lo_TTicket _))) (allL_c (WkR.wk (Wk.refl _) (loose_int _ _)) allL_n))))))))))) (allL_c ⟨some _, rfl, BkR_c rfl (CkR_cons (WkR.wk (Wk.refl _) (loose_lst fun _ => (lo_TGrowth _))) (CkR_cons (WkR.wk (Wk.refl _) (loose_int _ _)) CkR_nil))⟩ (allL_c ⟨some _, rfl, BkR_r rfl (fun _ => (loose_cons (loose_int _ _) loose_nil))⟩ (allL_c ⟨some _, rfl, BkR_r rfl (fun _ => (loose_cons (loose_bool _) loose_nil))⟩ allL_n))))
          refine hK2 ?_; clear hK1 hK2 K1 K2
          refine HT_skip ?_
          refine Then_n ?_
          refine HT_f DC_ok rfl fun K hK => ?_; (conv => whnf)
          refine hK _ _ _ ?_; clear hK K
          refine InBlock_n ?_
          refine Then_n ?_
          replace h := W_xnx h
          refine ⟨_, h, ?_⟩
          refine weak_r ?_; (conv => whnf)
          exact And.intro rfl (And.intro (allL_c (WkR.wk (Wk.refl _) (loose_int _ _)) (allL_c (WkR.wk (Wk.refl _) (loose_lst fun _ => (loose_int _ _))) (allL_c (WkR.wk (Wk.refl _) (loose_lst fun _ => (loose_int _ _))) (allL_c (WkR.ptr (fun _ => rfl)) (allL_c (WkR.wk (Wk.refl _) (loose_lst fun _ => (lo_TAttempt _))) (allL_c (WkR.wk (Wk.refl _) (loose_lst fun _ => (lo_TTicket _))) (allL_c (WkR.wk (Wk.refl _) (loose_int _ _)) (allL_c (WkR.so (fun _ => rfl)) (allL_c (WkR.so (fun _ => rfl)) (allL_c (WkR.wk (Wk.refl _) (loose_int _ _)) (allL_c (WkR.wk (Wk.refl _) (loose_int _ _)) (allL_c (WkR.wk (Wk.refl _) (loose_int _ _)) allL_n)))))))))))) (allL_c ⟨some _, rfl, BkR_c rfl (CkR_cons (WkR.wk (Wk.refl _) (loose_lst fun _ => (lo_TGrowth _))) (CkR_cons (WkR.wk (Wk.refl _) (loose_int _ _)) CkR_nil))⟩ (allL_c ⟨some _, rfl, BkR_r rfl (fun _ => (loose_cons (loose_int _ _) loose_nil))⟩ (allL_c ⟨some _, rfl, BkR_r rfl (fun _ => (loose_cons (loose_bool _) loose_nil))⟩ allL_n))))
        refine hK2 ?_; clear hK1 hK2 K1 K2
        refine HT_exit ?_
        refine Then_e ?_
        refine Then_e ?_
        refine InBlock_e ?_
        replace h := W_xbk h
        replace h := W_inl h
        refine Then_n ?_
        refine HT_fr DC_ok rfl fun K hK => ?_; (conv => whnf)
        refine gd_lkN h (rfl) fun hx279 h => ?_; (conv => whnf)
        refine And.intro (Nat.le_of_ble_eq_true rfl) ?_; (conv => whnf)
        refine blkK_of rfl ?_; (conv => whnf)
        refine get_flN (enc := eI) (d := default) (q := 0) (fun _ => rfl) (rfl) hx279 (Nat.le_of_ble_eq_true rfl) rfl ?_; (conv => whnf)
        refine gd_lkN h (rfl) fun hx280 h => ?_; (conv => whnf)
        refine blkK_of rfl ?_; (conv => whnf)
        refine st_lk (enc := eI) (d := default) (q := 0) h (fun _ => rfl) (rfl) hx280 rfl (Nat.le_of_ble_eq_true rfl) rfl rfl (fun h => ?_); (conv => whnf)
        refine hK _ _ _ ?_; clear hK K
        refine HT_fr DC_ok rfl fun K hK => ?_; (conv => whnf)
        refine hK _ _ _ ?_; clear hK K
        replace h := W_jn h
        refine HT_if fun K1 K2 hK1 hK2 => ?_; (conv => whnf)
        refine cond_lk h (fun _ h => ?_) (fun _ h => ?_)
        · refine hK1 ?_; clear hK1 hK2 K1 K2
          refine HT_f DC_ok rfl fun K hK => ?_; (conv => whnf)
          refine hK _ _ _ ?_; clear hK K
          refine InBlock_n ?_
          refine Then_n ?_
          refine HT_f DC_ok rfl fun K hK => ?_; (conv => whnf)
          refine hK _ _ _ ?_; clear hK K
          refine Then_n ?_
          replace h := W_xnx h
          refine ⟨_, h, ?_⟩
          refine weak_r ?_; (conv => whnf)
          exact And.intro rfl (And.intro (allL_c (WkR.wk (Wk.refl _) (loose_int _ _)) (allL_c (WkR.wk (Wk.refl _) (loose_int _ _)) (allL_c (WkR.wk (Wk.refl _) (loose_int _ _)) (allL_c (WkR.soN (fun _ => rfl) (lenset rfl).symm) (allL_c (WkR.soN (fun _ => rfl) (lenset rfl).symm) (allL_c (WkR.wk (Wk.refl _) (loose_lst fun _ => (loose_int _ _))) (allL_c (WkR.wk (Wk.refl _) (loose_lst fun _ => (loose_int _ _))) (allL_c (WkR.ptr (fun _ => rfl)) (allL_c (WkR.wk (Wk.refl _) (loose_lst fun _ => (lo_TAttempt _))) (allL_c (WkR.wk (Wk.refl _) (loose_lst fun _ => (lo_TTicket _))) (allL_c (WkR.wk (Wk.refl _) (loose_int _ _)) allL_n))))))))))) (allL_c ⟨some _, rfl, BkR_c rfl (CkR_cons (WkR.wk (Wk.refl _) (loose_lst fun _ => (lo_TGrowth _))) (CkR_cons (WkR.wk (Wk.refl _) (loose_int _ _)) CkR_nil))⟩ (allL_c ⟨some _, rfl, BkR_r rfl (fun _ => (loose_cons (loose_int _ _) loose_nil))⟩ (allL_c ⟨some _, rfl, BkR_r rfl (fun _ => (loose_cons (loose_bool _) loose_nil))⟩ allL_n))))
        refine hK2 ?_; clear hK1 hK2 K1 K2
        refine HT_skip ?_
        refine InBlock_n ?_
        refine Then_n ?_
        refine HT_f DC_ok rfl fun K hK => ?_; (conv => whnf)
        refine hK _ _ _ ?_; clear hK K
        refine Then_n ?_
        replace h := W_xnx h
        refine ⟨_, h, ?_⟩
        refine weak_r ?_; (conv => whnf)
        exact And.intro rfl (And.intro (allL_c (WkR.wk (Wk.refl _) (loose_int _ _)) (allL_c (WkR.wk (Wk.refl _) (loose_int _ _)) (allL_c (WkR.wk (Wk.refl _) (loose_int _ _)) (allL_c (WkR.soN (fun _ => rfl) (lenset rfl).symm) (allL_c (WkR.soN (fun _ => rfl) (lenset rfl).symm) (allL_c (WkR.wk (Wk.refl _) (loose_lst fun _ => (loose_int _ _))) (allL_c (WkR.wk (Wk.refl _) (loose_lst fun _ => (loose_int _ _))) (allL_c (WkR.ptr (fun _ => rfl)) (allL_c (WkR.wk (Wk.refl _) (loose_lst fun _ => (lo_TAttempt _))) (allL_c (WkR.wk (Wk.refl _) (loose_lst fun _ => (lo_TTicket _))) (allL_c (WkR.wk (Wk.refl _) (loose_int _ _)) allL_n))))))))))) (allL_c ⟨some _, rfl, BkR_c rfl (CkR_cons (WkR.wk (Wk.refl _) (loose_lst fun _ => (lo_TGrowth _))) (CkR_cons (WkR.wk (Wk.refl _) (loose_int _ _)) CkR_nil))⟩ (allL_c ⟨some _, rfl, BkR_r rfl (fun _ => (loose_cons (loose_int _ _) loose_nil))⟩ (allL_c ⟨some _, rfl, BkR_r rfl (fun _ => (loose_cons (loose_bool _) loose_nil))⟩ allL_n))))
      refine hK2 ?_; clear hK1 hK2 K1 K2
      refine HT_skip ?_
      refine Then_n ?_
      refine HT_seq ?_
      refine HT_block ?_
      replace h := W_bd h
      refine HT_lpR (body := law34_RecoveryEarliest_b3 _ _) rfl h [3, 4, 14, 15, 16, 18, 19, 20, 21, 22, 23] [14] [19, 20] [] (fun kl kh kr ids b s => ⟨ofL ([(25, eI s)] ++ kl), ofH (([] ++ kh) ++ ([] ++ kr)), b + 64⟩) ?_; (conv => whnf); refine And.intro ?_ (fun s m h => HT_st ?_)
      · refine weak_r ?_; (conv => whnf)
        exact And.intro rfl (And.intro (allL_c (WkR.wk (Wk.refl _) (loose_int _ _)) (allL_c (WkR.wk (Wk.refl _) (loose_lst fun _ => (loose_int _ _))) (allL_c (WkR.wk (Wk.refl _) (loose_lst fun _ => (loose_int _ _))) (allL_c (WkR.ptr (fun _ => rfl)) (allL_c (WkR.wk (Wk.refl _) (loose_lst fun _ => (lo_TAttempt _))) (allL_c (WkR.wk (Wk.refl _) (loose_lst fun _ => (lo_TTicket _))) (allL_c (WkR.wk (Wk.refl _) (loose_int _ _)) (allL_c (WkR.so (fun _ => rfl)) (allL_c (WkR.so (fun _ => rfl)) (allL_c (WkR.wk (Wk.refl _) (loose_int _ _)) (allL_c (WkR.wk (Wk.refl _) (loose_int _ _)) (allL_c (WkR.wk (Wk.refl _) (loose_int _ _)) allL_n)))))))))))) (allL_c ⟨some _, rfl, BkR_c rfl (CkR_cons (WkR.wk (Wk.refl _) (loose_lst fun _ => (lo_TGrowth _))) (CkR_cons (WkR.wk (Wk.refl _) (loose_int _ _)) CkR_nil))⟩ (allL_c ⟨some _, rfl, BkR_r rfl (fun _ => (loose_cons (loose_int _ _) loose_nil))⟩ (allL_c ⟨some _, rfl, BkR_r rfl (fun _ => (loose_cons (loose_bool _) loose_nil))⟩ allL_n))))
      replace h := W_blaw34_RecoveryEarliest_b3 (W_bd h)
      refine HT_seq ?_
      refine HT_fr DC_ok rfl fun K hK => ?_; (conv => whnf)
      refine hK _ _ _ ?_; clear hK K
      refine HT_if fun K1 K2 hK1 hK2 => ?_; (conv => whnf)
      refine cond_lk h (fun _ h => ?_) (fun _ h => ?_)
      · refine hK1 ?_; clear hK1 hK2 K1 K2
        refine HT_skip ?_
        refine Then_n ?_
        refine HT_block ?_
        refine HT_fr DC_ok rfl fun K hK => ?_; (conv => whnf)
        refine And.intro (Nat.le_of_ble_eq_true rfl) ?_; (conv => whnf)
        refine blkK_of rfl ?_; (conv => whnf)
        refine And.intro (Nat.le_of_ble_eq_true rfl) ?_; (conv => whnf)
        replace h := W_bd h
        refine recovery_Capacity_call h32 h (WkL.refl _) (fun _ h => ?_); (conv => whnf)
        refine hK _ _ _ ?_; clear hK K
        refine HT_seq ?_
        refine HT_fr DC_ok rfl fun K hK => ?_; (conv => whnf)
        refine hK _ _ _ ?_; clear hK K
        refine HT_if fun K1 K2 hK1 hK2 => ?_; (conv => whnf)
        refine cond_lk h (fun _ h => ?_) (fun _ h => ?_)
        · refine hK1 ?_; clear hK1 hK2 K1 K2
          refine HT_fr DC_ok rfl fun K hK => ?_; (conv => whnf)
          refine hK _ _ _ ?_; clear hK K
          refine HT_ret ?_
          refine Then_r ?_
          refine InBlock_r ?_
          refine Then_r ?_
          refine InBlock_r ?_
          refine Then_r ?_
          refine InBlock_r ?_
          refine Then_r ?_
          refine Then_r ?_
          refine InBlock_r ?_
          refine Then_r ?_
          replace h := W_xrt h
          replace h := W_inr h
          replace h := W_xrt h
          replace h := W_inr h
          replace h := W_some h
          refine PostP_r DC_ok fun K hK => ?_; (conv => whnf)
          refine hK _ ?_; clear hK K
          cases h
          exact Wk.refl _
        refine hK2 ?_; clear hK1 hK2 K1 K2
        refine HT_skip ?_
        refine Then_n ?_
        refine HT_seq ?_
        refine HT_fr DC_ok rfl fun K hK => ?_; (conv => whnf)
        refine gd_lkN h (rfl) fun hx288 h => ?_; (conv => whnf)
        refine And.intro (Nat.le_of_ble_eq_true rfl) ?_; (conv => whnf)
        refine blkK_of rfl ?_; (conv => whnf)
        refine get_flN (enc := eI) (d := default) (q := 0) (fun _ => rfl) (rfl) hx288 (Nat.le_of_ble_eq_true rfl) rfl ?_; (conv => whnf)
        refine hK _ _ _ ?_; clear hK K
        refine HT_if fun K1 K2 hK1 hK2 => ?_; (conv => whnf)
        refine cond_lk h (fun _ h => ?_) (fun _ h => ?_)
        · refine hK1 ?_; clear hK1 hK2 K1 K2
          refine HT_exit ?_
          refine Then_e ?_
          refine InBlock_o (by decide) ?_
          refine Then_e ?_
          refine InBlock_e ?_
          replace h := W_xbk h
          replace h := W_inl h
          refine Then_n ?_
          refine HT_fr DC_ok rfl fun K hK => ?_; (conv => whnf)
          refine gd_lkN h (rfl) fun hx289 h => ?_; (conv => whnf)
          refine And.intro (Nat.le_of_ble_eq_true rfl) ?_; (conv => whnf)
          refine blkK_of rfl ?_; (conv => whnf)
          refine get_flN (enc := eI) (d := default) (q := 0) (fun _ => rfl) (rfl) hx289 (Nat.le_of_ble_eq_true rfl) rfl ?_; (conv => whnf)
          refine gd_lkN h (rfl) fun hx290 h => ?_; (conv => whnf)
          refine blkK_of rfl ?_; (conv => whnf)
          refine st_lk (enc := eI) (d := default) (q := 0) h (fun _ => rfl) (rfl) hx290 rfl (Nat.le_of_ble_eq_true rfl) rfl rfl (fun h => ?_); (conv => whnf)
          refine hK _ _ _ ?_; clear hK K
          refine HT_fr DC_ok rfl fun K hK => ?_; (conv => whnf)
          refine hK _ _ _ ?_; clear hK K
          replace h := W_jn h
          refine HT_if fun K1 K2 hK1 hK2 => ?_; (conv => whnf)
          refine cond_lk h (fun _ h => ?_) (fun _ h => ?_)
          · refine hK1 ?_; clear hK1 hK2 K1 K2
            refine HT_f DC_ok rfl fun K hK => ?_; (conv => whnf)
            refine hK _ _ _ ?_; clear hK K
            refine InBlock_n ?_
            refine Then_n ?_
            refine HT_f DC_ok rfl fun K hK => ?_; (conv => whnf)
            refine hK _ _ _ ?_; clear hK K
            refine Then_n ?_
            replace h := W_xnx h
            refine ⟨_, h, ?_⟩
            refine weak_r ?_; (conv => whnf)
            exact And.intro rfl (And.intro (allL_c (WkR.wk (Wk.refl _) (loose_int _ _)) (allL_c (WkR.wk (Wk.refl _) (loose_int _ _)) (allL_c (WkR.wk (Wk.refl _) (loose_int _ _)) (allL_c (WkR.soN (fun _ => rfl) (lenset rfl).symm) (allL_c (WkR.soN (fun _ => rfl) (lenset rfl).symm) (allL_c (WkR.wk (Wk.refl _) (loose_lst fun _ => (loose_int _ _))) (allL_c (WkR.wk (Wk.refl _) (loose_lst fun _ => (loose_int _ _))) (allL_c (WkR.ptr (fun _ => rfl)) (allL_c (WkR.wk (Wk.refl _) (loose_lst fun _ => (lo_TAttempt _))) (allL_c (WkR.wk (Wk.refl _) (loose_lst fun _ => (lo_TTicket _))) (allL_c (WkR.wk (Wk.refl _) (loose_int _ _)) allL_n))))))))))) (allL_c ⟨some _, rfl, BkR_c rfl (CkR_cons (WkR.wk (Wk.refl _) (loose_lst fun _ => (lo_TGrowth _))) (CkR_cons (WkR.wk (Wk.refl _) (loose_int _ _)) CkR_nil))⟩ (allL_c ⟨some _, rfl, BkR_r rfl (fun _ => (loose_cons (loose_int _ _) loose_nil))⟩ (allL_c ⟨some _, rfl, BkR_r rfl (fun _ => (loose_cons (loose_bool _) loose_nil))⟩ allL_n))))
          refine hK2 ?_; clear hK1 hK2 K1 K2
          refine HT_skip ?_
          refine InBlock_n ?_
          refine Then_n ?_
          refine HT_f DC_ok rfl fun K hK => ?_; (conv => whnf)
          refine hK _ _ _ ?_; clear hK K
          refine Then_n ?_
          replace h := W_xnx h
          refine ⟨_, h, ?_⟩
          refine weak_r ?_; (conv => whnf)
          exact And.intro rfl (And.intro (allL_c (WkR.wk (Wk.refl _) (loose_int _ _)) (allL_c (WkR.wk (Wk.refl _) (loose_int _ _)) (allL_c (WkR.wk (Wk.refl _) (loose_int _ _)) (allL_c (WkR.soN (fun _ => rfl) (lenset rfl).symm) (allL_c (WkR.soN (fun _ => rfl) (lenset rfl).symm) (allL_c (WkR.wk (Wk.refl _) (loose_lst fun _ => (loose_int _ _))) (allL_c (WkR.wk (Wk.refl _) (loose_lst fun _ => (loose_int _ _))) (allL_c (WkR.ptr (fun _ => rfl)) (allL_c (WkR.wk (Wk.refl _) (loose_lst fun _ => (lo_TAttempt _))) (allL_c (WkR.wk (Wk.refl _) (loose_lst fun _ => (lo_TTicket _))) (allL_c (WkR.wk (Wk.refl _) (loose_int _ _)) allL_n))))))))))) (allL_c ⟨some _, rfl, BkR_c rfl (CkR_cons (WkR.wk (Wk.refl _) (loose_lst fun _ => (lo_TGrowth _))) (CkR_cons (WkR.wk (Wk.refl _) (loose_int _ _)) CkR_nil))⟩ (allL_c ⟨some _, rfl, BkR_r rfl (fun _ => (loose_cons (loose_int _ _) loose_nil))⟩ (allL_c ⟨some _, rfl, BkR_r rfl (fun _ => (loose_cons (loose_bool _) loose_nil))⟩ allL_n))))
        refine hK2 ?_; clear hK1 hK2 K1 K2
        refine HT_skip ?_
        refine Then_n ?_
        refine HT_f DC_ok rfl fun K hK => ?_; (conv => whnf)
        refine hK _ _ _ ?_; clear hK K
        refine InBlock_n ?_
        refine Then_n ?_
        replace h := W_xnx h
        refine ⟨_, h, ?_⟩
        refine weak_r ?_; (conv => whnf)
        exact And.intro rfl (And.intro (allL_c (WkR.wk (Wk.refl _) (loose_int _ _)) (allL_c (WkR.wk (Wk.refl _) (loose_lst fun _ => (loose_int _ _))) (allL_c (WkR.wk (Wk.refl _) (loose_lst fun _ => (loose_int _ _))) (allL_c (WkR.ptr (fun _ => rfl)) (allL_c (WkR.wk (Wk.refl _) (loose_lst fun _ => (lo_TAttempt _))) (allL_c (WkR.wk (Wk.refl _) (loose_lst fun _ => (lo_TTicket _))) (allL_c (WkR.wk (Wk.refl _) (loose_int _ _)) (allL_c (WkR.so (fun _ => rfl)) (allL_c (WkR.so (fun _ => rfl)) (allL_c (WkR.wk (Wk.refl _) (loose_int _ _)) (allL_c (WkR.wk (Wk.refl _) (loose_int _ _)) (allL_c (WkR.wk (Wk.refl _) (loose_int _ _)) allL_n)))))))))))) (allL_c ⟨some _, rfl, BkR_c rfl (CkR_cons (WkR.wk (Wk.refl _) (loose_lst fun _ => (lo_TGrowth _))) (CkR_cons (WkR.wk (Wk.refl _) (loose_int _ _)) CkR_nil))⟩ (allL_c ⟨some _, rfl, BkR_r rfl (fun _ => (loose_cons (loose_int _ _) loose_nil))⟩ (allL_c ⟨some _, rfl, BkR_r rfl (fun _ => (loose_cons (loose_bool _) loose_nil))⟩ allL_n))))
      refine hK2 ?_; clear hK1 hK2 K1 K2
      refine HT_exit ?_
      refine Then_e ?_
      refine Then_e ?_
      refine InBlock_e ?_
      replace h := W_xbk h
      replace h := W_inl h
      refine Then_n ?_
      refine HT_fr DC_ok rfl fun K hK => ?_; (conv => whnf)
      refine gd_lkN h (rfl) fun hx291 h => ?_; (conv => whnf)
      refine And.intro (Nat.le_of_ble_eq_true rfl) ?_; (conv => whnf)
      refine blkK_of rfl ?_; (conv => whnf)
      refine get_flN (enc := eI) (d := default) (q := 0) (fun _ => rfl) (rfl) hx291 (Nat.le_of_ble_eq_true rfl) rfl ?_; (conv => whnf)
      refine gd_lkN h (rfl) fun hx292 h => ?_; (conv => whnf)
      refine blkK_of rfl ?_; (conv => whnf)
      refine st_lk (enc := eI) (d := default) (q := 0) h (fun _ => rfl) (rfl) hx292 rfl (Nat.le_of_ble_eq_true rfl) rfl rfl (fun h => ?_); (conv => whnf)
      refine hK _ _ _ ?_; clear hK K
      refine HT_fr DC_ok rfl fun K hK => ?_; (conv => whnf)
      refine hK _ _ _ ?_; clear hK K
      replace h := W_jn h
      refine HT_if fun K1 K2 hK1 hK2 => ?_; (conv => whnf)
      refine cond_lk h (fun _ h => ?_) (fun _ h => ?_)
      · refine hK1 ?_; clear hK1 hK2 K1 K2
        refine HT_f DC_ok rfl fun K hK => ?_; (conv => whnf)
        refine hK _ _ _ ?_; clear hK K
        refine InBlock_n ?_
        refine Then_n ?_
        refine HT_f DC_ok rfl fun K hK => ?_; (conv => whnf)
        refine hK _ _ _ ?_; clear hK K
        refine Then_n ?_
        replace h := W_xnx h
        refine ⟨_, h, ?_⟩
        refine weak_r ?_; (conv => whnf)
        exact And.intro rfl (And.intro (allL_c (WkR.wk (Wk.refl _) (loose_int _ _)) (allL_c (WkR.wk (Wk.refl _) (loose_int _ _)) (allL_c (WkR.wk (Wk.refl _) (loose_int _ _)) (allL_c (WkR.soN (fun _ => rfl) (lenset rfl).symm) (allL_c (WkR.soN (fun _ => rfl) (lenset rfl).symm) (allL_c (WkR.wk (Wk.refl _) (loose_lst fun _ => (loose_int _ _))) (allL_c (WkR.wk (Wk.refl _) (loose_lst fun _ => (loose_int _ _))) (allL_c (WkR.ptr (fun _ => rfl)) (allL_c (WkR.wk (Wk.refl _) (loose_lst fun _ => (lo_TAttempt _))) (allL_c (WkR.wk (Wk.refl _) (loose_lst fun _ => (lo_TTicket _))) (allL_c (WkR.wk (Wk.refl _) (loose_int _ _)) allL_n))))))))))) (allL_c ⟨some _, rfl, BkR_c rfl (CkR_cons (WkR.wk (Wk.refl _) (loose_lst fun _ => (lo_TGrowth _))) (CkR_cons (WkR.wk (Wk.refl _) (loose_int _ _)) CkR_nil))⟩ (allL_c ⟨some _, rfl, BkR_r rfl (fun _ => (loose_cons (loose_int _ _) loose_nil))⟩ (allL_c ⟨some _, rfl, BkR_r rfl (fun _ => (loose_cons (loose_bool _) loose_nil))⟩ allL_n))))
      refine hK2 ?_; clear hK1 hK2 K1 K2
      refine HT_skip ?_
      refine InBlock_n ?_
      refine Then_n ?_
      refine HT_f DC_ok rfl fun K hK => ?_; (conv => whnf)
      refine hK _ _ _ ?_; clear hK K
      refine Then_n ?_
      replace h := W_xnx h
      refine ⟨_, h, ?_⟩
      refine weak_r ?_; (conv => whnf)
      exact And.intro rfl (And.intro (allL_c (WkR.wk (Wk.refl _) (loose_int _ _)) (allL_c (WkR.wk (Wk.refl _) (loose_int _ _)) (allL_c (WkR.wk (Wk.refl _) (loose_int _ _)) (allL_c (WkR.soN (fun _ => rfl) (lenset rfl).symm) (allL_c (WkR.soN (fun _ => rfl) (lenset rfl).symm) (allL_c (WkR.wk (Wk.refl _) (loose_lst fun _ => (loose_int _ _))) (allL_c (WkR.wk (Wk.refl _) (loose_lst fun _ => (loose_int _ _))) (allL_c (WkR.ptr (fun _ => rfl)) (allL_c (WkR.wk (Wk.refl _) (loose_lst fun _ => (lo_TAttempt _))) (allL_c (WkR.wk (Wk.refl _) (loose_lst fun _ => (lo_TTicket _))) (allL_c (WkR.wk (Wk.refl _) (loose_int _ _)) allL_n))))))))))) (allL_c ⟨some _, rfl, BkR_c rfl (CkR_cons (WkR.wk (Wk.refl _) (loose_lst fun _ => (lo_TGrowth _))) (CkR_cons (WkR.wk (Wk.refl _) (loose_int _ _)) CkR_nil))⟩ (allL_c ⟨some _, rfl, BkR_r rfl (fun _ => (loose_cons (loose_int _ _) loose_nil))⟩ (allL_c ⟨some _, rfl, BkR_r rfl (fun _ => (loose_cons (loose_bool _) loose_nil))⟩ allL_n))))
    refine hK2 ?_; clear hK1 hK2 K1 K2
    refine HT_skip ?_
    refine Then_n ?_
    refine HT_seq ?_
    refine HT_block ?_
    replace h := W_bd h
    refine HT_lpR (body := law34_RecoveryEarliest_b2 _ _) rfl h [3, 4, 14, 15, 16, 18, 19, 20, 21, 22, 23] [14] [19, 20] [] (fun kl kh kr ids b s => ⟨ofL ([(24, eI s)] ++ kl), ofH (([] ++ kh) ++ ([] ++ kr)), b + 64⟩) ?_; (conv => whnf); refine And.intro ?_ (fun s m h => HT_st ?_)
    · refine weak_r ?_; (conv => whnf)
      exact And.intro rfl (And.intro (allL_c (WkR.wk (Wk.refl _) (loose_int _ _)) (allL_c (WkR.wk (Wk.refl _) (loose_lst fun _ => (loose_int _ _))) (allL_c (WkR.wk (Wk.refl _) (loose_lst fun _ => (loose_int _ _))) (allL_c (WkR.ptr (fun _ => rfl)) (allL_c (WkR.wk (Wk.refl _) (loose_lst fun _ => (lo_TAttempt _))) (allL_c (WkR.wk (Wk.refl _) (loose_lst fun _ => (lo_TTicket _))) (allL_c (WkR.wk (Wk.refl _) (loose_int _ _)) (allL_c (WkR.so (fun _ => rfl)) (allL_c (WkR.so (fun _ => rfl)) (allL_c (WkR.wk (Wk.refl _) (loose_int _ _)) (allL_c (WkR.wk (Wk.refl _) (loose_int _ _)) (allL_c (WkR.wk (Wk.refl _) (loose_int _ _)) allL_n)))))))))))) (allL_c ⟨some _, rfl, BkR_c rfl (CkR_cons (WkR.wk (Wk.refl _) (loose_lst fun _ => (lo_TGrowth _))) (CkR_cons (WkR.wk (Wk.refl _) (loose_int _ _)) CkR_nil))⟩ (allL_c ⟨some _, rfl, BkR_r rfl (fun _ => (loose_cons (loose_int _ _) loose_nil))⟩ (allL_c ⟨some _, rfl, BkR_r rfl (fun _ => (loose_cons (loose_bool _) loose_nil))⟩ allL_n))))
    replace h := W_blaw34_RecoveryEarliest_b2 (W_bd h)
    refine HT_seq ?_
    refine HT_fr DC_ok rfl fun K hK => ?_; (conv => whnf)
    refine gd_lkN h (rfl) fun hx296 h => ?_; (conv => whnf)
    refine And.intro (Nat.le_of_ble_eq_true rfl) ?_; (conv => whnf)
    refine blkK_of rfl ?_; (conv => whnf)
    refine get_flN (enc := eB) (d := default) (q := 0) (fun _ => rfl) (rfl) hx296 (Nat.le_of_ble_eq_true rfl) rfl ?_; (conv => whnf)
    refine hK _ _ _ ?_; clear hK K
    refine HT_if fun K1 K2 hK1 hK2 => ?_; (conv => whnf)
    refine cond_lk h (fun _ h => ?_) (fun _ h => ?_)
    · refine hK1 ?_; clear hK1 hK2 K1 K2
      refine HT_skip ?_
      refine Then_n ?_
      refine HT_block ?_
      refine HT_f DC_ok rfl fun K hK => ?_; (conv => whnf)
      refine gd_lk h fun _ h => ?_; (conv => whnf)
      refine hK _ _ _ ?_; clear hK K
      refine InBlock_n ?_
      refine Then_n ?_
      replace h := W_xnx h
      refine ⟨_, h, ?_⟩
      refine weak_r ?_; (conv => whnf)
      exact And.intro rfl (And.intro (allL_c (WkR.wk (Wk.refl _) (loose_int _ _)) (allL_c (WkR.wk (Wk.refl _) (loose_lst fun _ => (loose_int _ _))) (allL_c (WkR.wk (Wk.refl _) (loose_lst fun _ => (loose_int _ _))) (allL_c (WkR.ptr (fun _ => rfl)) (allL_c (WkR.wk (Wk.refl _) (loose_lst fun _ => (lo_TAttempt _))) (allL_c (WkR.wk (Wk.refl _) (loose_lst fun _ => (lo_TTicket _))) (allL_c (WkR.wk (Wk.refl _) (loose_int _ _)) (allL_c (WkR.so (fun _ => rfl)) (allL_c (WkR.so (fun _ => rfl)) (allL_c (WkR.wk (Wk.refl _) (loose_int _ _)) (allL_c (WkR.wk (Wk.refl _) (loose_int _ _)) (allL_c (WkR.wk (Wk.refl _) (loose_int _ _)) allL_n)))))))))))) (allL_c ⟨some _, rfl, BkR_c rfl (CkR_cons (WkR.wk (Wk.refl _) (loose_lst fun _ => (lo_TGrowth _))) (CkR_cons (WkR.wk (Wk.refl _) (loose_int _ _)) CkR_nil))⟩ (allL_c ⟨some _, rfl, BkR_r rfl (fun _ => (loose_cons (loose_int _ _) loose_nil))⟩ (allL_c ⟨some _, rfl, BkR_r rfl (fun _ => (loose_cons (loose_bool _) loose_nil))⟩ allL_n))))
    refine hK2 ?_; clear hK1 hK2 K1 K2
    refine HT_exit ?_
    refine Then_e ?_
    refine Then_e ?_
    refine InBlock_e ?_
    replace h := W_xbk h
    replace h := W_inl h
    refine Then_n ?_
    refine HT_fr DC_ok rfl fun K hK => ?_; (conv => whnf)
    refine gd_lkN h (rfl) fun hx297 h => ?_; (conv => whnf)
    refine blkK_of rfl ?_; (conv => whnf)
    refine st_lk (enc := eB) (d := default) (q := 0) h (fun _ => rfl) (rfl) hx297 rfl (Nat.le_of_ble_eq_true rfl) rfl rfl (fun h => ?_); (conv => whnf)
    refine hK _ _ _ ?_; clear hK K
    refine HT_seq ?_
    refine HT_fr DC_ok rfl fun K hK => ?_; (conv => whnf)
    refine ix_lk h fun _ h => ?_; (conv => whnf)
    refine getK_of rfl ?_; (conv => whnf)
    refine hK _ _ _ ?_; clear hK K
    refine HT_if fun K1 K2 hK1 hK2 => ?_; (conv => whnf)
    refine cond_lk h (fun _ h => ?_) (fun _ h => ?_)
    · refine hK1 ?_; clear hK1 hK2 K1 K2
      refine HT_seq ?_
      refine HT_fr DC_ok rfl fun K hK => ?_; (conv => whnf)
      refine ix_lk h fun _ h => ?_; (conv => whnf)
      refine getK_of rfl ?_; (conv => whnf)
      refine hK _ _ _ ?_; clear hK K
      replace h := W_jn h
      refine HT_if fun K1 K2 hK1 hK2 => ?_; (conv => whnf)
      refine cond_lk h (fun _ h => ?_) (fun _ h => ?_)
      · refine hK1 ?_; clear hK1 hK2 K1 K2
        refine HT_f DC_ok rfl fun K hK => ?_; (conv => whnf)
        refine hK _ _ _ ?_; clear hK K
        refine Then_n ?_
        refine HT_exit ?_
        refine Then_e ?_
        refine InBlock_e ?_
        refine Then_n ?_
        refine HT_f DC_ok rfl fun K hK => ?_; (conv => whnf)
        refine hK _ _ _ ?_; clear hK K
        refine Then_n ?_
        replace h := W_xnx h
        refine ⟨_, h, ?_⟩
        refine weak_r ?_; (conv => whnf)
        exact And.intro rfl (And.intro (allL_c (WkR.wk (Wk.refl _) (loose_int _ _)) (allL_c (WkR.wk (Wk.refl _) (loose_int _ _)) (allL_c (WkR.wk (Wk.refl _) (loose_int _ _)) (allL_c (WkR.so (fun _ => rfl)) (allL_c (WkR.soN (fun _ => rfl) (lenset rfl).symm) (allL_c (WkR.wk (Wk.refl _) (loose_lst fun _ => (loose_int _ _))) (allL_c (WkR.wk (Wk.refl _) (loose_lst fun _ => (loose_int _ _))) (allL_c (WkR.ptr (fun _ => rfl)) (allL_c (WkR.wk (Wk.refl _) (loose_lst fun _ => (lo_TAttempt _))) (allL_c (WkR.wk (Wk.refl _) (loose_lst fun _ => (lo_TTicket _))) (allL_c (WkR.wk (Wk.refl _) (loose_int _ _)) allL_n))))))))))) (allL_c ⟨some _, rfl, BkR_c rfl (CkR_cons (WkR.wk (Wk.refl _) (loose_lst fun _ => (lo_TGrowth _))) (CkR_cons (WkR.wk (Wk.refl _) (loose_int _ _)) CkR_nil))⟩ (allL_c ⟨some _, rfl, BkR_r rfl (fun _ => (loose_cons (loose_int _ _) loose_nil))⟩ (allL_c ⟨some _, rfl, BkR_r rfl (fun _ => (loose_cons (loose_bool _) loose_nil))⟩ allL_n))))
      refine hK2 ?_; clear hK1 hK2 K1 K2
      refine HT_skip ?_
      refine Then_n ?_
      refine HT_exit ?_
      refine Then_e ?_
      refine InBlock_e ?_
      refine Then_n ?_
      refine HT_f DC_ok rfl fun K hK => ?_; (conv => whnf)
      refine hK _ _ _ ?_; clear hK K
      refine Then_n ?_
      replace h := W_xnx h
      refine ⟨_, h, ?_⟩
      refine weak_r ?_; (conv => whnf)
      exact And.intro rfl (And.intro (allL_c (WkR.wk (Wk.refl _) (loose_int _ _)) (allL_c (WkR.wk (Wk.refl _) (loose_int _ _)) (allL_c (WkR.wk (Wk.refl _) (loose_int _ _)) (allL_c (WkR.so (fun _ => rfl)) (allL_c (WkR.soN (fun _ => rfl) (lenset rfl).symm) (allL_c (WkR.wk (Wk.refl _) (loose_lst fun _ => (loose_int _ _))) (allL_c (WkR.wk (Wk.refl _) (loose_lst fun _ => (loose_int _ _))) (allL_c (WkR.ptr (fun _ => rfl)) (allL_c (WkR.wk (Wk.refl _) (loose_lst fun _ => (lo_TAttempt _))) (allL_c (WkR.wk (Wk.refl _) (loose_lst fun _ => (lo_TTicket _))) (allL_c (WkR.wk (Wk.refl _) (loose_int _ _)) allL_n))))))))))) (allL_c ⟨some _, rfl, BkR_c rfl (CkR_cons (WkR.wk (Wk.refl _) (loose_lst fun _ => (lo_TGrowth _))) (CkR_cons (WkR.wk (Wk.refl _) (loose_int _ _)) CkR_nil))⟩ (allL_c ⟨some _, rfl, BkR_r rfl (fun _ => (loose_cons (loose_int _ _) loose_nil))⟩ (allL_c ⟨some _, rfl, BkR_r rfl (fun _ => (loose_cons (loose_bool _) loose_nil))⟩ allL_n))))
    refine hK2 ?_; clear hK1 hK2 K1 K2
    refine HT_skip ?_
    refine Then_n ?_
    refine HT_fr DC_ok rfl fun K hK => ?_; (conv => whnf)
    refine ix_lk h fun _ h => ?_; (conv => whnf)
    refine getK_of rfl ?_; (conv => whnf)
    refine hK _ _ _ ?_; clear hK K
    refine HT_seq ?_
    refine HT_fr DC_ok rfl fun K hK => ?_; (conv => whnf)
    refine hK _ _ _ ?_; clear hK K
    replace h := W_jn h
    refine HT_if fun K1 K2 hK1 hK2 => ?_; (conv => whnf)
    refine cond_lk h (fun _ h => ?_) (fun _ h => ?_)
    · refine hK1 ?_; clear hK1 hK2 K1 K2
      refine HT_f DC_ok rfl fun K hK => ?_; (conv => whnf)
      refine ix_lk h fun _ h => ?_; (conv => whnf)
      refine getK_of rfl ?_; (conv => whnf)
      replace h := W_bd h
      refine law34_pick_call h29 h (WkL.refl _) (fun _ h => ?_); (conv => whnf)
      refine hK _ _ _ ?_; clear hK K
      refine Then_n ?_
      refine HT_seq ?_
      refine HT_block ?_
      replace h := W_bd h
      refine HT_lpR (body := law34_RecoveryEarliest_b3 _ _) rfl h [3, 4, 14, 15, 16, 18, 19, 20, 21, 22, 23] [14] [19, 20] [] (fun kl kh kr ids b s => ⟨ofL ([(25, eI s)] ++ kl), ofH (([] ++ kh) ++ ([] ++ kr)), b + 64⟩) ?_; (conv => whnf); refine And.intro ?_ (fun s m h => HT_st ?_)
      · refine weak_r ?_; (conv => whnf)
        exact And.intro rfl (And.intro (allL_c (WkR.wk (Wk.refl _) (loose_int _ _)) (allL_c (WkR.wk (Wk.refl _) (loose_lst fun _ => (loose_int _ _))) (allL_c (WkR.wk (Wk.refl _) (loose_lst fun _ => (loose_int _ _))) (allL_c (WkR.ptr (fun _ => rfl)) (allL_c (WkR.wk (Wk.refl _) (loose_lst fun _ => (lo_TAttempt _))) (allL_c (WkR.wk (Wk.refl _) (loose_lst fun _ => (lo_TTicket _))) (allL_c (WkR.wk (Wk.refl _) (loose_int _ _)) (allL_c (WkR.so (fun _ => rfl)) (allL_c (WkR.so (fun _ => rfl)) (allL_c (WkR.wk (Wk.refl _) (loose_int _ _)) (allL_c (WkR.wk (Wk.refl _) (loose_int _ _)) (allL_c (WkR.wk (Wk.refl _) (loose_int _ _)) allL_n)))))))))))) (allL_c ⟨some _, rfl, BkR_c rfl (CkR_cons (WkR.wk (Wk.refl _) (loose_lst fun _ => (lo_TGrowth _))) (CkR_cons (WkR.wk (Wk.refl _) (loose_int _ _)) CkR_nil))⟩ (allL_c ⟨some _, rfl, BkR_r rfl (fun _ => (loose_cons (loose_int _ _) loose_nil))⟩ (allL_c ⟨some _, rfl, BkR_r rfl (fun _ => (loose_cons (loose_bool _) loose_nil))⟩ allL_n))))
      replace h := W_blaw34_RecoveryEarliest_b3 (W_bd h)
      refine HT_seq ?_
      refine HT_fr DC_ok rfl fun K hK => ?_; (conv => whnf)
      refine hK _ _ _ ?_; clear hK K
      refine HT_if fun K1 K2 hK1 hK2 => ?_; (conv => whnf)
      refine cond_lk h (fun _ h => ?_) (fun _ h => ?_)
      · refine hK1 ?_; clear hK1 hK2 K1 K2
        refine HT_skip ?_
        refine Then_n ?_
        refine HT_block ?_
        refine HT_fr DC_ok rfl fun K hK => ?_; (conv => whnf)
        refine And.intro (Nat.le_of_ble_eq_true rfl) ?_; (conv => whnf)
        refine blkK_of rfl ?_; (conv => whnf)
        refine And.intro (Nat.le_of_ble_eq_true rfl) ?_; (conv => whnf)
        replace h := W_bd h
        refine recovery_Capacity_call h32 h (WkL.refl _) (fun _ h => ?_); (conv => whnf)
        refine hK _ _ _ ?_; clear hK K
        refine HT_seq ?_
        refine HT_fr DC_ok rfl fun K hK => ?_; (conv => whnf)
        refine hK _ _ _ ?_; clear hK K
        refine HT_if fun K1 K2 hK1 hK2 => ?_; (conv => whnf)
        refine cond_lk h (fun _ h => ?_) (fun _ h => ?_)
        · refine hK1 ?_; clear hK1 hK2 K1 K2
          refine HT_fr DC_ok rfl fun K hK => ?_; (conv => whnf)
          refine hK _ _ _ ?_; clear hK K
          refine HT_ret ?_
          refine Then_r ?_
          refine InBlock_r ?_
          refine Then_r ?_
          refine InBlock_r ?_
          refine Then_r ?_
          refine InBlock_r ?_
          refine Then_r ?_
          refine Then_r ?_
          refine InBlock_r ?_
          refine Then_r ?_
          replace h := W_xrt h
          replace h := W_inr h
          replace h := W_xrt h
          replace h := W_inr h
          replace h := W_some h
          refine PostP_r DC_ok fun K hK => ?_; (conv => whnf)
          refine hK _ ?_; clear hK K
          cases h
          exact Wk.refl _
        refine hK2 ?_; clear hK1 hK2 K1 K2
        refine HT_skip ?_
        refine Then_n ?_
        refine HT_seq ?_
        refine HT_fr DC_ok rfl fun K hK => ?_; (conv => whnf)
        refine gd_lkN h (rfl) fun hx305 h => ?_; (conv => whnf)
        refine And.intro (Nat.le_of_ble_eq_true rfl) ?_; (conv => whnf)
        refine blkK_of rfl ?_; (conv => whnf)
        refine get_flN (enc := eI) (d := default) (q := 0) (fun _ => rfl) (rfl) hx305 (Nat.le_of_ble_eq_true rfl) rfl ?_; (conv => whnf)
        refine hK _ _ _ ?_; clear hK K
        refine HT_if fun K1 K2 hK1 hK2 => ?_; (conv => whnf)
        refine cond_lk h (fun _ h => ?_) (fun _ h => ?_)
        · refine hK1 ?_; clear hK1 hK2 K1 K2
          refine HT_exit ?_
          refine Then_e ?_
          refine InBlock_o (by decide) ?_
          refine Then_e ?_
          refine InBlock_e ?_
          replace h := W_xbk h
          replace h := W_inl h
          refine Then_n ?_
          refine HT_fr DC_ok rfl fun K hK => ?_; (conv => whnf)
          refine gd_lkN h (rfl) fun hx306 h => ?_; (conv => whnf)
          refine And.intro (Nat.le_of_ble_eq_true rfl) ?_; (conv => whnf)
          refine blkK_of rfl ?_; (conv => whnf)
          refine get_flN (enc := eI) (d := default) (q := 0) (fun _ => rfl) (rfl) hx306 (Nat.le_of_ble_eq_true rfl) rfl ?_; (conv => whnf)
          refine gd_lkN h (rfl) fun hx307 h => ?_; (conv => whnf)
          refine blkK_of rfl ?_; (conv => whnf)
          refine st_lk (enc := eI) (d := default) (q := 0) h (fun _ => rfl) (rfl) hx307 rfl (Nat.le_of_ble_eq_true rfl) rfl rfl (fun h => ?_); (conv => whnf)
          refine hK _ _ _ ?_; clear hK K
          refine HT_fr DC_ok rfl fun K hK => ?_; (conv => whnf)
          refine hK _ _ _ ?_; clear hK K
          replace h := W_jn h
          refine HT_if fun K1 K2 hK1 hK2 => ?_; (conv => whnf)
          refine cond_lk h (fun _ h => ?_) (fun _ h => ?_)
          · refine hK1 ?_; clear hK1 hK2 K1 K2
            refine HT_f DC_ok rfl fun K hK => ?_; (conv => whnf)
            refine hK _ _ _ ?_; clear hK K
            refine InBlock_n ?_
            refine Then_n ?_
            refine HT_f DC_ok rfl fun K hK => ?_; (conv => whnf)
            refine hK _ _ _ ?_; clear hK K
            refine Then_n ?_
            replace h := W_xnx h
            refine ⟨_, h, ?_⟩
            refine weak_r ?_; (conv => whnf)
            exact And.intro rfl (And.intro (allL_c (WkR.wk (Wk.refl _) (loose_int _ _)) (allL_c (WkR.wk (Wk.refl _) (loose_int _ _)) (allL_c (WkR.wk (Wk.refl _) (loose_int _ _)) (allL_c (WkR.soN (fun _ => rfl) (lenset rfl).symm) (allL_c (WkR.soN (fun _ => rfl) (lenset rfl).symm) (allL_c (WkR.wk (Wk.refl _) (loose_lst fun _ => (loose_int _ _))) (allL_c (WkR.wk (Wk.refl _) (loose_lst fun _ => (loose_int _ _))) (allL_c (WkR.ptr (fun _ => rfl)) (allL_c (WkR.wk (Wk.refl _) (loose_lst fun _ => (lo_TAttempt _))) (allL_c (WkR.wk (Wk.refl _) (loose_lst fun _ => (lo_TTicket _))) (allL_c (WkR.wk (Wk.refl _) (loose_int _ _)) allL_n))))))))))) (allL_c ⟨some _, rfl, BkR_c rfl (CkR_cons (WkR.wk (Wk.refl _) (loose_lst fun _ => (lo_TGrowth _))) (CkR_cons (WkR.wk (Wk.refl _) (loose_int _ _)) CkR_nil))⟩ (allL_c ⟨some _, rfl, BkR_r rfl (fun _ => (loose_cons (loose_int _ _) loose_nil))⟩ (allL_c ⟨some _, rfl, BkR_r rfl (fun _ => (loose_cons (loose_bool _) loose_nil))⟩ allL_n))))
          refine hK2 ?_; clear hK1 hK2 K1 K2
          refine HT_skip ?_
          refine InBlock_n ?_
          refine Then_n ?_
          refine HT_f DC_ok rfl fun K hK => ?_; (conv => whnf)
          refine hK _ _ _ ?_; clear hK K
          refine Then_n ?_
          replace h := W_xnx h
          refine ⟨_, h, ?_⟩
          refine weak_r ?_; (conv => whnf)
          exact And.intro rfl (And.intro (allL_c (WkR.wk (Wk.refl _) (loose_int _ _)) (allL_c (WkR.wk (Wk.refl _) (loose_int _ _)) (allL_c (WkR.wk (Wk.refl _) (loose_int _ _)) (allL_c (WkR.soN (fun _ => rfl) (lenset rfl).symm) (allL_c (WkR.soN (fun _ => rfl) (lenset rfl).symm) (allL_c (WkR.wk (Wk.refl _) (loose_lst fun _ => (loose_int _ _))) (allL_c (WkR.wk (Wk.refl _) (loose_lst fun _ => (loose_int _ _))) (allL_c (WkR.ptr (fun _ => rfl)) (allL_c (WkR.wk (Wk.refl _) (loose_lst fun _ => (lo_TAttempt _))) (allL_c (WkR.wk (Wk.refl _) (loose_lst fun _ => (lo_TTicket _))) (allL_c (WkR.wk (Wk.refl _) (loose_int _ _)) allL_n))))))))))) (allL_c ⟨some _, rfl, BkR_c rfl (CkR_cons (WkR.wk (Wk.refl _) (loose_lst fun _ => (lo_TGrowth _))) (CkR_cons (WkR.wk (Wk.refl _) (loose_int _ _)) CkR_nil))⟩ (allL_c ⟨some _, rfl, BkR_r rfl (fun _ => (loose_cons (loose_int _ _) loose_nil))⟩ (allL_c ⟨some _, rfl, BkR_r rfl (fun _ => (loose_cons (loose_bool _) loose_nil))⟩ allL_n))))
        refine hK2 ?_; clear hK1 hK2 K1 K2
        refine HT_skip ?_
        refine Then_n ?_
        refine HT_f DC_ok rfl fun K hK => ?_; (conv => whnf)
        refine hK _ _ _ ?_; clear hK K
        refine InBlock_n ?_
        refine Then_n ?_
        replace h := W_xnx h
        refine ⟨_, h, ?_⟩
        refine weak_r ?_; (conv => whnf)
        exact And.intro rfl (And.intro (allL_c (WkR.wk (Wk.refl _) (loose_int _ _)) (allL_c (WkR.wk (Wk.refl _) (loose_lst fun _ => (loose_int _ _))) (allL_c (WkR.wk (Wk.refl _) (loose_lst fun _ => (loose_int _ _))) (allL_c (WkR.ptr (fun _ => rfl)) (allL_c (WkR.wk (Wk.refl _) (loose_lst fun _ => (lo_TAttempt _))) (allL_c (WkR.wk (Wk.refl _) (loose_lst fun _ => (lo_TTicket _))) (allL_c (WkR.wk (Wk.refl _) (loose_int _ _)) (allL_c (WkR.so (fun _ => rfl)) (allL_c (WkR.so (fun _ => rfl)) (allL_c (WkR.wk (Wk.refl _) (loose_int _ _)) (allL_c (WkR.wk (Wk.refl _) (loose_int _ _)) (allL_c (WkR.wk (Wk.refl _) (loose_int _ _)) allL_n)))))))))))) (allL_c ⟨some _, rfl, BkR_c rfl (CkR_cons (WkR.wk (Wk.refl _) (loose_lst fun _ => (lo_TGrowth _))) (CkR_cons (WkR.wk (Wk.refl _) (loose_int _ _)) CkR_nil))⟩ (allL_c ⟨some _, rfl, BkR_r rfl (fun _ => (loose_cons (loose_int _ _) loose_nil))⟩ (allL_c ⟨some _, rfl, BkR_r rfl (fun _ => (loose_cons (loose_bool _) loose_nil))⟩ allL_n))))
      refine hK2 ?_; clear hK1 hK2 K1 K2
      refine HT_exit ?_
      refine Then_e ?_
      refine Then_e ?_
      refine InBlock_e ?_
      replace h := W_xbk h
      replace h := W_inl h
      refine Then_n ?_
      refine HT_fr DC_ok rfl fun K hK => ?_; (conv => whnf)
      refine gd_lkN h (rfl) fun hx308 h => ?_; (conv => whnf)
      refine And.intro (Nat.le_of_ble_eq_true rfl) ?_; (conv => whnf)
      refine blkK_of rfl ?_; (conv => whnf)
      refine get_flN (enc := eI) (d := default) (q := 0) (fun _ => rfl) (rfl) hx308 (Nat.le_of_ble_eq_true rfl) rfl ?_; (conv => whnf)
      refine gd_lkN h (rfl) fun hx309 h => ?_; (conv => whnf)
      refine blkK_of rfl ?_; (conv => whnf)
      refine st_lk (enc := eI) (d := default) (q := 0) h (fun _ => rfl) (rfl) hx309 rfl (Nat.le_of_ble_eq_true rfl) rfl rfl (fun h => ?_); (conv => whnf)
      refine hK _ _ _ ?_; clear hK K
      refine HT_fr DC_ok rfl fun K hK => ?_; (conv => whnf)
      refine hK _ _ _ ?_; clear hK K
      replace h := W_jn h
      refine HT_if fun K1 K2 hK1 hK2 => ?_; (conv => whnf)
      refine cond_lk h (fun _ h => ?_) (fun _ h => ?_)
      · refine hK1 ?_; clear hK1 hK2 K1 K2
        refine HT_f DC_ok rfl fun K hK => ?_; (conv => whnf)
        refine hK _ _ _ ?_; clear hK K
        refine InBlock_n ?_
        refine Then_n ?_
        refine HT_f DC_ok rfl fun K hK => ?_; (conv => whnf)
        refine hK _ _ _ ?_; clear hK K
        refine Then_n ?_
        replace h := W_xnx h
        refine ⟨_, h, ?_⟩
        refine weak_r ?_; (conv => whnf)
        exact And.intro rfl (And.intro (allL_c (WkR.wk (Wk.refl _) (loose_int _ _)) (allL_c (WkR.wk (Wk.refl _) (loose_int _ _)) (allL_c (WkR.wk (Wk.refl _) (loose_int _ _)) (allL_c (WkR.soN (fun _ => rfl) (lenset rfl).symm) (allL_c (WkR.soN (fun _ => rfl) (lenset rfl).symm) (allL_c (WkR.wk (Wk.refl _) (loose_lst fun _ => (loose_int _ _))) (allL_c (WkR.wk (Wk.refl _) (loose_lst fun _ => (loose_int _ _))) (allL_c (WkR.ptr (fun _ => rfl)) (allL_c (WkR.wk (Wk.refl _) (loose_lst fun _ => (lo_TAttempt _))) (allL_c (WkR.wk (Wk.refl _) (loose_lst fun _ => (lo_TTicket _))) (allL_c (WkR.wk (Wk.refl _) (loose_int _ _)) allL_n))))))))))) (allL_c ⟨some _, rfl, BkR_c rfl (CkR_cons (WkR.wk (Wk.refl _) (loose_lst fun _ => (lo_TGrowth _))) (CkR_cons (WkR.wk (Wk.refl _) (loose_int _ _)) CkR_nil))⟩ (allL_c ⟨some _, rfl, BkR_r rfl (fun _ => (loose_cons (loose_int _ _) loose_nil))⟩ (allL_c ⟨some _, rfl, BkR_r rfl (fun _ => (loose_cons (loose_bool _) loose_nil))⟩ allL_n))))
      refine hK2 ?_; clear hK1 hK2 K1 K2
      refine HT_skip ?_
      refine InBlock_n ?_
      refine Then_n ?_
      refine HT_f DC_ok rfl fun K hK => ?_; (conv => whnf)
      refine hK _ _ _ ?_; clear hK K
      refine Then_n ?_
      replace h := W_xnx h
      refine ⟨_, h, ?_⟩
      refine weak_r ?_; (conv => whnf)
      exact And.intro rfl (And.intro (allL_c (WkR.wk (Wk.refl _) (loose_int _ _)) (allL_c (WkR.wk (Wk.refl _) (loose_int _ _)) (allL_c (WkR.wk (Wk.refl _) (loose_int _ _)) (allL_c (WkR.soN (fun _ => rfl) (lenset rfl).symm) (allL_c (WkR.soN (fun _ => rfl) (lenset rfl).symm) (allL_c (WkR.wk (Wk.refl _) (loose_lst fun _ => (loose_int _ _))) (allL_c (WkR.wk (Wk.refl _) (loose_lst fun _ => (loose_int _ _))) (allL_c (WkR.ptr (fun _ => rfl)) (allL_c (WkR.wk (Wk.refl _) (loose_lst fun _ => (lo_TAttempt _))) (allL_c (WkR.wk (Wk.refl _) (loose_lst fun _ => (lo_TTicket _))) (allL_c (WkR.wk (Wk.refl _) (loose_int _ _)) allL_n))))))))))) (allL_c ⟨some _, rfl, BkR_c rfl (CkR_cons (WkR.wk (Wk.refl _) (loose_lst fun _ => (lo_TGrowth _))) (CkR_cons (WkR.wk (Wk.refl _) (loose_int _ _)) CkR_nil))⟩ (allL_c ⟨some _, rfl, BkR_r rfl (fun _ => (loose_cons (loose_int _ _) loose_nil))⟩ (allL_c ⟨some _, rfl, BkR_r rfl (fun _ => (loose_cons (loose_bool _) loose_nil))⟩ allL_n))))
    refine hK2 ?_; clear hK1 hK2 K1 K2
    refine HT_skip ?_
    refine Then_n ?_
    refine HT_seq ?_
    refine HT_block ?_
    replace h := W_bd h
    refine HT_lpR (body := law34_RecoveryEarliest_b3 _ _) rfl h [3, 4, 14, 15, 16, 18, 19, 20, 21, 22, 23] [14] [19, 20] [] (fun kl kh kr ids b s => ⟨ofL ([(25, eI s)] ++ kl), ofH (([] ++ kh) ++ ([] ++ kr)), b + 64⟩) ?_; (conv => whnf); refine And.intro ?_ (fun s m h => HT_st ?_)
    · refine weak_r ?_; (conv => whnf)
      exact And.intro rfl (And.intro (allL_c (WkR.wk (Wk.refl _) (loose_int _ _)) (allL_c (WkR.wk (Wk.refl _) (loose_lst fun _ => (loose_int _ _))) (allL_c (WkR.wk (Wk.refl _) (loose_lst fun _ => (loose_int _ _))) (allL_c (WkR.ptr (fun _ => rfl)) (allL_c (WkR.wk (Wk.refl _) (loose_lst fun _ => (lo_TAttempt _))) (allL_c (WkR.wk (Wk.refl _) (loose_lst fun _ => (lo_TTicket _))) (allL_c (WkR.wk (Wk.refl _) (loose_int _ _)) (allL_c (WkR.so (fun _ => rfl)) (allL_c (WkR.so (fun _ => rfl)) (allL_c (WkR.wk (Wk.refl _) (loose_int _ _)) (allL_c (WkR.wk (Wk.refl _) (loose_int _ _)) (allL_c (WkR.wk (Wk.refl _) (loose_int _ _)) allL_n)))))))))))) (allL_c ⟨some _, rfl, BkR_c rfl (CkR_cons (WkR.wk (Wk.refl _) (loose_lst fun _ => (lo_TGrowth _))) (CkR_cons (WkR.wk (Wk.refl _) (loose_int _ _)) CkR_nil))⟩ (allL_c ⟨some _, rfl, BkR_r rfl (fun _ => (loose_cons (loose_int _ _) loose_nil))⟩ (allL_c ⟨some _, rfl, BkR_r rfl (fun _ => (loose_cons (loose_bool _) loose_nil))⟩ allL_n))))
    replace h := W_blaw34_RecoveryEarliest_b3 (W_bd h)
    refine HT_seq ?_
    refine HT_fr DC_ok rfl fun K hK => ?_; (conv => whnf)
    refine hK _ _ _ ?_; clear hK K
    refine HT_if fun K1 K2 hK1 hK2 => ?_; (conv => whnf)
    refine cond_lk h (fun _ h => ?_) (fun _ h => ?_)
    · refine hK1 ?_; clear hK1 hK2 K1 K2
      refine HT_skip ?_
      refine Then_n ?_
      refine HT_block ?_
      refine HT_fr DC_ok rfl fun K hK => ?_; (conv => whnf)
      refine And.intro (Nat.le_of_ble_eq_true rfl) ?_; (conv => whnf)
      refine blkK_of rfl ?_; (conv => whnf)
      refine And.intro (Nat.le_of_ble_eq_true rfl) ?_; (conv => whnf)
      replace h := W_bd h
      refine recovery_Capacity_call h32 h (WkL.refl _) (fun _ h => ?_); (conv => whnf)
      refine hK _ _ _ ?_; clear hK K
      refine HT_seq ?_
      refine HT_fr DC_ok rfl fun K hK => ?_; (conv => whnf)
      refine hK _ _ _ ?_; clear hK K
      refine HT_if fun K1 K2 hK1 hK2 => ?_; (conv => whnf)
      refine cond_lk h (fun _ h => ?_) (fun _ h => ?_)
      · refine hK1 ?_; clear hK1 hK2 K1 K2
        refine HT_fr DC_ok rfl fun K hK => ?_; (conv => whnf)
        refine hK _ _ _ ?_; clear hK K
        refine HT_ret ?_
        refine Then_r ?_
        refine InBlock_r ?_
        refine Then_r ?_
        refine InBlock_r ?_
        refine Then_r ?_
        refine InBlock_r ?_
        refine Then_r ?_
        refine Then_r ?_
        refine InBlock_r ?_
        refine Then_r ?_
        replace h := W_xrt h
        replace h := W_inr h
        replace h := W_xrt h
        replace h := W_inr h
        replace h := W_some h
        refine PostP_r DC_ok fun K hK => ?_; (conv => whnf)
        refine hK _ ?_; clear hK K
        cases h
        exact Wk.refl _
      refine hK2 ?_; clear hK1 hK2 K1 K2
      refine HT_skip ?_
      refine Then_n ?_
      refine HT_seq ?_
      refine HT_fr DC_ok rfl fun K hK => ?_; (conv => whnf)
      refine gd_lkN h (rfl) fun hx317 h => ?_; (conv => whnf)
      refine And.intro (Nat.le_of_ble_eq_true rfl) ?_; (conv => whnf)
      refine blkK_of rfl ?_; (conv => whnf)
      refine get_flN (enc := eI) (d := default) (q := 0) (fun _ => rfl) (rfl) hx317 (Nat.le_of_ble_eq_true rfl) rfl ?_; (conv => whnf)
      refine hK _ _ _ ?_; clear hK K
      refine HT_if fun K1 K2 hK1 hK2 => ?_; (conv => whnf)
      refine cond_lk h (fun _ h => ?_) (fun _ h => ?_)
      · refine hK1 ?_; clear hK1 hK2 K1 K2
        refine HT_exit ?_
        refine Then_e ?_
        refine InBlock_o (by decide) ?_
        refine Then_e ?_
        refine InBlock_e ?_
        replace h := W_xbk h
        replace h := W_inl h
        refine Then_n ?_
        refine HT_fr DC_ok rfl fun K hK => ?_; (conv => whnf)
        refine gd_lkN h (rfl) fun hx318 h => ?_; (conv => whnf)
        refine And.intro (Nat.le_of_ble_eq_true rfl) ?_; (conv => whnf)
        refine blkK_of rfl ?_; (conv => whnf)
        refine get_flN (enc := eI) (d := default) (q := 0) (fun _ => rfl) (rfl) hx318 (Nat.le_of_ble_eq_true rfl) rfl ?_; (conv => whnf)
        refine gd_lkN h (rfl) fun hx319 h => ?_; (conv => whnf)
        refine blkK_of rfl ?_; (conv => whnf)
        refine st_lk (enc := eI) (d := default) (q := 0) h (fun _ => rfl) (rfl) hx319 rfl (Nat.le_of_ble_eq_true rfl) rfl rfl (fun h => ?_); (conv => whnf)
        refine hK _ _ _ ?_; clear hK K
        refine HT_fr DC_ok rfl fun K hK => ?_; (conv => whnf)
        refine hK _ _ _ ?_; clear hK K
        replace h := W_jn h
        refine HT_if fun K1 K2 hK1 hK2 => ?_; (conv => whnf)
        refine cond_lk h (fun _ h => ?_) (fun _ h => ?_)
        · refine hK1 ?_; clear hK1 hK2 K1 K2
          refine HT_f DC_ok rfl fun K hK => ?_; (conv => whnf)
          refine hK _ _ _ ?_; clear hK K
          refine InBlock_n ?_
          refine Then_n ?_
          refine HT_f DC_ok rfl fun K hK => ?_; (conv => whnf)
          refine hK _ _ _ ?_; clear hK K
          refine Then_n ?_
          replace h := W_xnx h
          refine ⟨_, h, ?_⟩
          refine weak_r ?_; (conv => whnf)
          exact And.intro rfl (And.intro (allL_c (WkR.wk (Wk.refl _) (loose_int _ _)) (allL_c (WkR.wk (Wk.refl _) (loose_int _ _)) (allL_c (WkR.wk (Wk.refl _) (loose_int _ _)) (allL_c (WkR.soN (fun _ => rfl) (lenset rfl).symm) (allL_c (WkR.soN (fun _ => rfl) (lenset rfl).symm) (allL_c (WkR.wk (Wk.refl _) (loose_lst fun _ => (loose_int _ _))) (allL_c (WkR.wk (Wk.refl _) (loose_lst fun _ => (loose_int _ _))) (allL_c (WkR.ptr (fun _ => rfl)) (allL_c (WkR.wk (Wk.refl _) (loose_lst fun _ => (lo_TAttempt _))) (allL_c (WkR.wk (Wk.refl _) (loose_lst fun _ => (lo_TTicket _))) (allL_c (WkR.wk (Wk.refl _) (loose_int _ _)) allL_n))))))))))) (allL_c ⟨some _, rfl, BkR_c rfl (CkR_cons (WkR.wk (Wk.refl _) (loose_lst fun _ => (lo_TGrowth _))) (CkR_cons (WkR.wk (Wk.refl _) (loose_int _ _)) CkR_nil))⟩ (allL_c ⟨some _, rfl, BkR_r rfl (fun _ => (loose_cons (loose_int _ _) loose_nil))⟩ (allL_c ⟨some _, rfl, BkR_r rfl (fun _ => (loose_cons (loose_bool _) loose_nil))⟩ allL_n))))
        refine hK2 ?_; clear hK1 hK2 K1 K2
        refine HT_skip ?_
        refine InBlock_n ?_
        refine Then_n ?_
        refine HT_f DC_ok rfl fun K hK => ?_; (conv => whnf)
        refine hK _ _ _ ?_; clear hK K
        refine Then_n ?_
        replace h := W_xnx h
        refine ⟨_, h, ?_⟩
        refine weak_r ?_; (conv => whnf)
        exact And.intro rfl (And.intro (allL_c (WkR.wk (Wk.refl _) (loose_int _ _)) (allL_c (WkR.wk (Wk.refl _) (loose_int _ _)) (allL_c (WkR.wk (Wk.refl _) (loose_int _ _)) (allL_c (WkR.soN (fun _ => rfl) (lenset rfl).symm) (allL_c (WkR.soN (fun _ => rfl) (lenset rfl).symm) (allL_c (WkR.wk (Wk.refl _) (loose_lst fun _ => (loose_int _ _))) (allL_c (WkR.wk (Wk.refl _) (loose_lst fun _ => (loose_int _ _))) (allL_c (WkR.ptr (fun _ => rfl)) (allL_c (WkR.wk (Wk.refl _) (loose_lst fun _ => (lo_TAttempt _))) (allL_c (WkR.wk (Wk.refl _) (loose_lst fun _ => (lo_TTicket _))) (allL_c (WkR.wk (Wk.refl _) (loose_int _ _)) allL_n))))))))))) (allL_c ⟨some _, rfl, BkR_c rfl (CkR_cons (WkR.wk (Wk.refl _) (loose_lst fun _ => (lo_TGrowth _))) (CkR_cons (WkR.wk (Wk.refl _) (loose_int _ _)) CkR_nil))⟩ (allL_c ⟨some _, rfl, BkR_r rfl (fun _ => (loose_cons (loose_int _ _) loose_nil))⟩ (allL_c ⟨some _, rfl, BkR_r rfl (fun _ => (loose_cons (loose_bool _) loose_nil))⟩ allL_n))))
      refine hK2 ?_; clear hK1 hK2 K1 K2
      refine HT_skip ?_
      refine Then_n ?_
      refine HT_f DC_ok rfl fun K hK => ?_; (conv => whnf)
      refine hK _ _ _ ?_; clear hK K
      refine InBlock_n ?_
      refine Then_n ?_
      replace h := W_xnx h
      refine ⟨_, h, ?_⟩
      refine weak_r ?_; (conv => whnf)
      exact And.intro rfl (And.intro (allL_c (WkR.wk (Wk.refl _) (loose_int _ _)) (allL_c (WkR.wk (Wk.refl _) (loose_lst fun _ => (loose_int _ _))) (allL_c (WkR.wk (Wk.refl _) (loose_lst fun _ => (loose_int _ _))) (allL_c (WkR.ptr (fun _ => rfl)) (allL_c (WkR.wk (Wk.refl _) (loose_lst fun _ => (lo_TAttempt _))) (allL_c (WkR.wk (Wk.refl _) (loose_lst fun _ => (lo_TTicket _))) (allL_c (WkR.wk (Wk.refl _) (loose_int _ _)) (allL_c (WkR.so (fun _ => rfl)) (allL_c (WkR.so (fun _ => rfl)) (allL_c (WkR.wk (Wk.refl _) (loose_int _ _)) (allL_c (WkR.wk (Wk.refl _) (loose_int _ _)) (allL_c (WkR.wk (Wk.refl _) (loose_int _ _)) allL_n)))))))))))) (allL_c ⟨some _, rfl, BkR_c rfl (CkR_cons (WkR.wk (Wk.refl _) (loose_lst fun _ => (lo_TGrowth _))) (CkR_cons (WkR.wk (Wk.refl _) (loose_int _ _)) CkR_nil))⟩ (allL_c ⟨some _, rfl, BkR_r rfl (fun _ => (loose_cons (loose_int _ _) loose_nil))⟩ (allL_c ⟨some _, rfl, BkR_r rfl (fun _ => (loose_cons (loose_bool _) loose_nil))⟩ allL_n))))
    refine hK2 ?_; clear hK1 hK2 K1 K2
    refine HT_exit ?_
    refine Then_e ?_
    refine Then_e ?_
    refine InBlock_e ?_
    replace h := W_xbk h
    replace h := W_inl h
    refine Then_n ?_
    refine HT_fr DC_ok rfl fun K hK => ?_; (conv => whnf)
    refine gd_lkN h (rfl) fun hx320 h => ?_; (conv => whnf)
    refine And.intro (Nat.le_of_ble_eq_true rfl) ?_; (conv => whnf)
    refine blkK_of rfl ?_; (conv => whnf)
    refine get_flN (enc := eI) (d := default) (q := 0) (fun _ => rfl) (rfl) hx320 (Nat.le_of_ble_eq_true rfl) rfl ?_; (conv => whnf)
    refine gd_lkN h (rfl) fun hx321 h => ?_; (conv => whnf)
    refine blkK_of rfl ?_; (conv => whnf)
    refine st_lk (enc := eI) (d := default) (q := 0) h (fun _ => rfl) (rfl) hx321 rfl (Nat.le_of_ble_eq_true rfl) rfl rfl (fun h => ?_); (conv => whnf)
    refine hK _ _ _ ?_; clear hK K
    refine HT_fr DC_ok rfl fun K hK => ?_; (conv => whnf)
    refine hK _ _ _ ?_; clear hK K
    replace h := W_jn h
    refine HT_if fun K1 K2 hK1 hK2 => ?_; (conv => whnf)
    refine cond_lk h (fun _ h => ?_) (fun _ h => ?_)
    · refine hK1 ?_; clear hK1 hK2 K1 K2
      refine HT_f DC_ok rfl fun K hK => ?_; (conv => whnf)
      refine hK _ _ _ ?_; clear hK K
      refine InBlock_n ?_
      refine Then_n ?_
      refine HT_f DC_ok rfl fun K hK => ?_; (conv => whnf)
      refine hK _ _ _ ?_; clear hK K
      refine Then_n ?_
      replace h := W_xnx h
      refine ⟨_, h, ?_⟩
      refine weak_r ?_; (conv => whnf)
      exact And.intro rfl (And.intro (allL_c (WkR.wk (Wk.refl _) (loose_int _ _)) (allL_c (WkR.wk (Wk.refl _) (loose_int _ _)) (allL_c (WkR.wk (Wk.refl _) (loose_int _ _)) (allL_c (WkR.soN (fun _ => rfl) (lenset rfl).symm) (allL_c (WkR.soN (fun _ => rfl) (lenset rfl).symm) (allL_c (WkR.wk (Wk.refl _) (loose_lst fun _ => (loose_int _ _))) (allL_c (WkR.wk (Wk.refl _) (loose_lst fun _ => (loose_int _ _))) (allL_c (WkR.ptr (fun _ => rfl)) (allL_c (WkR.wk (Wk.refl _) (loose_lst fun _ => (lo_TAttempt _))) (allL_c (WkR.wk (Wk.refl _) (loose_lst fun _ => (lo_TTicket _))) (allL_c (WkR.wk (Wk.refl _) (loose_int _ _)) allL_n))))))))))) (allL_c ⟨some _, rfl, BkR_c rfl (CkR_cons (WkR.wk (Wk.refl _) (loose_lst fun _ => (lo_TGrowth _))) (CkR_cons (WkR.wk (Wk.refl _) (loose_int _ _)) CkR_nil))⟩ (allL_c ⟨some _, rfl, BkR_r rfl (fun _ => (loose_cons (loose_int _ _) loose_nil))⟩ (allL_c ⟨some _, rfl, BkR_r rfl (fun _ => (loose_cons (loose_bool _) loose_nil))⟩ allL_n))))
    refine hK2 ?_; clear hK1 hK2 K1 K2
    refine HT_skip ?_
    refine InBlock_n ?_
    refine Then_n ?_
    refine HT_f DC_ok rfl fun K hK => ?_; (conv => whnf)
    refine hK _ _ _ ?_; clear hK K
    refine Then_n ?_
    replace h := W_xnx h
    refine ⟨_, h, ?_⟩
    refine weak_r ?_; (conv => whnf)
    exact And.intro rfl (And.intro (allL_c (WkR.wk (Wk.refl _) (loose_int _ _)) (allL_c (WkR.wk (Wk.refl _) (loose_int _ _)) (allL_c (WkR.wk (Wk.refl _) (loose_int _ _)) (allL_c (WkR.soN (fun _ => rfl) (lenset rfl).symm) (allL_c (WkR.soN (fun _ => rfl) (lenset rfl).symm) (allL_c (WkR.wk (Wk.refl _) (loose_lst fun _ => (loose_int _ _))) (allL_c (WkR.wk (Wk.refl _) (loose_lst fun _ => (loose_int _ _))) (allL_c (WkR.ptr (fun _ => rfl)) (allL_c (WkR.wk (Wk.refl _) (loose_lst fun _ => (lo_TAttempt _))) (allL_c (WkR.wk (Wk.refl _) (loose_lst fun _ => (lo_TTicket _))) (allL_c (WkR.wk (Wk.refl _) (loose_int _ _)) allL_n))))))))))) (allL_c ⟨some _, rfl, BkR_c rfl (CkR_cons (WkR.wk (Wk.refl _) (loose_lst fun _ => (lo_TGrowth _))) (CkR_cons (WkR.wk (Wk.refl _) (loose_int _ _)) CkR_nil))⟩ (allL_c ⟨some _, rfl, BkR_r rfl (fun _ => (loose_cons (loose_int _ _) loose_nil))⟩ (allL_c ⟨some _, rfl, BkR_r rfl (fun _ => (loose_cons (loose_bool _) loose_nil))⟩ allL_n))))
  refine hK2 ?_; clear hK1 hK2 K1 K2
  refine HT_exit ?_
  refine Then_e ?_
  refine Then_e ?_
  refine InBlock_e ?_
  replace h := W_xbk h
  replace h := W_inl h
  refine Then_n ?_
  refine HT_fr DC_ok rfl fun K hK => ?_; (conv => whnf)
  refine hK _ _ _ ?_; clear hK K
  refine HT_seq ?_
  refine HT_fr DC_ok rfl fun K hK => ?_; (conv => whnf)
  refine hK _ _ _ ?_; clear hK K
  refine HT_block ?_
  replace h := W_bd h
  refine HT_lpK (body := law34_RecoveryEarliest_b4 _ _) rfl h [16, 18, 21, 22] [] [] (fun kl kh ids b s => ⟨ofL ([(28, eI s.1), (29, eI s.2)] ++ kl), ofH ([] ++ kh), b + 64⟩) ?_; (conv => whnf); refine And.intro ?_ (fun s m h => HT_st ?_)
  · refine weak_k ?_; (conv => whnf)
    exact And.intro rfl (And.intro (allL_c (WkR.wk (Wk.refl _) (loose_int _ _)) (allL_c (WkR.wk (Wk.refl _) (loose_int _ _)) (allL_c (WkR.wk (Wk.refl _) (loose_lst fun _ => (lo_TTicket _))) (allL_c (WkR.wk (Wk.refl _) (loose_int _ _)) (allL_c (WkR.wk (Wk.refl _) (loose_int _ _)) (allL_c (WkR.wk (Wk.refl _) (loose_int _ _)) allL_n)))))) allL_n)
  replace h := W_blaw34_RecoveryEarliest_b4 (W_bd h)
  refine HT_seq ?_
  refine HT_fr DC_ok rfl fun K hK => ?_; (conv => whnf)
  refine hK _ _ _ ?_; clear hK K
  refine HT_if fun K1 K2 hK1 hK2 => ?_; (conv => whnf)
  refine cond_lk h (fun _ h => ?_) (fun _ h => ?_)
  · refine hK1 ?_; clear hK1 hK2 K1 K2
    refine HT_skip ?_
    refine Then_n ?_
    refine HT_seq ?_
    refine HT_block ?_
    refine HT_fr DC_ok rfl fun K hK => ?_; (conv => whnf)
    refine ix_lk h fun _ h => ?_; (conv => whnf)
    refine getK_of rfl ?_; (conv => whnf)
    refine hK _ _ _ ?_; clear hK K
    replace h := W_jn h
    refine HT_if fun K1 K2 hK1 hK2 => ?_; (conv => whnf)
    refine cond_lk h (fun _ h => ?_) (fun _ h => ?_)
    · refine hK1 ?_; clear hK1 hK2 K1 K2
      refine HT_f DC_ok rfl fun K hK => ?_; (conv => whnf)
      refine hK _ _ _ ?_; clear hK K
      refine InBlock_n ?_
      refine Then_n ?_
      refine HT_f DC_ok rfl fun K hK => ?_; (conv => whnf)
      refine hK _ _ _ ?_; clear hK K
      refine Then_n ?_
      replace h := W_xnx h
      refine ⟨_, h, ?_⟩
      refine weak_k ?_; (conv => whnf)
      exact And.intro rfl (And.intro (allL_c (WkR.wk (Wk.refl _) (loose_int _ _)) (allL_c (WkR.wk (Wk.refl _) (loose_int _ _)) (allL_c (WkR.wk (Wk.refl _) (loose_lst fun _ => (lo_TTicket _))) (allL_c (WkR.wk (Wk.refl _) (loose_int _ _)) (allL_c (WkR.wk (Wk.refl _) (loose_int _ _)) (allL_c (WkR.wk (Wk.refl _) (loose_int _ _)) allL_n)))))) allL_n)
    refine hK2 ?_; clear hK1 hK2 K1 K2
    refine HT_skip ?_
    refine InBlock_n ?_
    refine Then_n ?_
    refine HT_f DC_ok rfl fun K hK => ?_; (conv => whnf)
    refine hK _ _ _ ?_; clear hK K
    refine Then_n ?_
    replace h := W_xnx h
    refine ⟨_, h, ?_⟩
    refine weak_k ?_; (conv => whnf)
    exact And.intro rfl (And.intro (allL_c (WkR.wk (Wk.refl _) (loose_int _ _)) (allL_c (WkR.wk (Wk.refl _) (loose_int _ _)) (allL_c (WkR.wk (Wk.refl _) (loose_lst fun _ => (lo_TTicket _))) (allL_c (WkR.wk (Wk.refl _) (loose_int _ _)) (allL_c (WkR.wk (Wk.refl _) (loose_int _ _)) (allL_c (WkR.wk (Wk.refl _) (loose_int _ _)) allL_n)))))) allL_n)
  refine hK2 ?_; clear hK1 hK2 K1 K2
  refine HT_exit ?_
  refine Then_e ?_
  refine Then_e ?_
  refine InBlock_e ?_
  replace h := W_xbk h
  replace h := W_inl h
  refine Then_n ?_
  refine HT_fr DC_ok rfl fun K hK => ?_; (conv => whnf)
  refine hK _ _ _ ?_; clear hK K
  refine HT_ret ?_
  replace h := W_some h
  refine PostP_r DC_ok fun K hK => ?_; (conv => whnf)
  refine hK _ ?_; clear hK K
  cases h
  exact Wk.refl _
theorem law34_RecoveryEarliest_call {T : Tbl} (hT : T 5 = pureR law34_RecoveryEarliest_S) {args : List AV} {hp : Heap} {id : Nat} {k : AV → Prop} {a0 : List (Int × Int)} {a1 : Int} {a2 : List (Int × Int)} {a3 : List Int} {a4 : List Int} {a5 : Int} {Φ : Bool → Prop} (h : W (law34_RecoveryEarliest_F a0 a1 a2 a3 a4 a5) Φ) (hw : WkL args [(eL 2 eA71 default) a0, eI a1, (eL 2 eA71 default) a2, (eL 1 eI default) a3, (eL 1 eI default) a4, eI a5]) (hk : ∀ y, Φ y → k (eB y)) : callpK T 5 args hp id k := by
  obtain ⟨y, e, hy⟩ := W_inv h
  exact callpK_pure hT ⟨a0, a1, a2, a3, a4, a5, rfl, W_of e rfl⟩ (by exact (loose_bool _)) hw (hk y hy)
end Go.Proofs.Ytcidmnpihffphaa
/-! P5 -/
namespace Go.Proofs.Ytcidmnpihffphaa
open Go Go.Eng
set_option maxRecDepth 100000
theorem countP_upd {l : List TAttempt} (hn : (l.map (·.Caller)).Nodup) {k : Nat} (hk : k < l.length) {Q Q' : TAttempt → Bool} (h1 : ∀ a ∈ l, a.Caller ≠ (l.getD k default).Caller → Q' a = Q a) (h2 : Q (l.getD k default) = false) : l.countP Q' = l.countP Q + if Q' (l.getD k default) = true then 1 else 0 := by
  have e : l = l.take k ++ l.getD k default :: l.drop (k + 1) := by
    conv => lhs; rw [← List.take_append_drop k l, List.drop_eq_getElem_cons hk, ← getD_lt hk]
  rw [e, List.map_append, List.map_cons, List.nodup_append, List.nodup_cons] at hn
  obtain ⟨_, ⟨n2, _⟩, n3⟩ := hn
  have c1 : (l.take k).countP Q' = (l.take k).countP Q := List.countP_congr fun a ha => by
    rw [h1 a (List.mem_of_mem_take ha) (fun e => n3 _ (List.mem_map_of_mem ha) _ List.mem_cons_self e)]
  have c2 : (l.drop (k + 1)).countP Q' = (l.drop (k + 1)).countP Q := List.countP_congr fun a ha => by
    rw [h1 a (List.mem_of_mem_drop ha) (fun e => n2 (by rw [← e]; exact List.mem_map_of_mem ha))]
  have e1 : l.countP Q' = (l.take k).countP Q' + ((l.drop (k + 1)).countP Q' + if Q' (l.getD k default) = true then 1 else 0) := by
    conv => lhs; rw [e]
    rw [List.countP_append, List.countP_cons]
  have e2 : l.countP Q = (l.take k).countP Q + ((l.drop (k + 1)).countP Q + if Q (l.getD k default) = true then 1 else 0) := by
    conv => lhs; rw [e]
    rw [List.countP_append, List.countP_cons]
  rw [e1, e2, c1, c2, h2]
  simp only [Bool.false_eq_true, if_false]
  omega
theorem undone {l : List TAttempt} {s10 : Int × Int × Int × (List Int) × (List Bool)} (hl : l.length ≤ 40) (hd : s10.2.2.2.2.length = l.length) {j0 : Nat} (hj : j0 < l.length) (h0 : s10.2.2.2.2.getD j0 default = false) {k : Int} (hk : 0 ≤ k ∧ k < l.length) :
    ∃ k' : Nat, lp (law34_RecoveryEarliest_b2 s10 l) FU k = some (.inl (k' : Int)) ∧ k' < l.length ∧ s10.2.2.2.2.getD k' default = false := by
  obtain ⟨o, e, k', rfl, q⟩ := lp_runF (body := law34_RecoveryEarliest_b2 s10 l) (fun s => 0 ≤ s ∧ s < (l.length : Int)) (fun s => if s ≤ (j0 : Int) then ((j0 : Int) - s).toNat else ((l.length : Int) - s + j0).toNat) (fun o => ∃ k' : Nat, o = .inl (k' : Int) ∧ k' < l.length ∧ s10.2.2.2.2.getD k' default = false) (fun s ⟨h1, h2⟩ => by
    obtain ⟨k, rfl⟩ := Int.eq_ofNat_of_zero_le h1
    unfold law34_RecoveryEarliest_b2
    rw [gd_p _ (by omega), Int.toNat_natCast]
    cases hk : s10.2.2.2.2.getD k default
    · rw [cn_f]
      exact .inr (.inl ⟨_, rfl, k, rfl, by omega, hk⟩)
    · have hne : k ≠ j0 := fun e => by rw [e, h0] at hk; cases hk
      rw [cn_t, gd_p _ (by omega), wr_id (by omega) (by omega), Int.tmod_eq_emod_of_nonneg (by omega)]
      refine .inl ⟨_, rfl, ⟨Int.emod_nonneg _ (by omega), Int.emod_lt_of_pos _ (by omega)⟩, ?_⟩
      by_cases e : (k : Int) + 1 = l.length
      · rw [e, Int.emod_self, if_pos (by omega), if_neg (by omega)]
        omega
      · rw [Int.emod_eq_of_lt (by omega) (by omega)]
        split <;> split <;> omega) k hk (by split <;> omega)
  exact ⟨k', e, q⟩
theorem room_loop {r : TRegion} (hr : RV r) {s10 : Int × Int × Int × (List Int) × (List Bool)} (hl : s10.2.2.2.1.length = 200) {t0 : Int} (h0 : 0 ≤ t0 ∧ t0 ≤ 199) :
    ∃ t : Nat, lp (law34_RecoveryEarliest_b3 s10 r) FU t0 = some (.inl (t : Int)) ∧ t0 ≤ t ∧ t ≤ 199 ∧ (t < 199 → s10.2.2.2.1.getD t default < capZ r t) := by
  obtain ⟨o, e, t, rfl, q⟩ := lp_runF (body := law34_RecoveryEarliest_b3 s10 r) (fun s => t0 ≤ s ∧ s ≤ 199) (fun s => (199 - s).toNat) (fun o => ∃ t : Nat, o = .inl (t : Int) ∧ t0 ≤ t ∧ t ≤ 199 ∧ (t < 199 → s10.2.2.2.1.getD t default < capZ r t)) (fun s ⟨h1, h2⟩ => by
    obtain ⟨k, rfl⟩ := Int.eq_ofNat_of_zero_le (show 0 ≤ s by omega)
    unfold law34_RecoveryEarliest_b3
    simp only [cn_dec]
    by_cases h : (k : Int) < 199
    · rw [if_pos h, Capacity_ok hr (by omega), bd_s]
      simp only [bne_self_eq_false, cn_f]
      rw [gd_p _ (by omega), Int.toNat_natCast]
      by_cases hc : s10.2.2.2.1.getD k default < capZ r k
      · rw [if_pos hc]
        exact .inr (.inl ⟨_, rfl, k, rfl, h1, by omega, fun _ => hc⟩)
      · rw [if_neg hc, wr_id (by omega) (by omega)]
        exact .inl ⟨_, rfl, ⟨by omega, by omega⟩, by omega⟩
    · rw [if_neg h]
      exact .inr (.inl ⟨_, rfl, k, rfl, h1, by omega, fun q => by omega⟩)) t0 ⟨Int.le_refl _, h0.2⟩ (by omega)
  exact ⟨t, e, q⟩
/-- Another assignment, as far as it is made. -/
structure AI (r : TRegion) (l : List TAttempt) (T : Int) (k : Nat) (D : Int → Bool) (U : Int → Int) (s : Int × Int × Int × (List Int) × (List Bool)) : Prop where
  n : s.2.2.1 = k
  tl : s.2.2.2.1.length = 200
  dl : s.2.2.2.2.length = l.length
  dn : ∀ i, i < l.length → s.2.2.2.2.getD i default = D (l.getD i default).Caller
  ge : ∀ a ∈ l, D a.Caller = true → a.Urgent = false → a.At ≤ U a.Caller
  tk : ∀ z : Nat, z < 200 → s.2.2.2.1.getD z default = ((l.countP fun a => D a.Caller && (!a.Urgent && (U a.Caller == z)) : Nat) : Int)
  cap : ∀ z : Nat, z < 199 → s.2.2.2.1.getD z default ≤ capZ r z
  ot : s.1 = ((l.countP fun a => D a.Caller && (!a.Urgent && decide (U a.Caller ≤ T)) : Nat) : Int)
  ur : s.2.1 = ((l.countP fun a => D a.Caller && (a.Urgent && decide (a.At ≤ T)) : Nat) : Int)
  cnt : l.countP (fun a => D a.Caller) = k
theorem assign_step {r : TRegion} {l : List TAttempt} {T : Int} {a3 a4 : List Int} (hr : RV r) (hla : LA l) (o3 : okL okI a3) (o4 : okL okI a4) {k : Nat} {s : Int × Int × Int × (List Int) × (List Bool)} (hk : k < l.length) {D : Int → Bool} {U : Int → Int} (h : AI r l T k D U s) :
    ∃ s', law34_RecoveryEarliest_b1 a3 a4 r l T s = some (.nx s') ∧ ∃ D' U', AI r l T (k + 1) D' U' s' := by
  obtain ⟨ot, ur, n, tk, dn⟩ := s
  have hl := hla.lv
  have hll := hla.len
  have hn : n = (k : Int) := h.n
  subst hn
  have hcP : ∀ Q : TAttempt → Bool, l.countP Q ≤ l.length := fun Q => List.countP_le_length
  -- who comes next
  obtain ⟨j0, hj0, hd0⟩ : ∃ j, j < l.length ∧ dn.getD j default = false := by
    by_cases hx : ∃ j, j < l.length ∧ dn.getD j default = false
    · exact hx
    · exfalso
      have : l.countP (fun a => D a.Caller) = l.length := List.countP_eq_length.2 fun a ha => by
        obtain ⟨j, hj, e⟩ := List.getElem_of_mem ha
        have h1 := h.dn j hj
        rw [getD_lt (l := l) hj, e] at h1
        cases hq : D a.Caller
        · exact absurd ⟨j, hj, by rw [← hq]; exact h1⟩ hx
        · rfl
      have := h.cnt
      omega
  unfold law34_RecoveryEarliest_b1
  simp only [jn_d, cn_dec]
  rw [if_pos (by omega)]
  have rest : ∀ p : Int, 0 ≤ p ∧ p < l.length → ∃ s', (bd (lp (law34_RecoveryEarliest_b2 (ot, ur, (k : Int), tk, dn) l) FU p) fun c19 =>
      smK c19 (fun s20 => gd (0 ≤ s20 ∧ s20 < (dn.length : Int)) (st dn s20 true fun l22 => ix l default s20 fun e23 =>
        cn e23.Urgent (ix l default s20 fun e24 => if e24.At ≤ T then some (.nx (ot, wr (ur + 1), wr ((k : Int) + 1), tk, l22)) else some (.nx (ot, ur, wr ((k : Int) + 1), tk, l22)))
          (ix l default s20 fun e27 => if (k : Int) < (a4.length : Int) then ix a4 default (k : Int) fun e30 => bd (law34_pick_F e30 5) fun y31 => bd (lp (law34_RecoveryEarliest_b3 (ot, ur, (k : Int), tk, dn) r) FU (wr (e27.At + y31))) fun c34 =>
              smK c34 (fun s35 => gd (0 ≤ s35 ∧ s35 < (tk.length : Int)) (gd (0 ≤ s35 ∧ s35 < (tk.length : Int)) (st tk s35 (wr (tk.getD s35.toNat default + 1)) fun l37 => if s35 ≤ T then some (.nx (wr (ot + 1), ur, wr ((k : Int) + 1), l37, l22)) else some (.nx (ot, ur, wr ((k : Int) + 1), l37, l22))))) (fun r36 => some (.rt r36))
            else bd (lp (law34_RecoveryEarliest_b3 (ot, ur, (k : Int), tk, dn) r) FU e27.At) fun c34 =>
              smK c34 (fun s35 => gd (0 ≤ s35 ∧ s35 < (tk.length : Int)) (gd (0 ≤ s35 ∧ s35 < (tk.length : Int)) (st tk s35 (wr (tk.getD s35.toNat default + 1)) fun l37 => if s35 ≤ T then some (.nx (wr (ot + 1), ur, wr ((k : Int) + 1), l37, l22)) else some (.nx (ot, ur, wr ((k : Int) + 1), l37, l22))))) (fun r36 => some (.rt r36))))) (fun r21 => some (.rt r21)) : Option (Ct (Int × Int × Int × (List Int) × (List Bool)) Bool)) = some (.nx s') ∧ ∃ D' U', AI r l T (k + 1) D' U' s' := fun p hp => by
    obtain ⟨c, e1, hc, hdc⟩ := undone (s10 := (ot, ur, (k : Int), tk, dn)) (by omega) h.dl hj0 hd0 hp
    have hdl : dn.length = l.length := h.dl
    simp only at hdc
    have hDc : D (l.getD c default).Caller = false := by rw [← h.dn c hc]; exact hdc
    have hac := (hla.at_ c hc).2
    rw [e1, bd_s, smK_l, gd_p _ (by omega), st_d, Int.toNat_natCast, ix_n hc, wr_id (x := (k : Int) + 1) (by omega) (by omega)]
    have hdn' : ∀ i, i < l.length → (dn.set c true).getD i default = (D (l.getD i default).Caller || ((l.getD i default).Caller == (l.getD c default).Caller)) := fun i hi => by
      have hnd := hl.nd
      rw [List.nodup_iff_pairwise_ne, List.pairwise_map, List.pairwise_iff_getElem] at hnd
      by_cases q : i = c
      · subst q
        rw [beq_self_eq_true, Bool.or_true, getD_lt (by simp; omega), List.getElem_set_self]
      · have hne : (l.getD i default).Caller ≠ (l.getD c default).Caller := fun e => by
          rw [getD_lt hi, getD_lt hc] at e
          rcases Nat.lt_or_gt_of_ne q with q | q
          · exact hnd i c hi hc q e
          · exact hnd c i hc hi q e.symm
        have hdi := h.dn i hi
        simp only at hdi
        rw [beq_false_of_ne hne, Bool.or_false, ← hdi, getD_lt (by simp; omega), List.getElem_set_ne (fun e => q e.symm), getD_lt (by omega)]
    -- what is counted behind it
    have upd : ∀ (U' : Int → Int) (P : TAttempt → Int → Bool), (∀ x, x ≠ (l.getD c default).Caller → U' x = U x) → l.countP (fun a => (D a.Caller || (a.Caller == (l.getD c default).Caller)) && P a (U' a.Caller)) = l.countP (fun a => D a.Caller && P a (U a.Caller)) + if P (l.getD c default) (U' (l.getD c default).Caller) = true then 1 else 0 := fun U' P hU => by
      rw [countP_upd hl.nd hc (Q := fun a => D a.Caller && P a (U a.Caller)) (Q' := fun a => (D a.Caller || (a.Caller == (l.getD c default).Caller)) && P a (U' a.Caller)) (fun a _ hne => by rw [beq_false_of_ne hne, Bool.or_false, hU _ hne]) (by show (D _ && _) = false; rw [hDc, Bool.false_and])]
      simp only [beq_self_eq_true, Bool.or_true, Bool.true_and]
    have hcnt : l.countP (fun a => (D a.Caller || (a.Caller == (l.getD c default).Caller))) = k + 1 := by
      have := upd U (fun _ _ => true) (fun _ _ => rfl)
      simp only [Bool.and_true, if_true] at this
      rw [this, h.cnt]
    have hotb : 0 ≤ ot ∧ ot ≤ 20 := by have h1 := h.ot; simp only at h1; rw [h1]; have := hcP (fun a => D a.Caller && (!a.Urgent && decide (U a.Caller ≤ T))); omega
    have hurb : 0 ≤ ur ∧ ur ≤ 20 := by have h1 := h.ur; simp only at h1; rw [h1]; have := hcP (fun a => D a.Caller && (a.Urgent && decide (a.At ≤ T))); omega
    cases hu : (l.getD c default).Urgent
    · rw [cn_f, ix_n hc]
      have fin : ∀ t0 : Int, (l.getD c default).At ≤ t0 ∧ t0 ≤ 199 → ∃ s', (bd (lp (law34_RecoveryEarliest_b3 (ot, ur, (k : Int), tk, dn) r) FU t0) fun c34 =>
              smK c34 (fun s35 => gd (0 ≤ s35 ∧ s35 < (tk.length : Int)) (gd (0 ≤ s35 ∧ s35 < (tk.length : Int)) (st tk s35 (wr (tk.getD s35.toNat default + 1)) fun l37 => if s35 ≤ T then some (.nx (wr (ot + 1), ur, (k : Int) + 1, l37, dn.set c true)) else some (.nx (ot, ur, (k : Int) + 1, l37, dn.set c true))))) (fun r36 => some (.rt r36)) : Option (Ct (Int × Int × Int × (List Int) × (List Bool)) Bool)) = some (.nx s') ∧ ∃ D' U', AI r l T (k + 1) D' U' s' := fun t0 ht0 => by
        obtain ⟨t, e2, t1, t2, t3⟩ := room_loop hr (s10 := (ot, ur, (k : Int), tk, dn)) h.tl (t0 := t0) (by omega)
        have htl : tk.length = 200 := h.tl
        have htk := h.tk t (by omega)
        simp only at htk t3
        have hb := hcP (fun a => D a.Caller && (!a.Urgent && (U a.Caller == t)))
        rw [e2, bd_s, smK_l, gd_p _ (by omega), gd_p _ (by omega), st_d, Int.toNat_natCast, wr_id (x := tk.getD t default + 1) (by omega) (by omega), wr_id (x := ot + 1) (by omega) (by omega)]
        have hU : ∀ x, x ≠ (l.getD c default).Caller → (fun x => if x = (l.getD c default).Caller then (t : Int) else U x) x = U x := fun x hx => by simp only; rw [if_neg hx]
        have hot' := upd _ (fun a x => !a.Urgent && decide (x ≤ T)) hU
        have hur' := upd _ (fun a x => a.Urgent && decide (a.At ≤ T)) hU
        have htk' := fun z : Nat => upd _ (fun a x => !a.Urgent && (x == (z : Int))) hU
        simp only [if_true, hu, Bool.not_false, Bool.true_and, Bool.false_and, Bool.false_eq_true, if_false, decide_eq_true_eq, beq_iff_eq] at hot' hur' htk'
        have hset : ∀ z : Nat, z < 200 → (tk.set t (tk.getD t default + 1)).getD z default = tk.getD z default + if (t : Int) = (z : Int) then 1 else 0 := fun z hz => by
          by_cases q : z = t
          · subst q
            rw [if_pos rfl, getD_lt (l := tk.set z _) (by simp; omega), List.getElem_set_self]
          · rw [if_neg (by omega), getD_lt (l := tk.set t _) (by simp; omega), List.getElem_set_ne (fun e => q e.symm), ← getD_lt (l := tk) (by omega)]; omega
        have mk : ∀ ot' : Int, ot' = ot + (if (t : Int) ≤ T then 1 else 0) → ∃ D' U', AI r l T (k + 1) D' U' (ot', ur, (k : Int) + 1, tk.set t (tk.getD t default + 1), dn.set c true) := fun ot' hot => by
          refine ⟨fun x => D x || (x == (l.getD c default).Caller), fun x => if x = (l.getD c default).Caller then (t : Int) else U x, by simp, by simp [htl], by simp [hdl], hdn', fun a ha hD hau => ?_, fun z hz => ?_, fun z hz => ?_, ?_, ?_, hcnt⟩
          · by_cases q : a.Caller = (l.getD c default).Caller
            · rw [if_pos q]
              obtain ⟨i, hi, e⟩ := List.getElem_of_mem ha
              have hnd := hl.nd
              rw [List.nodup_iff_pairwise_ne, List.pairwise_map, List.pairwise_iff_getElem] at hnd
              have : i = c := by
                rw [← e, getD_lt hc] at q
                rcases Nat.lt_trichotomy i c with w | w | w
                · exact absurd q (hnd i c hi hc w)
                · exact w
                · exact absurd q.symm (hnd c i hc hi w)
              subst this
              rw [getD_lt hi, e] at ht0
              omega
            · rw [if_neg q]
              rw [beq_false_of_ne q, Bool.or_false] at hD
              exact h.ge a ha hD hau
          · simp only
            rw [hset z hz, htk' z]
            have := h.tk z hz
            simp only at this
            rw [this]
            split <;> omega
          · simp only
            rw [hset z (by omega)]
            have := h.cap z hz
            simp only at this
            by_cases q : (t : Int) = (z : Int)
            · have q' : t = z := by omega
              subst q'
              rw [if_pos rfl]
              have := t3 (by omega)
              omega
            · rw [if_neg q]; omega
          · simp only
            rw [hot', hot]
            have := h.ot
            simp only at this
            rw [this]
            split <;> omega
          · simp only
            rw [hur']
            exact h.ur
        by_cases q : (t : Int) ≤ T
        · rw [if_pos q]
          exact ⟨_, rfl, mk _ (by rw [if_pos q])⟩
        · rw [if_neg q]
          exact ⟨_, rfl, mk _ (by rw [if_neg q]; omega)⟩
      by_cases q : (k : Int) < (a4.length : Int)
      · obtain ⟨p1, p2⟩ := pickZ_lt (a4.getD k default) (n := 5) (by omega)
        rw [if_pos q, ix_n (by omega), pick_law _ 5 (okL_get o4 (by omega)) (by omega), bd_s, wr_id (by omega) (by omega)]
        exact fin _ (by omega)
      · rw [if_neg q]
        exact fin _ (by omega)
    · rw [cn_t, ix_n hc]
      have hot' := upd U (fun a x => !a.Urgent && decide (x ≤ T)) (fun _ _ => rfl)
      have hur' := upd U (fun a x => a.Urgent && decide (a.At ≤ T)) (fun _ _ => rfl)
      have htk' := fun z : Nat => upd U (fun a x => !a.Urgent && (x == (z : Int))) (fun _ _ => rfl)
      simp only [hu, Bool.not_true, Bool.true_and, Bool.false_and, Bool.false_eq_true, if_false, decide_eq_true_eq, Nat.add_zero] at hot' hur' htk'
      have mk : ∀ ur' : Int, ur' = ur + (if (l.getD c default).At ≤ T then 1 else 0) → ∃ D' U', AI r l T (k + 1) D' U' (ot, ur', (k : Int) + 1, tk, dn.set c true) := fun ur' hur => by
        refine ⟨fun x => D x || (x == (l.getD c default).Caller), U, by simp, h.tl, by simp [hdl], hdn', fun a ha hD hau => ?_, fun z hz => ?_, h.cap, ?_, ?_, hcnt⟩
        · by_cases q : a.Caller = (l.getD c default).Caller
          · obtain ⟨i, hi, e⟩ := List.getElem_of_mem ha
            have hnd := hl.nd
            rw [List.nodup_iff_pairwise_ne, List.pairwise_map, List.pairwise_iff_getElem] at hnd
            have : i = c := by
              rw [← e, getD_lt hc] at q
              rcases Nat.lt_trichotomy i c with w | w | w
              · exact absurd q (hnd i c hi hc w)
              · exact w
              · exact absurd q.symm (hnd c i hc hi w)
            subst this
            rw [getD_lt hi, e, hau] at hu; cases hu
          · rw [beq_false_of_ne q, Bool.or_false] at hD
            exact h.ge a ha hD hau
        · simp only
          rw [htk' z]
          exact h.tk z hz
        · simp only
          rw [hot']
          exact h.ot
        · simp only
          rw [hur', hur]
          have := h.ur
          simp only at this
          rw [this]
          split <;> omega
      by_cases q : (l.getD c default).At ≤ T
      · rw [if_pos q, wr_id (by omega) (by omega)]
        exact ⟨_, rfl, mk _ (by rw [if_pos q])⟩
      · rw [if_neg q]
        exact ⟨_, rfl, mk _ (by rw [if_neg q]; omega)⟩
  by_cases q : (k : Int) < (a3.length : Int)
  · obtain ⟨p1, p2⟩ := pickZ_lt (a3.getD k default) (n := (l.length : Int)) (by omega)
    rw [if_pos q, ix_n (by omega), pick_law _ _ (okL_get o3 (by omega)) (by omega), bd_s]
    exact rest _ ⟨p1, p2⟩
  · rw [if_neg q]
    exact rest _ ⟨Int.le_refl _, by omega⟩

/-- All tickets by a tick. -/
theorem in_loop {ts : List TTicket} (hl : ts.length ≤ 1000) (T : Int) : ∃ x, lp (law34_RecoveryEarliest_b4 (ts, 0) T) FU (0, 0) = some (.inl ((((List.range ts.length).countP fun j => decide ((ts.getD j default).At ≤ T) : Nat) : Int), x)) := by
  obtain ⟨s, e, h1, h2⟩ := lp_fold (body := law34_RecoveryEarliest_b4 (ts, 0) T) (fun k s => s.2 = (k : Int) ∧ s.1 = (((List.range k).countP (fun j => decide ((ts.getD j default).At ≤ T)) : Nat) : Int)) ts.length (by omega) (fun k s hk ⟨h1, h2⟩ => by
    obtain ⟨c, j⟩ := s
    simp only at h1 h2
    subst h1
    have hcl : (List.range k).countP (fun j => decide ((ts.getD j default).At ≤ T)) ≤ k := Nat.le_trans List.countP_le_length (by simp)
    unfold law34_RecoveryEarliest_b4
    simp only [jn_d, cn_dec]
    rw [if_pos (by omega), ix_n hk, wr_id (x := (k : Int) + 1) (by omega) (by omega), wr_id (x := c + 1) (by omega) (by omega)]
    rw [List.range_succ, List.countP_append, List.countP_cons, List.countP_nil]
    by_cases q : (ts.getD k default).At ≤ T
    · rw [if_pos q]
      exact ⟨_, rfl, by simp, by simp only [q, decide_true, if_true]; omega⟩
    · rw [if_neg q]
      exact ⟨_, rfl, by simp, by simp only [q, decide_false, Bool.false_eq_true, if_false]; omega⟩) (fun s ⟨h1, _⟩ => by
    unfold law34_RecoveryEarliest_b4
    simp only [cn_dec]
    rw [if_neg (by rw [h1]; omega)]) (0, 0) ⟨rfl, by simp⟩
  exact ⟨s.2, by rw [e, ← h2]⟩
theorem plain5 (a0 : List (Int × Int)) (a1 : Int) (a2 : List (Int × Int)) (a3 a4 : List Int) (a5 : Int) (o0 : okL okA71 a0) (o1 : okI a1) (o2 : okL okA71 a2) (o3 : okL okI a3) (o4 : okL okI a4) (o5 : okI a5) : law34_RecoveryEarliest_F a0 a1 a2 a3 a4 a5 = some true := by
  unfold law34_RecoveryEarliest_F
  rw [sane_ok, bd_s]
  simp only [Bool.not_true, cn_f, jn_d]
  obtain ⟨r, e, hr⟩ := made_ok a0 a1 o0 o1
  obtain ⟨l, e2, hla⟩ := attempts_ok a2 o2
  have hl := hla.lv
  have hll := hla.len
  rw [e, bd_s, e2, bd_s]
  obtain ⟨ts, e3, hp, hs⟩ := plan_ok hr hl
  rw [e3, bd_s]
  generalize sortF attCmp l = ys at hs hp
  have hy := hs.lv hl
  have htl := hp.len
  have hyl := hs.perm.length_eq
  simp only [bne_self_eq_false, cn_f]
  rw [show ((ts.length : Int) != (l.length : Int)) = false by simp; omega]
  simp only [cn_f]
  rw [pick_law a5 60 o5 (by omega), bd_s]
  obtain ⟨t0, t1⟩ := pickZ_lt a5 (n := 60) (by omega)
  generalize pickZ a5 60 = T at t0 t1 ⊢
  rw [gd_p _ (by omega), lt_d, gd_p _ (by omega), lt_d]
  obtain ⟨s, e4, D, U, h⟩ := lp_fold (body := law34_RecoveryEarliest_b1 a3 a4 r l T) (fun k s => ∃ D U, AI r l T k D U s) l.length (by omega) (fun k s hk ⟨D, U, h⟩ => assign_step hr hla o3 o4 hk h) (fun s ⟨D, U, h⟩ => by
    have hn := h.n
    unfold law34_RecoveryEarliest_b1
    simp only [cn_dec]
    rw [if_neg (by omega)]) (0, 0, 0, List.replicate ((200 : Int)).toNat (0 : Int), List.replicate ((l.length : Int)).toNat (false : Bool)) ⟨fun _ => false, fun _ => 0, rfl, by simp, by simp, fun i hi => by rw [getD_lt (by simp; exact hi), List.getElem_replicate], fun a _ hD => absurd hD (by simp), fun z hz => by rw [getD_lt (by simp; omega), List.getElem_replicate]; simp, fun z hz => by rw [getD_lt (by simp; omega), List.getElem_replicate]; exact (capZ_bd hr (by omega)).1, by simp, by simp, by simp⟩
  obtain ⟨x, e5⟩ := in_loop (ts := ts) (by omega) T
  rw [e4, bd_s, smK_l, e5, bd_s, smK_l]
  have ho := h.ot
  have hu := h.ur
  have hob : s.1 ≤ 20 := by rw [ho]; have : l.countP (fun a => D a.Caller && (!a.Urgent && decide (U a.Caller ≤ T))) ≤ l.length := List.countP_le_length; omega
  have hub : s.2.1 ≤ 20 := by rw [hu]; have : l.countP (fun a => D a.Caller && (a.Urgent && decide (a.At ≤ T))) ≤ l.length := List.countP_le_length; omega
  -- both orders count alike
  have cv : ∀ Q : TAttempt → Bool, l.countP Q = (List.range ys.length).countP fun j => Q (ys.getD j default) := fun Q => by
    rw [← hs.perm.countP_eq]
    conv => lhs; rw [list_map ys]
    rw [List.countP_map]; rfl
  have hd := dom hy hp (In := fun j => D (ys.getD j default).Caller && (!(ys.getD j default).Urgent && decide (U (ys.getD j default).Caller ≤ T))) (u := fun j => U (ys.getD j default).Caller) (fun j hj hin => by
    simp only [Bool.and_eq_true, Bool.not_eq_true'] at hin
    refine ⟨hin.2.1, ?_⟩
    exact h.ge _ (hs.perm.mem_iff.1 (by rw [getD_lt hj]; exact List.getElem_mem hj)) hin.1 hin.2.1) (fun z hz => by
    obtain ⟨z, rfl⟩ := Int.eq_ofNat_of_zero_le hz
    by_cases q : (z : Int) ≤ T
    · have h1 := h.tk z (by omega)
      have h2 := h.cap z (by omega)
      rw [h1, cv] at h2
      refine Int.le_trans ?_ h2
      have : (List.range ys.length).countP (fun j => (D (ys.getD j default).Caller && (!(ys.getD j default).Urgent && decide (U (ys.getD j default).Caller ≤ T))) && (U (ys.getD j default).Caller == (z : Int))) ≤ (List.range ys.length).countP fun j => D (ys.getD j default).Caller && (!(ys.getD j default).Urgent && (U (ys.getD j default).Caller == (z : Int))) := List.countP_mono_left fun j _ hq => by
        simp only [Bool.and_eq_true] at hq ⊢
        exact ⟨hq.1.1, hq.1.2.1, hq.2⟩
      omega
    · have : (List.range ys.length).countP (fun j => (D (ys.getD j default).Caller && (!(ys.getD j default).Urgent && decide (U (ys.getD j default).Caller ≤ T))) && (U (ys.getD j default).Caller == (z : Int))) = 0 := by
        rw [List.countP_eq_zero]
        intro j _ hq
        simp only [Bool.and_eq_true, decide_eq_true_eq, beq_iff_eq] at hq
        omega
      rw [this]
      exact (capZ_bd hr hz).1) T
  have h1 : l.countP (fun a => D a.Caller && (!a.Urgent && decide (U a.Caller ≤ T))) ≤ (List.range ys.length).countP fun j => (D (ys.getD j default).Caller && (!(ys.getD j default).Urgent && decide (U (ys.getD j default).Caller ≤ T))) && decide (U (ys.getD j default).Caller ≤ T) := by
    rw [cv]
    refine List.countP_mono_left fun j _ hq => ?_
    simp only [Bool.and_eq_true] at hq ⊢
    exact ⟨⟨hq.1, hq.2.1, hq.2.2⟩, hq.2.2⟩
  have h2 : l.countP (fun a => D a.Caller && (a.Urgent && decide (a.At ≤ T))) ≤ (List.range ys.length).countP fun j => (ys.getD j default).Urgent && decide ((ts.getD j default).At ≤ T) := by
    rw [cv]
    refine List.countP_mono_left fun j hj hq => ?_
    simp only [Bool.and_eq_true] at hq ⊢
    refine ⟨hq.2.1, ?_⟩
    rw [hp.ur j (List.mem_range.1 hj) hq.2.1]
    exact hq.2.2
  have h3 := countP_split (p := fun j => !(ys.getD j default).Urgent && decide ((ts.getD j default).At ≤ T)) (q := fun j => (ys.getD j default).Urgent && decide ((ts.getD j default).At ≤ T)) (r := fun j => decide ((ts.getD j default).At ≤ T)) (List.range ys.length) (fun j _ => by
    cases (ys.getD j default).Urgent <;> simp) (fun j _ hq => by
    cases hu : (ys.getD j default).Urgent
    · rfl
    · rw [hu] at hq; cases hq)
  rw [wr_id (by omega) (by omega), htl, decide_eq_true (by omega)]
end Go.Proofs.Ytcidmnpihffphaa
