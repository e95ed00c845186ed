import Derived.Test.YtlmboonbfhkfnaaDoorM5
import Derived.Test.YtlmboonbfhkfnaaDoorM6
set_option linter.unusedVariables false
set_option linter.unusedSimpArgs false
set_option linter.unusedSectionVars false
namespace Go.Proofs.YtlmboonbfhkfnaaDoor
open Go Go.Eng
set_option maxHeartbeats 0
set_option maxRecDepth 100000

    def law07_OrderLines_b4 (e22 : Int) (y2 : TOrder) (y3 : (List Int) × Int) (s43 : Int × (List Int)) : Option (Ct (Int × (List Int)) Bool) := cn (decide (s43.1 < y2.N)) (jn (fun p44 : Bool =>
    jn (fun p47 : (List Int) => some (.nx ((wr (s43.1 + 1)), p47))) fun k48 =>
    cn p44 (gd ((0 : Int) ≤ e22 ∧ e22 < (s43.2.length : Int)) (gd (0 ≤ s43.1) (gd ((0 : Int) ≤ (wr (e22 - (bshl .i64 1 s43.1))) ∧ (wr (e22 - (bshl .i64 1 s43.1))) < (s43.2.length : Int)) (gd ((0 : Int) ≤ e22 ∧ e22 < (s43.2.length : Int)) (st s43.2 (e22) (wr ((s43.2.getD (e22).toNat default) + (s43.2.getD ((wr (e22 - (bshl .i64 1 s43.1)))).toNat default))) fun l49 =>
    k48 l49))))) (k48 s43.2)) fun k45 => gd (0 ≤ s43.1) (cn ((Int.tmod (bshr .i64 e22 s43.1) 2) ==
    1) (gd (0 ≤ s43.1) (bd (law07_in_F y3.1 (wr (e22 - (bshl .i64 1 s43.1)))) fun y46 => k45 y46)) (k45 false))) (some (.bk (s43.1, s43.2)))
theorem W_blaw07_OrderLines_b4 {e22 : Int} {y2 : TOrder} {y3 : (List Int) × Int} {s43 : Int × (List Int)} {Φ : Ct (Int × (List Int)) Bool → Prop} (h : W (law07_OrderLines_b4 e22 y2 y3 s43) Φ) : W (cn (decide (s43.1 < y2.N)) (jn (fun p44 : Bool => jn (fun p47 : (List Int) => some (.nx ((wr (s43.1 + 1)), p47))) fun k48 =>
    cn p44 (gd ((0 : Int) ≤ e22 ∧ e22 < (s43.2.length : Int)) (gd (0 ≤ s43.1) (gd ((0 : Int) ≤ (wr (e22 - (bshl .i64 1 s43.1))) ∧ (wr (e22 - (bshl .i64 1 s43.1))) < (s43.2.length : Int)) (gd ((0 : Int) ≤ e22 ∧ e22 < (s43.2.length : Int)) (st s43.2 (e22) (wr ((s43.2.getD (e22).toNat default) + (s43.2.getD ((wr (e22 - (bshl .i64 1 s43.1)))).toNat default))) fun l49 =>
    k48 l49))))) (k48 s43.2)) fun k45 => gd (0 ≤ s43.1) (cn ((Int.tmod (bshr .i64 e22 s43.1) 2) ==
    1) (gd (0 ≤ s43.1) (bd (law07_in_F y3.1 (wr (e22 - (bshl .i64 1 s43.1)))) fun y46 => k45 y46)) (k45 false))) (some (.bk (s43.1, s43.2)))) Φ := h

    def law07_OrderLines_b3 (e22 : Int) (y6 : List Int) (s25 : (List Int) × (List Int) × Int) : Option (Ct ((List Int) × (List Int) × Int) Bool) := cn (decide (s25.2.2 < (y6.length : Int))) (ix y6 default s25.2.2 fun e26 =>
    gd (0 ≤ e26) (jn (fun p27 : (List Int) × (List Int) => some (.nx (p27.1, p27.2, (wr (s25.2.2 + 1))))) fun k28 => cn ((Int.tmod (bshr .i64 e22 e26) 2) ==
    1) (ix y6 default s25.2.2 fun e29 => lt ([e29] : List Int) fun l30 => ap s25.1 l30 fun l31 => k28 (l31, s25.2.1)) (ix y6 default s25.2.2 fun e32 =>
    lt ([e32] : List Int) fun l33 => ap s25.2.1 l33 fun l34 => k28 (s25.1, l34)))) (some (.bk (s25.1, s25.2.1, s25.2.2)))
theorem W_blaw07_OrderLines_b3 {e22 : Int} {y6 : List Int} {s25 : (List Int) × (List Int) × Int} {Φ : Ct ((List Int) × (List Int) × Int) Bool → Prop} (h : W (law07_OrderLines_b3 e22 y6 s25) Φ) : W (cn (decide (s25.2.2 < (y6.length : Int))) (ix y6 default s25.2.2 fun e26 => gd (0 ≤ e26) (jn (fun p27 : (List Int) × (List Int) =>
    some (.nx (p27.1, p27.2, (wr (s25.2.2 + 1))))) fun k28 => cn ((Int.tmod (bshr .i64 e22 e26) 2) == 1) (ix y6 default s25.2.2 fun e29 => lt ([e29] : List Int) fun l30 =>
    ap s25.1 l30 fun l31 => k28 (l31, s25.2.1)) (ix y6 default s25.2.2 fun e32 => lt ([e32] : List Int) fun l33 => ap s25.2.1 l33 fun l34 =>
    k28 (s25.1, l34)))) (some (.bk (s25.1, s25.2.1, s25.2.2)))) Φ := h

    def law07_OrderLines_b2 (y2 : TOrder) (y3 : (List Int) × Int) (y6 : List Int) (s21 : Int × (List Int)) : Option (Ct (Int × (List Int)) Bool) := cn (decide (s21.1 < (y3.1.length : Int))) (ix y3.1 default s21.1 fun e22 =>
    jn (fun p23 : Bool => cn p23 (some (.rt false)) (bd (lp (law07_OrderLines_b3 e22 y6) FU ([], [], 0)) fun c35 => smK c35 (fun s36 => ap s36.1 s36.2.1 fun l38 =>
    bd (order_IsLine_F y2 l38) fun y39 => cn (!y39) (some (.rt false)) (jn (fun p40 : (List Int) => bd (lp (law07_OrderLines_b4 e22 y2 y3) FU (0, p40)) fun c50 =>
    smK c50 (fun s51 => some (.nx ((wr (s21.1 + 1)), s51.2))) (fun r52 => some (.rt r52))) fun k41 => cn (e22 ==
    0) (gd ((0 : Int) ≤ e22 ∧ e22 < (s21.2.length : Int)) (st s21.2 (e22) 1 fun l42 => k41 l42)) (k41 s21.2))) (fun r37 => some (.rt r37)))) fun k24 =>
    cn (decide (e22 < 0)) (k24 true) (k24 (decide (e22 ≥ (s21.2.length : Int))))) (some (.bk (s21.1, s21.2)))
theorem W_blaw07_OrderLines_b2 {y2 : TOrder} {y3 : (List Int) × Int} {y6 : List Int} {s21 : Int × (List Int)} {Φ : Ct (Int × (List Int)) Bool → Prop} (h : W (law07_OrderLines_b2 y2 y3 y6 s21) Φ) : W (cn (decide (s21.1 < (y3.1.length : Int))) (ix y3.1 default s21.1 fun e22 => jn (fun p23 : Bool =>
    cn p23 (some (.rt false)) (bd (lp (law07_OrderLines_b3 e22 y6) FU ([], [], 0)) fun c35 => smK c35 (fun s36 => ap s36.1 s36.2.1 fun l38 => bd (order_IsLine_F y2 l38) fun y39 =>
    cn (!y39) (some (.rt false)) (jn (fun p40 : (List Int) => bd (lp (law07_OrderLines_b4 e22 y2 y3) FU (0, p40)) fun c50 => smK c50 (fun s51 =>
    some (.nx ((wr (s21.1 + 1)), s51.2))) (fun r52 => some (.rt r52))) fun k41 => cn (e22 == 0) (gd ((0 : Int) ≤ e22 ∧ e22 < (s21.2.length : Int)) (st s21.2 (e22) 1 fun l42 =>
    k41 l42)) (k41 s21.2))) (fun r37 => some (.rt r37)))) fun k24 => cn (decide (e22 < 0)) (k24 true) (k24 (decide (e22 ≥ (s21.2.length : Int))))) (some (.bk (s21.1, s21.2)))) Φ := h

    def law07_OrderLines_b1 (y3 : (List Int) × Int) (y6 : List Int) (s13 : Int × Int) : Option (Ct (Int × Int) Bool) := cn (decide (s13.2 < (y6.length : Int))) (bd (law07_in_F y3.1 s13.1) fun y14 =>
    cn (!y14) (some (.rt false)) (ix y6 default s13.2 fun e15 => gd (0 ≤ e15) (let v16 := (wr (s13.1 + (bshl .i64 1 e15)));
    some (.nx (v16, (wr (s13.2 + 1))))))) (some (.bk (s13.1, s13.2)))
theorem W_blaw07_OrderLines_b1 {y3 : (List Int) × Int} {y6 : List Int} {s13 : Int × Int} {Φ : Ct (Int × Int) Bool → Prop} (h : W (law07_OrderLines_b1 y3 y6 s13) Φ) : W (cn (decide (s13.2 < (y6.length : Int))) (bd (law07_in_F y3.1 s13.1) fun y14 => cn (!y14) (some (.rt false)) (ix y6 default s13.2 fun e15 =>
    gd (0 ≤ e15) (let v16 := (wr (s13.1 + (bshl .i64 1 e15))); some (.nx (v16, (wr (s13.2 + 1))))))) (some (.bk (s13.1, s13.2)))) Φ := h
def law07_OrderLines_F (a0 : Int) (a1 : List (Int × Int)) (a2 : Int) (a3 : List Int) : Option Bool := bd (law07_sane_F ) fun y1 =>
    cn (!y1) (some false) (bd (ref07_Made_F a0 a1 a2) fun y2 => bd (order_Prefixes_F y2) fun y3 => bd (order_Line_F y2) fun y4 => bd (order_Lines_F y2) fun y5 =>
    bd (law07_chosen_F y2 a3) fun y6 => jn (fun p7 : Bool => cn p7 (some false) (bd (lp (law07_OrderLines_b1 y3 y6) FU (0, 0)) fun c17 => smK c17 (fun s18 =>
    gd (0 ≤ y2.N) (gd ((0 : Int) ≤ (bshl .i64 1 y2.N) ∧ (bshl .i64 1 y2.N) ≤ (1048576 : Int)) (lt (List.replicate ((bshl .i64 1 y2.N)).toNat (0 : Int)) fun l20 =>
    bd (lp (law07_OrderLines_b2 y2 y3 y6) FU (0, l20)) fun c53 => smK c53 (fun s54 => jn (fun p56 : Bool => some p56) fun k57 =>
    gd ((0 : Int) ≤ (wr ((s54.2.length : Int) - 1)) ∧ (wr ((s54.2.length : Int) - 1)) < (s54.2.length : Int)) (cn (y5.1 ==
    (s54.2.getD ((wr ((s54.2.length : Int) - 1))).toNat default)) (k57 (decide (y5.1 ≥ 1))) (k57 false))) (fun r55 => some r55)))) (fun r19 => some r19))) fun k8 => cn (y3.2 !=
    0) (k8 true) (cn (y4.2 != 0) (k8 true) (cn (y5.2 != 0) (k8 true) (bd (order_IsLine_F y2 y4.1) fun y9 => cn (!y9) (k8 true) (bd (order_IsLine_F y2 y6) fun y10 =>
    cn (!y10) (k8 true) (cn ((y3.1.length : Int) == 0) (k8 true) (ix y3.1 default 0 fun e11 => cn (e11 != 0) (k8 true) (ix y3.1 default (wr ((y3.1.length : Int) - 1)) fun e12 =>
    gd (0 ≤ y2.N) (k8 (e12 != (wr ((bshl .i64 1 y2.N) - 1))))))))))))
def law07_OrderLines_S : List AV → AV → Prop := fun args r => ∃ a0 a1 a2 a3, args = [eI a0, (eL 2 eA46 default) a1, eI a2, (eL 1 eI default) a3] ∧ W (law07_OrderLines_F a0 a1 a2 a3) fun y => r = (eB y)
theorem law07_OrderLines_ok {T : Tbl} (hT : TOk Tryd.prog T) (hpf : PfOk T PF) (h11 : T 11 = pureR law07_sane_S) (h12 : T 12 = pureR ref07_Made_S) (h18 : T 18 = pureR order_Prefixes_S) (h19 : T 19 = pureR order_Line_S) (h20 : T 20 = pureR order_Lines_S) (h21 : T 21 = pureR law07_chosen_S) (h22 : T 22 = pureR order_IsLine_S) (h23 : T 23 = pureR law07_in_S) : FOk Tryd.prog 4 (pureR law07_OrderLines_S) := by
  refine FOk_pure hT hpf Tryd.func4 rfl Tryd.ntmps4 Tryd.results4 (by decide) ?_
  rintro args r ⟨a0, a1, a2, a3, rfl, h⟩
  refine ⟨nle rfl, ?_, ?_⟩
  · exact (loose_cons (loose_int _ _) (loose_cons (loose_lst fun _ => (lo_A46 _)) (loose_cons (loose_int _ _) (loose_cons (loose_lst fun _ => (loose_int _ _)) loose_nil))))
  rw [law07_OrderLines_F.eq_1] at h
  refine HT_fr DC_ok rfl fun K hK => ?_; (conv => whnf)
  refine hK _ _ _ ?_; clear hK K
  refine HT_fr DC_ok rfl fun K hK => ?_; (conv => whnf)
  replace h := W_bd h
  refine law07_sane_call h11 h (WkL.refl _) (fun _ h => ?_); (conv => whnf)
  refine hK _ _ _ ?_; clear hK K
  refine HT_seq ?_
  refine HT_fr DC_ok rfl fun K hK => ?_; (conv => whnf)
  refine hK _ _ _ ?_; clear hK K
  refine HT_if fun K1 K2 hK1 hK2 => ?_; (conv => whnf)
  refine cond_lk h (fun _ h => ?_) (fun _ h => ?_)
  · refine hK1 ?_; clear hK1 hK2 K1 K2
    refine HT_fr DC_ok rfl fun K hK => ?_; (conv => whnf)
    refine hK _ _ _ ?_; clear hK K
    refine HT_ret ?_
    refine Then_r ?_
    replace h := W_some h
    refine PostP_r DC_ok fun K hK => ?_; (conv => whnf)
    refine hK _ ?_; clear hK K
    cases h
    exact Wk.refl _
  refine hK2 ?_; clear hK1 hK2 K1 K2
  refine HT_skip ?_
  refine Then_n ?_
  refine HT_fr DC_ok rfl fun K hK => ?_; (conv => whnf)
  replace h := W_bd h
  refine ref07_Made_call h12 h (WkL.refl _) (fun _ h => ?_); (conv => whnf)
  refine blkK_of rfl ?_; (conv => whnf)
  refine And.intro rfl (And.intro (nle rfl) (And.intro rfl ?_)); (conv => whnf)
  refine hK _ _ _ ?_; clear hK K
  refine HT_fr DC_ok rfl fun K hK => ?_; (conv => whnf)
  refine nlA rfl ?_; (conv => whnf)
  refine blkK_of rfl ?_; (conv => whnf)
  refine nlA rfl ?_; (conv => whnf)
  replace h := W_bd h
  refine order_Prefixes_call h18 h (WkL.refl _) (fun _ h => ?_); (conv => whnf)
  refine hK _ _ _ ?_; clear hK K
  refine HT_fr DC_ok rfl fun K hK => ?_; (conv => whnf)
  refine nlA rfl ?_; (conv => whnf)
  refine blkK_of rfl ?_; (conv => whnf)
  refine nlA rfl ?_; (conv => whnf)
  replace h := W_bd h
  refine order_Line_call h19 h (WkL.refl _) (fun _ h => ?_); (conv => whnf)
  refine hK _ _ _ ?_; clear hK K
  refine HT_fr DC_ok rfl fun K hK => ?_; (conv => whnf)
  refine nlA rfl ?_; (conv => whnf)
  refine blkK_of rfl ?_; (conv => whnf)
  refine nlA rfl ?_; (conv => whnf)
  replace h := W_bd h
  refine order_Lines_call h20 h (WkL.refl _) (fun _ h => ?_); (conv => whnf)
  refine hK _ _ _ ?_; clear hK K
  refine HT_fr DC_ok rfl fun K hK => ?_; (conv => whnf)
  refine nlA rfl ?_; (conv => whnf)
  refine blkK_of rfl ?_; (conv => whnf)
  refine nlA rfl ?_; (conv => whnf)
  replace h := W_bd h
  refine law07_chosen_call h21 h (WkL.refl _) (fun _ h => ?_); (conv => whnf)
  refine hK _ _ _ ?_; clear hK K
  refine HT_seq ?_
  refine HT_jnK rfl h [10, 11, 15, 17] [10] [] (fun kl kh ids b s => ⟨ofL ([(97, eB s)] ++ kl), ofH ([] ++ kh), b + 64⟩) ?_; (conv => whnf); refine And.intro (fun s h => HT_st ?_) (fun k h => ?_)
  · refine HT_if fun K1 K2 hK1 hK2 => ?_; (conv => whnf)
    refine cond_lk h (fun _ h => ?_) (fun _ h => ?_)
    · refine hK1 ?_; clear hK1 hK2 K1 K2
      refine HT_fr DC_ok rfl fun K hK => ?_; (conv => whnf)
      refine hK _ _ _ ?_; clear hK K
      refine HT_ret ?_
      refine Then_r ?_
      replace h := W_some h
      refine PostP_r DC_ok fun K hK => ?_; (conv => whnf)
      refine hK _ ?_; clear hK K
      cases h
      exact Wk.refl _
    refine hK2 ?_; clear hK1 hK2 K1 K2
    refine HT_skip ?_
    refine Then_n ?_
    refine HT_fr DC_ok rfl fun K hK => ?_; (conv => whnf)
    refine hK _ _ _ ?_; clear hK K
    refine HT_seq ?_
    refine HT_fr DC_ok rfl fun K hK => ?_; (conv => whnf)
    refine hK _ _ _ ?_; clear hK K
    refine HT_block ?_
    replace h := W_bd h
    refine HT_lpK (body := law07_OrderLines_b1 _ _) rfl h [10, 11, 15, 17] [10] [] (fun kl kh ids b s => ⟨ofL ([(18, eI s.1), (19, eI s.2)] ++ kl), ofH ([] ++ kh), b + 64⟩) ?_; (conv => whnf); refine And.intro ?_ (fun s m h => HT_st ?_)
    · refine weak_k ?_; (conv => whnf)
      exact And.intro rfl (And.intro (allL_c wkI (allL_c wkI (allL_c (WkR.ptr (fun _ => rfl)) (allL_c (wkr (loose_lst fun _ => (loose_int _ _))) (allL_c wkI (allL_c (wkr (loose_lst fun _ => (loose_int _ _))) allL_n)))))) (allL_c ⟨some _, rfl, BkR_c rfl (CkR_cons wkI (CkR_cons (wkr (loose_lst fun _ => (lo_A46 _))) CkR_nil))⟩ allL_n))
    replace h := W_blaw07_OrderLines_b1 (W_bd h)
    refine HT_seq ?_
    refine HT_fr DC_ok rfl fun K hK => ?_; (conv => whnf)
    refine hK _ _ _ ?_; clear hK K
    refine HT_if fun K1 K2 hK1 hK2 => ?_; (conv => whnf)
    refine cond_lk h (fun _ h => ?_) (fun _ h => ?_)
    · refine hK1 ?_; clear hK1 hK2 K1 K2
      refine HT_skip ?_
      refine Then_n ?_
      refine HT_seq ?_
      refine HT_block ?_
      refine HT_seq ?_
      refine HT_fr DC_ok rfl fun K hK => ?_; (conv => whnf)
      replace h := W_bd h
      refine law07_in_call h23 h (WkL.refl _) (fun _ h => ?_); (conv => whnf)
      refine hK _ _ _ ?_; clear hK K
      refine HT_if fun K1 K2 hK1 hK2 => ?_; (conv => whnf)
      refine cond_lk h (fun _ h => ?_) (fun _ h => ?_)
      · refine hK1 ?_; clear hK1 hK2 K1 K2
        refine HT_fr DC_ok rfl fun K hK => ?_; (conv => whnf)
        refine hK _ _ _ ?_; clear hK K
        refine HT_ret ?_
        refine Then_r ?_
        refine InBlock_r ?_
        refine Then_r ?_
        refine Then_r ?_
        refine InBlock_r ?_
        refine Then_r ?_
        replace h := W_xrt h
        replace h := W_inr h
        replace h := W_some h
        refine PostP_r DC_ok fun K hK => ?_; (conv => whnf)
        refine hK _ ?_; clear hK K
        cases h
        exact Wk.refl _
      refine hK2 ?_; clear hK1 hK2 K1 K2
      refine HT_skip ?_
      refine Then_n ?_
      refine HT_f DC_ok rfl fun K hK => ?_; (conv => whnf)
      refine ix_lk h fun _ h => ?_; (conv => whnf)
      refine getK_of rfl ?_; (conv => whnf)
      refine gd_lk h fun _ h => ?_; (conv => whnf)
      refine hK _ _ _ ?_; clear hK K
      refine InBlock_n ?_
      refine Then_n ?_
      refine HT_f DC_ok rfl fun K hK => ?_; (conv => whnf)
      refine hK _ _ _ ?_; clear hK K
      refine Then_n ?_
      replace h := W_xnx h
      refine ⟨_, h, ?_⟩
      refine weak_k ?_; (conv => whnf)
      exact And.intro rfl (And.intro (allL_c wkI (allL_c wkI (allL_c (WkR.ptr (fun _ => rfl)) (allL_c (wkr (loose_lst fun _ => (loose_int _ _))) (allL_c wkI (allL_c (wkr (loose_lst fun _ => (loose_int _ _))) allL_n)))))) (allL_c ⟨some _, rfl, BkR_c rfl (CkR_cons wkI (CkR_cons (wkr (loose_lst fun _ => (lo_A46 _))) CkR_nil))⟩ allL_n))
    refine hK2 ?_; clear hK1 hK2 K1 K2
    refine HT_exit ?_
    refine Then_e ?_
    refine Then_e ?_
    refine InBlock_e ?_
    replace h := W_xbk h
    replace h := W_inl h
    refine Then_n ?_
    refine HT_fr DC_ok rfl fun K hK => ?_; (conv => whnf)
    refine nlA rfl ?_; (conv => whnf)
    refine blkK_of rfl ?_; (conv => whnf)
    refine getK_of rfl ?_; (conv => whnf)
    refine gd_lk h fun _ h => ?_; (conv => whnf)
    refine mks_lk (enc := eI) DC_ok (0 : Int) h rfl rfl ⟨nle rfl, nle rfl, rfl⟩ rfl (fun h => ?_); (conv => whnf)
    refine hK _ _ _ ?_; clear hK K
    refine HT_seq ?_
    refine HT_fr DC_ok rfl fun K hK => ?_; (conv => whnf)
    refine hK _ _ _ ?_; clear hK K
    refine HT_block ?_
    replace h := W_bd h
    refine HT_lpR (body := law07_OrderLines_b2 _ _ _) rfl h [10, 11, 15, 17] [10] [] [] (fun kl kh kr ids b s => ⟨ofL ([(21, eI s.1), (20, .so (b + 0) 0 s.2.length 1)] ++ kl), ofH (([] ++ kh) ++ ([(b + 0, .cells (flE (ceE eI) s.2))] ++ kr)), b + 128⟩) ?_; (conv => whnf); refine And.intro ?_ (fun s m h => HT_st ?_)
    · refine weak_r ?_; (conv => whnf)
      exact And.intro rfl (And.intro (allL_c wkI (allL_c (WkR.so (fun _ => rfl)) (allL_c (WkR.ptr (fun _ => rfl)) (allL_c (wkr (loose_lst fun _ => (loose_int _ _))) (allL_c wkI (allL_c (wkr (loose_lst fun _ => (loose_int _ _))) allL_n)))))) (allL_c ⟨some _, rfl, BkR_c rfl (CkR_cons wkI (CkR_cons (wkr (loose_lst fun _ => (lo_A46 _))) CkR_nil))⟩ (allL_c ⟨some _, rfl, BkR_r rfl (fun _ => (loose_cons (loose_int _ _) loose_nil))⟩ allL_n)))
    replace h := W_blaw07_OrderLines_b2 (W_bd h)
    refine HT_seq ?_
    refine HT_fr DC_ok rfl fun K hK => ?_; (conv => whnf)
    refine hK _ _ _ ?_; clear hK K
    refine HT_if fun K1 K2 hK1 hK2 => ?_; (conv => whnf)
    refine cond_lk h (fun _ h => ?_) (fun _ h => ?_)
    · refine hK1 ?_; clear hK1 hK2 K1 K2
      refine HT_skip ?_
      refine Then_n ?_
      refine HT_seq ?_
      refine HT_block ?_
      refine HT_fr DC_ok rfl fun K hK => ?_; (conv => whnf)
      refine ix_lk h fun _ h => ?_; (conv => whnf)
      refine getK_of rfl ?_; (conv => whnf)
      refine hK _ _ _ ?_; clear hK K
      refine HT_seq ?_
      refine HT_fr DC_ok rfl fun K hK => ?_; (conv => whnf)
      replace h := W_jn h
      refine cond_lk h (fun _ h => ?_) (fun _ h => ?_) <;> (conv => whnf)
      · refine hK _ _ _ ?_; clear hK K
        refine HT_if fun K1 K2 hK1 hK2 => ?_; (conv => whnf)
        refine hK1 ?_; clear hK1 hK2 K1 K2
        replace h := W_cnT h
        refine HT_fr DC_ok rfl fun K hK => ?_; (conv => whnf)
        refine hK _ _ _ ?_; clear hK K
        refine HT_ret ?_
        refine Then_r ?_
        refine InBlock_r ?_
        refine Then_r ?_
        refine Then_r ?_
        refine InBlock_r ?_
        refine Then_r ?_
        replace h := W_xrt h
        replace h := W_inr h
        replace h := W_some h
        refine PostP_r DC_ok fun K hK => ?_; (conv => whnf)
        refine hK _ ?_; clear hK K
        cases h
        exact Wk.refl _
      refine hK _ _ _ ?_; clear hK K
      refine HT_if fun K1 K2 hK1 hK2 => ?_; (conv => whnf)
      refine cond_lk h (fun _ h => ?_) (fun _ h => ?_)
      · refine hK1 ?_; clear hK1 hK2 K1 K2
        refine HT_fr DC_ok rfl fun K hK => ?_; (conv => whnf)
        refine hK _ _ _ ?_; clear hK K
        refine HT_ret ?_
        refine Then_r ?_
        refine InBlock_r ?_
        refine Then_r ?_
        refine Then_r ?_
        refine InBlock_r ?_
        refine Then_r ?_
        replace h := W_xrt h
        replace h := W_inr h
        replace h := W_some h
        refine PostP_r DC_ok fun K hK => ?_; (conv => whnf)
        refine hK _ ?_; clear hK K
        cases h
        exact Wk.refl _
      refine hK2 ?_; clear hK1 hK2 K1 K2
      refine HT_skip ?_
      refine Then_n ?_
      refine HT_fr DC_ok rfl fun K hK => ?_; (conv => whnf)
      refine hK _ _ _ ?_; clear hK K
      refine HT_fr DC_ok rfl fun K hK => ?_; (conv => whnf)
      refine hK _ _ _ ?_; clear hK K
      refine HT_seq ?_
      refine HT_fr DC_ok rfl fun K hK => ?_; (conv => whnf)
      refine hK _ _ _ ?_; clear hK K
      refine HT_block ?_
      replace h := W_bd h
      refine HT_lpR (body := law07_OrderLines_b3 _ _) rfl h [10, 11, 15, 17, 20, 21, 22] [10] [20] [] (fun kl kh kr ids b s => ⟨ofL ([(23, .lst (.tok (b + 0)) 1 s.1.length (fun j => eI (s.1.getD j default))), (24, .lst (.tok (b + 64)) 1 s.2.1.length (fun j => eI (s.2.1.getD j default))), (25, eI s.2.2)] ++ kl), ofH (([(b + 0, .cells []), (b + 64, .cells [])] ++ kh) ++ ([] ++ kr)), b + 192⟩) ?_; (conv => whnf); refine And.intro ?_ (fun s m h => HT_st ?_)
      · refine weak_r ?_; (conv => whnf)
        exact And.intro rfl (And.intro (allL_c (WkR.nil (fun _ => rfl)) (allL_c (WkR.nil (fun _ => rfl)) (allL_c wkI (allL_c (WkR.ptr (fun _ => rfl)) (allL_c (wkr (loose_lst fun _ => (loose_int _ _))) (allL_c wkI (allL_c (wkr (loose_lst fun _ => (loose_int _ _))) (allL_c (WkR.so (fun _ => rfl)) (allL_c wkI (allL_c wkI allL_n)))))))))) (allL_c ⟨none, rfl, BkR_n⟩ (allL_c ⟨none, rfl, BkR_n⟩ (allL_c ⟨some _, rfl, BkR_c rfl (CkR_cons wkI (CkR_cons (wkr (loose_lst fun _ => (lo_A46 _))) CkR_nil))⟩ (allL_c ⟨some _, rfl, BkR_r rfl (fun _ => (loose_cons (loose_int _ _) loose_nil))⟩ allL_n)))))
      replace h := W_blaw07_OrderLines_b3 (W_bd h)
      refine HT_seq ?_
      refine HT_fr DC_ok rfl fun K hK => ?_; (conv => whnf)
      refine hK _ _ _ ?_; clear hK K
      refine HT_if fun K1 K2 hK1 hK2 => ?_; (conv => whnf)
      refine cond_lk h (fun _ h => ?_) (fun _ h => ?_)
      · refine hK1 ?_; clear hK1 hK2 K1 K2
        refine HT_skip ?_
        refine Then_n ?_
        refine HT_seq ?_
        refine HT_block ?_
        refine HT_fr DC_ok rfl fun K hK => ?_; (conv => whnf)
        refine ix_lk h fun _ h => ?_; (conv => whnf)
        refine getK_of rfl ?_; (conv => whnf)
        refine gd_lk h fun _ h => ?_; (conv => whnf)
        refine And.intro (by decide) ?_; (conv => whnf)
        refine hK _ _ _ ?_; clear hK K
        replace h := W_jn h
        refine HT_if fun K1 K2 hK1 hK2 => ?_; (conv => whnf)
        refine cond_lk h (fun _ h => ?_) (fun _ h => ?_)
        · refine hK1 ?_; clear hK1 hK2 K1 K2
          refine HT_f DC_ok rfl fun K hK => ?_; (conv => whnf)
          refine ix_lk h fun _ h => ?_; (conv => whnf)
          refine getK_of rfl ?_; (conv => whnf)
          refine lt_lk (enc := eI) (d := default) DC_ok h rfl rfl rfl ⟨nle rfl, nle rfl, rfl⟩ rfl ⟨⟨rfl, rfl, rfl⟩, trivial⟩ (fun h => ?_); (conv => whnf)
          refine ap_lk (enc := eI) (d := default) DC_ok h (.inl rfl) rfl rfl rfl ⟨rfl, nle rfl, nle rfl, nle rfl, rfl⟩ (fun _ => rfl) (.inr (.inr ⟨_, _, rfl, rfl, rfl⟩)) (fun h => ?_); (conv => whnf)
          refine hK _ _ _ ?_; clear hK K
          refine InBlock_n ?_
          refine Then_n ?_
          refine HT_f DC_ok rfl fun K hK => ?_; (conv => whnf)
          refine hK _ _ _ ?_; clear hK K
          refine Then_n ?_
          replace h := W_xnx h
          refine ⟨_, h, ?_⟩
          refine weak_r ?_; (conv => whnf)
          exact And.intro rfl (And.intro (allL_c (WkR.tok (fun _ => rfl) rfl (fun _ _ => Wk.refl _) (fun _ => (loose_int _ _))) (allL_c (WkR.tok (fun _ => rfl) rfl (fun _ _ => Wk.refl _) (fun _ => (loose_int _ _))) (allL_c wkI (allL_c (WkR.ptr (fun _ => rfl)) (allL_c (wkr (loose_lst fun _ => (loose_int _ _))) (allL_c wkI (allL_c (wkr (loose_lst fun _ => (loose_int _ _))) (allL_c (WkR.so (fun _ => rfl)) (allL_c wkI (allL_c wkI allL_n)))))))))) (allL_c ⟨some _, rfl, BkR_c rfl CkR_nil⟩ (allL_c ⟨some _, rfl, BkR_c rfl CkR_nil⟩ (allL_c ⟨some _, rfl, BkR_c rfl (CkR_cons wkI (CkR_cons (wkr (loose_lst fun _ => (lo_A46 _))) CkR_nil))⟩ (allL_c ⟨some _, rfl, BkR_r rfl (fun _ => (loose_cons (loose_int _ _) loose_nil))⟩ allL_n)))))
        refine hK2 ?_; clear hK1 hK2 K1 K2
        refine HT_f DC_ok rfl fun K hK => ?_; (conv => whnf)
        refine ix_lk h fun _ h => ?_; (conv => whnf)
        refine getK_of rfl ?_; (conv => whnf)
        refine lt_lk (enc := eI) (d := default) DC_ok h rfl rfl rfl ⟨nle rfl, nle rfl, rfl⟩ rfl ⟨⟨rfl, rfl, rfl⟩, trivial⟩ (fun h => ?_); (conv => whnf)
        refine ap_lk (enc := eI) (d := default) DC_ok h (.inl rfl) rfl rfl rfl ⟨rfl, nle rfl, nle rfl, nle rfl, rfl⟩ (fun _ => rfl) (.inr (.inr ⟨_, _, rfl, rfl, rfl⟩)) (fun h => ?_); (conv => whnf)
        refine hK _ _ _ ?_; clear hK K
        refine InBlock_n ?_
        refine Then_n ?_
        refine HT_f DC_ok rfl fun K hK => ?_; (conv => whnf)
        refine hK _ _ _ ?_; clear hK K
        refine Then_n ?_
        replace h := W_xnx h
        refine ⟨_, h, ?_⟩
        refine weak_r ?_; (conv => whnf)
        exact And.intro rfl (And.intro (allL_c (WkR.tok (fun _ => rfl) rfl (fun _ _ => Wk.refl _) (fun _ => (loose_int _ _))) (allL_c (WkR.tok (fun _ => rfl) rfl (fun _ _ => Wk.refl _) (fun _ => (loose_int _ _))) (allL_c wkI (allL_c (WkR.ptr (fun _ => rfl)) (allL_c (wkr (loose_lst fun _ => (loose_int _ _))) (allL_c wkI (allL_c (wkr (loose_lst fun _ => (loose_int _ _))) (allL_c (WkR.so (fun _ => rfl)) (allL_c wkI (allL_c wkI allL_n)))))))))) (allL_c ⟨some _, rfl, BkR_c rfl CkR_nil⟩ (allL_c ⟨some _, rfl, BkR_c rfl CkR_nil⟩ (allL_c ⟨some _, rfl, BkR_c rfl (CkR_cons wkI (CkR_cons (wkr (loose_lst fun _ => (lo_A46 _))) CkR_nil))⟩ (allL_c ⟨some _, rfl, BkR_r rfl (fun _ => (loose_cons (loose_int _ _) loose_nil))⟩ allL_n)))))
      refine hK2 ?_; clear hK1 hK2 K1 K2
      refine HT_exit ?_
      refine Then_e ?_
      refine Then_e ?_
      refine InBlock_e ?_
      replace h := W_xbk h
      replace h := W_inl h
      refine Then_n ?_
      refine HT_seq ?_
      refine HT_fdP (.step 1 (.step 2 (.two 0 3 (.step 3 (.step 4 (.step 5 (.nil)))) (.step 0 (.step 4 (.step 5 (.nil))))))) DC_ok mix_ok rfl (by kernel_rfl) fun K hK => ?_; (conv => whnf)
      refine And.intro ?_ ?_ <;> (conv => whnf)
      · refine nlA rfl ?_; (conv => whnf)
        refine blkK_of rfl ?_; (conv => whnf)
        refine nlA rfl ?_; (conv => whnf)
        refine ap_lk (enc := eI) (d := default) DC_ok h (.inl rfl) rfl rfl rfl ⟨rfl, nle rfl, nle rfl, nle rfl, rfl⟩ (fun _ => rfl) (.inr (.inr ⟨_, _, rfl, rfl, rfl⟩)) (fun h => ?_); (conv => whnf)
        replace h := W_bd h
        refine order_IsLine_call h22 h (WkL_cons (Wk.refl _) (WkL_cons Wk_free WkL_nil)) (fun _ h => ?_); (conv => whnf)
        refine hK _ _ _ ?_; clear hK K
        refine HT_if fun K1 K2 hK1 hK2 => ?_; (conv => whnf)
        refine cond_lk h (fun _ h => ?_) (fun _ h => ?_)
        · refine hK1 ?_; clear hK1 hK2 K1 K2
          refine HT_fr DC_ok rfl fun K hK => ?_; (conv => whnf)
          refine hK _ _ _ ?_; clear hK K
          refine HT_ret ?_
          refine Then_r ?_
          refine InBlock_r ?_
          refine Then_r ?_
          refine Then_r ?_
          refine InBlock_r ?_
          refine Then_r ?_
          replace h := W_xrt h
          replace h := W_inr h
          replace h := W_some h
          refine PostP_r DC_ok fun K hK => ?_; (conv => whnf)
          refine hK _ ?_; clear hK K
          cases h
          exact Wk.refl _
        refine hK2 ?_; clear hK1 hK2 K1 K2
        refine HT_skip ?_
        refine Then_n ?_
        refine HT_seq ?_
        refine HT_fr DC_ok rfl fun K hK => ?_; (conv => whnf)
        refine hK _ _ _ ?_; clear hK K
        replace h := W_jn h
        refine HT_if fun K1 K2 hK1 hK2 => ?_; (conv => whnf)
        refine cond_lk h (fun _ h => ?_) (fun _ h => ?_)
        · refine hK1 ?_; clear hK1 hK2 K1 K2
          refine HT_f DC_ok rfl fun K hK => ?_; (conv => whnf)
          refine gd_lkN h (rfl) fun hx1284 h => ?_; (conv => whnf)
          refine blkK_of rfl ?_; (conv => whnf)
          refine st_lk (enc := eI) (d := default) (q := 0) h (fun _ => rfl) (rfl) hx1284 rfl (nle rfl) rfl rfl (fun h => ?_); (conv => whnf)
          refine hK _ _ _ ?_; clear hK K
          refine Then_n ?_
          refine HT_fr DC_ok rfl fun K hK => ?_; (conv => whnf)
          refine hK _ _ _ ?_; clear hK K
          refine HT_block ?_
          replace h := W_bd h
          refine HT_lpR (body := law07_OrderLines_b4 _ _ _) rfl h [10, 11, 15, 17, 21, 22] [10] [] [] (fun kl kh kr ids b s => ⟨ofL ([(26, eI s.1), (20, .so (b + 0) 0 s.2.length 1)] ++ kl), ofH (([] ++ kh) ++ ([(b + 0, .cells (flE (ceE eI) s.2))] ++ kr)), b + 128⟩) ?_; (conv => whnf); refine And.intro ?_ (fun s m h => HT_st ?_)
          · refine weak_r ?_; (conv => whnf)
            exact And.intro rfl (And.intro (allL_c wkI (allL_c (WkR.soN (fun _ => rfl) (lenset rfl).symm) (allL_c (WkR.ptr (fun _ => rfl)) (allL_c (wkr (loose_lst fun _ => (loose_int _ _))) (allL_c wkI (allL_c (wkr (loose_lst fun _ => (loose_int _ _))) (allL_c wkI (allL_c wkI allL_n)))))))) (allL_c ⟨some _, rfl, BkR_c rfl (CkR_cons wkI (CkR_cons (wkr (loose_lst fun _ => (lo_A46 _))) CkR_nil))⟩ (allL_c ⟨some _, rfl, BkR_r rfl (fun _ => (loose_cons (loose_int _ _) loose_nil))⟩ allL_n)))
          replace h := W_blaw07_OrderLines_b4 (W_bd h)
          refine HT_seq ?_
          refine HT_fr DC_ok rfl fun K hK => ?_; (conv => whnf)
          refine nlA rfl ?_; (conv => whnf)
          refine blkK_of rfl ?_; (conv => whnf)
          refine getK_of rfl ?_; (conv => whnf)
          refine hK _ _ _ ?_; clear hK K
          refine HT_if fun K1 K2 hK1 hK2 => ?_; (conv => whnf)
          refine cond_lk h (fun _ h => ?_) (fun _ h => ?_)
          · refine hK1 ?_; clear hK1 hK2 K1 K2
            refine HT_skip ?_
            refine Then_n ?_
            refine HT_seq ?_
            refine HT_block ?_
            refine HT_fr DC_ok rfl fun K hK => ?_; (conv => whnf)
            replace h := W_jn h
            refine gd_lk h fun _ h => ?_; (conv => whnf)
            refine And.intro (by decide) ?_; (conv => whnf)
            refine cond_lk h (fun _ h => ?_) (fun _ h => ?_) <;> (conv => whnf)
            · refine gd_lk h fun _ h => ?_; (conv => whnf)
              replace h := W_bd h
              refine law07_in_call h23 h (WkL.refl _) (fun _ h => ?_); (conv => whnf)
              refine hK _ _ _ ?_; clear hK K
              replace h := W_jn h
              refine HT_if fun K1 K2 hK1 hK2 => ?_; (conv => whnf)
              refine cond_lk h (fun _ h => ?_) (fun _ h => ?_)
              · refine hK1 ?_; clear hK1 hK2 K1 K2
                refine HT_fD DC_ok mix_ok rfl (by kernel_rfl) fun K hK => ?_; (conv => whnf)
                refine gd_lkN h (rfl) fun hx1366 h => ?_; (conv => whnf)
                refine nlA rfl ?_; (conv => whnf)
                refine blkK_of rfl ?_; (conv => whnf)
                refine get_flN (enc := eI) (d := default) (q := 0) (fun _ => rfl) (rfl) hx1366 (nle rfl) rfl ?_; (conv => whnf)
                refine gd_lk h fun _ h => ?_; (conv => whnf)
                refine gd_lkN h (rfl) fun hx1367 h => ?_; (conv => whnf)
                refine nlA rfl ?_; (conv => whnf)
                refine blkK_of rfl ?_; (conv => whnf)
                refine get_flN (enc := eI) (d := default) (q := 0) (fun _ => rfl) (rfl) hx1367 (nle rfl) rfl ?_; (conv => whnf)
                refine gd_lkN h (rfl) fun hx1368 h => ?_; (conv => whnf)
                refine blkK_of rfl ?_; (conv => whnf)
                refine st_lk (enc := eI) (d := default) (q := 0) h (fun _ => rfl) (rfl) hx1368 rfl (nle rfl) rfl rfl (fun h => ?_); (conv => whnf)
                refine hK _ _ _ ?_; clear hK K
                refine InBlock_n ?_
                refine Then_n ?_
                refine HT_f DC_ok rfl fun K hK => ?_; (conv => whnf)
                refine hK _ _ _ ?_; clear hK K
                refine Then_n ?_
                replace h := W_xnx h
                refine ⟨_, h, ?_⟩
                refine weak_r ?_; (conv => whnf)
                exact And.intro rfl (And.intro (allL_c wkI (allL_c (WkR.soN (fun _ => rfl) (lenset rfl).symm) (allL_c (WkR.ptr (fun _ => rfl)) (allL_c (wkr (loose_lst fun _ => (loose_int _ _))) (allL_c wkI (allL_c (wkr (loose_lst fun _ => (loose_int _ _))) (allL_c wkI (allL_c wkI allL_n)))))))) (allL_c ⟨some _, rfl, BkR_c rfl (CkR_cons wkI (CkR_cons (wkr (loose_lst fun _ => (lo_A46 _))) CkR_nil))⟩ (allL_c ⟨some _, rfl, BkR_r rfl (fun _ => (loose_cons (loose_int _ _) loose_nil))⟩ allL_n)))
              refine hK2 ?_; clear hK1 hK2 K1 K2
              refine HT_skip ?_
              refine InBlock_n ?_
              refine Then_n ?_
              refine HT_f DC_ok rfl fun K hK => ?_; (conv => whnf)
              refine hK _ _ _ ?_; clear hK K
              refine Then_n ?_
              replace h := W_xnx h
              refine ⟨_, h, ?_⟩
              refine weak_r ?_; (conv => whnf)
              exact And.intro rfl (And.intro (allL_c wkI (allL_c (WkR.so (fun _ => rfl)) (allL_c (WkR.ptr (fun _ => rfl)) (allL_c (wkr (loose_lst fun _ => (loose_int _ _))) (allL_c wkI (allL_c (wkr (loose_lst fun _ => (loose_int _ _))) (allL_c wkI (allL_c wkI allL_n)))))))) (allL_c ⟨some _, rfl, BkR_c rfl (CkR_cons wkI (CkR_cons (wkr (loose_lst fun _ => (lo_A46 _))) CkR_nil))⟩ (allL_c ⟨some _, rfl, BkR_r rfl (fun _ => (loose_cons (loose_int _ _) loose_nil))⟩ allL_n)))
            refine hK _ _ _ ?_; clear hK K
            replace h := W_jn h
            refine HT_if fun K1 K2 hK1 hK2 => ?_; (conv => whnf)
            refine hK2 ?_; clear hK1 hK2 K1 K2
            replace h := W_cnF h
            refine HT_skip ?_
            refine InBlock_n ?_
            refine Then_n ?_
            refine HT_f DC_ok rfl fun K hK => ?_; (conv => whnf)
            refine hK _ _ _ ?_; clear hK K
            refine Then_n ?_
            replace h := W_xnx h
            refine ⟨_, h, ?_⟩
            refine weak_r ?_; (conv => whnf)
            exact And.intro rfl (And.intro (allL_c wkI (allL_c (WkR.so (fun _ => rfl)) (allL_c (WkR.ptr (fun _ => rfl)) (allL_c (wkr (loose_lst fun _ => (loose_int _ _))) (allL_c wkI (allL_c (wkr (loose_lst fun _ => (loose_int _ _))) (allL_c wkI (allL_c wkI allL_n)))))))) (allL_c ⟨some _, rfl, BkR_c rfl (CkR_cons wkI (CkR_cons (wkr (loose_lst fun _ => (lo_A46 _))) CkR_nil))⟩ (allL_c ⟨some _, rfl, BkR_r rfl (fun _ => (loose_cons (loose_int _ _) loose_nil))⟩ allL_n)))
          refine hK2 ?_; clear hK1 hK2 K1 K2
          refine HT_exit ?_
          refine Then_e ?_
          refine Then_e ?_
          refine InBlock_e ?_
          replace h := W_xbk h
          replace h := W_inl h
          refine InBlock_n ?_
          refine Then_n ?_
          refine HT_f DC_ok rfl fun K hK => ?_; (conv => whnf)
          refine hK _ _ _ ?_; clear hK K
          refine Then_n ?_
          replace h := W_xnx h
          refine ⟨_, h, ?_⟩
          refine weak_r ?_; (conv => whnf)
          exact And.intro rfl (And.intro (allL_c wkI (allL_c (WkR.so (fun _ => rfl)) (allL_c (WkR.ptr (fun _ => rfl)) (allL_c (wkr (loose_lst fun _ => (loose_int _ _))) (allL_c wkI (allL_c (wkr (loose_lst fun _ => (loose_int _ _))) allL_n)))))) (allL_c ⟨some _, rfl, BkR_c rfl (CkR_cons wkI (CkR_cons (wkr (loose_lst fun _ => (lo_A46 _))) CkR_nil))⟩ (allL_c ⟨some _, rfl, BkR_r rfl (fun _ => (loose_cons (loose_int _ _) loose_nil))⟩ allL_n)))
        refine hK2 ?_; clear hK1 hK2 K1 K2
        refine HT_skip ?_
        refine Then_n ?_
        refine HT_fr DC_ok rfl fun K hK => ?_; (conv => whnf)
        refine hK _ _ _ ?_; clear hK K
        refine HT_block ?_
        replace h := W_bd h
        refine HT_lpR (body := law07_OrderLines_b4 _ _ _) rfl h [10, 11, 15, 17, 21, 22] [10] [] [] (fun kl kh kr ids b s => ⟨ofL ([(26, eI s.1), (20, .so (b + 0) 0 s.2.length 1)] ++ kl), ofH (([] ++ kh) ++ ([(b + 0, .cells (flE (ceE eI) s.2))] ++ kr)), b + 128⟩) ?_; (conv => whnf); refine And.intro ?_ (fun s m h => HT_st ?_)
        · refine weak_r ?_; (conv => whnf)
          exact And.intro rfl (And.intro (allL_c wkI (allL_c (WkR.so (fun _ => rfl)) (allL_c (WkR.ptr (fun _ => rfl)) (allL_c (wkr (loose_lst fun _ => (loose_int _ _))) (allL_c wkI (allL_c (wkr (loose_lst fun _ => (loose_int _ _))) (allL_c wkI (allL_c wkI allL_n)))))))) (allL_c ⟨some _, rfl, BkR_c rfl (CkR_cons wkI (CkR_cons (wkr (loose_lst fun _ => (lo_A46 _))) CkR_nil))⟩ (allL_c ⟨some _, rfl, BkR_r rfl (fun _ => (loose_cons (loose_int _ _) loose_nil))⟩ allL_n)))
        replace h := W_blaw07_OrderLines_b4 (W_bd h)
        refine HT_seq ?_
        refine HT_fr DC_ok rfl fun K hK => ?_; (conv => whnf)
        refine nlA rfl ?_; (conv => whnf)
        refine blkK_of rfl ?_; (conv => whnf)
        refine getK_of rfl ?_; (conv => whnf)
        refine hK _ _ _ ?_; clear hK K
        refine HT_if fun K1 K2 hK1 hK2 => ?_; (conv => whnf)
        refine cond_lk h (fun _ h => ?_) (fun _ h => ?_)
        · refine hK1 ?_; clear hK1 hK2 K1 K2
          refine HT_skip ?_
          refine Then_n ?_
          refine HT_seq ?_
          refine HT_block ?_
          refine HT_fr DC_ok rfl fun K hK => ?_; (conv => whnf)
          replace h := W_jn h
          refine gd_lk h fun _ h => ?_; (conv => whnf)
          refine And.intro (by decide) ?_; (conv => whnf)
          refine cond_lk h (fun _ h => ?_) (fun _ h => ?_) <;> (conv => whnf)
          · refine gd_lk h fun _ h => ?_; (conv => whnf)
            replace h := W_bd h
            refine law07_in_call h23 h (WkL.refl _) (fun _ h => ?_); (conv => whnf)
            refine hK _ _ _ ?_; clear hK K
            replace h := W_jn h
            refine HT_if fun K1 K2 hK1 hK2 => ?_; (conv => whnf)
            refine cond_lk h (fun _ h => ?_) (fun _ h => ?_)
            · refine hK1 ?_; clear hK1 hK2 K1 K2
              refine HT_fD DC_ok mix_ok rfl (by kernel_rfl) fun K hK => ?_; (conv => whnf)
              refine gd_lkN h (rfl) fun hx1453 h => ?_; (conv => whnf)
              refine nlA rfl ?_; (conv => whnf)
              refine blkK_of rfl ?_; (conv => whnf)
              refine get_flN (enc := eI) (d := default) (q := 0) (fun _ => rfl) (rfl) hx1453 (nle rfl) rfl ?_; (conv => whnf)
              refine gd_lk h fun _ h => ?_; (conv => whnf)
              refine gd_lkN h (rfl) fun hx1454 h => ?_; (conv => whnf)
              refine nlA rfl ?_; (conv => whnf)
              refine blkK_of rfl ?_; (conv => whnf)
              refine get_flN (enc := eI) (d := default) (q := 0) (fun _ => rfl) (rfl) hx1454 (nle rfl) rfl ?_; (conv => whnf)
              refine gd_lkN h (rfl) fun hx1455 h => ?_; (conv => whnf)
              refine blkK_of rfl ?_; (conv => whnf)
              refine st_lk (enc := eI) (d := default) (q := 0) h (fun _ => rfl) (rfl) hx1455 rfl (nle rfl) rfl rfl (fun h => ?_); (conv => whnf)
              refine hK _ _ _ ?_; clear hK K
              refine InBlock_n ?_
              refine Then_n ?_
              refine HT_f DC_ok rfl fun K hK => ?_; (conv => whnf)
              refine hK _ _ _ ?_; clear hK K
              refine Then_n ?_
              replace h := W_xnx h
              refine ⟨_, h, ?_⟩
              refine weak_r ?_; (conv => whnf)
              exact And.intro rfl (And.intro (allL_c wkI (allL_c (WkR.soN (fun _ => rfl) (lenset rfl).symm) (allL_c (WkR.ptr (fun _ => rfl)) (allL_c (wkr (loose_lst fun _ => (loose_int _ _))) (allL_c wkI (allL_c (wkr (loose_lst fun _ => (loose_int _ _))) (allL_c wkI (allL_c wkI allL_n)))))))) (allL_c ⟨some _, rfl, BkR_c rfl (CkR_cons wkI (CkR_cons (wkr (loose_lst fun _ => (lo_A46 _))) CkR_nil))⟩ (allL_c ⟨some _, rfl, BkR_r rfl (fun _ => (loose_cons (loose_int _ _) loose_nil))⟩ allL_n)))
            refine hK2 ?_; clear hK1 hK2 K1 K2
            refine HT_skip ?_
            refine InBlock_n ?_
            refine Then_n ?_
            refine HT_f DC_ok rfl fun K hK => ?_; (conv => whnf)
            refine hK _ _ _ ?_; clear hK K
            refine Then_n ?_
            replace h := W_xnx h
            refine ⟨_, h, ?_⟩
            refine weak_r ?_; (conv => whnf)
            exact And.intro rfl (And.intro (allL_c wkI (allL_c (WkR.so (fun _ => rfl)) (allL_c (WkR.ptr (fun _ => rfl)) (allL_c (wkr (loose_lst fun _ => (loose_int _ _))) (allL_c wkI (allL_c (wkr (loose_lst fun _ => (loose_int _ _))) (allL_c wkI (allL_c wkI allL_n)))))))) (allL_c ⟨some _, rfl, BkR_c rfl (CkR_cons wkI (CkR_cons (wkr (loose_lst fun _ => (lo_A46 _))) CkR_nil))⟩ (allL_c ⟨some _, rfl, BkR_r rfl (fun _ => (loose_cons (loose_int _ _) loose_nil))⟩ allL_n)))
          refine hK _ _ _ ?_; clear hK K
          replace h := W_jn h
          refine HT_if fun K1 K2 hK1 hK2 => ?_; (conv => whnf)
          refine hK2 ?_; clear hK1 hK2 K1 K2
          replace h := W_cnF h
          refine HT_skip ?_
          refine InBlock_n ?_
          refine Then_n ?_
          refine HT_f DC_ok rfl fun K hK => ?_; (conv => whnf)
          refine hK _ _ _ ?_; clear hK K
          refine Then_n ?_
          replace h := W_xnx h
          refine ⟨_, h, ?_⟩
          refine weak_r ?_; (conv => whnf)
          exact And.intro rfl (And.intro (allL_c wkI (allL_c (WkR.so (fun _ => rfl)) (allL_c (WkR.ptr (fun _ => rfl)) (allL_c (wkr (loose_lst fun _ => (loose_int _ _))) (allL_c wkI (allL_c (wkr (loose_lst fun _ => (loose_int _ _))) (allL_c wkI (allL_c wkI allL_n)))))))) (allL_c ⟨some _, rfl, BkR_c rfl (CkR_cons wkI (CkR_cons (wkr (loose_lst fun _ => (lo_A46 _))) CkR_nil))⟩ (allL_c ⟨some _, rfl, BkR_r rfl (fun _ => (loose_cons (loose_int _ _) loose_nil))⟩ allL_n)))
        refine hK2 ?_; clear hK1 hK2 K1 K2
        refine HT_exit ?_
        refine Then_e ?_
        refine Then_e ?_
        refine InBlock_e ?_
        replace h := W_xbk h
        replace h := W_inl h
        refine InBlock_n ?_
        refine Then_n ?_
        refine HT_f DC_ok rfl fun K hK => ?_; (conv => whnf)
        refine hK _ _ _ ?_; clear hK K
        refine Then_n ?_
        replace h := W_xnx h
        refine ⟨_, h, ?_⟩
        refine weak_r ?_; (conv => whnf)
        exact And.intro rfl (And.intro (allL_c wkI (allL_c (WkR.so (fun _ => rfl)) (allL_c (WkR.ptr (fun _ => rfl)) (allL_c (wkr (loose_lst fun _ => (loose_int _ _))) (allL_c wkI (allL_c (wkr (loose_lst fun _ => (loose_int _ _))) allL_n)))))) (allL_c ⟨some _, rfl, BkR_c rfl (CkR_cons wkI (CkR_cons (wkr (loose_lst fun _ => (lo_A46 _))) CkR_nil))⟩ (allL_c ⟨some _, rfl, BkR_r rfl (fun _ => (loose_cons (loose_int _ _) loose_nil))⟩ allL_n)))
      refine ap_lk (enc := eI) (d := default) DC_ok h (.inl rfl) rfl rfl rfl ⟨rfl, nle rfl, nle rfl, nle rfl, rfl⟩ (fun _ => rfl) (.inr (.inr ⟨_, _, rfl, rfl, rfl⟩)) (fun h => ?_); (conv => whnf)
      refine nlA rfl ?_; (conv => whnf)
      refine blkK_of rfl ?_; (conv => whnf)
      refine nlA rfl ?_; (conv => whnf)
      replace h := W_bd h
      refine order_IsLine_call h22 h (WkL_cons (Wk.refl _) (WkL_cons Wk_free WkL_nil)) (fun _ h => ?_); (conv => whnf)
      refine hK _ _ _ ?_; clear hK K
      refine HT_if fun K1 K2 hK1 hK2 => ?_; (conv => whnf)
      refine cond_lk h (fun _ h => ?_) (fun _ h => ?_)
      · refine hK1 ?_; clear hK1 hK2 K1 K2
        refine HT_fr DC_ok rfl fun K hK => ?_; (conv => whnf)
        refine hK _ _ _ ?_; clear hK K
        refine HT_ret ?_
        refine Then_r ?_
        refine InBlock_r ?_
        refine Then_r ?_
        refine Then_r ?_
        refine InBlock_r ?_
        refine Then_r ?_
        replace h := W_xrt h
        replace h := W_inr h
        replace h := W_some h
        refine PostP_r DC_ok fun K hK => ?_; (conv => whnf)
        refine hK _ ?_; clear hK K
        cases h
        exact Wk.refl _
      refine hK2 ?_; clear hK1 hK2 K1 K2
      refine HT_skip ?_
      refine Then_n ?_
      refine HT_seq ?_
      refine HT_fr DC_ok rfl fun K hK => ?_; (conv => whnf)
      refine hK _ _ _ ?_; clear hK K
      replace h := W_jn h
      refine HT_if fun K1 K2 hK1 hK2 => ?_; (conv => whnf)
      refine cond_lk h (fun _ h => ?_) (fun _ h => ?_)
      · refine hK1 ?_; clear hK1 hK2 K1 K2
        refine HT_f DC_ok rfl fun K hK => ?_; (conv => whnf)
        refine gd_lkN h (rfl) fun hx1460 h => ?_; (conv => whnf)
        refine blkK_of rfl ?_; (conv => whnf)
        refine st_lk (enc := eI) (d := default) (q := 0) h (fun _ => rfl) (rfl) hx1460 rfl (nle rfl) rfl rfl (fun h => ?_); (conv => whnf)
        refine hK _ _ _ ?_; clear hK K
        refine Then_n ?_
        refine HT_fr DC_ok rfl fun K hK => ?_; (conv => whnf)
        refine hK _ _ _ ?_; clear hK K
        refine HT_block ?_
        replace h := W_bd h
        refine HT_lpR (body := law07_OrderLines_b4 _ _ _) rfl h [10, 11, 15, 17, 21, 22] [10] [] [] (fun kl kh kr ids b s => ⟨ofL ([(26, eI s.1), (20, .so (b + 0) 0 s.2.length 1)] ++ kl), ofH (([] ++ kh) ++ ([(b + 0, .cells (flE (ceE eI) s.2))] ++ kr)), b + 128⟩) ?_; (conv => whnf); refine And.intro ?_ (fun s m h => HT_st ?_)
        · refine weak_r ?_; (conv => whnf)
          exact And.intro rfl (And.intro (allL_c wkI (allL_c (WkR.soN (fun _ => rfl) (lenset rfl).symm) (allL_c (WkR.ptr (fun _ => rfl)) (allL_c (wkr (loose_lst fun _ => (loose_int _ _))) (allL_c wkI (allL_c (wkr (loose_lst fun _ => (loose_int _ _))) (allL_c wkI (allL_c wkI allL_n)))))))) (allL_c ⟨some _, rfl, BkR_c rfl (CkR_cons wkI (CkR_cons (wkr (loose_lst fun _ => (lo_A46 _))) CkR_nil))⟩ (allL_c ⟨some _, rfl, BkR_r rfl (fun _ => (loose_cons (loose_int _ _) loose_nil))⟩ allL_n)))
        replace h := W_blaw07_OrderLines_b4 (W_bd h)
        refine HT_seq ?_
        refine HT_fr DC_ok rfl fun K hK => ?_; (conv => whnf)
        refine nlA rfl ?_; (conv => whnf)
        refine blkK_of rfl ?_; (conv => whnf)
        refine getK_of rfl ?_; (conv => whnf)
        refine hK _ _ _ ?_; clear hK K
        refine HT_if fun K1 K2 hK1 hK2 => ?_; (conv => whnf)
        refine cond_lk h (fun _ h => ?_) (fun _ h => ?_)
        · refine hK1 ?_; clear hK1 hK2 K1 K2
          refine HT_skip ?_
          refine Then_n ?_
          refine HT_seq ?_
          refine HT_block ?_
          refine HT_fr DC_ok rfl fun K hK => ?_; (conv => whnf)
          replace h := W_jn h
          refine gd_lk h fun _ h => ?_; (conv => whnf)
          refine And.intro (by decide) ?_; (conv => whnf)
          refine cond_lk h (fun _ h => ?_) (fun _ h => ?_) <;> (conv => whnf)
          · refine gd_lk h fun _ h => ?_; (conv => whnf)
            replace h := W_bd h
            refine law07_in_call h23 h (WkL.refl _) (fun _ h => ?_); (conv => whnf)
            refine hK _ _ _ ?_; clear hK K
            replace h := W_jn h
            refine HT_if fun K1 K2 hK1 hK2 => ?_; (conv => whnf)
            refine cond_lk h (fun _ h => ?_) (fun _ h => ?_)
            · refine hK1 ?_; clear hK1 hK2 K1 K2
              refine HT_fD DC_ok mix_ok rfl (by kernel_rfl) fun K hK => ?_; (conv => whnf)
              refine gd_lkN h (rfl) fun hx1542 h => ?_; (conv => whnf)
              refine nlA rfl ?_; (conv => whnf)
              refine blkK_of rfl ?_; (conv => whnf)
              refine get_flN (enc := eI) (d := default) (q := 0) (fun _ => rfl) (rfl) hx1542 (nle rfl) rfl ?_; (conv => whnf)
              refine gd_lk h fun _ h => ?_; (conv => whnf)
              refine gd_lkN h (rfl) fun hx1543 h => ?_; (conv => whnf)
              refine nlA rfl ?_; (conv => whnf)
              refine blkK_of rfl ?_; (conv => whnf)
              refine get_flN (enc := eI) (d := default) (q := 0) (fun _ => rfl) (rfl) hx1543 (nle rfl) rfl ?_; (conv => whnf)
              refine gd_lkN h (rfl) fun hx1544 h => ?_; (conv => whnf)
              refine blkK_of rfl ?_; (conv => whnf)
              refine st_lk (enc := eI) (d := default) (q := 0) h (fun _ => rfl) (rfl) hx1544 rfl (nle rfl) rfl rfl (fun h => ?_); (conv => whnf)
              refine hK _ _ _ ?_; clear hK K
              refine InBlock_n ?_
              refine Then_n ?_
              refine HT_f DC_ok rfl fun K hK => ?_; (conv => whnf)
              refine hK _ _ _ ?_; clear hK K
              refine Then_n ?_
              replace h := W_xnx h
              refine ⟨_, h, ?_⟩
              refine weak_r ?_; (conv => whnf)
              exact And.intro rfl (And.intro (allL_c wkI (allL_c (WkR.soN (fun _ => rfl) (lenset rfl).symm) (allL_c (WkR.ptr (fun _ => rfl)) (allL_c (wkr (loose_lst fun _ => (loose_int _ _))) (allL_c wkI (allL_c (wkr (loose_lst fun _ => (loose_int _ _))) (allL_c wkI (allL_c wkI allL_n)))))))) (allL_c ⟨some _, rfl, BkR_c rfl (CkR_cons wkI (CkR_cons (wkr (loose_lst fun _ => (lo_A46 _))) CkR_nil))⟩ (allL_c ⟨some _, rfl, BkR_r rfl (fun _ => (loose_cons (loose_int _ _) loose_nil))⟩ allL_n)))
            refine hK2 ?_; clear hK1 hK2 K1 K2
            refine HT_skip ?_
            refine InBlock_n ?_
            refine Then_n ?_
            refine HT_f DC_ok rfl fun K hK => ?_; (conv => whnf)
            refine hK _ _ _ ?_; clear hK K
            refine Then_n ?_
            replace h := W_xnx h
            refine ⟨_, h, ?_⟩
            refine weak_r ?_; (conv => whnf)
            exact And.intro rfl (And.intro (allL_c wkI (allL_c (WkR.so (fun _ => rfl)) (allL_c (WkR.ptr (fun _ => rfl)) (allL_c (wkr (loose_lst fun _ => (loose_int _ _))) (allL_c wkI (allL_c (wkr (loose_lst fun _ => (loose_int _ _))) (allL_c wkI (allL_c wkI allL_n)))))))) (allL_c ⟨some _, rfl, BkR_c rfl (CkR_cons wkI (CkR_cons (wkr (loose_lst fun _ => (lo_A46 _))) CkR_nil))⟩ (allL_c ⟨some _, rfl, BkR_r rfl (fun _ => (loose_cons (loose_int _ _) loose_nil))⟩ allL_n)))
          refine hK _ _ _ ?_; clear hK K
          replace h := W_jn h
          refine HT_if fun K1 K2 hK1 hK2 => ?_; (conv => whnf)
          refine hK2 ?_; clear hK1 hK2 K1 K2
          replace h := W_cnF h
          refine HT_skip ?_
          refine InBlock_n ?_
          refine Then_n ?_
          refine HT_f DC_ok rfl fun K hK => ?_; (conv => whnf)
          refine hK _ _ _ ?_; clear hK K
          refine Then_n ?_
          replace h := W_xnx h
          refine ⟨_, h, ?_⟩
          refine weak_r ?_; (conv => whnf)
          exact And.intro rfl (And.intro (allL_c wkI (allL_c (WkR.so (fun _ => rfl)) (allL_c (WkR.ptr (fun _ => rfl)) (allL_c (wkr (loose_lst fun _ => (loose_int _ _))) (allL_c wkI (allL_c (wkr (loose_lst fun _ => (loose_int _ _))) (allL_c wkI (allL_c wkI allL_n)))))))) (allL_c ⟨some _, rfl, BkR_c rfl (CkR_cons wkI (CkR_cons (wkr (loose_lst fun _ => (lo_A46 _))) CkR_nil))⟩ (allL_c ⟨some _, rfl, BkR_r rfl (fun _ => (loose_cons (loose_int _ _) loose_nil))⟩ allL_n)))
        refine hK2 ?_; clear hK1 hK2 K1 K2
        refine HT_exit ?_
        refine Then_e ?_
        refine Then_e ?_
        refine InBlock_e ?_
        replace h := W_xbk h
        replace h := W_inl h
        refine InBlock_n ?_
        refine Then_n ?_
        refine HT_f DC_ok rfl fun K hK => ?_; (conv => whnf)
        refine hK _ _ _ ?_; clear hK K
        refine Then_n ?_
        replace h := W_xnx h
        refine ⟨_, h, ?_⟩
        refine weak_r ?_; (conv => whnf)
        exact And.intro rfl (And.intro (allL_c wkI (allL_c (WkR.so (fun _ => rfl)) (allL_c (WkR.ptr (fun _ => rfl)) (allL_c (wkr (loose_lst fun _ => (loose_int _ _))) (allL_c wkI (allL_c (wkr (loose_lst fun _ => (loose_int _ _))) allL_n)))))) (allL_c ⟨some _, rfl, BkR_c rfl (CkR_cons wkI (CkR_cons (wkr (loose_lst fun _ => (lo_A46 _))) CkR_nil))⟩ (allL_c ⟨some _, rfl, BkR_r rfl (fun _ => (loose_cons (loose_int _ _) loose_nil))⟩ allL_n)))
      refine hK2 ?_; clear hK1 hK2 K1 K2
      refine HT_skip ?_
      refine Then_n ?_
      refine HT_fr DC_ok rfl fun K hK => ?_; (conv => whnf)
      refine hK _ _ _ ?_; clear hK K
      refine HT_block ?_
      replace h := W_bd h
      refine HT_lpR (body := law07_OrderLines_b4 _ _ _) rfl h [10, 11, 15, 17, 21, 22] [10] [] [] (fun kl kh kr ids b s => ⟨ofL ([(26, eI s.1), (20, .so (b + 0) 0 s.2.length 1)] ++ kl), ofH (([] ++ kh) ++ ([(b + 0, .cells (flE (ceE eI) s.2))] ++ kr)), b + 128⟩) ?_; (conv => whnf); refine And.intro ?_ (fun s m h => HT_st ?_)
      · refine weak_r ?_; (conv => whnf)
        exact And.intro rfl (And.intro (allL_c wkI (allL_c (WkR.so (fun _ => rfl)) (allL_c (WkR.ptr (fun _ => rfl)) (allL_c (wkr (loose_lst fun _ => (loose_int _ _))) (allL_c wkI (allL_c (wkr (loose_lst fun _ => (loose_int _ _))) (allL_c wkI (allL_c wkI allL_n)))))))) (allL_c ⟨some _, rfl, BkR_c rfl (CkR_cons wkI (CkR_cons (wkr (loose_lst fun _ => (lo_A46 _))) CkR_nil))⟩ (allL_c ⟨some _, rfl, BkR_r rfl (fun _ => (loose_cons (loose_int _ _) loose_nil))⟩ allL_n)))
      replace h := W_blaw07_OrderLines_b4 (W_bd h)
      refine HT_seq ?_
      refine HT_fr DC_ok rfl fun K hK => ?_; (conv => whnf)
      refine nlA rfl ?_; (conv => whnf)
      refine blkK_of rfl ?_; (conv => whnf)
      refine getK_of rfl ?_; (conv => whnf)
      refine hK _ _ _ ?_; clear hK K
      refine HT_if fun K1 K2 hK1 hK2 => ?_; (conv => whnf)
      refine cond_lk h (fun _ h => ?_) (fun _ h => ?_)
      · refine hK1 ?_; clear hK1 hK2 K1 K2
        refine HT_skip ?_
        refine Then_n ?_
        refine HT_seq ?_
        refine HT_block ?_
        refine HT_fr DC_ok rfl fun K hK => ?_; (conv => whnf)
        replace h := W_jn h
        refine gd_lk h fun _ h => ?_; (conv => whnf)
        refine And.intro (by decide) ?_; (conv => whnf)
        refine cond_lk h (fun _ h => ?_) (fun _ h => ?_) <;> (conv => whnf)
        · refine gd_lk h fun _ h => ?_; (conv => whnf)
          replace h := W_bd h
          refine law07_in_call h23 h (WkL.refl _) (fun _ h => ?_); (conv => whnf)
          refine hK _ _ _ ?_; clear hK K
          replace h := W_jn h
          refine HT_if fun K1 K2 hK1 hK2 => ?_; (conv => whnf)
          refine cond_lk h (fun _ h => ?_) (fun _ h => ?_)
          · refine hK1 ?_; clear hK1 hK2 K1 K2
            refine HT_fD DC_ok mix_ok rfl (by kernel_rfl) fun K hK => ?_; (conv => whnf)
            refine gd_lkN h (rfl) fun hx1629 h => ?_; (conv => whnf)
            refine nlA rfl ?_; (conv => whnf)
            refine blkK_of rfl ?_; (conv => whnf)
            refine get_flN (enc := eI) (d := default) (q := 0) (fun _ => rfl) (rfl) hx1629 (nle rfl) rfl ?_; (conv => whnf)
            refine gd_lk h fun _ h => ?_; (conv => whnf)
            refine gd_lkN h (rfl) fun hx1630 h => ?_; (conv => whnf)
            refine nlA rfl ?_; (conv => whnf)
            refine blkK_of rfl ?_; (conv => whnf)
            refine get_flN (enc := eI) (d := default) (q := 0) (fun _ => rfl) (rfl) hx1630 (nle rfl) rfl ?_; (conv => whnf)
            refine gd_lkN h (rfl) fun hx1631 h => ?_; (conv => whnf)
            refine blkK_of rfl ?_; (conv => whnf)
            refine st_lk (enc := eI) (d := default) (q := 0) h (fun _ => rfl) (rfl) hx1631 rfl (nle rfl) rfl rfl (fun h => ?_); (conv => whnf)
            refine hK _ _ _ ?_; clear hK K
            refine InBlock_n ?_
            refine Then_n ?_
            refine HT_f DC_ok rfl fun K hK => ?_; (conv => whnf)
            refine hK _ _ _ ?_; clear hK K
            refine Then_n ?_
            replace h := W_xnx h
            refine ⟨_, h, ?_⟩
            refine weak_r ?_; (conv => whnf)
            exact And.intro rfl (And.intro (allL_c wkI (allL_c (WkR.soN (fun _ => rfl) (lenset rfl).symm) (allL_c (WkR.ptr (fun _ => rfl)) (allL_c (wkr (loose_lst fun _ => (loose_int _ _))) (allL_c wkI (allL_c (wkr (loose_lst fun _ => (loose_int _ _))) (allL_c wkI (allL_c wkI allL_n)))))))) (allL_c ⟨some _, rfl, BkR_c rfl (CkR_cons wkI (CkR_cons (wkr (loose_lst fun _ => (lo_A46 _))) CkR_nil))⟩ (allL_c ⟨some _, rfl, BkR_r rfl (fun _ => (loose_cons (loose_int _ _) loose_nil))⟩ allL_n)))
          refine hK2 ?_; clear hK1 hK2 K1 K2
          refine HT_skip ?_
          refine InBlock_n ?_
          refine Then_n ?_
          refine HT_f DC_ok rfl fun K hK => ?_; (conv => whnf)
          refine hK _ _ _ ?_; clear hK K
          refine Then_n ?_
          replace h := W_xnx h
          refine ⟨_, h, ?_⟩
          refine weak_r ?_; (conv => whnf)
          exact And.intro rfl (And.intro (allL_c wkI (allL_c (WkR.so (fun _ => rfl)) (allL_c (WkR.ptr (fun _ => rfl)) (allL_c (wkr (loose_lst fun _ => (loose_int _ _))) (allL_c wkI (allL_c (wkr (loose_lst fun _ => (loose_int _ _))) (allL_c wkI (allL_c wkI allL_n)))))))) (allL_c ⟨some _, rfl, BkR_c rfl (CkR_cons wkI (CkR_cons (wkr (loose_lst fun _ => (lo_A46 _))) CkR_nil))⟩ (allL_c ⟨some _, rfl, BkR_r rfl (fun _ => (loose_cons (loose_int _ _) loose_nil))⟩ allL_n)))
        refine hK _ _ _ ?_; clear hK K
        replace h := W_jn h
        refine HT_if fun K1 K2 hK1 hK2 => ?_; (conv => whnf)
        refine hK2 ?_; clear hK1 hK2 K1 K2
        replace h := W_cnF h
        refine HT_skip ?_
        refine InBlock_n ?_
        refine Then_n ?_
        refine HT_f DC_ok rfl fun K hK => ?_; (conv => whnf)
        refine hK _ _ _ ?_; clear hK K
        refine Then_n ?_
        replace h := W_xnx h
        refine ⟨_, h, ?_⟩
        refine weak_r ?_; (conv => whnf)
        exact And.intro rfl (And.intro (allL_c wkI (allL_c (WkR.so (fun _ => rfl)) (allL_c (WkR.ptr (fun _ => rfl)) (allL_c (wkr (loose_lst fun _ => (loose_int _ _))) (allL_c wkI (allL_c (wkr (loose_lst fun _ => (loose_int _ _))) (allL_c wkI (allL_c wkI allL_n)))))))) (allL_c ⟨some _, rfl, BkR_c rfl (CkR_cons wkI (CkR_cons (wkr (loose_lst fun _ => (lo_A46 _))) CkR_nil))⟩ (allL_c ⟨some _, rfl, BkR_r rfl (fun _ => (loose_cons (loose_int _ _) loose_nil))⟩ allL_n)))
      refine hK2 ?_; clear hK1 hK2 K1 K2
      refine HT_exit ?_
      refine Then_e ?_
      refine Then_e ?_
      refine InBlock_e ?_
      replace h := W_xbk h
      replace h := W_inl h
      refine InBlock_n ?_
      refine Then_n ?_
      refine HT_f DC_ok rfl fun K hK => ?_; (conv => whnf)
      refine hK _ _ _ ?_; clear hK K
      refine Then_n ?_
      replace h := W_xnx h
      refine ⟨_, h, ?_⟩
      refine weak_r ?_; (conv => whnf)
      exact And.intro rfl (And.intro (allL_c wkI (allL_c (WkR.so (fun _ => rfl)) (allL_c (WkR.ptr (fun _ => rfl)) (allL_c (wkr (loose_lst fun _ => (loose_int _ _))) (allL_c wkI (allL_c (wkr (loose_lst fun _ => (loose_int _ _))) allL_n)))))) (allL_c ⟨some _, rfl, BkR_c rfl (CkR_cons wkI (CkR_cons (wkr (loose_lst fun _ => (lo_A46 _))) CkR_nil))⟩ (allL_c ⟨some _, rfl, BkR_r rfl (fun _ => (loose_cons (loose_int _ _) loose_nil))⟩ allL_n)))
    refine hK2 ?_; clear hK1 hK2 K1 K2
    refine HT_exit ?_
    refine Then_e ?_
    refine Then_e ?_
    refine InBlock_e ?_
    replace h := W_xbk h
    replace h := W_inl h
    refine Then_n ?_
    refine HT_fr DC_ok rfl fun K hK => ?_; (conv => whnf)
    replace h := W_jn h
    refine gd_lkN h (rfl) fun hx1637 h => ?_; (conv => whnf)
    refine nlA rfl ?_; (conv => whnf)
    refine blkK_of rfl ?_; (conv => whnf)
    refine get_flN (enc := eI) (d := default) (q := 0) (fun _ => rfl) (rfl) hx1637 (nle rfl) rfl ?_; (conv => whnf)
    refine cond_lk h (fun _ h => ?_) (fun _ h => ?_) <;> (conv => whnf)
    · refine hK _ _ _ ?_; clear hK K
      refine HT_ret ?_
      replace h := W_some h
      refine PostP_r DC_ok fun K hK => ?_; (conv => whnf)
      refine hK _ ?_; clear hK K
      cases h
      exact Wk.refl _
    refine hK _ _ _ ?_; clear hK K
    refine HT_ret ?_
    replace h := W_some h
    refine PostP_r DC_ok fun K hK => ?_; (conv => whnf)
    refine hK _ ?_; clear hK K
    cases h
    exact Wk.refl _
  refine HT_fD DC_ok mix_ok rfl (by kernel_rfl) fun K hK => ?_; (conv => whnf)
  refine cond_lk h (fun _ h => ?_) (fun _ h => ?_) <;> (conv => whnf)
  · refine hK _ _ _ ?_; clear hK K
    refine Then_n ?_
    refine ⟨_, h, ?_⟩
    refine weak_k ?_; (conv => whnf)
    exact And.intro rfl (And.intro (allL_c (wkr (loose_bool _)) (allL_c (WkR.ptr (fun _ => rfl)) (allL_c (wkr (loose_lst fun _ => (loose_int _ _))) (allL_c wkI (allL_c (wkr (loose_lst fun _ => (loose_int _ _))) allL_n))))) (allL_c ⟨some _, rfl, BkR_c rfl (CkR_cons wkI (CkR_cons (wkr (loose_lst fun _ => (lo_A46 _))) CkR_nil))⟩ allL_n))
  refine cond_lk h (fun _ h => ?_) (fun _ h => ?_) <;> (conv => whnf)
  · refine hK _ _ _ ?_; clear hK K
    refine Then_n ?_
    refine ⟨_, h, ?_⟩
    refine weak_k ?_; (conv => whnf)
    exact And.intro rfl (And.intro (allL_c (wkr (loose_bool _)) (allL_c (WkR.ptr (fun _ => rfl)) (allL_c (wkr (loose_lst fun _ => (loose_int _ _))) (allL_c wkI (allL_c (wkr (loose_lst fun _ => (loose_int _ _))) allL_n))))) (allL_c ⟨some _, rfl, BkR_c rfl (CkR_cons wkI (CkR_cons (wkr (loose_lst fun _ => (lo_A46 _))) CkR_nil))⟩ allL_n))
  refine cond_lk h (fun _ h => ?_) (fun _ h => ?_) <;> (conv => whnf)
  · refine hK _ _ _ ?_; clear hK K
    refine Then_n ?_
    refine ⟨_, h, ?_⟩
    refine weak_k ?_; (conv => whnf)
    exact And.intro rfl (And.intro (allL_c (wkr (loose_bool _)) (allL_c (WkR.ptr (fun _ => rfl)) (allL_c (wkr (loose_lst fun _ => (loose_int _ _))) (allL_c wkI (allL_c (wkr (loose_lst fun _ => (loose_int _ _))) allL_n))))) (allL_c ⟨some _, rfl, BkR_c rfl (CkR_cons wkI (CkR_cons (wkr (loose_lst fun _ => (lo_A46 _))) CkR_nil))⟩ allL_n))
  refine nlA rfl ?_; (conv => whnf)
  refine blkK_of rfl ?_; (conv => whnf)
  refine nlA rfl ?_; (conv => whnf)
  replace h := W_bd h
  refine order_IsLine_call h22 h (WkL.refl _) (fun _ h => ?_); (conv => whnf)
  refine cond_lk h (fun _ h => ?_) (fun _ h => ?_) <;> (conv => whnf)
  · refine hK _ _ _ ?_; clear hK K
    refine Then_n ?_
    refine ⟨_, h, ?_⟩
    refine weak_k ?_; (conv => whnf)
    exact And.intro rfl (And.intro (allL_c (wkr (loose_bool _)) (allL_c (WkR.ptr (fun _ => rfl)) (allL_c (wkr (loose_lst fun _ => (loose_int _ _))) (allL_c wkI (allL_c (wkr (loose_lst fun _ => (loose_int _ _))) allL_n))))) (allL_c ⟨some _, rfl, BkR_c rfl (CkR_cons wkI (CkR_cons (wkr (loose_lst fun _ => (lo_A46 _))) CkR_nil))⟩ allL_n))
  refine nlA rfl ?_; (conv => whnf)
  refine blkK_of rfl ?_; (conv => whnf)
  refine nlA rfl ?_; (conv => whnf)
  replace h := W_bd h
  refine order_IsLine_call h22 h (WkL.refl _) (fun _ h => ?_); (conv => whnf)
  refine cond_lk h (fun _ h => ?_) (fun _ h => ?_) <;> (conv => whnf)
  · refine hK _ _ _ ?_; clear hK K
    refine Then_n ?_
    refine ⟨_, h, ?_⟩
    refine weak_k ?_; (conv => whnf)
    exact And.intro rfl (And.intro (allL_c (wkr (loose_bool _)) (allL_c (WkR.ptr (fun _ => rfl)) (allL_c (wkr (loose_lst fun _ => (loose_int _ _))) (allL_c wkI (allL_c (wkr (loose_lst fun _ => (loose_int _ _))) allL_n))))) (allL_c ⟨some _, rfl, BkR_c rfl (CkR_cons wkI (CkR_cons (wkr (loose_lst fun _ => (lo_A46 _))) CkR_nil))⟩ allL_n))
  refine cond_lk h (fun _ h => ?_) (fun _ h => ?_) <;> (conv => whnf)
  · refine hK _ _ _ ?_; clear hK K
    refine Then_n ?_
    refine ⟨_, h, ?_⟩
    refine weak_k ?_; (conv => whnf)
    exact And.intro rfl (And.intro (allL_c (wkr (loose_bool _)) (allL_c (WkR.ptr (fun _ => rfl)) (allL_c (wkr (loose_lst fun _ => (loose_int _ _))) (allL_c wkI (allL_c (wkr (loose_lst fun _ => (loose_int _ _))) allL_n))))) (allL_c ⟨some _, rfl, BkR_c rfl (CkR_cons wkI (CkR_cons (wkr (loose_lst fun _ => (lo_A46 _))) CkR_nil))⟩ allL_n))
  refine ix_lk h fun _ h => ?_; (conv => whnf)
  refine getK_of rfl ?_; (conv => whnf)
  refine cond_lk h (fun _ h => ?_) (fun _ h => ?_) <;> (conv => whnf)
  · refine hK _ _ _ ?_; clear hK K
    refine Then_n ?_
    refine ⟨_, h, ?_⟩
    refine weak_k ?_; (conv => whnf)
    exact And.intro rfl (And.intro (allL_c (wkr (loose_bool _)) (allL_c (WkR.ptr (fun _ => rfl)) (allL_c (wkr (loose_lst fun _ => (loose_int _ _))) (allL_c wkI (allL_c (wkr (loose_lst fun _ => (loose_int _ _))) allL_n))))) (allL_c ⟨some _, rfl, BkR_c rfl (CkR_cons wkI (CkR_cons (wkr (loose_lst fun _ => (lo_A46 _))) CkR_nil))⟩ allL_n))
  refine ix_lk h fun _ h => ?_; (conv => whnf)
  refine getK_of rfl ?_; (conv => whnf)
  refine nlA rfl ?_; (conv => whnf)
  refine blkK_of rfl ?_; (conv => whnf)
  refine getK_of rfl ?_; (conv => whnf)
  refine gd_lk h fun _ h => ?_; (conv => whnf)
  refine hK _ _ _ ?_; clear hK K
  refine Then_n ?_
  refine ⟨_, h, ?_⟩
  refine weak_k ?_; (conv => whnf)
  exact And.intro rfl (And.intro (allL_c (wkr (loose_bool _)) (allL_c (WkR.ptr (fun _ => rfl)) (allL_c (wkr (loose_lst fun _ => (loose_int _ _))) (allL_c wkI (allL_c (wkr (loose_lst fun _ => (loose_int _ _))) allL_n))))) (allL_c ⟨some _, rfl, BkR_c rfl (CkR_cons wkI (CkR_cons (wkr (loose_lst fun _ => (lo_A46 _))) CkR_nil))⟩ allL_n))
end Go.Proofs.YtlmboonbfhkfnaaDoor
namespace Go.Proofs.YtlmboonbfhkfnaaDoor
open Go Go.Eng
set_option maxRecDepth 100000
theorem set_getD {α : Type} [Inhabited α] {l : List α} {i j : Nat} {v : α} (hi : i < l.length) : (l.set i v).getD j default = if j = i then v else l.getD j default := by
  rw [List.getD_eq_getElem?_getD, List.getElem?_set]
  by_cases e : j = i
  · subst e; rw [if_pos rfl, if_pos rfl, if_pos hi]; rfl
  · rw [if_neg (fun q => e q.symm), if_neg e, List.getD_eq_getElem?_getD]
section
variable {o : TOrder} {n : Nat} {t : Ar 8} {r : Nat → Nat → Bool}
def frB (n : Nat) (r : Nat → Nat → Bool) (S a : Nat) : Bool := !S.testBit a && (List.range n).all fun b => S.testBit b || !r b a
theorem frB_iff (lt : ∀ a b, r a b = true → a < n ∧ b < n) {S a : Nat} : frB n r S a = true ↔ fr r S a := by
  unfold frB fr
  rw [Bool.and_eq_true, Bool.not_eq_true', List.all_eq_true]
  refine and_congr_right fun _ => ⟨fun h b hb => ?_, fun h b _ => ?_⟩
  · have := h b (List.mem_range.2 (lt _ _ hb).1)
    rw [hb] at this; simpa using this
  · cases c : r b a
    · simp
    · rw [h b c]; rfl
theorem all_range_s (m : Nat) (f : Nat → Bool) : (List.range (m + 1)).all f = ((List.range m).all f && f m) := by
  rw [List.range_succ, List.all_append]; simp
theorem in_ints (ls : List Nat) (a : Nat) (h : ls.length ≤ 1000) : law07_in_F (ints ls) (a : Int) = some (decide (a ∈ ls)) := by
  rw [in_ok _ _ (by rw [ints_len]; omega)]
  congr 1
  rw [Bool.eq_iff_iff, decide_eq_true_eq, decide_eq_true_eq, mem_ints]
theorem chosen_ok (h : OV o n t r) {x : List Int} (hx : okL okI x) : ∃ ls, law07_chosen_F o x = some (ints ls) ∧ Ln n r ls ∧ ls.length = n := by
  have n8 := h.n8
  have hN := h.N
  obtain ⟨y, e, hy⟩ := lp_runF (body := law07_chosen_b1 o x) (fun s => ∃ ls, s = ints ls ∧ Ln n r ls) (fun s => n - s.length)
    (fun y => match y with | .inl s => ∃ ls, s = ints ls ∧ Ln n r ls ∧ ls.length = n | .inr _ => False)
    (fun s ⟨ls, h1, h2⟩ => by
      subst h1
      have hlen := Ln_len h2
      unfold law07_chosen_b1
      simp only [cn_dec, ints_len]
      by_cases c : ls.length < n
      · rw [if_pos (by omega)]
        obtain ⟨s, e, q1, q2⟩ := lp_fold (body := law07_chosen_b2 o (ints ls)) (fun a s => s.2 = (a : Int) ∧ s.1 = ints ((List.range a).filter (frB n r (msk ls)))) n (by omega)
          (fun a s ha ⟨hs, hq⟩ => by
            obtain ⟨u, v⟩ := s
            simp only at hs hq
            subst hs hq
            have fl : ((List.range a).filter (frB n r (msk ls))).length ≤ a := by
              have := List.length_filter_le (frB n r (msk ls)) (List.range a)
              rwa [List.length_range] at this
            obtain ⟨s, e, q1, q2⟩ := lp_fold (body := law07_chosen_b3 o (ints ls) (ints ((List.range a).filter (frB n r (msk ls))), (a : Int))) (fun b s => s.2 = (b : Int) ∧ s.1 = (!(msk ls).testBit a && (List.range b).all fun b => (msk ls).testBit b || !r b a)) n (by omega)
              (fun b s hb ⟨hs, hq⟩ => by
                obtain ⟨u, v⟩ := s
                simp only at hs hq
                subst hs
                unfold law07_chosen_b3
                simp only [cn_dec, jn_d]
                rw [if_pos (by omega), cn_if, wr_id (by omega) (by omega)]
                by_cases c1 : u = true
                · rw [if_pos c1, in_ints ls b (by omega), bd_s, ← Ln_bits h2, cn_if]
                  rw [c1] at hq
                  by_cases c2 : (msk ls).testBit b = true
                  · rw [if_pos c2]
                    exact ⟨_, rfl, by simp only; omega, by simp only; rw [all_range_s, ← Bool.and_assoc, ← hq, c2]; rfl⟩
                  · rw [if_neg c2, Before_n h, bd_s]
                    exact ⟨_, rfl, by simp only; omega, by simp only; rw [all_range_s, ← Bool.and_assoc, ← hq, Bool.eq_false_iff.2 c2]; simp⟩
                · rw [if_neg c1]
                  rw [Bool.eq_false_iff.2 c1] at hq
                  exact ⟨_, rfl, by simp only; omega, by simp only; rw [all_range_s, ← Bool.and_assoc, ← hq]; rfl⟩) (fun s ⟨hs, _⟩ => by
                unfold law07_chosen_b3
                simp only [cn_dec]
                rw [if_neg (by omega)]) (!(msk ls).testBit a, 0) ⟨rfl, by simp⟩
            unfold law07_chosen_b2
            simp only [cn_dec, jn_d]
            rw [if_pos (by omega), in_ints ls a (by omega), bd_s, ← Ln_bits h2, e, bd_s, smK_l, q2, cn_if, wr_id (by omega) (by omega)]
            have ef : (!(msk ls).testBit a && (List.range n).all fun b => (msk ls).testBit b || !r b a) = frB n r (msk ls) a := rfl
            rw [ef]
            by_cases c1 : frB n r (msk ls) a = true
            · rw [if_pos c1, lt_d, ap_p (by rw [ints_len]; simp only [List.length_cons, List.length_nil]; omega)]
              exact ⟨_, rfl, by simp only; omega, by simp only; rw [List.range_succ, List.filter_append, filter_one, if_pos c1, ints_app]; rfl⟩
            · rw [if_neg c1]
              exact ⟨_, rfl, by simp only; omega, by simp only; rw [List.range_succ, List.filter_append, filter_one, if_neg c1, List.append_nil]⟩) (fun s ⟨hs, _⟩ => by
            unfold law07_chosen_b2
            simp only [cn_dec]
            rw [if_neg (by omega)]) ([], 0) ⟨rfl, rfl⟩
        rw [e, bd_s, smK_l, q2]
        have fl : ((List.range n).filter (frB n r (msk ls))).length ≤ n := by
          have := List.length_filter_le (frB n r (msk ls)) (List.range n)
          rwa [List.length_range] at this
        obtain ⟨x0, x1, x2⟩ := h.fr_ex h2 c
        have pos : 0 < ((List.range n).filter (frB n r (msk ls))).length := List.length_pos_of_mem (List.mem_filter.2 ⟨List.mem_range.2 x1, (frB_iff h.lt).2 x2⟩)
        rw [cn_beq, if_neg (by rw [ints_len]; omega)]
        simp only [jn_d]
        have fin : ∀ k : Nat, k < ((List.range n).filter (frB n r (msk ls))).length → ∃ s', (ix (ints ((List.range n).filter (frB n r (msk ls)))) default (k : Int) fun e23 => lt ([e23] : List Int) fun l24 => ap (ints ls) l24 fun l25 => (some (.nx l25) : Option (Ct (List Int) (List Int)))) = some (.nx s') ∧ (∃ ls, s' = ints ls ∧ Ln n r ls) ∧ n - s'.length < n - ls.length := fun k hk => by
          rw [ix_n (by rw [ints_len]; exact hk), ints_getD hk, lt_d, ap_p (by rw [ints_len]; simp only [List.length_cons, List.length_nil]; omega)]
          have hm := List.mem_filter.1 (getD_memD hk)
          refine ⟨_, rfl, ⟨ls ++ [((List.range n).filter (frB n r (msk ls))).getD k default], by rw [ints_app]; rfl, Ln_snoc.2 ⟨h2, List.mem_range.1 hm.1, (frB_iff h.lt).1 hm.2⟩⟩, ?_⟩
          simp only [ints_len, List.length_append, List.length_cons, List.length_nil]; omega
        by_cases c3 : ls.length < x.length
        · rw [if_pos (by omega), ix_n c3, ints_len]
          obtain ⟨k, hk, ek⟩ := pick_n (x.getD ls.length default) (n := ((List.range n).filter (frB n r (msk ls))).length) (okL_get hx c3) pos
          rw [ek, bd_s]
          exact .inl (fin k hk)
        · rw [if_neg (by omega)]
          exact .inl (fin 0 pos)
      · rw [if_neg (by omega)]
        exact .inr (.inl ⟨_, rfl, ls, rfl, h2, by omega⟩)) [] ⟨[], rfl, trivial⟩ (by simp only [List.length_nil]; omega)
  unfold law07_chosen_F
  rw [e, bd_s]
  cases y with
  | inr s => exact hy.elim
  | inl s =>
    obtain ⟨ls, rfl, h1, h2⟩ := hy
    rw [smK_l]
    exact ⟨ls, rfl, h1, h2⟩
theorem IsLine_yes (h : OV o n t r) {ls : List Nat} (hl : Ln n r ls) (hn : ls.length = n) : order_IsLine_F o (ints ls) = some true := by
  obtain ⟨v, e, hv⟩ := IsLine_ok h (ints ls)
  rw [e, hv.2 ⟨ls, rfl, hl, hn⟩]
theorem pfx_first (h : OV o n t r) : (pfx n r).getD 0 default = 0 := by
  have z0 : dnB n r 0 = true := (dnB_iff h.lt).2 fun a b _ hb => by rw [Nat.zero_testBit] at hb; cases hb
  unfold pfx
  obtain ⟨m, hm⟩ : ∃ m, 2 ^ n = m + 1 := ⟨2 ^ n - 1, by have := Nat.two_pow_pos n; omega⟩
  rw [hm, List.range_succ_eq_map, List.filter_cons_of_pos z0]; rfl
theorem pfx_last (h : OV o n t r) : (pfx n r).getD ((pfx n r).length - 1) default = 2 ^ n - 1 := by
  have z0 : dnB n r (2 ^ n - 1) = true := (dnB_iff h.lt).2 (Dn_all h.lt)
  have e : pfx n r = (List.range (2 ^ n - 1)).filter (dnB n r) ++ [2 ^ n - 1] := by
    unfold pfx
    conv => lhs; rw [show 2 ^ n = (2 ^ n - 1) + 1 by have := Nat.two_pow_pos n; omega, List.range_succ, List.filter_append, filter_one, if_pos z0]
  rw [e]; simp [List.getD_eq_getElem?_getD]
theorem pfx_sorted (n : Nat) (r : Nat → Nat → Bool) : (pfx n r).Pairwise (· < ·) := List.pairwise_lt_range.filter _
theorem pfx_before {i q : Nat} (hi : i < (pfx n r).length) (hq : q ∈ pfx n r) : q ∈ (pfx n r).take i ↔ q < (pfx n r).getD i default := by
  have hs := pfx_sorted n r
  have mono : ∀ a b, a < b → b < (pfx n r).length → (pfx n r).getD a default < (pfx n r).getD b default := fun a b h1 h2 => by
    rw [getD_ltD (by omega), getD_ltD h2]
    exact List.pairwise_iff_getElem.1 hs a b (by omega) h2 h1
  constructor
  · intro h
    obtain ⟨j, hj, e⟩ := mem_get h
    rw [List.length_take] at hj
    have : ((pfx n r).take i).getD j default = (pfx n r).getD j default := by
      rw [List.getD_eq_getElem?_getD, List.getElem?_take_of_lt (by omega), List.getD_eq_getElem?_getD]
    rw [← e, this]
    exact mono j i (by omega) hi
  · intro h
    obtain ⟨j, hj, e⟩ := mem_get hq
    have hji : j < i := by
      refine Nat.lt_of_not_le fun c => ?_
      by_cases d : i = j
      · subst d; omega
      · have := mono i j (by omega) hj; omega
    have : ((pfx n r).take i).getD j default = q := by
      rw [List.getD_eq_getElem?_getD, List.getElem?_take_of_lt (by omega), ← List.getD_eq_getElem?_getD, e]
    rw [← this]
    exact getD_memD (by rw [List.length_take]; omega)
theorem Ln_parts (h : OV o n t r) {ls : List Nat} (hl : Ln n r ls) (hn : ls.length = n) {p : Nat} (hp : Dn r p) : Ln n r (ls.filter (fun x => p.testBit x) ++ ls.filter fun x => !p.testBit x) ∧ (ls.filter (fun x => p.testBit x) ++ ls.filter fun x => !p.testBit x).length = n := by
  have hpw := Ln_pair _ rfl hl
  have hlen : (ls.filter (fun x => p.testBit x) ++ ls.filter fun x => !p.testBit x).length = ls.length := by
    rw [List.length_append, ← List.countP_eq_length_filter, ← List.countP_eq_length_filter]
    have := List.length_eq_countP_add_countP (fun x => p.testBit x) (l := ls)
    simp only [decide_not, Bool.decide_eq_true] at this
    omega
  have hmem : ∀ x, x < n → x ∈ ls.filter (fun x => p.testBit x) ++ ls.filter fun x => !p.testBit x := fun x hx => by
    have := Ln_full hl hn hx
    rw [List.mem_append, List.mem_filter, List.mem_filter]
    cases c : p.testBit x
    · exact .inr ⟨this, rfl⟩
    · exact .inl ⟨this, rfl⟩
  refine ⟨Ln_of h.ir _ rfl (fun x hx => ?_) (List.pairwise_append.2 ⟨hpw.filter _, hpw.filter _, fun x hx y hy => ?_⟩) fun y _ a ha => hmem a (h.lt _ _ ha).1, by rw [hlen, hn]⟩
  · rcases List.mem_append.1 hx with hx | hx <;> exact Ln_lt hl x (List.mem_filter.1 hx).1
  · have bx := (List.mem_filter.1 hx).2
    have by' := (List.mem_filter.1 hy).2
    refine ⟨fun q => (by subst q; rw [bx] at by'; cases by'), Bool.eq_false_iff.2 fun q => ?_⟩
    have := hp y x q bx
    rw [this] at by'; cases by'
end
theorem plain4 (a0 : Int) (a1 : List (Int × Int)) (a2 : Int) (a3 : List Int) (o0 : okI a0) (o1 : okL okA46 a1) (o2 : okI a2) (o3 : okL okI a3) : law07_OrderLines_F a0 a1 a2 a3 = some true := by
  obtain ⟨o, n, t, r, e0, h, hol⟩ := made_ok a0 a1 a2 o0 o1 o2
  have n8 := h.n8
  have p8 := small_pow n8
  have pp := Nat.two_pow_pos n
  have hN := h.N
  have zl := List.length_pos_of_mem ((mem_pfx h.lt).2 ⟨Nat.two_pow_pos n, fun a b _ h => by rw [Nat.zero_testBit] at h; cases h⟩ : 0 ∈ pfx n r)
  have pl := pfx_len n r
  obtain ⟨fs, e1, f1, f2, _⟩ := Line_ok h
  obtain ⟨ls, e2, l1, l2⟩ := chosen_ok h o3
  unfold law07_OrderLines_F
  rw [sane_ok, bd_s, cn_not, cn_t, e0, bd_s, Prefixes_ok h, bd_s, e1, bd_s, Lines_ok h, bd_s, e2, bd_s]
  simp only [jn_d, show ((0 : Int) != 0) = false from rfl, cn_f]
  rw [IsLine_yes h f1 f2, bd_s, IsLine_yes h l1 l2, bd_s]
  simp only [Bool.not_true, cn_f, ints_len]
  rw [cn_beq, if_neg (by omega), show (0 : Int) = ((0 : Nat) : Int) from rfl, ix_n (by rw [ints_len]; exact zl), ints_getD zl, pfx_first h, cn_bne, if_pos rfl, wr_id (by omega) (by omega), show (((pfx n r).length : Int) - 1) = (((pfx n r).length - 1 : Nat) : Int) by omega, ix_n (by rw [ints_len]; omega), ints_getD (by omega), pfx_last h, hN, gd_p _ (by omega), nshl (by omega), wr_id (by omega) (by omega),
    show (((2 ^ n - 1 : Nat) : Int) != ((2 ^ n : Nat) : Int) - 1) = false by rw [show ((2 ^ n : Nat) : Int) - 1 = ((2 ^ n - 1 : Nat) : Int) by omega]; simp, cn_f]
  obtain ⟨s, e3, _⟩ := lp_fold (body := law07_OrderLines_b1 (ints (pfx n r), 0) (ints ls)) (fun k s => s.2 = (k : Int) ∧ s.1 = ((msk (ls.take k) : Nat) : Int)) ls.length (by omega)
    (fun k s hk ⟨hs, hq⟩ => by
      obtain ⟨u, v⟩ := s
      simp only at hs hq
      subst hs hq
      obtain ⟨q1, q2, q3⟩ := Ln_at l1 hk
      have hm := Ln_msk_lt q1
      have hmem : msk (ls.take k) ∈ pfx n r := (mem_pfx h.lt).2 ⟨hm, fun a b hr hb => by
        rw [Ln_bits q1, decide_eq_true_eq] at hb ⊢
        exact Ln_dn _ rfl q1 b hb a hr⟩
      unfold law07_OrderLines_b1
      simp only [cn_dec, ints_len]
      rw [if_pos (by omega), in_ints _ _ (by omega), bd_s, decide_eq_true hmem, Bool.not_true, cn_f, ix_n (by rw [ints_len]; exact hk), ints_getD hk, gd_p _ (by omega), nshl (by omega), wr_id (x := (k : Int) + 1) (by omega) (by omega)]
      have := small_pow (k := ls.getD k default) (by omega)
      have := Nat.two_pow_pos (ls.getD k default)
      rw [wr_id (by omega) (by omega)]
      refine ⟨_, rfl, by simp only; omega, ?_⟩
      simp only
      rw [take_getD hk, msk_snoc]; omega) (fun s ⟨hs, _⟩ => by
      unfold law07_OrderLines_b1
      simp only [cn_dec, ints_len]
      rw [if_neg (by omega)]) (0, 0) ⟨rfl, rfl⟩
  have e3' : lp (law07_OrderLines_b1 (ints (pfx n r), 0) (ints ls)) FU (0, 0) = some (.inl s) := e3
  rw [show ((0 : Nat) : Int) = 0 from rfl, e3', bd_s, smK_l, gd_p _ (by omega), gd_p _ (by omega), lt_d, Int.toNat_natCast]
  obtain ⟨s, e4, h1, h2, h3⟩ := lp_fold (body := law07_OrderLines_b2 o (ints (pfx n r), 0) (ints ls)) (fun i s => s.1 = (i : Int) ∧ s.2.length = 2 ^ n ∧ ∀ q, q < 2 ^ n → s.2.getD q default = if q ∈ (pfx n r).take i then ((Lc n r q : Nat) : Int) else 0) (pfx n r).length (by omega)
    (fun i s hi ⟨hs, hl, hg⟩ => by
      obtain ⟨u, W⟩ := s
      simp only at hs hl hg
      subst hs
      obtain ⟨m1, m2⟩ := (mem_pfx h.lt).1 (getD_memD hi)
      have pb := fun q => pfx_before (q := q) hi
      generalize hp : (pfx n r).getD i default = p at m1 m2 pb
      have pin : p ∈ pfx n r := (mem_pfx h.lt).2 ⟨m1, m2⟩
      have pd := (dnB_iff h.lt).2 m2
      have pno : p ∉ (pfx n r).take i := fun q => by have := (pb p pin).1 q; omega
      have small := Lc_small n8 r p
      have hsum : p ≠ 0 → Lc n r p = sm n fun x => if p.testBit x = true then Lc n r (p - 2 ^ x) else 0 := fun d => by rw [Lc_eq, if_pos pd, if_neg d]
      unfold law07_OrderLines_b2
      simp only [cn_dec, jn_d, ints_len]
      rw [if_pos (by omega), ix_n (by rw [ints_len]; exact hi), ints_getD hi, hp, if_neg (by omega), if_neg (by omega)]
      obtain ⟨s, e5, g1, g2, g3⟩ := lp_fold (body := law07_OrderLines_b3 (p : Int) (ints ls)) (fun k s => s.2.2 = (k : Int) ∧ s.1 = ints ((ls.take k).filter fun x => p.testBit x) ∧ s.2.1 = ints ((ls.take k).filter fun x => !p.testBit x)) ls.length (by omega)
        (fun k s hk ⟨hs, hq1, hq2⟩ => by
          obtain ⟨u, v, w⟩ := s
          simp only at hs hq1 hq2
          subst hs hq1 hq2
          have ln := Ln_lt l1 _ (getD_memD hk)
          have z1 := List.length_filter_le (fun x => p.testBit x) (ls.take k)
          have z2 := List.length_filter_le (fun x => !p.testBit x) (ls.take k)
          rw [List.length_take] at z1 z2
          unfold law07_OrderLines_b3
          simp only [cn_dec, jn_d, ints_len]
          rw [if_pos (by omega)]
          simp only [ix_n (show k < (ints ls).length by rw [ints_len]; exact hk), ints_getD hk]
          rw [gd_p _ (by omega), ntm1 (by omega), cn_if, wr_id (by omega) (by omega), lt_d, lt_d]
          by_cases c : p.testBit (ls.getD k default) = true
          · rw [if_pos c, ap_p (by rw [ints_len]; simp only [List.length_cons, List.length_nil]; omega)]
            refine ⟨_, rfl, by simp only; omega, ?_, ?_⟩
            · simp only; rw [take_getD hk, List.filter_append, filter_one, if_pos c, ints_app]; rfl
            · simp only; rw [take_getD hk, List.filter_append, filter_one, if_neg (by rw [c]; decide), List.append_nil]
          · rw [if_neg c, ap_p (by rw [ints_len]; simp only [List.length_cons, List.length_nil]; omega)]
            refine ⟨_, rfl, by simp only; omega, ?_, ?_⟩
            · simp only; rw [take_getD hk, List.filter_append, filter_one, if_neg c, List.append_nil]
            · simp only; rw [take_getD hk, List.filter_append, filter_one, if_pos (by rw [Bool.eq_false_iff.2 c]; rfl), ints_app]; rfl) (fun s ⟨hs, _⟩ => by
          unfold law07_OrderLines_b3
          simp only [cn_dec, ints_len]
          rw [if_neg (by omega)]) ([], [], 0) ⟨rfl, rfl, rfl⟩
      rw [List.take_length] at g2 g3
      obtain ⟨w1, w2⟩ := Ln_parts h l1 l2 m2
      rw [e5, bd_s, smK_l, g2, g3, ap_p (by rw [ints_len, ints_len, ← List.length_append]; omega), ← ints_app, IsLine_yes h w1 w2, bd_s, Bool.not_true, cn_f, cn_beq]
      have loop : ∀ V : List Int, V.length = 2 ^ n → (∀ q, q < 2 ^ n → V.getD q default = if q = p then (if p = 0 then 1 else 0) else W.getD q default) →
          ∃ s', (bd (lp (law07_OrderLines_b4 (p : Int) o (ints (pfx n r), 0)) FU (0, V)) fun c50 => smK c50 (fun s51 => some (Ct.nx ((wr ((i : Int) + 1)), s51.2))) (fun r52 => some (.rt r52))) = some (.nx s') ∧ s'.1 = ((i + 1 : Nat) : Int) ∧ s'.2.length = 2 ^ n ∧ ∀ q, q < 2 ^ n → s'.2.getD q default = if q ∈ (pfx n r).take (i + 1) then ((Lc n r q : Nat) : Int) else 0 := fun V hV hVg => by
        obtain ⟨s, e6, k1, k2, k3⟩ := lp_fold (body := law07_OrderLines_b4 (p : Int) o (ints (pfx n r), 0)) (fun a s => s.1 = (a : Int) ∧ s.2.length = 2 ^ n ∧ ∀ q, q < 2 ^ n → s.2.getD q default = if q = p then (((if p = 0 then 1 else 0) + sm a fun x => if p.testBit x = true then Lc n r (p - 2 ^ x) else 0 : Nat) : Int) else W.getD q default) n (by omega)
          (fun a s ha ⟨hs, hl', hq⟩ => by
            obtain ⟨u, X⟩ := s
            simp only at hs hl' hq
            subst hs
            have hpa := small_pow (k := a) (by omega)
            have hs1 : (sm (a + 1) fun x => if p.testBit x = true then Lc n r (p - 2 ^ x) else 0) = (sm a fun x => if p.testBit x = true then Lc n r (p - 2 ^ x) else 0) + if p.testBit a = true then Lc n r (p - 2 ^ a) else 0 := rfl
            unfold law07_OrderLines_b4
            simp only [cn_dec, jn_d]
            rw [if_pos (by omega), gd_p _ (by omega), ntm1 (by omega), cn_if, wr_id (x := (a : Int) + 1) (by omega) (by omega)]
            by_cases c : p.testBit a = true
            · have hsb := sub_bit c
              have hd : p ≠ 0 := fun q => by subst q; rw [Nat.zero_testBit] at c; cases c
              have hlt := rm_lt c
              have hle : (sm a fun x => if p.testBit x = true then Lc n r (p - 2 ^ x) else 0) + Lc n r (p - 2 ^ a) ≤ Lc n r p := by
                have := sm_mono (f := fun x => if p.testBit x = true then Lc n r (p - 2 ^ x) else 0) (n := a + 1) (m := n) (by omega)
                rw [← hsum hd, hs1, if_pos c] at this
                exact this
              have h2a := Nat.two_pow_pos a
              rw [if_pos c, gd_p _ (by omega), nshl (by omega), wr_id (x := (p : Int) - ((2 ^ a : Nat) : Int)) (by omega) (by omega), show (p : Int) - ((2 ^ a : Nat) : Int) = ((p - 2 ^ a : Nat) : Int) by omega, in_ints _ _ (by omega), bd_s, cn_dec]
              by_cases cm : p - 2 ^ a ∈ pfx n r
              · have hX : X.getD (p - 2 ^ a) default = ((Lc n r (p - 2 ^ a) : Nat) : Int) := by
                  rw [hq _ (by omega), if_neg (by omega), hg _ (by omega), if_pos ((pb _ cm).2 hlt)]
                rw [if_pos cm, gd_p _ (by omega), gd_p _ (by omega), gd_p _ (by omega), gd_p _ (by omega), st_d, Int.toNat_natCast, Int.toNat_natCast, hX, hq p m1, if_pos rfl, if_neg hd, wr_id (by omega) (by omega)]
                refine ⟨_, rfl, by simp only; omega, by simp only [List.length_set]; exact hl', fun q hqn => ?_⟩
                simp only
                rw [set_getD (by omega)]
                by_cases eq : q = p
                · subst eq
                  rw [if_pos rfl, if_pos rfl, hs1, if_pos c]; omega
                · rw [if_neg eq, if_neg eq, hq q hqn, if_neg eq]
              · rw [if_neg cm]
                have hz : Lc n r (p - 2 ^ a) = 0 := Lc_no (Bool.eq_false_iff.2 fun q => cm ((mem_pfx h.lt).2 ⟨by omega, (dnB_iff h.lt).1 q⟩))
                refine ⟨_, rfl, by simp only; omega, hl', fun q hqn => ?_⟩
                simp only
                rw [hq q hqn, hs1, if_pos c, hz, Nat.add_zero]
            · rw [if_neg c, cn_f]
              refine ⟨_, rfl, by simp only; omega, hl', fun q hqn => ?_⟩
              simp only
              rw [hq q hqn, hs1, if_neg c, Nat.add_zero]) (fun s ⟨hs, _⟩ => by
            unfold law07_OrderLines_b4
            simp only [cn_dec]
            rw [if_neg (by omega)]) (0, V) ⟨rfl, hV, fun q hq => by
              simp only
              rw [hVg q hq]
              by_cases eq : q = p
              · rw [if_pos eq, if_pos eq]
                show _ = (((if p = 0 then 1 else 0) + 0 : Nat) : Int)
                split <;> rfl
              · rw [if_neg eq, if_neg eq]⟩
        rw [e6, bd_s, smK_l, wr_id (by omega) (by omega)]
        refine ⟨_, rfl, by simp only; omega, k2, fun q hqn => ?_⟩
        simp only
        rw [k3 q hqn, take_getD hi, hp]
        by_cases eq : q = p
        · subst eq
          rw [if_pos rfl, if_pos (List.mem_append_right _ (List.mem_singleton.2 rfl))]
          by_cases d : q = 0
          · subst d
            rw [Lc_eq, if_pos pd, if_pos rfl, if_pos rfl]
            have : (sm n fun x => if Nat.testBit 0 x = true then Lc n r (0 - 2 ^ x) else 0) = 0 := by
              rw [sm_congr (g := fun _ => 0) fun i _ => by rw [Nat.zero_testBit, if_neg (by decide)]]
              exact sm_zero n
            rw [this]
          · rw [if_neg d, hsum d, Nat.zero_add]
        · rw [if_neg eq, hg q hqn]
          by_cases m : q ∈ (pfx n r).take i
          · rw [if_pos m, if_pos (List.mem_append_left _ m)]
          · rw [if_neg m, if_neg fun z => (List.mem_append.1 z).elim m fun z => eq (List.mem_singleton.1 z)]
      by_cases d : p = 0
      · rw [if_pos (by omega), gd_p _ (by omega), st_d, Int.toNat_natCast]
        refine loop _ (by rw [List.length_set]; exact hl) fun q hq => ?_
        rw [set_getD (by omega), if_pos d]
      · rw [if_neg (by omega)]
        refine loop W hl fun q hq => ?_
        by_cases eq : q = p
        · subst eq; rw [if_pos rfl, if_neg d, hg q hq, if_neg pno]
        · rw [if_neg eq]) (fun s ⟨hs, _⟩ => by
      unfold law07_OrderLines_b2
      simp only [cn_dec, ints_len]
      rw [if_neg (by omega)]) (0, List.replicate (2 ^ n) 0) ⟨rfl, List.length_replicate, fun q hq => by
        simp only
        rw [List.take_zero, if_neg (by simp)]
        simp [List.getD_eq_getElem?_getD, List.getElem?_replicate, hq]⟩
  rw [e4, bd_s, smK_l]
  have many := h.Lc_pos _ _ (Nat.lt_succ_self _) (show 2 ^ n - 1 < 2 ^ n by omega) (Dn_all h.lt)
  rw [h2, wr_id (by omega) (by omega), show ((2 ^ n : Nat) : Int) - 1 = ((2 ^ n - 1 : Nat) : Int) by omega, gd_p _ (by omega), Int.toNat_natCast, h3 _ (by omega), List.take_length, if_pos ((mem_pfx h.lt).2 ⟨by omega, Dn_all h.lt⟩), beq_self_eq_true, cn_t, decide_eq_true (by omega)]
end Go.Proofs.YtlmboonbfhkfnaaDoor
