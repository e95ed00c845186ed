import Derived.Test.YtlmboonbfhkfnaaDoorM5
import Derived.Test.YtlmboonbfhkfnaaDoorM6
set_option linter.unusedVariables false
set_option linter.unusedSimpArgs false
set_option linter.unusedSectionVars false
namespace Go.Proofs.YtlmboonbfhkfnaaDoor
open Go Go.Eng
set_option maxHeartbeats 0
set_option maxRecDepth 100000

    def law07_OrderLattice_b1 (y3 : (List Int) × Int) (y15 : Int) (y16 : Int) (s28 : (List Int) × Int) : Option (Ct ((List Int) × Int) Bool) := cn (decide (s28.2 < (y3.1.length : Int))) (jn (fun p29 : Bool =>
    jn (fun p33 : (List Int) => some (.nx (p33, (wr (s28.2 + 1))))) fun k34 => cn p29 (ix y3.1 default s28.2 fun e35 => lt ([e35] : List Int) fun l36 => ap s28.1 l36 fun l37 =>
    k34 l37) (k34 s28.1)) fun k30 => ix y3.1 default s28.2 fun e31 => gd (0 ≤ y15) (cn ((Int.tmod (bshr .i64 e31 y15) 2) == 1) (k30 true) (ix y3.1 default s28.2 fun e32 =>
    gd (0 ≤ y16) (k30 ((Int.tmod (bshr .i64 e32 y16) 2) == 0))))) (some (.bk (s28.1, s28.2)))
theorem W_blaw07_OrderLattice_b1 {y3 : (List Int) × Int} {y15 : Int} {y16 : Int} {s28 : (List Int) × Int} {Φ : Ct ((List Int) × Int) Bool → Prop} (h : W (law07_OrderLattice_b1 y3 y15 y16 s28) Φ) : W (cn (decide (s28.2 < (y3.1.length : Int))) (jn (fun p29 : Bool => jn (fun p33 : (List Int) => some (.nx (p33, (wr (s28.2 + 1))))) fun k34 => cn p29 (ix y3.1 default s28.2 fun e35 =>
    lt ([e35] : List Int) fun l36 => ap s28.1 l36 fun l37 => k34 l37) (k34 s28.1)) fun k30 => ix y3.1 default s28.2 fun e31 => gd (0 ≤ y15) (cn ((Int.tmod (bshr .i64 e31 y15) 2) ==
    1) (k30 true) (ix y3.1 default s28.2 fun e32 => gd (0 ≤ y16) (k30 ((Int.tmod (bshr .i64 e32 y16) 2) == 0))))) (some (.bk (s28.1, s28.2)))) Φ := h
def law07_OrderLattice_F (a0 : Int) (a1 : List (Int × Int)) (a2 : Int) (a3 : Int) (a4 : Int) (a5 : Int) (a6 : Int) : Option Bool := bd (law07_sane_F ) fun y1 =>
    cn (!y1) (some false) (bd (ref07_Made_F a0 a1 a2) fun y2 => bd (order_Prefixes_F y2) fun y3 => bd (order_Reduce_F y2) fun y4 => jn (fun p5 : Bool =>
    cn p5 (some false) (bd (law07_pick_F a3 (y3.1.length : Int)) fun y7 => ix y3.1 default y7 fun e8 => bd (law07_pick_F a4 (y3.1.length : Int)) fun y9 =>
    ix y3.1 default y9 fun e10 => jn (fun p11 : Bool => cn p11 (some false) (bd (law07_pick_F a5 8) fun y15 => bd (law07_pick_F a6 8) fun y16 =>
    lt ([] : List (Int × Int)) fun l17 => ap l17 y4.1.Pairs fun l18 => lt ([(y15, y16)] : List (Int × Int)) fun l19 => ap l18 l19 fun l20 =>
    bd (order_Prefixes_F (⟨y2.N, l20⟩ : TOrder)) fun y21 => jn (fun p22 : Bool => cn p22 (jn (fun p25 : Bool => some p25) fun k26 => cn (y21.2 ==
    70) (let v27 := ((y21.1.length : Int) == 0); k26 v27) (k26 false)) (bd (lp (law07_OrderLattice_b1 y3 y15 y16) FU ([], 0)) fun c38 => smK c38 (fun s39 => jn (fun p41 : Bool =>
    some p41) fun k42 => cn (y21.2 == 0) (bd (ref07_Ints_F y21.1 s39.1) fun y43 => k42 y43) (k42 false)) (fun r40 => some r40))) fun k23 =>
    cn (decide (y15 ≥ y2.N)) (k23 true) (cn (decide (y16 ≥ y2.N)) (k23 true) (cn (y15 == y16) (k23 true) (bd (order_Before_F y2 y16 y15) fun y24 => k23 y24))))) fun k12 =>
    bd (law07_in_F y3.1 (bor .i64 e8 e10)) fun y13 => cn (!y13) (k12 true) (bd (law07_in_F y3.1 (band .i64 e8 e10)) fun y14 => k12 (!y14)))) fun k6 => cn (y3.2 !=
    0) (k6 true) (cn (y4.2 != 0) (k6 true) (k6 ((y3.1.length : Int) == 0))))
def law07_OrderLattice_S : List AV → AV → Prop := fun args r => ∃ a0 a1 a2 a3 a4 a5 a6, args = [eI a0, (eL 2 eA46 default) a1, eI a2, eI a3, eI a4, eI a5, eI a6] ∧ W (law07_OrderLattice_F a0 a1 a2 a3 a4 a5 a6) fun y => r = (eB y)
theorem law07_OrderLattice_ok {T : Tbl} (hT : TOk Tryd.prog T) (hpf : PfOk T PF) (h11 : T 11 = pureR law07_sane_S) (h12 : T 12 = pureR ref07_Made_S) (h13 : T 13 = pureR law07_pick_S) (h18 : T 18 = pureR order_Prefixes_S) (h23 : T 23 = pureR law07_in_S) (h25 : T 25 = pureR order_Reduce_S) (h27 : T 27 = pureR order_Before_S) (h36 : T 36 = pureR ref07_Ints_S) : FOk Tryd.prog 10 (pureR law07_OrderLattice_S) := by
  refine FOk_pure hT hpf Tryd.func10 rfl Tryd.ntmps10 Tryd.results10 (by decide) ?_
  rintro args r ⟨a0, a1, a2, a3, a4, a5, a6, rfl, h⟩
  refine ⟨nle rfl, ?_, ?_⟩
  · exact (loose_cons (loose_int _ _) (loose_cons (loose_lst fun _ => (lo_A46 _)) (loose_cons (loose_int _ _) (loose_cons (loose_int _ _) (loose_cons (loose_int _ _) (loose_cons (loose_int _ _) (loose_cons (loose_int _ _) loose_nil)))))))
  rw [law07_OrderLattice_F.eq_1] at h
  refine HT_fr DC_ok rfl fun K hK => ?_; (conv => whnf)
  refine hK _ _ _ ?_; clear hK K
  refine HT_fr DC_ok rfl fun K hK => ?_; (conv => whnf)
  replace h := W_bd h
  refine law07_sane_call h11 h (WkL.refl _) (fun _ h => ?_); (conv => whnf)
  refine hK _ _ _ ?_; clear hK K
  refine HT_seq ?_
  refine HT_fr DC_ok rfl fun K hK => ?_; (conv => whnf)
  refine hK _ _ _ ?_; clear hK K
  refine HT_if fun K1 K2 hK1 hK2 => ?_; (conv => whnf)
  refine cond_lk h (fun _ h => ?_) (fun _ h => ?_)
  · refine hK1 ?_; clear hK1 hK2 K1 K2
    refine HT_fr DC_ok rfl fun K hK => ?_; (conv => whnf)
    refine hK _ _ _ ?_; clear hK K
    refine HT_ret ?_
    refine Then_r ?_
    replace h := W_some h
    refine PostP_r DC_ok fun K hK => ?_; (conv => whnf)
    refine hK _ ?_; clear hK K
    cases h
    exact Wk.refl _
  refine hK2 ?_; clear hK1 hK2 K1 K2
  refine HT_skip ?_
  refine Then_n ?_
  refine HT_fr DC_ok rfl fun K hK => ?_; (conv => whnf)
  replace h := W_bd h
  refine ref07_Made_call h12 h (WkL.refl _) (fun _ h => ?_); (conv => whnf)
  refine blkK_of rfl ?_; (conv => whnf)
  refine And.intro rfl (And.intro (nle rfl) (And.intro rfl ?_)); (conv => whnf)
  refine hK _ _ _ ?_; clear hK K
  refine HT_fr DC_ok rfl fun K hK => ?_; (conv => whnf)
  refine nlA rfl ?_; (conv => whnf)
  refine blkK_of rfl ?_; (conv => whnf)
  refine nlA rfl ?_; (conv => whnf)
  replace h := W_bd h
  refine order_Prefixes_call h18 h (WkL.refl _) (fun _ h => ?_); (conv => whnf)
  refine hK _ _ _ ?_; clear hK K
  refine HT_fr DC_ok rfl fun K hK => ?_; (conv => whnf)
  refine nlA rfl ?_; (conv => whnf)
  refine blkK_of rfl ?_; (conv => whnf)
  refine nlA rfl ?_; (conv => whnf)
  replace h := W_bd h
  refine order_Reduce_call h25 h (WkL.refl _) (fun _ h => ?_); (conv => whnf)
  refine blkK_of rfl ?_; (conv => whnf)
  refine And.intro rfl (And.intro (nle rfl) (And.intro rfl ?_)); (conv => whnf)
  refine hK _ _ _ ?_; clear hK K
  refine HT_seq ?_
  refine HT_fr DC_ok rfl fun K hK => ?_; (conv => whnf)
  replace h := W_jn h
  refine cond_lk h (fun _ h => ?_) (fun _ h => ?_) <;> (conv => whnf)
  · refine hK _ _ _ ?_; clear hK K
    refine HT_if fun K1 K2 hK1 hK2 => ?_; (conv => whnf)
    refine hK1 ?_; clear hK1 hK2 K1 K2
    replace h := W_cnT h
    refine HT_fr DC_ok rfl fun K hK => ?_; (conv => whnf)
    refine hK _ _ _ ?_; clear hK K
    refine HT_ret ?_
    refine Then_r ?_
    replace h := W_some h
    refine PostP_r DC_ok fun K hK => ?_; (conv => whnf)
    refine hK _ ?_; clear hK K
    cases h
    exact Wk.refl _
  refine cond_lk h (fun _ h => ?_) (fun _ h => ?_) <;> (conv => whnf)
  · refine hK _ _ _ ?_; clear hK K
    refine HT_if fun K1 K2 hK1 hK2 => ?_; (conv => whnf)
    refine hK1 ?_; clear hK1 hK2 K1 K2
    replace h := W_cnT h
    refine HT_fr DC_ok rfl fun K hK => ?_; (conv => whnf)
    refine hK _ _ _ ?_; clear hK K
    refine HT_ret ?_
    refine Then_r ?_
    replace h := W_some h
    refine PostP_r DC_ok fun K hK => ?_; (conv => whnf)
    refine hK _ ?_; clear hK K
    cases h
    exact Wk.refl _
  refine hK _ _ _ ?_; clear hK K
  refine HT_if fun K1 K2 hK1 hK2 => ?_; (conv => whnf)
  refine cond_lk h (fun _ h => ?_) (fun _ h => ?_)
  · refine hK1 ?_; clear hK1 hK2 K1 K2
    refine HT_fr DC_ok rfl fun K hK => ?_; (conv => whnf)
    refine hK _ _ _ ?_; clear hK K
    refine HT_ret ?_
    refine Then_r ?_
    replace h := W_some h
    refine PostP_r DC_ok fun K hK => ?_; (conv => whnf)
    refine hK _ ?_; clear hK K
    cases h
    exact Wk.refl _
  refine hK2 ?_; clear hK1 hK2 K1 K2
  refine HT_skip ?_
  refine Then_n ?_
  refine HT_fr DC_ok rfl fun K hK => ?_; (conv => whnf)
  replace h := W_bd h
  refine law07_pick_call h13 h (WkL.refl _) (fun _ h => ?_); (conv => whnf)
  refine ix_lk h fun _ h => ?_; (conv => whnf)
  refine getK_of rfl ?_; (conv => whnf)
  refine hK _ _ _ ?_; clear hK K
  refine HT_fr DC_ok rfl fun K hK => ?_; (conv => whnf)
  replace h := W_bd h
  refine law07_pick_call h13 h (WkL.refl _) (fun _ h => ?_); (conv => whnf)
  refine ix_lk h fun _ h => ?_; (conv => whnf)
  refine getK_of rfl ?_; (conv => whnf)
  refine hK _ _ _ ?_; clear hK K
  refine HT_seq ?_
  refine HT_fr DC_ok rfl fun K hK => ?_; (conv => whnf)
  replace h := W_jn h
  replace h := W_bd h
  refine law07_in_call h23 h (WkL.refl _) (fun _ h => ?_); (conv => whnf)
  refine cond_lk h (fun _ h => ?_) (fun _ h => ?_) <;> (conv => whnf)
  · refine hK _ _ _ ?_; clear hK K
    refine HT_if fun K1 K2 hK1 hK2 => ?_; (conv => whnf)
    refine hK1 ?_; clear hK1 hK2 K1 K2
    replace h := W_cnT h
    refine HT_fr DC_ok rfl fun K hK => ?_; (conv => whnf)
    refine hK _ _ _ ?_; clear hK K
    refine HT_ret ?_
    refine Then_r ?_
    replace h := W_some h
    refine PostP_r DC_ok fun K hK => ?_; (conv => whnf)
    refine hK _ ?_; clear hK K
    cases h
    exact Wk.refl _
  replace h := W_bd h
  refine law07_in_call h23 h (WkL.refl _) (fun _ h => ?_); (conv => whnf)
  refine hK _ _ _ ?_; clear hK K
  refine HT_if fun K1 K2 hK1 hK2 => ?_; (conv => whnf)
  refine cond_lk h (fun _ h => ?_) (fun _ h => ?_)
  · refine hK1 ?_; clear hK1 hK2 K1 K2
    refine HT_fr DC_ok rfl fun K hK => ?_; (conv => whnf)
    refine hK _ _ _ ?_; clear hK K
    refine HT_ret ?_
    refine Then_r ?_
    replace h := W_some h
    refine PostP_r DC_ok fun K hK => ?_; (conv => whnf)
    refine hK _ ?_; clear hK K
    cases h
    exact Wk.refl _
  refine hK2 ?_; clear hK1 hK2 K1 K2
  refine HT_skip ?_
  refine Then_n ?_
  refine HT_fr DC_ok rfl fun K hK => ?_; (conv => whnf)
  replace h := W_bd h
  refine law07_pick_call h13 h (WkL.refl _) (fun _ h => ?_); (conv => whnf)
  refine hK _ _ _ ?_; clear hK K
  refine HT_fr DC_ok rfl fun K hK => ?_; (conv => whnf)
  replace h := W_bd h
  refine law07_pick_call h13 h (WkL.refl _) (fun _ h => ?_); (conv => whnf)
  refine hK _ _ _ ?_; clear hK K
  refine HT_fdP (.step 0 (.step 2 (.step 3 (.step 4 (.step 5 (.step 6 (.step 7 (.step 8 (.step 9 (.thr 1 10 12 (.two 10 12 (.step 12 (.step 11 (.step 13 (.nil)))) (.step 10 (.step 11 (.step 13 (.nil))))) (.step 1 (.step 12 (.step 11 (.step 13 (.nil))))) (.two 1 10 (.step 10 (.step 11 (.step 13 (.nil)))) (.step 1 (.step 11 (.step 13 (.nil))))))))))))))) DC_ok mix_ok rfl (by kernel_rfl) fun K hK => ?_; (conv => whnf)
  refine lt_lk (enc := eA46) (d := default) DC_ok h rfl rfl rfl ⟨nle rfl, nle rfl, rfl⟩ rfl trivial (fun h => ?_); (conv => whnf)
  refine nlA rfl ?_; (conv => whnf)
  refine blkK_of rfl ?_; (conv => whnf)
  refine getK_of rfl ?_; (conv => whnf)
  refine apf_lk (enc := eA46) (d := default) DC_ok h rfl rfl rfl ⟨rfl, nle rfl, nle rfl, nle rfl, rfl⟩ (fun _ => rfl) (fun h => ?_); (conv => whnf)
  refine lt_lk (enc := eA46) (d := default) DC_ok h rfl rfl rfl ⟨nle rfl, nle rfl, rfl⟩ rfl ⟨⟨rfl, nle rfl⟩, trivial⟩ (fun h => ?_); (conv => whnf)
  refine And.intro ?_ (And.intro ?_ ?_) <;> (conv => whnf)
  · refine nlA rfl ?_; (conv => whnf)
    refine blkK_of rfl ?_; (conv => whnf)
    refine getK_of rfl ?_; (conv => whnf)
    refine And.intro ?_ ?_ <;> (conv => whnf)
    · refine ap_lk (enc := eA46) (d := default) DC_ok h (.inl rfl) rfl rfl rfl ⟨rfl, nle rfl, nle rfl, nle rfl, rfl⟩ (fun _ => rfl) (.inr (.inr ⟨_, _, rfl, rfl, rfl⟩)) (fun h => ?_); (conv => whnf)
      refine blkK_of rfl ?_; (conv => whnf)
      refine And.intro rfl (And.intro (nle rfl) (And.intro rfl ?_)); (conv => whnf)
      refine hK _ _ _ ?_; clear hK K
      refine HT_fr DC_ok rfl fun K hK => ?_; (conv => whnf)
      refine nlA rfl ?_; (conv => whnf)
      refine blkK_of rfl ?_; (conv => whnf)
      refine nlA rfl ?_; (conv => whnf)
      replace h := W_bd h
      refine order_Prefixes_call h18 h (WkL_cons (Wk_agg (WkL_cons (Wk.refl _) (WkL_cons Wk_free WkL_nil))) WkL_nil) (fun _ h => ?_); (conv => whnf)
      refine hK _ _ _ ?_; clear hK K
      refine HT_seq ?_
      refine HT_jnK rfl h [5, 6, 17, 22, 23] [] [] (fun kl kh ids b s => ⟨ofL ([(123, eB s)] ++ kl), ofH ([] ++ kh), b + 64⟩) ?_; (conv => whnf); refine And.intro (fun s h => HT_st ?_) (fun k h => ?_)
      · refine HT_if fun K1 K2 hK1 hK2 => ?_; (conv => whnf)
        refine cond_lk h (fun _ h => ?_) (fun _ h => ?_)
        · refine hK1 ?_; clear hK1 hK2 K1 K2
          refine HT_fr DC_ok rfl fun K hK => ?_; (conv => whnf)
          replace h := W_jn h
          refine cond_lk h (fun _ h => ?_) (fun _ h => ?_) <;> (conv => whnf)
          · refine hK _ _ _ ?_; clear hK K
            refine HT_ret ?_
            refine Then_r ?_
            replace h := W_some h
            refine PostP_r DC_ok fun K hK => ?_; (conv => whnf)
            refine hK _ ?_; clear hK K
            cases h
            exact Wk.refl _
          refine hK _ _ _ ?_; clear hK K
          refine HT_ret ?_
          refine Then_r ?_
          replace h := W_some h
          refine PostP_r DC_ok fun K hK => ?_; (conv => whnf)
          refine hK _ ?_; clear hK K
          cases h
          exact Wk.refl _
        refine hK2 ?_; clear hK1 hK2 K1 K2
        refine HT_skip ?_
        refine Then_n ?_
        refine HT_fr DC_ok rfl fun K hK => ?_; (conv => whnf)
        refine hK _ _ _ ?_; clear hK K
        refine HT_seq ?_
        refine HT_fr DC_ok rfl fun K hK => ?_; (conv => whnf)
        refine hK _ _ _ ?_; clear hK K
        refine HT_block ?_
        replace h := W_bd h
        refine HT_lpK (body := law07_OrderLattice_b1 _ _ _) rfl h [5, 6, 17, 22, 23] [] [] (fun kl kh ids b s => ⟨ofL ([(24, .lst (.tok (b + 0)) 1 s.1.length (fun j => eI (s.1.getD j default))), (25, eI s.2)] ++ kl), ofH ([(b + 0, .cells [])] ++ kh), b + 128⟩) ?_; (conv => whnf); refine And.intro ?_ (fun s m h => HT_st ?_)
        · refine weak_k ?_; (conv => whnf)
          exact And.intro rfl (And.intro (allL_c (WkR.nil (fun _ => rfl)) (allL_c wkI (allL_c wkI (allL_c wkI (allL_c (wkr (loose_lst fun _ => (loose_int _ _))) (allL_c (wkr (loose_lst fun _ => (loose_int _ _))) (allL_c wkI allL_n))))))) (allL_c ⟨none, rfl, BkR_n⟩ allL_n))
        replace h := W_blaw07_OrderLattice_b1 (W_bd h)
        refine HT_seq ?_
        refine HT_fr DC_ok rfl fun K hK => ?_; (conv => whnf)
        refine hK _ _ _ ?_; clear hK K
        refine HT_if fun K1 K2 hK1 hK2 => ?_; (conv => whnf)
        refine cond_lk h (fun _ h => ?_) (fun _ h => ?_)
        · refine hK1 ?_; clear hK1 hK2 K1 K2
          refine HT_skip ?_
          refine Then_n ?_
          refine HT_seq ?_
          refine HT_block ?_
          refine HT_fr DC_ok rfl fun K hK => ?_; (conv => whnf)
          replace h := W_jn h
          refine ix_lk h fun _ h => ?_; (conv => whnf)
          refine getK_of rfl ?_; (conv => whnf)
          refine gd_lk h fun _ h => ?_; (conv => whnf)
          refine And.intro (by decide) ?_; (conv => whnf)
          refine cond_lk h (fun _ h => ?_) (fun _ h => ?_) <;> (conv => whnf)
          · refine hK _ _ _ ?_; clear hK K
            replace h := W_jn h
            refine HT_if fun K1 K2 hK1 hK2 => ?_; (conv => whnf)
            refine hK1 ?_; clear hK1 hK2 K1 K2
            replace h := W_cnT h
            refine HT_f DC_ok rfl fun K hK => ?_; (conv => whnf)
            refine ix_lk h fun _ h => ?_; (conv => whnf)
            refine getK_of rfl ?_; (conv => whnf)
            refine lt_lk (enc := eI) (d := default) DC_ok h rfl rfl rfl ⟨nle rfl, nle rfl, rfl⟩ rfl ⟨⟨rfl, rfl, rfl⟩, trivial⟩ (fun h => ?_); (conv => whnf)
            refine ap_lk (enc := eI) (d := default) DC_ok h (.inl rfl) rfl rfl rfl ⟨rfl, nle rfl, nle rfl, nle rfl, rfl⟩ (fun _ => rfl) (.inr (.inr ⟨_, _, rfl, rfl, rfl⟩)) (fun h => ?_); (conv => whnf)
            refine hK _ _ _ ?_; clear hK K
            refine InBlock_n ?_
            refine Then_n ?_
            refine HT_f DC_ok rfl fun K hK => ?_; (conv => whnf)
            refine hK _ _ _ ?_; clear hK K
            refine Then_n ?_
            replace h := W_xnx h
            refine ⟨_, h, ?_⟩
            refine weak_k ?_; (conv => whnf)
            exact And.intro rfl (And.intro (allL_c (WkR.tok (fun _ => rfl) rfl (fun _ _ => Wk.refl _) (fun _ => (loose_int _ _))) (allL_c wkI (allL_c wkI (allL_c wkI (allL_c (wkr (loose_lst fun _ => (loose_int _ _))) (allL_c (wkr (loose_lst fun _ => (loose_int _ _))) (allL_c wkI allL_n))))))) (allL_c ⟨some _, rfl, BkR_c rfl CkR_nil⟩ allL_n))
          refine ix_lk h fun _ h => ?_; (conv => whnf)
          refine getK_of rfl ?_; (conv => whnf)
          refine gd_lk h fun _ h => ?_; (conv => whnf)
          refine And.intro (by decide) ?_; (conv => whnf)
          refine hK _ _ _ ?_; clear hK K
          replace h := W_jn h
          refine HT_if fun K1 K2 hK1 hK2 => ?_; (conv => whnf)
          refine cond_lk h (fun _ h => ?_) (fun _ h => ?_)
          · refine hK1 ?_; clear hK1 hK2 K1 K2
            refine HT_f DC_ok rfl fun K hK => ?_; (conv => whnf)
            refine ix_lk h fun _ h => ?_; (conv => whnf)
            refine getK_of rfl ?_; (conv => whnf)
            refine lt_lk (enc := eI) (d := default) DC_ok h rfl rfl rfl ⟨nle rfl, nle rfl, rfl⟩ rfl ⟨⟨rfl, rfl, rfl⟩, trivial⟩ (fun h => ?_); (conv => whnf)
            refine ap_lk (enc := eI) (d := default) DC_ok h (.inl rfl) rfl rfl rfl ⟨rfl, nle rfl, nle rfl, nle rfl, rfl⟩ (fun _ => rfl) (.inr (.inr ⟨_, _, rfl, rfl, rfl⟩)) (fun h => ?_); (conv => whnf)
            refine hK _ _ _ ?_; clear hK K
            refine InBlock_n ?_
            refine Then_n ?_
            refine HT_f DC_ok rfl fun K hK => ?_; (conv => whnf)
            refine hK _ _ _ ?_; clear hK K
            refine Then_n ?_
            replace h := W_xnx h
            refine ⟨_, h, ?_⟩
            refine weak_k ?_; (conv => whnf)
            exact And.intro rfl (And.intro (allL_c (WkR.tok (fun _ => rfl) rfl (fun _ _ => Wk.refl _) (fun _ => (loose_int _ _))) (allL_c wkI (allL_c wkI (allL_c wkI (allL_c (wkr (loose_lst fun _ => (loose_int _ _))) (allL_c (wkr (loose_lst fun _ => (loose_int _ _))) (allL_c wkI allL_n))))))) (allL_c ⟨some _, rfl, BkR_c rfl CkR_nil⟩ allL_n))
          refine hK2 ?_; clear hK1 hK2 K1 K2
          refine HT_skip ?_
          refine InBlock_n ?_
          refine Then_n ?_
          refine HT_f DC_ok rfl fun K hK => ?_; (conv => whnf)
          refine hK _ _ _ ?_; clear hK K
          refine Then_n ?_
          replace h := W_xnx h
          refine ⟨_, h, ?_⟩
          refine weak_k ?_; (conv => whnf)
          exact And.intro rfl (And.intro (allL_c (WkR.tok (fun _ => rfl) rfl (fun _ _ => Wk.refl _) (fun _ => (loose_int _ _))) (allL_c wkI (allL_c wkI (allL_c wkI (allL_c (wkr (loose_lst fun _ => (loose_int _ _))) (allL_c (wkr (loose_lst fun _ => (loose_int _ _))) (allL_c wkI allL_n))))))) (allL_c ⟨some _, rfl, BkR_c rfl CkR_nil⟩ allL_n))
        refine hK2 ?_; clear hK1 hK2 K1 K2
        refine HT_exit ?_
        refine Then_e ?_
        refine Then_e ?_
        refine InBlock_e ?_
        replace h := W_xbk h
        replace h := W_inl h
        refine Then_n ?_
        refine HT_fr DC_ok rfl fun K hK => ?_; (conv => whnf)
        replace h := W_jn h
        refine cond_lk h (fun _ h => ?_) (fun _ h => ?_) <;> (conv => whnf)
        · replace h := W_bd h
          refine ref07_Ints_call h36 h (WkL_cons (Wk.refl _) (WkL_cons Wk_free WkL_nil)) (fun _ h => ?_); (conv => whnf)
          refine hK _ _ _ ?_; clear hK K
          refine HT_ret ?_
          replace h := W_some h
          refine PostP_r DC_ok fun K hK => ?_; (conv => whnf)
          refine hK _ ?_; clear hK K
          cases h
          exact Wk.refl _
        refine hK _ _ _ ?_; clear hK K
        refine HT_ret ?_
        replace h := W_some h
        refine PostP_r DC_ok fun K hK => ?_; (conv => whnf)
        refine hK _ ?_; clear hK K
        cases h
        exact Wk.refl _
      refine HT_f DC_ok rfl fun K hK => ?_; (conv => whnf)
      refine nlA rfl ?_; (conv => whnf)
      refine blkK_of rfl ?_; (conv => whnf)
      refine getK_of rfl ?_; (conv => whnf)
      refine cond_lk h (fun _ h => ?_) (fun _ h => ?_) <;> (conv => whnf)
      · refine hK _ _ _ ?_; clear hK K
        refine Then_n ?_
        refine ⟨_, h, ?_⟩
        refine weak_k ?_; (conv => whnf)
        exact And.intro rfl (And.intro (allL_c (wkr (loose_bool _)) (allL_c wkI (allL_c wkI (allL_c (wkr (loose_lst fun _ => (loose_int _ _))) (allL_c (wkr (loose_lst fun _ => (loose_int _ _))) (allL_c wkI allL_n)))))) allL_n)
      refine nlA rfl ?_; (conv => whnf)
      refine blkK_of rfl ?_; (conv => whnf)
      refine getK_of rfl ?_; (conv => whnf)
      refine cond_lk h (fun _ h => ?_) (fun _ h => ?_) <;> (conv => whnf)
      · refine hK _ _ _ ?_; clear hK K
        refine Then_n ?_
        refine ⟨_, h, ?_⟩
        refine weak_k ?_; (conv => whnf)
        exact And.intro rfl (And.intro (allL_c (wkr (loose_bool _)) (allL_c wkI (allL_c wkI (allL_c (wkr (loose_lst fun _ => (loose_int _ _))) (allL_c (wkr (loose_lst fun _ => (loose_int _ _))) (allL_c wkI allL_n)))))) allL_n)
      refine cond_lk h (fun _ h => ?_) (fun _ h => ?_) <;> (conv => whnf)
      · refine hK _ _ _ ?_; clear hK K
        refine Then_n ?_
        refine ⟨_, h, ?_⟩
        refine weak_k ?_; (conv => whnf)
        exact And.intro rfl (And.intro (allL_c (wkr (loose_bool _)) (allL_c wkI (allL_c wkI (allL_c (wkr (loose_lst fun _ => (loose_int _ _))) (allL_c (wkr (loose_lst fun _ => (loose_int _ _))) (allL_c wkI allL_n)))))) allL_n)
      refine nlA rfl ?_; (conv => whnf)
      refine blkK_of rfl ?_; (conv => whnf)
      refine nlA rfl ?_; (conv => whnf)
      replace h := W_bd h
      refine order_Before_call h27 h (WkL.refl _) (fun _ h => ?_); (conv => whnf)
      refine hK _ _ _ ?_; clear hK K
      refine Then_n ?_
      refine ⟨_, h, ?_⟩
      refine weak_k ?_; (conv => whnf)
      exact And.intro rfl (And.intro (allL_c (wkr (loose_bool _)) (allL_c wkI (allL_c wkI (allL_c (wkr (loose_lst fun _ => (loose_int _ _))) (allL_c (wkr (loose_lst fun _ => (loose_int _ _))) (allL_c wkI allL_n)))))) allL_n)
    refine ap_lk (enc := eA46) (d := default) DC_ok h (.inl rfl) rfl rfl rfl ⟨rfl, nle rfl, nle rfl, nle rfl, rfl⟩ (fun _ => rfl) (.inr (.inr ⟨_, _, rfl, rfl, rfl⟩)) (fun h => ?_); (conv => whnf)
    refine blkK_of rfl ?_; (conv => whnf)
    refine And.intro rfl (And.intro (nle rfl) (And.intro rfl ?_)); (conv => whnf)
    refine hK _ _ _ ?_; clear hK K
    refine HT_fr DC_ok rfl fun K hK => ?_; (conv => whnf)
    refine nlA rfl ?_; (conv => whnf)
    refine blkK_of rfl ?_; (conv => whnf)
    refine nlA rfl ?_; (conv => whnf)
    replace h := W_bd h
    refine order_Prefixes_call h18 h (WkL_cons (Wk_agg (WkL_cons (Wk.refl _) (WkL_cons Wk_free WkL_nil))) WkL_nil) (fun _ h => ?_); (conv => whnf)
    refine hK _ _ _ ?_; clear hK K
    refine HT_seq ?_
    refine HT_jnK rfl h [5, 6, 17, 22, 23] [] [] (fun kl kh ids b s => ⟨ofL ([(123, eB s)] ++ kl), ofH ([] ++ kh), b + 64⟩) ?_; (conv => whnf); refine And.intro (fun s h => HT_st ?_) (fun k h => ?_)
    · refine HT_if fun K1 K2 hK1 hK2 => ?_; (conv => whnf)
      refine cond_lk h (fun _ h => ?_) (fun _ h => ?_)
      · refine hK1 ?_; clear hK1 hK2 K1 K2
        refine HT_fr DC_ok rfl fun K hK => ?_; (conv => whnf)
        replace h := W_jn h
        refine cond_lk h (fun _ h => ?_) (fun _ h => ?_) <;> (conv => whnf)
        · refine hK _ _ _ ?_; clear hK K
          refine HT_ret ?_
          refine Then_r ?_
          replace h := W_some h
          refine PostP_r DC_ok fun K hK => ?_; (conv => whnf)
          refine hK _ ?_; clear hK K
          cases h
          exact Wk.refl _
        refine hK _ _ _ ?_; clear hK K
        refine HT_ret ?_
        refine Then_r ?_
        replace h := W_some h
        refine PostP_r DC_ok fun K hK => ?_; (conv => whnf)
        refine hK _ ?_; clear hK K
        cases h
        exact Wk.refl _
      refine hK2 ?_; clear hK1 hK2 K1 K2
      refine HT_skip ?_
      refine Then_n ?_
      refine HT_fr DC_ok rfl fun K hK => ?_; (conv => whnf)
      refine hK _ _ _ ?_; clear hK K
      refine HT_seq ?_
      refine HT_fr DC_ok rfl fun K hK => ?_; (conv => whnf)
      refine hK _ _ _ ?_; clear hK K
      refine HT_block ?_
      replace h := W_bd h
      refine HT_lpK (body := law07_OrderLattice_b1 _ _ _) rfl h [5, 6, 17, 22, 23] [] [] (fun kl kh ids b s => ⟨ofL ([(24, .lst (.tok (b + 0)) 1 s.1.length (fun j => eI (s.1.getD j default))), (25, eI s.2)] ++ kl), ofH ([(b + 0, .cells [])] ++ kh), b + 128⟩) ?_; (conv => whnf); refine And.intro ?_ (fun s m h => HT_st ?_)
      · refine weak_k ?_; (conv => whnf)
        exact And.intro rfl (And.intro (allL_c (WkR.nil (fun _ => rfl)) (allL_c wkI (allL_c wkI (allL_c wkI (allL_c (wkr (loose_lst fun _ => (loose_int _ _))) (allL_c (wkr (loose_lst fun _ => (loose_int _ _))) (allL_c wkI allL_n))))))) (allL_c ⟨none, rfl, BkR_n⟩ allL_n))
      replace h := W_blaw07_OrderLattice_b1 (W_bd h)
      refine HT_seq ?_
      refine HT_fr DC_ok rfl fun K hK => ?_; (conv => whnf)
      refine hK _ _ _ ?_; clear hK K
      refine HT_if fun K1 K2 hK1 hK2 => ?_; (conv => whnf)
      refine cond_lk h (fun _ h => ?_) (fun _ h => ?_)
      · refine hK1 ?_; clear hK1 hK2 K1 K2
        refine HT_skip ?_
        refine Then_n ?_
        refine HT_seq ?_
        refine HT_block ?_
        refine HT_fr DC_ok rfl fun K hK => ?_; (conv => whnf)
        replace h := W_jn h
        refine ix_lk h fun _ h => ?_; (conv => whnf)
        refine getK_of rfl ?_; (conv => whnf)
        refine gd_lk h fun _ h => ?_; (conv => whnf)
        refine And.intro (by decide) ?_; (conv => whnf)
        refine cond_lk h (fun _ h => ?_) (fun _ h => ?_) <;> (conv => whnf)
        · refine hK _ _ _ ?_; clear hK K
          replace h := W_jn h
          refine HT_if fun K1 K2 hK1 hK2 => ?_; (conv => whnf)
          refine hK1 ?_; clear hK1 hK2 K1 K2
          replace h := W_cnT h
          refine HT_f DC_ok rfl fun K hK => ?_; (conv => whnf)
          refine ix_lk h fun _ h => ?_; (conv => whnf)
          refine getK_of rfl ?_; (conv => whnf)
          refine lt_lk (enc := eI) (d := default) DC_ok h rfl rfl rfl ⟨nle rfl, nle rfl, rfl⟩ rfl ⟨⟨rfl, rfl, rfl⟩, trivial⟩ (fun h => ?_); (conv => whnf)
          refine ap_lk (enc := eI) (d := default) DC_ok h (.inl rfl) rfl rfl rfl ⟨rfl, nle rfl, nle rfl, nle rfl, rfl⟩ (fun _ => rfl) (.inr (.inr ⟨_, _, rfl, rfl, rfl⟩)) (fun h => ?_); (conv => whnf)
          refine hK _ _ _ ?_; clear hK K
          refine InBlock_n ?_
          refine Then_n ?_
          refine HT_f DC_ok rfl fun K hK => ?_; (conv => whnf)
          refine hK _ _ _ ?_; clear hK K
          refine Then_n ?_
          replace h := W_xnx h
          refine ⟨_, h, ?_⟩
          refine weak_k ?_; (conv => whnf)
          exact And.intro rfl (And.intro (allL_c (WkR.tok (fun _ => rfl) rfl (fun _ _ => Wk.refl _) (fun _ => (loose_int _ _))) (allL_c wkI (allL_c wkI (allL_c wkI (allL_c (wkr (loose_lst fun _ => (loose_int _ _))) (allL_c (wkr (loose_lst fun _ => (loose_int _ _))) (allL_c wkI allL_n))))))) (allL_c ⟨some _, rfl, BkR_c rfl CkR_nil⟩ allL_n))
        refine ix_lk h fun _ h => ?_; (conv => whnf)
        refine getK_of rfl ?_; (conv => whnf)
        refine gd_lk h fun _ h => ?_; (conv => whnf)
        refine And.intro (by decide) ?_; (conv => whnf)
        refine hK _ _ _ ?_; clear hK K
        replace h := W_jn h
        refine HT_if fun K1 K2 hK1 hK2 => ?_; (conv => whnf)
        refine cond_lk h (fun _ h => ?_) (fun _ h => ?_)
        · refine hK1 ?_; clear hK1 hK2 K1 K2
          refine HT_f DC_ok rfl fun K hK => ?_; (conv => whnf)
          refine ix_lk h fun _ h => ?_; (conv => whnf)
          refine getK_of rfl ?_; (conv => whnf)
          refine lt_lk (enc := eI) (d := default) DC_ok h rfl rfl rfl ⟨nle rfl, nle rfl, rfl⟩ rfl ⟨⟨rfl, rfl, rfl⟩, trivial⟩ (fun h => ?_); (conv => whnf)
          refine ap_lk (enc := eI) (d := default) DC_ok h (.inl rfl) rfl rfl rfl ⟨rfl, nle rfl, nle rfl, nle rfl, rfl⟩ (fun _ => rfl) (.inr (.inr ⟨_, _, rfl, rfl, rfl⟩)) (fun h => ?_); (conv => whnf)
          refine hK _ _ _ ?_; clear hK K
          refine InBlock_n ?_
          refine Then_n ?_
          refine HT_f DC_ok rfl fun K hK => ?_; (conv => whnf)
          refine hK _ _ _ ?_; clear hK K
          refine Then_n ?_
          replace h := W_xnx h
          refine ⟨_, h, ?_⟩
          refine weak_k ?_; (conv => whnf)
          exact And.intro rfl (And.intro (allL_c (WkR.tok (fun _ => rfl) rfl (fun _ _ => Wk.refl _) (fun _ => (loose_int _ _))) (allL_c wkI (allL_c wkI (allL_c wkI (allL_c (wkr (loose_lst fun _ => (loose_int _ _))) (allL_c (wkr (loose_lst fun _ => (loose_int _ _))) (allL_c wkI allL_n))))))) (allL_c ⟨some _, rfl, BkR_c rfl CkR_nil⟩ allL_n))
        refine hK2 ?_; clear hK1 hK2 K1 K2
        refine HT_skip ?_
        refine InBlock_n ?_
        refine Then_n ?_
        refine HT_f DC_ok rfl fun K hK => ?_; (conv => whnf)
        refine hK _ _ _ ?_; clear hK K
        refine Then_n ?_
        replace h := W_xnx h
        refine ⟨_, h, ?_⟩
        refine weak_k ?_; (conv => whnf)
        exact And.intro rfl (And.intro (allL_c (WkR.tok (fun _ => rfl) rfl (fun _ _ => Wk.refl _) (fun _ => (loose_int _ _))) (allL_c wkI (allL_c wkI (allL_c wkI (allL_c (wkr (loose_lst fun _ => (loose_int _ _))) (allL_c (wkr (loose_lst fun _ => (loose_int _ _))) (allL_c wkI allL_n))))))) (allL_c ⟨some _, rfl, BkR_c rfl CkR_nil⟩ allL_n))
      refine hK2 ?_; clear hK1 hK2 K1 K2
      refine HT_exit ?_
      refine Then_e ?_
      refine Then_e ?_
      refine InBlock_e ?_
      replace h := W_xbk h
      replace h := W_inl h
      refine Then_n ?_
      refine HT_fr DC_ok rfl fun K hK => ?_; (conv => whnf)
      replace h := W_jn h
      refine cond_lk h (fun _ h => ?_) (fun _ h => ?_) <;> (conv => whnf)
      · replace h := W_bd h
        refine ref07_Ints_call h36 h (WkL_cons (Wk.refl _) (WkL_cons Wk_free WkL_nil)) (fun _ h => ?_); (conv => whnf)
        refine hK _ _ _ ?_; clear hK K
        refine HT_ret ?_
        replace h := W_some h
        refine PostP_r DC_ok fun K hK => ?_; (conv => whnf)
        refine hK _ ?_; clear hK K
        cases h
        exact Wk.refl _
      refine hK _ _ _ ?_; clear hK K
      refine HT_ret ?_
      replace h := W_some h
      refine PostP_r DC_ok fun K hK => ?_; (conv => whnf)
      refine hK _ ?_; clear hK K
      cases h
      exact Wk.refl _
    refine HT_f DC_ok rfl fun K hK => ?_; (conv => whnf)
    refine nlA rfl ?_; (conv => whnf)
    refine blkK_of rfl ?_; (conv => whnf)
    refine getK_of rfl ?_; (conv => whnf)
    refine cond_lk h (fun _ h => ?_) (fun _ h => ?_) <;> (conv => whnf)
    · refine hK _ _ _ ?_; clear hK K
      refine Then_n ?_
      refine ⟨_, h, ?_⟩
      refine weak_k ?_; (conv => whnf)
      exact And.intro rfl (And.intro (allL_c (wkr (loose_bool _)) (allL_c wkI (allL_c wkI (allL_c (wkr (loose_lst fun _ => (loose_int _ _))) (allL_c (wkr (loose_lst fun _ => (loose_int _ _))) (allL_c wkI allL_n)))))) allL_n)
    refine nlA rfl ?_; (conv => whnf)
    refine blkK_of rfl ?_; (conv => whnf)
    refine getK_of rfl ?_; (conv => whnf)
    refine cond_lk h (fun _ h => ?_) (fun _ h => ?_) <;> (conv => whnf)
    · refine hK _ _ _ ?_; clear hK K
      refine Then_n ?_
      refine ⟨_, h, ?_⟩
      refine weak_k ?_; (conv => whnf)
      exact And.intro rfl (And.intro (allL_c (wkr (loose_bool _)) (allL_c wkI (allL_c wkI (allL_c (wkr (loose_lst fun _ => (loose_int _ _))) (allL_c (wkr (loose_lst fun _ => (loose_int _ _))) (allL_c wkI allL_n)))))) allL_n)
    refine cond_lk h (fun _ h => ?_) (fun _ h => ?_) <;> (conv => whnf)
    · refine hK _ _ _ ?_; clear hK K
      refine Then_n ?_
      refine ⟨_, h, ?_⟩
      refine weak_k ?_; (conv => whnf)
      exact And.intro rfl (And.intro (allL_c (wkr (loose_bool _)) (allL_c wkI (allL_c wkI (allL_c (wkr (loose_lst fun _ => (loose_int _ _))) (allL_c (wkr (loose_lst fun _ => (loose_int _ _))) (allL_c wkI allL_n)))))) allL_n)
    refine nlA rfl ?_; (conv => whnf)
    refine blkK_of rfl ?_; (conv => whnf)
    refine nlA rfl ?_; (conv => whnf)
    replace h := W_bd h
    refine order_Before_call h27 h (WkL.refl _) (fun _ h => ?_); (conv => whnf)
    refine hK _ _ _ ?_; clear hK K
    refine Then_n ?_
    refine ⟨_, h, ?_⟩
    refine weak_k ?_; (conv => whnf)
    exact And.intro rfl (And.intro (allL_c (wkr (loose_bool _)) (allL_c wkI (allL_c wkI (allL_c (wkr (loose_lst fun _ => (loose_int _ _))) (allL_c (wkr (loose_lst fun _ => (loose_int _ _))) (allL_c wkI allL_n)))))) allL_n)
  · refine ap_lk (enc := eA46) (d := default) DC_ok h (.inl rfl) rfl rfl rfl ⟨rfl, nle rfl, nle rfl, nle rfl, rfl⟩ (fun _ => rfl) (.inr (.inr ⟨_, _, rfl, rfl, rfl⟩)) (fun h => ?_); (conv => whnf)
    refine nlA rfl ?_; (conv => whnf)
    refine blkK_of rfl ?_; (conv => whnf)
    refine getK_of rfl ?_; (conv => whnf)
    refine blkK_of rfl ?_; (conv => whnf)
    refine And.intro rfl (And.intro (nle rfl) (And.intro rfl ?_)); (conv => whnf)
    refine hK _ _ _ ?_; clear hK K
    refine HT_fr DC_ok rfl fun K hK => ?_; (conv => whnf)
    refine nlA rfl ?_; (conv => whnf)
    refine blkK_of rfl ?_; (conv => whnf)
    refine nlA rfl ?_; (conv => whnf)
    replace h := W_bd h
    refine order_Prefixes_call h18 h (WkL_cons (Wk_agg (WkL_cons (Wk.refl _) (WkL_cons Wk_free WkL_nil))) WkL_nil) (fun _ h => ?_); (conv => whnf)
    refine hK _ _ _ ?_; clear hK K
    refine HT_seq ?_
    refine HT_jnK rfl h [5, 6, 17, 22, 23] [] [] (fun kl kh ids b s => ⟨ofL ([(123, eB s)] ++ kl), ofH ([] ++ kh), b + 64⟩) ?_; (conv => whnf); refine And.intro (fun s h => HT_st ?_) (fun k h => ?_)
    · refine HT_if fun K1 K2 hK1 hK2 => ?_; (conv => whnf)
      refine cond_lk h (fun _ h => ?_) (fun _ h => ?_)
      · refine hK1 ?_; clear hK1 hK2 K1 K2
        refine HT_fr DC_ok rfl fun K hK => ?_; (conv => whnf)
        replace h := W_jn h
        refine cond_lk h (fun _ h => ?_) (fun _ h => ?_) <;> (conv => whnf)
        · refine hK _ _ _ ?_; clear hK K
          refine HT_ret ?_
          refine Then_r ?_
          replace h := W_some h
          refine PostP_r DC_ok fun K hK => ?_; (conv => whnf)
          refine hK _ ?_; clear hK K
          cases h
          exact Wk.refl _
        refine hK _ _ _ ?_; clear hK K
        refine HT_ret ?_
        refine Then_r ?_
        replace h := W_some h
        refine PostP_r DC_ok fun K hK => ?_; (conv => whnf)
        refine hK _ ?_; clear hK K
        cases h
        exact Wk.refl _
      refine hK2 ?_; clear hK1 hK2 K1 K2
      refine HT_skip ?_
      refine Then_n ?_
      refine HT_fr DC_ok rfl fun K hK => ?_; (conv => whnf)
      refine hK _ _ _ ?_; clear hK K
      refine HT_seq ?_
      refine HT_fr DC_ok rfl fun K hK => ?_; (conv => whnf)
      refine hK _ _ _ ?_; clear hK K
      refine HT_block ?_
      replace h := W_bd h
      refine HT_lpK (body := law07_OrderLattice_b1 _ _ _) rfl h [5, 6, 17, 22, 23] [] [] (fun kl kh ids b s => ⟨ofL ([(24, .lst (.tok (b + 0)) 1 s.1.length (fun j => eI (s.1.getD j default))), (25, eI s.2)] ++ kl), ofH ([(b + 0, .cells [])] ++ kh), b + 128⟩) ?_; (conv => whnf); refine And.intro ?_ (fun s m h => HT_st ?_)
      · refine weak_k ?_; (conv => whnf)
        exact And.intro rfl (And.intro (allL_c (WkR.nil (fun _ => rfl)) (allL_c wkI (allL_c wkI (allL_c wkI (allL_c (wkr (loose_lst fun _ => (loose_int _ _))) (allL_c (wkr (loose_lst fun _ => (loose_int _ _))) (allL_c wkI allL_n))))))) (allL_c ⟨none, rfl, BkR_n⟩ allL_n))
      replace h := W_blaw07_OrderLattice_b1 (W_bd h)
      refine HT_seq ?_
      refine HT_fr DC_ok rfl fun K hK => ?_; (conv => whnf)
      refine hK _ _ _ ?_; clear hK K
      refine HT_if fun K1 K2 hK1 hK2 => ?_; (conv => whnf)
      refine cond_lk h (fun _ h => ?_) (fun _ h => ?_)
      · refine hK1 ?_; clear hK1 hK2 K1 K2
        refine HT_skip ?_
        refine Then_n ?_
        refine HT_seq ?_
        refine HT_block ?_
        refine HT_fr DC_ok rfl fun K hK => ?_; (conv => whnf)
        replace h := W_jn h
        refine ix_lk h fun _ h => ?_; (conv => whnf)
        refine getK_of rfl ?_; (conv => whnf)
        refine gd_lk h fun _ h => ?_; (conv => whnf)
        refine And.intro (by decide) ?_; (conv => whnf)
        refine cond_lk h (fun _ h => ?_) (fun _ h => ?_) <;> (conv => whnf)
        · refine hK _ _ _ ?_; clear hK K
          replace h := W_jn h
          refine HT_if fun K1 K2 hK1 hK2 => ?_; (conv => whnf)
          refine hK1 ?_; clear hK1 hK2 K1 K2
          replace h := W_cnT h
          refine HT_f DC_ok rfl fun K hK => ?_; (conv => whnf)
          refine ix_lk h fun _ h => ?_; (conv => whnf)
          refine getK_of rfl ?_; (conv => whnf)
          refine lt_lk (enc := eI) (d := default) DC_ok h rfl rfl rfl ⟨nle rfl, nle rfl, rfl⟩ rfl ⟨⟨rfl, rfl, rfl⟩, trivial⟩ (fun h => ?_); (conv => whnf)
          refine ap_lk (enc := eI) (d := default) DC_ok h (.inl rfl) rfl rfl rfl ⟨rfl, nle rfl, nle rfl, nle rfl, rfl⟩ (fun _ => rfl) (.inr (.inr ⟨_, _, rfl, rfl, rfl⟩)) (fun h => ?_); (conv => whnf)
          refine hK _ _ _ ?_; clear hK K
          refine InBlock_n ?_
          refine Then_n ?_
          refine HT_f DC_ok rfl fun K hK => ?_; (conv => whnf)
          refine hK _ _ _ ?_; clear hK K
          refine Then_n ?_
          replace h := W_xnx h
          refine ⟨_, h, ?_⟩
          refine weak_k ?_; (conv => whnf)
          exact And.intro rfl (And.intro (allL_c (WkR.tok (fun _ => rfl) rfl (fun _ _ => Wk.refl _) (fun _ => (loose_int _ _))) (allL_c wkI (allL_c wkI (allL_c wkI (allL_c (wkr (loose_lst fun _ => (loose_int _ _))) (allL_c (wkr (loose_lst fun _ => (loose_int _ _))) (allL_c wkI allL_n))))))) (allL_c ⟨some _, rfl, BkR_c rfl CkR_nil⟩ allL_n))
        refine ix_lk h fun _ h => ?_; (conv => whnf)
        refine getK_of rfl ?_; (conv => whnf)
        refine gd_lk h fun _ h => ?_; (conv => whnf)
        refine And.intro (by decide) ?_; (conv => whnf)
        refine hK _ _ _ ?_; clear hK K
        replace h := W_jn h
        refine HT_if fun K1 K2 hK1 hK2 => ?_; (conv => whnf)
        refine cond_lk h (fun _ h => ?_) (fun _ h => ?_)
        · refine hK1 ?_; clear hK1 hK2 K1 K2
          refine HT_f DC_ok rfl fun K hK => ?_; (conv => whnf)
          refine ix_lk h fun _ h => ?_; (conv => whnf)
          refine getK_of rfl ?_; (conv => whnf)
          refine lt_lk (enc := eI) (d := default) DC_ok h rfl rfl rfl ⟨nle rfl, nle rfl, rfl⟩ rfl ⟨⟨rfl, rfl, rfl⟩, trivial⟩ (fun h => ?_); (conv => whnf)
          refine ap_lk (enc := eI) (d := default) DC_ok h (.inl rfl) rfl rfl rfl ⟨rfl, nle rfl, nle rfl, nle rfl, rfl⟩ (fun _ => rfl) (.inr (.inr ⟨_, _, rfl, rfl, rfl⟩)) (fun h => ?_); (conv => whnf)
          refine hK _ _ _ ?_; clear hK K
          refine InBlock_n ?_
          refine Then_n ?_
          refine HT_f DC_ok rfl fun K hK => ?_; (conv => whnf)
          refine hK _ _ _ ?_; clear hK K
          refine Then_n ?_
          replace h := W_xnx h
          refine ⟨_, h, ?_⟩
          refine weak_k ?_; (conv => whnf)
          exact And.intro rfl (And.intro (allL_c (WkR.tok (fun _ => rfl) rfl (fun _ _ => Wk.refl _) (fun _ => (loose_int _ _))) (allL_c wkI (allL_c wkI (allL_c wkI (allL_c (wkr (loose_lst fun _ => (loose_int _ _))) (allL_c (wkr (loose_lst fun _ => (loose_int _ _))) (allL_c wkI allL_n))))))) (allL_c ⟨some _, rfl, BkR_c rfl CkR_nil⟩ allL_n))
        refine hK2 ?_; clear hK1 hK2 K1 K2
        refine HT_skip ?_
        refine InBlock_n ?_
        refine Then_n ?_
        refine HT_f DC_ok rfl fun K hK => ?_; (conv => whnf)
        refine hK _ _ _ ?_; clear hK K
        refine Then_n ?_
        replace h := W_xnx h
        refine ⟨_, h, ?_⟩
        refine weak_k ?_; (conv => whnf)
        exact And.intro rfl (And.intro (allL_c (WkR.tok (fun _ => rfl) rfl (fun _ _ => Wk.refl _) (fun _ => (loose_int _ _))) (allL_c wkI (allL_c wkI (allL_c wkI (allL_c (wkr (loose_lst fun _ => (loose_int _ _))) (allL_c (wkr (loose_lst fun _ => (loose_int _ _))) (allL_c wkI allL_n))))))) (allL_c ⟨some _, rfl, BkR_c rfl CkR_nil⟩ allL_n))
      refine hK2 ?_; clear hK1 hK2 K1 K2
      refine HT_exit ?_
      refine Then_e ?_
      refine Then_e ?_
      refine InBlock_e ?_
      replace h := W_xbk h
      replace h := W_inl h
      refine Then_n ?_
      refine HT_fr DC_ok rfl fun K hK => ?_; (conv => whnf)
      replace h := W_jn h
      refine cond_lk h (fun _ h => ?_) (fun _ h => ?_) <;> (conv => whnf)
      · replace h := W_bd h
        refine ref07_Ints_call h36 h (WkL_cons (Wk.refl _) (WkL_cons Wk_free WkL_nil)) (fun _ h => ?_); (conv => whnf)
        refine hK _ _ _ ?_; clear hK K
        refine HT_ret ?_
        replace h := W_some h
        refine PostP_r DC_ok fun K hK => ?_; (conv => whnf)
        refine hK _ ?_; clear hK K
        cases h
        exact Wk.refl _
      refine hK _ _ _ ?_; clear hK K
      refine HT_ret ?_
      replace h := W_some h
      refine PostP_r DC_ok fun K hK => ?_; (conv => whnf)
      refine hK _ ?_; clear hK K
      cases h
      exact Wk.refl _
    refine HT_f DC_ok rfl fun K hK => ?_; (conv => whnf)
    refine nlA rfl ?_; (conv => whnf)
    refine blkK_of rfl ?_; (conv => whnf)
    refine getK_of rfl ?_; (conv => whnf)
    refine cond_lk h (fun _ h => ?_) (fun _ h => ?_) <;> (conv => whnf)
    · refine hK _ _ _ ?_; clear hK K
      refine Then_n ?_
      refine ⟨_, h, ?_⟩
      refine weak_k ?_; (conv => whnf)
      exact And.intro rfl (And.intro (allL_c (wkr (loose_bool _)) (allL_c wkI (allL_c wkI (allL_c (wkr (loose_lst fun _ => (loose_int _ _))) (allL_c (wkr (loose_lst fun _ => (loose_int _ _))) (allL_c wkI allL_n)))))) allL_n)
    refine nlA rfl ?_; (conv => whnf)
    refine blkK_of rfl ?_; (conv => whnf)
    refine getK_of rfl ?_; (conv => whnf)
    refine cond_lk h (fun _ h => ?_) (fun _ h => ?_) <;> (conv => whnf)
    · refine hK _ _ _ ?_; clear hK K
      refine Then_n ?_
      refine ⟨_, h, ?_⟩
      refine weak_k ?_; (conv => whnf)
      exact And.intro rfl (And.intro (allL_c (wkr (loose_bool _)) (allL_c wkI (allL_c wkI (allL_c (wkr (loose_lst fun _ => (loose_int _ _))) (allL_c (wkr (loose_lst fun _ => (loose_int _ _))) (allL_c wkI allL_n)))))) allL_n)
    refine cond_lk h (fun _ h => ?_) (fun _ h => ?_) <;> (conv => whnf)
    · refine hK _ _ _ ?_; clear hK K
      refine Then_n ?_
      refine ⟨_, h, ?_⟩
      refine weak_k ?_; (conv => whnf)
      exact And.intro rfl (And.intro (allL_c (wkr (loose_bool _)) (allL_c wkI (allL_c wkI (allL_c (wkr (loose_lst fun _ => (loose_int _ _))) (allL_c (wkr (loose_lst fun _ => (loose_int _ _))) (allL_c wkI allL_n)))))) allL_n)
    refine nlA rfl ?_; (conv => whnf)
    refine blkK_of rfl ?_; (conv => whnf)
    refine nlA rfl ?_; (conv => whnf)
    replace h := W_bd h
    refine order_Before_call h27 h (WkL.refl _) (fun _ h => ?_); (conv => whnf)
    refine hK _ _ _ ?_; clear hK K
    refine Then_n ?_
    refine ⟨_, h, ?_⟩
    refine weak_k ?_; (conv => whnf)
    exact And.intro rfl (And.intro (allL_c (wkr (loose_bool _)) (allL_c wkI (allL_c wkI (allL_c (wkr (loose_lst fun _ => (loose_int _ _))) (allL_c (wkr (loose_lst fun _ => (loose_int _ _))) (allL_c wkI allL_n)))))) allL_n)
  refine And.intro ?_ ?_ <;> (conv => whnf)
  · refine nlA rfl ?_; (conv => whnf)
    refine blkK_of rfl ?_; (conv => whnf)
    refine getK_of rfl ?_; (conv => whnf)
    refine ap_lk (enc := eA46) (d := default) DC_ok h (.inl rfl) rfl rfl rfl ⟨rfl, nle rfl, nle rfl, nle rfl, rfl⟩ (fun _ => rfl) (.inr (.inr ⟨_, _, rfl, rfl, rfl⟩)) (fun h => ?_); (conv => whnf)
    refine blkK_of rfl ?_; (conv => whnf)
    refine And.intro rfl (And.intro (nle rfl) (And.intro rfl ?_)); (conv => whnf)
    refine hK _ _ _ ?_; clear hK K
    refine HT_fr DC_ok rfl fun K hK => ?_; (conv => whnf)
    refine nlA rfl ?_; (conv => whnf)
    refine blkK_of rfl ?_; (conv => whnf)
    refine nlA rfl ?_; (conv => whnf)
    replace h := W_bd h
    refine order_Prefixes_call h18 h (WkL_cons (Wk_agg (WkL_cons (Wk.refl _) (WkL_cons Wk_free WkL_nil))) WkL_nil) (fun _ h => ?_); (conv => whnf)
    refine hK _ _ _ ?_; clear hK K
    refine HT_seq ?_
    refine HT_jnK rfl h [5, 6, 17, 22, 23] [] [] (fun kl kh ids b s => ⟨ofL ([(123, eB s)] ++ kl), ofH ([] ++ kh), b + 64⟩) ?_; (conv => whnf); refine And.intro (fun s h => HT_st ?_) (fun k h => ?_)
    · refine HT_if fun K1 K2 hK1 hK2 => ?_; (conv => whnf)
      refine cond_lk h (fun _ h => ?_) (fun _ h => ?_)
      · refine hK1 ?_; clear hK1 hK2 K1 K2
        refine HT_fr DC_ok rfl fun K hK => ?_; (conv => whnf)
        replace h := W_jn h
        refine cond_lk h (fun _ h => ?_) (fun _ h => ?_) <;> (conv => whnf)
        · refine hK _ _ _ ?_; clear hK K
          refine HT_ret ?_
          refine Then_r ?_
          replace h := W_some h
          refine PostP_r DC_ok fun K hK => ?_; (conv => whnf)
          refine hK _ ?_; clear hK K
          cases h
          exact Wk.refl _
        refine hK _ _ _ ?_; clear hK K
        refine HT_ret ?_
        refine Then_r ?_
        replace h := W_some h
        refine PostP_r DC_ok fun K hK => ?_; (conv => whnf)
        refine hK _ ?_; clear hK K
        cases h
        exact Wk.refl _
      refine hK2 ?_; clear hK1 hK2 K1 K2
      refine HT_skip ?_
      refine Then_n ?_
      refine HT_fr DC_ok rfl fun K hK => ?_; (conv => whnf)
      refine hK _ _ _ ?_; clear hK K
      refine HT_seq ?_
      refine HT_fr DC_ok rfl fun K hK => ?_; (conv => whnf)
      refine hK _ _ _ ?_; clear hK K
      refine HT_block ?_
      replace h := W_bd h
      refine HT_lpK (body := law07_OrderLattice_b1 _ _ _) rfl h [5, 6, 17, 22, 23] [] [] (fun kl kh ids b s => ⟨ofL ([(24, .lst (.tok (b + 0)) 1 s.1.length (fun j => eI (s.1.getD j default))), (25, eI s.2)] ++ kl), ofH ([(b + 0, .cells [])] ++ kh), b + 128⟩) ?_; (conv => whnf); refine And.intro ?_ (fun s m h => HT_st ?_)
      · refine weak_k ?_; (conv => whnf)
        exact And.intro rfl (And.intro (allL_c (WkR.nil (fun _ => rfl)) (allL_c wkI (allL_c wkI (allL_c wkI (allL_c (wkr (loose_lst fun _ => (loose_int _ _))) (allL_c (wkr (loose_lst fun _ => (loose_int _ _))) (allL_c wkI allL_n))))))) (allL_c ⟨none, rfl, BkR_n⟩ allL_n))
      replace h := W_blaw07_OrderLattice_b1 (W_bd h)
      refine HT_seq ?_
      refine HT_fr DC_ok rfl fun K hK => ?_; (conv => whnf)
      refine hK _ _ _ ?_; clear hK K
      refine HT_if fun K1 K2 hK1 hK2 => ?_; (conv => whnf)
      refine cond_lk h (fun _ h => ?_) (fun _ h => ?_)
      · refine hK1 ?_; clear hK1 hK2 K1 K2
        refine HT_skip ?_
        refine Then_n ?_
        refine HT_seq ?_
        refine HT_block ?_
        refine HT_fr DC_ok rfl fun K hK => ?_; (conv => whnf)
        replace h := W_jn h
        refine ix_lk h fun _ h => ?_; (conv => whnf)
        refine getK_of rfl ?_; (conv => whnf)
        refine gd_lk h fun _ h => ?_; (conv => whnf)
        refine And.intro (by decide) ?_; (conv => whnf)
        refine cond_lk h (fun _ h => ?_) (fun _ h => ?_) <;> (conv => whnf)
        · refine hK _ _ _ ?_; clear hK K
          replace h := W_jn h
          refine HT_if fun K1 K2 hK1 hK2 => ?_; (conv => whnf)
          refine hK1 ?_; clear hK1 hK2 K1 K2
          replace h := W_cnT h
          refine HT_f DC_ok rfl fun K hK => ?_; (conv => whnf)
          refine ix_lk h fun _ h => ?_; (conv => whnf)
          refine getK_of rfl ?_; (conv => whnf)
          refine lt_lk (enc := eI) (d := default) DC_ok h rfl rfl rfl ⟨nle rfl, nle rfl, rfl⟩ rfl ⟨⟨rfl, rfl, rfl⟩, trivial⟩ (fun h => ?_); (conv => whnf)
          refine ap_lk (enc := eI) (d := default) DC_ok h (.inl rfl) rfl rfl rfl ⟨rfl, nle rfl, nle rfl, nle rfl, rfl⟩ (fun _ => rfl) (.inr (.inr ⟨_, _, rfl, rfl, rfl⟩)) (fun h => ?_); (conv => whnf)
          refine hK _ _ _ ?_; clear hK K
          refine InBlock_n ?_
          refine Then_n ?_
          refine HT_f DC_ok rfl fun K hK => ?_; (conv => whnf)
          refine hK _ _ _ ?_; clear hK K
          refine Then_n ?_
          replace h := W_xnx h
          refine ⟨_, h, ?_⟩
          refine weak_k ?_; (conv => whnf)
          exact And.intro rfl (And.intro (allL_c (WkR.tok (fun _ => rfl) rfl (fun _ _ => Wk.refl _) (fun _ => (loose_int _ _))) (allL_c wkI (allL_c wkI (allL_c wkI (allL_c (wkr (loose_lst fun _ => (loose_int _ _))) (allL_c (wkr (loose_lst fun _ => (loose_int _ _))) (allL_c wkI allL_n))))))) (allL_c ⟨some _, rfl, BkR_c rfl CkR_nil⟩ allL_n))
        refine ix_lk h fun _ h => ?_; (conv => whnf)
        refine getK_of rfl ?_; (conv => whnf)
        refine gd_lk h fun _ h => ?_; (conv => whnf)
        refine And.intro (by decide) ?_; (conv => whnf)
        refine hK _ _ _ ?_; clear hK K
        replace h := W_jn h
        refine HT_if fun K1 K2 hK1 hK2 => ?_; (conv => whnf)
        refine cond_lk h (fun _ h => ?_) (fun _ h => ?_)
        · refine hK1 ?_; clear hK1 hK2 K1 K2
          refine HT_f DC_ok rfl fun K hK => ?_; (conv => whnf)
          refine ix_lk h fun _ h => ?_; (conv => whnf)
          refine getK_of rfl ?_; (conv => whnf)
          refine lt_lk (enc := eI) (d := default) DC_ok h rfl rfl rfl ⟨nle rfl, nle rfl, rfl⟩ rfl ⟨⟨rfl, rfl, rfl⟩, trivial⟩ (fun h => ?_); (conv => whnf)
          refine ap_lk (enc := eI) (d := default) DC_ok h (.inl rfl) rfl rfl rfl ⟨rfl, nle rfl, nle rfl, nle rfl, rfl⟩ (fun _ => rfl) (.inr (.inr ⟨_, _, rfl, rfl, rfl⟩)) (fun h => ?_); (conv => whnf)
          refine hK _ _ _ ?_; clear hK K
          refine InBlock_n ?_
          refine Then_n ?_
          refine HT_f DC_ok rfl fun K hK => ?_; (conv => whnf)
          refine hK _ _ _ ?_; clear hK K
          refine Then_n ?_
          replace h := W_xnx h
          refine ⟨_, h, ?_⟩
          refine weak_k ?_; (conv => whnf)
          exact And.intro rfl (And.intro (allL_c (WkR.tok (fun _ => rfl) rfl (fun _ _ => Wk.refl _) (fun _ => (loose_int _ _))) (allL_c wkI (allL_c wkI (allL_c wkI (allL_c (wkr (loose_lst fun _ => (loose_int _ _))) (allL_c (wkr (loose_lst fun _ => (loose_int _ _))) (allL_c wkI allL_n))))))) (allL_c ⟨some _, rfl, BkR_c rfl CkR_nil⟩ allL_n))
        refine hK2 ?_; clear hK1 hK2 K1 K2
        refine HT_skip ?_
        refine InBlock_n ?_
        refine Then_n ?_
        refine HT_f DC_ok rfl fun K hK => ?_; (conv => whnf)
        refine hK _ _ _ ?_; clear hK K
        refine Then_n ?_
        replace h := W_xnx h
        refine ⟨_, h, ?_⟩
        refine weak_k ?_; (conv => whnf)
        exact And.intro rfl (And.intro (allL_c (WkR.tok (fun _ => rfl) rfl (fun _ _ => Wk.refl _) (fun _ => (loose_int _ _))) (allL_c wkI (allL_c wkI (allL_c wkI (allL_c (wkr (loose_lst fun _ => (loose_int _ _))) (allL_c (wkr (loose_lst fun _ => (loose_int _ _))) (allL_c wkI allL_n))))))) (allL_c ⟨some _, rfl, BkR_c rfl CkR_nil⟩ allL_n))
      refine hK2 ?_; clear hK1 hK2 K1 K2
      refine HT_exit ?_
      refine Then_e ?_
      refine Then_e ?_
      refine InBlock_e ?_
      replace h := W_xbk h
      replace h := W_inl h
      refine Then_n ?_
      refine HT_fr DC_ok rfl fun K hK => ?_; (conv => whnf)
      replace h := W_jn h
      refine cond_lk h (fun _ h => ?_) (fun _ h => ?_) <;> (conv => whnf)
      · replace h := W_bd h
        refine ref07_Ints_call h36 h (WkL_cons (Wk.refl _) (WkL_cons Wk_free WkL_nil)) (fun _ h => ?_); (conv => whnf)
        refine hK _ _ _ ?_; clear hK K
        refine HT_ret ?_
        replace h := W_some h
        refine PostP_r DC_ok fun K hK => ?_; (conv => whnf)
        refine hK _ ?_; clear hK K
        cases h
        exact Wk.refl _
      refine hK _ _ _ ?_; clear hK K
      refine HT_ret ?_
      replace h := W_some h
      refine PostP_r DC_ok fun K hK => ?_; (conv => whnf)
      refine hK _ ?_; clear hK K
      cases h
      exact Wk.refl _
    refine HT_f DC_ok rfl fun K hK => ?_; (conv => whnf)
    refine nlA rfl ?_; (conv => whnf)
    refine blkK_of rfl ?_; (conv => whnf)
    refine getK_of rfl ?_; (conv => whnf)
    refine cond_lk h (fun _ h => ?_) (fun _ h => ?_) <;> (conv => whnf)
    · refine hK _ _ _ ?_; clear hK K
      refine Then_n ?_
      refine ⟨_, h, ?_⟩
      refine weak_k ?_; (conv => whnf)
      exact And.intro rfl (And.intro (allL_c (wkr (loose_bool _)) (allL_c wkI (allL_c wkI (allL_c (wkr (loose_lst fun _ => (loose_int _ _))) (allL_c (wkr (loose_lst fun _ => (loose_int _ _))) (allL_c wkI allL_n)))))) allL_n)
    refine nlA rfl ?_; (conv => whnf)
    refine blkK_of rfl ?_; (conv => whnf)
    refine getK_of rfl ?_; (conv => whnf)
    refine cond_lk h (fun _ h => ?_) (fun _ h => ?_) <;> (conv => whnf)
    · refine hK _ _ _ ?_; clear hK K
      refine Then_n ?_
      refine ⟨_, h, ?_⟩
      refine weak_k ?_; (conv => whnf)
      exact And.intro rfl (And.intro (allL_c (wkr (loose_bool _)) (allL_c wkI (allL_c wkI (allL_c (wkr (loose_lst fun _ => (loose_int _ _))) (allL_c (wkr (loose_lst fun _ => (loose_int _ _))) (allL_c wkI allL_n)))))) allL_n)
    refine cond_lk h (fun _ h => ?_) (fun _ h => ?_) <;> (conv => whnf)
    · refine hK _ _ _ ?_; clear hK K
      refine Then_n ?_
      refine ⟨_, h, ?_⟩
      refine weak_k ?_; (conv => whnf)
      exact And.intro rfl (And.intro (allL_c (wkr (loose_bool _)) (allL_c wkI (allL_c wkI (allL_c (wkr (loose_lst fun _ => (loose_int _ _))) (allL_c (wkr (loose_lst fun _ => (loose_int _ _))) (allL_c wkI allL_n)))))) allL_n)
    refine nlA rfl ?_; (conv => whnf)
    refine blkK_of rfl ?_; (conv => whnf)
    refine nlA rfl ?_; (conv => whnf)
    replace h := W_bd h
    refine order_Before_call h27 h (WkL.refl _) (fun _ h => ?_); (conv => whnf)
    refine hK _ _ _ ?_; clear hK K
    refine Then_n ?_
    refine ⟨_, h, ?_⟩
    refine weak_k ?_; (conv => whnf)
    exact And.intro rfl (And.intro (allL_c (wkr (loose_bool _)) (allL_c wkI (allL_c wkI (allL_c (wkr (loose_lst fun _ => (loose_int _ _))) (allL_c (wkr (loose_lst fun _ => (loose_int _ _))) (allL_c wkI allL_n)))))) allL_n)
  refine ap_lk (enc := eA46) (d := default) DC_ok h (.inl rfl) rfl rfl rfl ⟨rfl, nle rfl, nle rfl, nle rfl, rfl⟩ (fun _ => rfl) (.inr (.inr ⟨_, _, rfl, rfl, rfl⟩)) (fun h => ?_); (conv => whnf)
  refine nlA rfl ?_; (conv => whnf)
  refine blkK_of rfl ?_; (conv => whnf)
  refine getK_of rfl ?_; (conv => whnf)
  refine blkK_of rfl ?_; (conv => whnf)
  refine And.intro rfl (And.intro (nle rfl) (And.intro rfl ?_)); (conv => whnf)
  refine hK _ _ _ ?_; clear hK K
  refine HT_fr DC_ok rfl fun K hK => ?_; (conv => whnf)
  refine nlA rfl ?_; (conv => whnf)
  refine blkK_of rfl ?_; (conv => whnf)
  refine nlA rfl ?_; (conv => whnf)
  replace h := W_bd h
  refine order_Prefixes_call h18 h (WkL_cons (Wk_agg (WkL_cons (Wk.refl _) (WkL_cons Wk_free WkL_nil))) WkL_nil) (fun _ h => ?_); (conv => whnf)
  refine hK _ _ _ ?_; clear hK K
  refine HT_seq ?_
  refine HT_jnK rfl h [5, 6, 17, 22, 23] [] [] (fun kl kh ids b s => ⟨ofL ([(123, eB s)] ++ kl), ofH ([] ++ kh), b + 64⟩) ?_; (conv => whnf); refine And.intro (fun s h => HT_st ?_) (fun k h => ?_)
  · refine HT_if fun K1 K2 hK1 hK2 => ?_; (conv => whnf)
    refine cond_lk h (fun _ h => ?_) (fun _ h => ?_)
    · refine hK1 ?_; clear hK1 hK2 K1 K2
      refine HT_fr DC_ok rfl fun K hK => ?_; (conv => whnf)
      replace h := W_jn h
      refine cond_lk h (fun _ h => ?_) (fun _ h => ?_) <;> (conv => whnf)
      · refine hK _ _ _ ?_; clear hK K
        refine HT_ret ?_
        refine Then_r ?_
        replace h := W_some h
        refine PostP_r DC_ok fun K hK => ?_; (conv => whnf)
        refine hK _ ?_; clear hK K
        cases h
        exact Wk.refl _
      refine hK _ _ _ ?_; clear hK K
      refine HT_ret ?_
      refine Then_r ?_
      replace h := W_some h
      refine PostP_r DC_ok fun K hK => ?_; (conv => whnf)
      refine hK _ ?_; clear hK K
      cases h
      exact Wk.refl _
    refine hK2 ?_; clear hK1 hK2 K1 K2
    refine HT_skip ?_
    refine Then_n ?_
    refine HT_fr DC_ok rfl fun K hK => ?_; (conv => whnf)
    refine hK _ _ _ ?_; clear hK K
    refine HT_seq ?_
    refine HT_fr DC_ok rfl fun K hK => ?_; (conv => whnf)
    refine hK _ _ _ ?_; clear hK K
    refine HT_block ?_
    replace h := W_bd h
    refine HT_lpK (body := law07_OrderLattice_b1 _ _ _) rfl h [5, 6, 17, 22, 23] [] [] (fun kl kh ids b s => ⟨ofL ([(24, .lst (.tok (b + 0)) 1 s.1.length (fun j => eI (s.1.getD j default))), (25, eI s.2)] ++ kl), ofH ([(b + 0, .cells [])] ++ kh), b + 128⟩) ?_; (conv => whnf); refine And.intro ?_ (fun s m h => HT_st ?_)
    · refine weak_k ?_; (conv => whnf)
      exact And.intro rfl (And.intro (allL_c (WkR.nil (fun _ => rfl)) (allL_c wkI (allL_c wkI (allL_c wkI (allL_c (wkr (loose_lst fun _ => (loose_int _ _))) (allL_c (wkr (loose_lst fun _ => (loose_int _ _))) (allL_c wkI allL_n))))))) (allL_c ⟨none, rfl, BkR_n⟩ allL_n))
    replace h := W_blaw07_OrderLattice_b1 (W_bd h)
    refine HT_seq ?_
    refine HT_fr DC_ok rfl fun K hK => ?_; (conv => whnf)
    refine hK _ _ _ ?_; clear hK K
    refine HT_if fun K1 K2 hK1 hK2 => ?_; (conv => whnf)
    refine cond_lk h (fun _ h => ?_) (fun _ h => ?_)
    · refine hK1 ?_; clear hK1 hK2 K1 K2
      refine HT_skip ?_
      refine Then_n ?_
      refine HT_seq ?_
      refine HT_block ?_
      refine HT_fr DC_ok rfl fun K hK => ?_; (conv => whnf)
      replace h := W_jn h
      refine ix_lk h fun _ h => ?_; (conv => whnf)
      refine getK_of rfl ?_; (conv => whnf)
      refine gd_lk h fun _ h => ?_; (conv => whnf)
      refine And.intro (by decide) ?_; (conv => whnf)
      refine cond_lk h (fun _ h => ?_) (fun _ h => ?_) <;> (conv => whnf)
      · refine hK _ _ _ ?_; clear hK K
        replace h := W_jn h
        refine HT_if fun K1 K2 hK1 hK2 => ?_; (conv => whnf)
        refine hK1 ?_; clear hK1 hK2 K1 K2
        replace h := W_cnT h
        refine HT_f DC_ok rfl fun K hK => ?_; (conv => whnf)
        refine ix_lk h fun _ h => ?_; (conv => whnf)
        refine getK_of rfl ?_; (conv => whnf)
        refine lt_lk (enc := eI) (d := default) DC_ok h rfl rfl rfl ⟨nle rfl, nle rfl, rfl⟩ rfl ⟨⟨rfl, rfl, rfl⟩, trivial⟩ (fun h => ?_); (conv => whnf)
        refine ap_lk (enc := eI) (d := default) DC_ok h (.inl rfl) rfl rfl rfl ⟨rfl, nle rfl, nle rfl, nle rfl, rfl⟩ (fun _ => rfl) (.inr (.inr ⟨_, _, rfl, rfl, rfl⟩)) (fun h => ?_); (conv => whnf)
        refine hK _ _ _ ?_; clear hK K
        refine InBlock_n ?_
        refine Then_n ?_
        refine HT_f DC_ok rfl fun K hK => ?_; (conv => whnf)
        refine hK _ _ _ ?_; clear hK K
        refine Then_n ?_
        replace h := W_xnx h
        refine ⟨_, h, ?_⟩
        refine weak_k ?_; (conv => whnf)
        exact And.intro rfl (And.intro (allL_c (WkR.tok (fun _ => rfl) rfl (fun _ _ => Wk.refl _) (fun _ => (loose_int _ _))) (allL_c wkI (allL_c wkI (allL_c wkI (allL_c (wkr (loose_lst fun _ => (loose_int _ _))) (allL_c (wkr (loose_lst fun _ => (loose_int _ _))) (allL_c wkI allL_n))))))) (allL_c ⟨some _, rfl, BkR_c rfl CkR_nil⟩ allL_n))
      refine ix_lk h fun _ h => ?_; (conv => whnf)
      refine getK_of rfl ?_; (conv => whnf)
      refine gd_lk h fun _ h => ?_; (conv => whnf)
      refine And.intro (by decide) ?_; (conv => whnf)
      refine hK _ _ _ ?_; clear hK K
      replace h := W_jn h
      refine HT_if fun K1 K2 hK1 hK2 => ?_; (conv => whnf)
      refine cond_lk h (fun _ h => ?_) (fun _ h => ?_)
      · refine hK1 ?_; clear hK1 hK2 K1 K2
        refine HT_f DC_ok rfl fun K hK => ?_; (conv => whnf)
        refine ix_lk h fun _ h => ?_; (conv => whnf)
        refine getK_of rfl ?_; (conv => whnf)
        refine lt_lk (enc := eI) (d := default) DC_ok h rfl rfl rfl ⟨nle rfl, nle rfl, rfl⟩ rfl ⟨⟨rfl, rfl, rfl⟩, trivial⟩ (fun h => ?_); (conv => whnf)
        refine ap_lk (enc := eI) (d := default) DC_ok h (.inl rfl) rfl rfl rfl ⟨rfl, nle rfl, nle rfl, nle rfl, rfl⟩ (fun _ => rfl) (.inr (.inr ⟨_, _, rfl, rfl, rfl⟩)) (fun h => ?_); (conv => whnf)
        refine hK _ _ _ ?_; clear hK K
        refine InBlock_n ?_
        refine Then_n ?_
        refine HT_f DC_ok rfl fun K hK => ?_; (conv => whnf)
        refine hK _ _ _ ?_; clear hK K
        refine Then_n ?_
        replace h := W_xnx h
        refine ⟨_, h, ?_⟩
        refine weak_k ?_; (conv => whnf)
        exact And.intro rfl (And.intro (allL_c (WkR.tok (fun _ => rfl) rfl (fun _ _ => Wk.refl _) (fun _ => (loose_int _ _))) (allL_c wkI (allL_c wkI (allL_c wkI (allL_c (wkr (loose_lst fun _ => (loose_int _ _))) (allL_c (wkr (loose_lst fun _ => (loose_int _ _))) (allL_c wkI allL_n))))))) (allL_c ⟨some _, rfl, BkR_c rfl CkR_nil⟩ allL_n))
      refine hK2 ?_; clear hK1 hK2 K1 K2
      refine HT_skip ?_
      refine InBlock_n ?_
      refine Then_n ?_
      refine HT_f DC_ok rfl fun K hK => ?_; (conv => whnf)
      refine hK _ _ _ ?_; clear hK K
      refine Then_n ?_
      replace h := W_xnx h
      refine ⟨_, h, ?_⟩
      refine weak_k ?_; (conv => whnf)
      exact And.intro rfl (And.intro (allL_c (WkR.tok (fun _ => rfl) rfl (fun _ _ => Wk.refl _) (fun _ => (loose_int _ _))) (allL_c wkI (allL_c wkI (allL_c wkI (allL_c (wkr (loose_lst fun _ => (loose_int _ _))) (allL_c (wkr (loose_lst fun _ => (loose_int _ _))) (allL_c wkI allL_n))))))) (allL_c ⟨some _, rfl, BkR_c rfl CkR_nil⟩ allL_n))
    refine hK2 ?_; clear hK1 hK2 K1 K2
    refine HT_exit ?_
    refine Then_e ?_
    refine Then_e ?_
    refine InBlock_e ?_
    replace h := W_xbk h
    replace h := W_inl h
    refine Then_n ?_
    refine HT_fr DC_ok rfl fun K hK => ?_; (conv => whnf)
    replace h := W_jn h
    refine cond_lk h (fun _ h => ?_) (fun _ h => ?_) <;> (conv => whnf)
    · replace h := W_bd h
      refine ref07_Ints_call h36 h (WkL_cons (Wk.refl _) (WkL_cons Wk_free WkL_nil)) (fun _ h => ?_); (conv => whnf)
      refine hK _ _ _ ?_; clear hK K
      refine HT_ret ?_
      replace h := W_some h
      refine PostP_r DC_ok fun K hK => ?_; (conv => whnf)
      refine hK _ ?_; clear hK K
      cases h
      exact Wk.refl _
    refine hK _ _ _ ?_; clear hK K
    refine HT_ret ?_
    replace h := W_some h
    refine PostP_r DC_ok fun K hK => ?_; (conv => whnf)
    refine hK _ ?_; clear hK K
    cases h
    exact Wk.refl _
  refine HT_f DC_ok rfl fun K hK => ?_; (conv => whnf)
  refine nlA rfl ?_; (conv => whnf)
  refine blkK_of rfl ?_; (conv => whnf)
  refine getK_of rfl ?_; (conv => whnf)
  refine cond_lk h (fun _ h => ?_) (fun _ h => ?_) <;> (conv => whnf)
  · refine hK _ _ _ ?_; clear hK K
    refine Then_n ?_
    refine ⟨_, h, ?_⟩
    refine weak_k ?_; (conv => whnf)
    exact And.intro rfl (And.intro (allL_c (wkr (loose_bool _)) (allL_c wkI (allL_c wkI (allL_c (wkr (loose_lst fun _ => (loose_int _ _))) (allL_c (wkr (loose_lst fun _ => (loose_int _ _))) (allL_c wkI allL_n)))))) allL_n)
  refine nlA rfl ?_; (conv => whnf)
  refine blkK_of rfl ?_; (conv => whnf)
  refine getK_of rfl ?_; (conv => whnf)
  refine cond_lk h (fun _ h => ?_) (fun _ h => ?_) <;> (conv => whnf)
  · refine hK _ _ _ ?_; clear hK K
    refine Then_n ?_
    refine ⟨_, h, ?_⟩
    refine weak_k ?_; (conv => whnf)
    exact And.intro rfl (And.intro (allL_c (wkr (loose_bool _)) (allL_c wkI (allL_c wkI (allL_c (wkr (loose_lst fun _ => (loose_int _ _))) (allL_c (wkr (loose_lst fun _ => (loose_int _ _))) (allL_c wkI allL_n)))))) allL_n)
  refine cond_lk h (fun _ h => ?_) (fun _ h => ?_) <;> (conv => whnf)
  · refine hK _ _ _ ?_; clear hK K
    refine Then_n ?_
    refine ⟨_, h, ?_⟩
    refine weak_k ?_; (conv => whnf)
    exact And.intro rfl (And.intro (allL_c (wkr (loose_bool _)) (allL_c wkI (allL_c wkI (allL_c (wkr (loose_lst fun _ => (loose_int _ _))) (allL_c (wkr (loose_lst fun _ => (loose_int _ _))) (allL_c wkI allL_n)))))) allL_n)
  refine nlA rfl ?_; (conv => whnf)
  refine blkK_of rfl ?_; (conv => whnf)
  refine nlA rfl ?_; (conv => whnf)
  replace h := W_bd h
  refine order_Before_call h27 h (WkL.refl _) (fun _ h => ?_); (conv => whnf)
  refine hK _ _ _ ?_; clear hK K
  refine Then_n ?_
  refine ⟨_, h, ?_⟩
  refine weak_k ?_; (conv => whnf)
  exact And.intro rfl (And.intro (allL_c (wkr (loose_bool _)) (allL_c wkI (allL_c wkI (allL_c (wkr (loose_lst fun _ => (loose_int _ _))) (allL_c (wkr (loose_lst fun _ => (loose_int _ _))) (allL_c wkI allL_n)))))) allL_n)
end Go.Proofs.YtlmboonbfhkfnaaDoor
namespace Go.Proofs.YtlmboonbfhkfnaaDoor
open Go Go.Eng
set_option maxRecDepth 100000
theorem pfx_zero {n : Nat} {r : Nat → Nat → Bool} (lt : ∀ a b, r a b = true → a < n ∧ b < n) : 0 ∈ pfx n r := (mem_pfx lt).2 ⟨Nat.two_pow_pos n, fun a b _ h => by rw [Nat.zero_testBit] at h; cases h⟩
theorem bne_self0 : ((0 : Int) != 0) = false := rfl
theorem plain10 (a0 : Int) (a1 : List (Int × Int)) (a2 a3 a4 a5 a6 : Int) (o0 : okI a0) (o1 : okL okA46 a1) (o2 : okI a2) (o3 : okI a3) (o4 : okI a4) (o5 : okI a5) (o6 : okI a6) : law07_OrderLattice_F a0 a1 a2 a3 a4 a5 a6 = some true := by
  obtain ⟨o, n, t, r, e0, h, _⟩ := made_ok a0 a1 a2 o0 o1 o2
  have n8 := h.n8
  have p8 := small_pow n8
  have hN := h.N
  have z0 := pfx_zero h.lt
  have zl := List.length_pos_of_mem z0
  have pl := pfx_len n r
  obtain ⟨k3, k3l, e3⟩ := pick_n a3 (n := (pfx n r).length) o3 zl
  obtain ⟨k4, k4l, e4⟩ := pick_n a4 (n := (pfx n r).length) o4 zl
  obtain ⟨a, al, e5⟩ := pick_n a5 (n := 8) o5 (by omega)
  obtain ⟨b, bl, e6⟩ := pick_n a6 (n := 8) o6 (by omega)
  obtain ⟨p1, p2⟩ := (mem_pfx h.lt).1 (getD_memD k3l)
  obtain ⟨q1, q2⟩ := (mem_pfx h.lt).1 (getD_memD k4l)
  generalize hp : (pfx n r).getD k3 default = p at p1 p2
  generalize hq : (pfx n r).getD k4 default = q at q1 q2
  have hor : p ||| q ∈ pfx n r := (mem_pfx h.lt).2 ⟨Nat.or_lt_two_pow p1 q1, fun x y hr hy => by
    rw [Nat.testBit_or, Bool.or_eq_true] at hy ⊢
    exact hy.imp (p2 x y hr) (q2 x y hr)⟩
  have hand : p &&& q ∈ pfx n r := (mem_pfx h.lt).2 ⟨Nat.lt_of_le_of_lt Nat.and_le_left p1, fun x y hr hy => by
    rw [Nat.testBit_and, Bool.and_eq_true] at hy ⊢
    exact ⟨p2 x y hr hy.1, q2 x y hr hy.2⟩⟩
  have cl := h.cv_27
  unfold law07_OrderLattice_F
  rw [sane_ok, bd_s, cn_not, cn_t, e0, bd_s, Prefixes_ok h, bd_s, Reduce_ok h, bd_s]
  simp only [jn_d, bne_self0, cn_f, ints_len]
  rw [show (((pfx n r).length : Int) == 0) = false from beq_false_of_ne (by omega), cn_f, e3, bd_s, ix_n (by rw [ints_len]; exact k3l), ints_getD k3l, hp, e4, bd_s, ix_n (by rw [ints_len]; exact k4l), ints_getD k4l, hq,
    nbor (by omega) (by omega), nband (by omega) (by omega), in_ok _ _ (by rw [ints_len]; omega), bd_s, in_ok _ _ (by rw [ints_len]; omega), bd_s, decide_eq_true (mem_ints.2 hor), decide_eq_true (mem_ints.2 hand)]
  simp only [Bool.not_true, cn_f]
  rw [show (8 : Int) = ((8 : Nat) : Int) from rfl, e5, bd_s, e6, bd_s, lt_d, ap_p (by simp only [List.length_nil]; omega), lt_d, ap_p (by simp only [List.length_append, List.length_cons, List.length_nil]; omega), List.nil_append, hN]
  by_cases c1 : n ≤ a
  · obtain ⟨t', e⟩ := h.more_no (.inl c1)
    rw [Prefixes_no e, bd_s]
    simp only [cn_dec]
    rw [if_pos (by omega), cn_t, show ((70 : Int) == 70) = true from rfl, cn_t]; rfl
  by_cases c2 : n ≤ b
  · obtain ⟨t', e⟩ := h.more_no (.inr (.inl c2))
    rw [Prefixes_no e, bd_s]
    simp only [cn_dec]
    rw [if_neg (by omega), if_pos (by omega), cn_t, show ((70 : Int) == 70) = true from rfl, cn_t]; rfl
  by_cases c3 : a = b
  · obtain ⟨t', e⟩ := h.more_no (.inr (.inr (.inl c3)))
    rw [Prefixes_no e, bd_s]
    simp only [cn_dec, cn_beq]
    rw [if_neg (by omega), if_neg (by omega), if_pos (by omega), cn_t, if_pos trivial]; rfl
  by_cases c4 : r b a = true
  · obtain ⟨t', e⟩ := h.more_no (.inr (.inr (.inr c4)))
    rw [Prefixes_no e, bd_s]
    simp only [cn_dec, cn_beq]
    rw [if_neg (by omega), if_neg (by omega), if_neg (by omega), Before_n h, bd_s, c4, cn_t, if_pos trivial]; rfl
  obtain ⟨t', r', h', hd⟩ := h.more_ok (by omega) (by omega) c3 (Bool.eq_false_iff.2 c4)
  rw [Prefixes_ok h', bd_s]
  simp only [cn_dec, cn_beq]
  rw [if_neg (by omega), if_neg (by omega), if_neg (by omega), Before_n h, bd_s, Bool.eq_false_iff.2 c4, cn_f]
  obtain ⟨s, e, h1, h2⟩ := lp_fold (body := law07_OrderLattice_b1 (ints (pfx n r), 0) (a : Int) (b : Int)) (fun k s => s.2 = (k : Int) ∧ s.1 = ints (((pfx n r).take k).filter fun p => p.testBit a || !p.testBit b)) (pfx n r).length (by omega)
    (fun k s hk ⟨hs, hq⟩ => by
      obtain ⟨l, i⟩ := s
      simp only at hs hq
      subst hs hq
      have fl : (ints (((pfx n r).take k).filter fun p => p.testBit a || !p.testBit b)).length ≤ 256 := by
        rw [ints_len]
        have := List.length_filter_le (fun p : Nat => p.testBit a || !p.testBit b) ((pfx n r).take k)
        rw [List.length_take] at this
        omega
      unfold law07_OrderLattice_b1
      simp only [jn_d, cn_dec, ints_len]
      rw [if_pos (by omega), wr_id (by omega) (by omega)]
      simp only [ix_n (show k < (ints (pfx n r)).length by rw [ints_len]; exact hk), ints_getD hk]
      obtain ⟨m1, m2⟩ := (mem_pfx h.lt).1 (getD_memD hk)
      rw [gd_p _ (by omega), ntm1 (by omega), lt_d, ap_p (by simp only [List.length_cons, List.length_nil]; omega)]
      have fs : ((pfx n r).take (k + 1)).filter (fun p => p.testBit a || !p.testBit b) = ((pfx n r).take k).filter (fun p => p.testBit a || !p.testBit b) ++ if (((pfx n r).getD k default).testBit a || !((pfx n r).getD k default).testBit b) = true then [(pfx n r).getD k default] else [] := by
        rw [take_getD hk, List.filter_append]
        rw [filter_one]
      by_cases g : ((pfx n r).getD k default).testBit a = true
      · rw [g, cn_t, cn_t]
        exact ⟨_, rfl, by simp only; omega, by simp only; rw [fs, g, Bool.true_or, if_pos rfl, ints_app]; rfl⟩
      · rw [Bool.eq_false_iff.2 g, cn_f, gd_p _ (by omega), ntm0 (by omega)]
        by_cases g2 : ((pfx n r).getD k default).testBit b = true
        · rw [g2, cn_not, cn_t]
          exact ⟨_, rfl, by simp only; omega, by simp only; rw [fs, Bool.eq_false_iff.2 g, g2]; simp⟩
        · rw [Bool.eq_false_iff.2 g2, cn_not, cn_f]
          exact ⟨_, rfl, by simp only; omega, by simp only; rw [fs, Bool.eq_false_iff.2 g, Bool.eq_false_iff.2 g2, ints_app]; rfl⟩) (fun s ⟨hs, _⟩ => by
      unfold law07_OrderLattice_b1
      simp only [cn_dec, ints_len]
      rw [if_neg (by omega)]) ([], 0) ⟨rfl, rfl⟩
  rw [e, bd_s, smK_l, if_pos trivial, h2, Ints_ok _ _ (by rw [ints_len]; have := pfx_len n r'; omega), bd_s, decide_eq_true]
  congr 1
  rw [List.take_length]
  unfold pfx
  rw [List.filter_filter]
  refine List.filter_congr fun x _ => ?_
  rw [Bool.eq_iff_iff, dnB_iff h'.lt, hd, Bool.and_eq_true, dnB_iff h.lt, and_comm]
  refine and_congr_left fun _ => ?_
  cases x.testBit a <;> cases x.testBit b <;> simp
end Go.Proofs.YtlmboonbfhkfnaaDoor
