import Derived.Test.YtlmboonbfhkfnaaDoorM5
import Derived.Test.YtlmboonbfhkfnaaDoorM6
set_option linter.unusedVariables false
set_option linter.unusedSimpArgs false
set_option linter.unusedSectionVars false
namespace Go.Proofs.YtlmboonbfhkfnaaDoor
open Go Go.Eng
set_option maxHeartbeats 0
set_option maxRecDepth 100000

    def law07_OrderReduces_b3 (s22 : Int) (y2 : TOrder) (y4 : TOrder × Int) (s23 : Bool × Int) : Option (Ct (Bool × Int) Bool) := cn (decide (s23.2 < (y2.Pairs.length : Int))) (jn (fun p24 : Bool =>
    some (.nx (p24, (wr (s23.2 + 1))))) fun k25 => cn s23.1 (k25 true) (ix y2.Pairs default s23.2 fun e26 => ix y4.1.Pairs default s22 fun e27 => let v28 := ((e26.1 ==
    e27.1) && (e26.2 == e27.2)); k25 v28)) (some (.bk (s23.1, s23.2)))
theorem W_blaw07_OrderReduces_b3 {s22 : Int} {y2 : TOrder} {y4 : TOrder × Int} {s23 : Bool × Int} {Φ : Ct (Bool × Int) Bool → Prop} (h : W (law07_OrderReduces_b3 s22 y2 y4 s23) Φ) : W (cn (decide (s23.2 < (y2.Pairs.length : Int))) (jn (fun p24 : Bool => some (.nx (p24, (wr (s23.2 + 1))))) fun k25 => cn s23.1 (k25 true) (ix y2.Pairs default s23.2 fun e26 =>
    ix y4.1.Pairs default s22 fun e27 => let v28 := ((e26.1 == e27.1) && (e26.2 == e27.2)); k25 v28)) (some (.bk (s23.1, s23.2)))) Φ := h

    def law07_OrderReduces_b2 (y2 : TOrder) (y3 : TOrder × Int) (y4 : TOrder × Int) (s22 : Int) : Option (Ct Int Bool) := cn (decide (s22 < (y4.1.Pairs.length : Int))) (bd (lp (law07_OrderReduces_b3 s22 y2 y4) FU (false, 0)) fun c29 =>
    smK c29 (fun s30 => lt ([] : List (Int × Int)) fun l32 => slc y4.1.Pairs 0 s22 fun l33 => ap l32 l33 fun l34 =>
    slc y4.1.Pairs (wr (s22 + 1)) (y4.1.Pairs.length : Int) fun l35 => ap l34 l35 fun l36 => bd (order_Close_F (⟨y4.1.N, l36⟩ : TOrder)) fun y37 => jn (fun p38 : Bool =>
    cn p38 (some (.rt false)) (some (.nx (wr (s22 + 1))))) fun k39 => cn (!s30.1) (k39 true) (cn (y37.2 != 0) (k39 true) (bd (ref07_Same_F y37.1 y3.1) fun y40 =>
    k39 y40))) (fun r31 => some (.rt r31))) (some (.bk s22))
theorem W_blaw07_OrderReduces_b2 {y2 : TOrder} {y3 : TOrder × Int} {y4 : TOrder × Int} {s22 : Int} {Φ : Ct Int Bool → Prop} (h : W (law07_OrderReduces_b2 y2 y3 y4 s22) Φ) : W (cn (decide (s22 < (y4.1.Pairs.length : Int))) (bd (lp (law07_OrderReduces_b3 s22 y2 y4) FU (false, 0)) fun c29 => smK c29 (fun s30 => lt ([] : List (Int × Int)) fun l32 =>
    slc y4.1.Pairs 0 s22 fun l33 => ap l32 l33 fun l34 => slc y4.1.Pairs (wr (s22 + 1)) (y4.1.Pairs.length : Int) fun l35 => ap l34 l35 fun l36 =>
    bd (order_Close_F (⟨y4.1.N, l36⟩ : TOrder)) fun y37 => jn (fun p38 : Bool => cn p38 (some (.rt false)) (some (.nx (wr (s22 + 1))))) fun k39 =>
    cn (!s30.1) (k39 true) (cn (y37.2 != 0) (k39 true) (bd (ref07_Same_F y37.1 y3.1) fun y40 => k39 y40))) (fun r31 => some (.rt r31))) (some (.bk s22))) Φ := h

    def law07_OrderReduces_b1 (y3 : TOrder × Int) (y11 : Int) (y12 : Int) (s13 : Bool × Int) : Option (Ct (Bool × Int) Bool) := cn (decide (s13.2 < (y3.1.Pairs.length : Int))) (jn (fun p14 : Bool =>
    some (.nx (p14, (wr (s13.2 + 1))))) fun k15 => cn s13.1 (k15 true) (ix y3.1.Pairs default s13.2 fun e16 => let v17 := ((e16.1 == y11) && (e16.2 == y12));
    k15 v17)) (some (.bk (s13.1, s13.2)))
theorem W_blaw07_OrderReduces_b1 {y3 : TOrder × Int} {y11 : Int} {y12 : Int} {s13 : Bool × Int} {Φ : Ct (Bool × Int) Bool → Prop} (h : W (law07_OrderReduces_b1 y3 y11 y12 s13) Φ) : W (cn (decide (s13.2 < (y3.1.Pairs.length : Int))) (jn (fun p14 : Bool => some (.nx (p14, (wr (s13.2 + 1))))) fun k15 => cn s13.1 (k15 true) (ix y3.1.Pairs default s13.2 fun e16 =>
    let v17 := ((e16.1 == y11) && (e16.2 == y12)); k15 v17)) (some (.bk (s13.1, s13.2)))) Φ := h
def law07_OrderReduces_F (a0 : Int) (a1 : List (Int × Int)) (a2 : Int) (a3 : Int) (a4 : Int) : Option Bool := bd (law07_sane_F ) fun y1 =>
    cn (!y1) (some false) (bd (ref07_Made_F a0 a1 a2) fun y2 => bd (order_Close_F y2) fun y3 => bd (order_Reduce_F y2) fun y4 => bd (order_Close_F y4.1) fun y5 =>
    bd (order_Reduce_F y3.1) fun y6 => jn (fun p7 : Bool => cn p7 (some false) (bd (law07_pick_F a3 8) fun y11 => bd (law07_pick_F a4 8) fun y12 =>
    bd (lp (law07_OrderReduces_b1 y3 y11 y12) FU (false, 0)) fun c18 => smK c18 (fun s19 => bd (order_Before_F y2 y11 y12) fun y21 => cn (!(s19.1 ==
    y21)) (some false) (bd (lp (law07_OrderReduces_b2 y2 y3 y4) FU 0) fun c41 => smK c41 (fun s42 => some y1) (fun r43 => some r43))) (fun r20 => some r20))) fun k8 => cn (y3.2 !=
    0) (k8 true) (cn (y4.2 != 0) (k8 true) (cn (y5.2 != 0) (k8 true) (cn (y6.2 != 0) (k8 true) (bd (ref07_Same_F y3.1 y5.1) fun y9 =>
    cn (!y9) (k8 true) (bd (ref07_Same_F y4.1 y6.1) fun y10 => cn (!y10) (k8 true) (k8 (y3.1.N != y2.N))))))))
def law07_OrderReduces_S : List AV → AV → Prop := fun args r => ∃ a0 a1 a2 a3 a4, args = [eI a0, (eL 2 eA46 default) a1, eI a2, eI a3, eI a4] ∧ W (law07_OrderReduces_F a0 a1 a2 a3 a4) fun y => r = (eB y)
theorem law07_OrderReduces_ok {T : Tbl} (hT : TOk Tryd.prog T) (hpf : PfOk T PF) (h11 : T 11 = pureR law07_sane_S) (h12 : T 12 = pureR ref07_Made_S) (h13 : T 13 = pureR law07_pick_S) (h24 : T 24 = pureR order_Close_S) (h25 : T 25 = pureR order_Reduce_S) (h26 : T 26 = pureR ref07_Same_S) (h27 : T 27 = pureR order_Before_S) : FOk Tryd.prog 5 (pureR law07_OrderReduces_S) := by
  refine FOk_pure hT hpf Tryd.func5 rfl Tryd.ntmps5 Tryd.results5 (by decide) ?_
  rintro args r ⟨a0, a1, a2, a3, a4, rfl, h⟩
  refine ⟨nle rfl, ?_, ?_⟩
  · exact (loose_cons (loose_int _ _) (loose_cons (loose_lst fun _ => (lo_A46 _)) (loose_cons (loose_int _ _) (loose_cons (loose_int _ _) (loose_cons (loose_int _ _) loose_nil)))))
  rw [law07_OrderReduces_F.eq_1] at h
  refine HT_fr DC_ok rfl fun K hK => ?_; (conv => whnf)
  refine hK _ _ _ ?_; clear hK K
  refine HT_fr DC_ok rfl fun K hK => ?_; (conv => whnf)
  replace h := W_bd h
  refine law07_sane_call h11 h (WkL.refl _) (fun _ h => ?_); (conv => whnf)
  refine hK _ _ _ ?_; clear hK K
  refine HT_seq ?_
  refine HT_fr DC_ok rfl fun K hK => ?_; (conv => whnf)
  refine hK _ _ _ ?_; clear hK K
  refine HT_if fun K1 K2 hK1 hK2 => ?_; (conv => whnf)
  refine cond_lk h (fun _ h => ?_) (fun _ h => ?_)
  · refine hK1 ?_; clear hK1 hK2 K1 K2
    refine HT_fr DC_ok rfl fun K hK => ?_; (conv => whnf)
    refine hK _ _ _ ?_; clear hK K
    refine HT_ret ?_
    refine Then_r ?_
    replace h := W_some h
    refine PostP_r DC_ok fun K hK => ?_; (conv => whnf)
    refine hK _ ?_; clear hK K
    cases h
    exact Wk.refl _
  refine hK2 ?_; clear hK1 hK2 K1 K2
  refine HT_skip ?_
  refine Then_n ?_
  refine HT_fr DC_ok rfl fun K hK => ?_; (conv => whnf)
  replace h := W_bd h
  refine ref07_Made_call h12 h (WkL.refl _) (fun _ h => ?_); (conv => whnf)
  refine blkK_of rfl ?_; (conv => whnf)
  refine And.intro rfl (And.intro (nle rfl) (And.intro rfl ?_)); (conv => whnf)
  refine hK _ _ _ ?_; clear hK K
  refine HT_fr DC_ok rfl fun K hK => ?_; (conv => whnf)
  refine nlA rfl ?_; (conv => whnf)
  refine blkK_of rfl ?_; (conv => whnf)
  refine nlA rfl ?_; (conv => whnf)
  replace h := W_bd h
  refine order_Close_call h24 h (WkL.refl _) (fun _ h => ?_); (conv => whnf)
  refine blkK_of rfl ?_; (conv => whnf)
  refine And.intro rfl (And.intro (nle rfl) (And.intro rfl ?_)); (conv => whnf)
  refine hK _ _ _ ?_; clear hK K
  refine HT_fr DC_ok rfl fun K hK => ?_; (conv => whnf)
  refine nlA rfl ?_; (conv => whnf)
  refine blkK_of rfl ?_; (conv => whnf)
  refine nlA rfl ?_; (conv => whnf)
  replace h := W_bd h
  refine order_Reduce_call h25 h (WkL.refl _) (fun _ h => ?_); (conv => whnf)
  refine blkK_of rfl ?_; (conv => whnf)
  refine And.intro rfl (And.intro (nle rfl) (And.intro rfl ?_)); (conv => whnf)
  refine hK _ _ _ ?_; clear hK K
  refine HT_fr DC_ok rfl fun K hK => ?_; (conv => whnf)
  refine nlA rfl ?_; (conv => whnf)
  refine blkK_of rfl ?_; (conv => whnf)
  refine nlA rfl ?_; (conv => whnf)
  replace h := W_bd h
  refine order_Close_call h24 h (WkL.refl _) (fun _ h => ?_); (conv => whnf)
  refine blkK_of rfl ?_; (conv => whnf)
  refine And.intro rfl (And.intro (nle rfl) (And.intro rfl ?_)); (conv => whnf)
  refine hK _ _ _ ?_; clear hK K
  refine HT_fr DC_ok rfl fun K hK => ?_; (conv => whnf)
  refine nlA rfl ?_; (conv => whnf)
  refine blkK_of rfl ?_; (conv => whnf)
  refine nlA rfl ?_; (conv => whnf)
  replace h := W_bd h
  refine order_Reduce_call h25 h (WkL.refl _) (fun _ h => ?_); (conv => whnf)
  refine blkK_of rfl ?_; (conv => whnf)
  refine And.intro rfl (And.intro (nle rfl) (And.intro rfl ?_)); (conv => whnf)
  refine hK _ _ _ ?_; clear hK K
  refine HT_seq ?_
  refine HT_jnK rfl h [3, 4, 11, 12, 13, 15] [12, 13, 15] [] (fun kl kh ids b s => ⟨ofL ([(88, eB s)] ++ kl), ofH ([] ++ kh), b + 64⟩) ?_; (conv => whnf); refine And.intro (fun s h => HT_st ?_) (fun k h => ?_)
  · refine HT_if fun K1 K2 hK1 hK2 => ?_; (conv => whnf)
    refine cond_lk h (fun _ h => ?_) (fun _ h => ?_)
    · refine hK1 ?_; clear hK1 hK2 K1 K2
      refine HT_fr DC_ok rfl fun K hK => ?_; (conv => whnf)
      refine hK _ _ _ ?_; clear hK K
      refine HT_ret ?_
      refine Then_r ?_
      replace h := W_some h
      refine PostP_r DC_ok fun K hK => ?_; (conv => whnf)
      refine hK _ ?_; clear hK K
      cases h
      exact Wk.refl _
    refine hK2 ?_; clear hK1 hK2 K1 K2
    refine HT_skip ?_
    refine Then_n ?_
    refine HT_fr DC_ok rfl fun K hK => ?_; (conv => whnf)
    replace h := W_bd h
    refine law07_pick_call h13 h (WkL.refl _) (fun _ h => ?_); (conv => whnf)
    refine hK _ _ _ ?_; clear hK K
    refine HT_fr DC_ok rfl fun K hK => ?_; (conv => whnf)
    replace h := W_bd h
    refine law07_pick_call h13 h (WkL.refl _) (fun _ h => ?_); (conv => whnf)
    refine hK _ _ _ ?_; clear hK K
    refine HT_fr DC_ok rfl fun K hK => ?_; (conv => whnf)
    refine hK _ _ _ ?_; clear hK K
    refine HT_seq ?_
    refine HT_fr DC_ok rfl fun K hK => ?_; (conv => whnf)
    refine hK _ _ _ ?_; clear hK K
    refine HT_block ?_
    replace h := W_bd h
    refine HT_lpK (body := law07_OrderReduces_b1 _ _ _) rfl h [3, 4, 11, 12, 13, 15] [12, 13, 15] [] (fun kl kh ids b s => ⟨ofL ([(21, eB s.1), (22, eI s.2)] ++ kl), ofH ([] ++ kh), b + 64⟩) ?_; (conv => whnf); refine And.intro ?_ (fun s m h => HT_st ?_)
    · refine weak_k ?_; (conv => whnf)
      exact And.intro rfl (And.intro (allL_c (wkr (loose_bool _)) (allL_c wkI (allL_c wkI (allL_c wkI (allL_c (wkr (loose_bool _)) (allL_c (WkR.ptr (fun _ => rfl)) (allL_c (WkR.ptr (fun _ => rfl)) (allL_c (WkR.ptr (fun _ => rfl)) allL_n)))))))) (allL_c ⟨some _, rfl, BkR_c rfl (CkR_cons wkI (CkR_cons (wkr (loose_lst fun _ => (lo_A46 _))) CkR_nil))⟩ (allL_c ⟨some _, rfl, BkR_c rfl (CkR_cons wkI (CkR_cons (wkr (loose_lst fun _ => (lo_A46 _))) CkR_nil))⟩ (allL_c ⟨some _, rfl, BkR_c rfl (CkR_cons wkI (CkR_cons (wkr (loose_lst fun _ => (lo_A46 _))) CkR_nil))⟩ allL_n))))
    replace h := W_blaw07_OrderReduces_b1 (W_bd h)
    refine HT_seq ?_
    refine HT_fr DC_ok rfl fun K hK => ?_; (conv => whnf)
    refine nlA rfl ?_; (conv => whnf)
    refine blkK_of rfl ?_; (conv => whnf)
    refine getK_of rfl ?_; (conv => whnf)
    refine hK _ _ _ ?_; clear hK K
    refine HT_if fun K1 K2 hK1 hK2 => ?_; (conv => whnf)
    refine cond_lk h (fun _ h => ?_) (fun _ h => ?_)
    · refine hK1 ?_; clear hK1 hK2 K1 K2
      refine HT_skip ?_
      refine Then_n ?_
      refine HT_seq ?_
      refine HT_block ?_
      refine HT_f DC_ok rfl fun K hK => ?_; (conv => whnf)
      replace h := W_jn h
      refine cond_lk h (fun _ h => ?_) (fun _ h => ?_) <;> (conv => whnf)
      · refine hK _ _ _ ?_; clear hK K
        refine InBlock_n ?_
        refine Then_n ?_
        refine HT_f DC_ok rfl fun K hK => ?_; (conv => whnf)
        refine hK _ _ _ ?_; clear hK K
        refine Then_n ?_
        replace h := W_xnx h
        refine ⟨_, h, ?_⟩
        refine weak_k ?_; (conv => whnf)
        exact And.intro rfl (And.intro (allL_c (wkr (loose_bool _)) (allL_c wkI (allL_c wkI (allL_c wkI (allL_c (wkr (loose_bool _)) (allL_c (WkR.ptr (fun _ => rfl)) (allL_c (WkR.ptr (fun _ => rfl)) (allL_c (WkR.ptr (fun _ => rfl)) allL_n)))))))) (allL_c ⟨some _, rfl, BkR_c rfl (CkR_cons wkI (CkR_cons (wkr (loose_lst fun _ => (lo_A46 _))) CkR_nil))⟩ (allL_c ⟨some _, rfl, BkR_c rfl (CkR_cons wkI (CkR_cons (wkr (loose_lst fun _ => (lo_A46 _))) CkR_nil))⟩ (allL_c ⟨some _, rfl, BkR_c rfl (CkR_cons wkI (CkR_cons (wkr (loose_lst fun _ => (lo_A46 _))) CkR_nil))⟩ allL_n))))
      refine nlA rfl ?_; (conv => whnf)
      refine blkK_of rfl ?_; (conv => whnf)
      refine getK_of rfl ?_; (conv => whnf)
      refine ix_lk h fun _ h => ?_; (conv => whnf)
      refine nlA rfl ?_; (conv => whnf)
      refine eqK_e (eqv46 _ _ _ _) ?_; (conv => whnf)
      refine hK _ _ _ ?_; clear hK K
      refine InBlock_n ?_
      refine Then_n ?_
      refine HT_f DC_ok rfl fun K hK => ?_; (conv => whnf)
      refine hK _ _ _ ?_; clear hK K
      refine Then_n ?_
      replace h := W_xnx h
      refine ⟨_, h, ?_⟩
      refine weak_k ?_; (conv => whnf)
      exact And.intro rfl (And.intro (allL_c (wkr (loose_bool _)) (allL_c wkI (allL_c wkI (allL_c wkI (allL_c (wkr (loose_bool _)) (allL_c (WkR.ptr (fun _ => rfl)) (allL_c (WkR.ptr (fun _ => rfl)) (allL_c (WkR.ptr (fun _ => rfl)) allL_n)))))))) (allL_c ⟨some _, rfl, BkR_c rfl (CkR_cons wkI (CkR_cons (wkr (loose_lst fun _ => (lo_A46 _))) CkR_nil))⟩ (allL_c ⟨some _, rfl, BkR_c rfl (CkR_cons wkI (CkR_cons (wkr (loose_lst fun _ => (lo_A46 _))) CkR_nil))⟩ (allL_c ⟨some _, rfl, BkR_c rfl (CkR_cons wkI (CkR_cons (wkr (loose_lst fun _ => (lo_A46 _))) CkR_nil))⟩ allL_n))))
    refine hK2 ?_; clear hK1 hK2 K1 K2
    refine HT_exit ?_
    refine Then_e ?_
    refine Then_e ?_
    refine InBlock_e ?_
    replace h := W_xbk h
    replace h := W_inl h
    refine Then_n ?_
    refine HT_seq ?_
    refine HT_fr DC_ok rfl fun K hK => ?_; (conv => whnf)
    refine nlA rfl ?_; (conv => whnf)
    refine blkK_of rfl ?_; (conv => whnf)
    refine nlA rfl ?_; (conv => whnf)
    replace h := W_bd h
    refine order_Before_call h27 h (WkL.refl _) (fun _ h => ?_); (conv => whnf)
    refine eqK_n (eqv_bool DC_ok rfl _ _) ?_; (conv => whnf)
    refine hK _ _ _ ?_; clear hK K
    refine HT_if fun K1 K2 hK1 hK2 => ?_; (conv => whnf)
    refine cond_lk h (fun _ h => ?_) (fun _ h => ?_)
    · refine hK1 ?_; clear hK1 hK2 K1 K2
      refine HT_fr DC_ok rfl fun K hK => ?_; (conv => whnf)
      refine hK _ _ _ ?_; clear hK K
      refine HT_ret ?_
      refine Then_r ?_
      replace h := W_some h
      refine PostP_r DC_ok fun K hK => ?_; (conv => whnf)
      refine hK _ ?_; clear hK K
      cases h
      exact Wk.refl _
    refine hK2 ?_; clear hK1 hK2 K1 K2
    refine HT_skip ?_
    refine Then_n ?_
    refine HT_seq ?_
    refine HT_fr DC_ok rfl fun K hK => ?_; (conv => whnf)
    refine hK _ _ _ ?_; clear hK K
    refine HT_block ?_
    replace h := W_bd h
    refine HT_lpK (body := law07_OrderReduces_b2 _ _ _) rfl h [11, 12, 13, 15] [12, 13, 15] [] (fun kl kh ids b s => ⟨ofL ([(23, eI s)] ++ kl), ofH ([] ++ kh), b + 64⟩) ?_; (conv => whnf); refine And.intro ?_ (fun s m h => HT_st ?_)
    · refine weak_k ?_; (conv => whnf)
      exact And.intro rfl (And.intro (allL_c wkI (allL_c (wkr (loose_bool _)) (allL_c (WkR.ptr (fun _ => rfl)) (allL_c (WkR.ptr (fun _ => rfl)) (allL_c (WkR.ptr (fun _ => rfl)) allL_n))))) (allL_c ⟨some _, rfl, BkR_c rfl (CkR_cons wkI (CkR_cons (wkr (loose_lst fun _ => (lo_A46 _))) CkR_nil))⟩ (allL_c ⟨some _, rfl, BkR_c rfl (CkR_cons wkI (CkR_cons (wkr (loose_lst fun _ => (lo_A46 _))) CkR_nil))⟩ (allL_c ⟨some _, rfl, BkR_c rfl (CkR_cons wkI (CkR_cons (wkr (loose_lst fun _ => (lo_A46 _))) CkR_nil))⟩ allL_n))))
    replace h := W_blaw07_OrderReduces_b2 (W_bd h)
    refine HT_seq ?_
    refine HT_fr DC_ok rfl fun K hK => ?_; (conv => whnf)
    refine nlA rfl ?_; (conv => whnf)
    refine blkK_of rfl ?_; (conv => whnf)
    refine getK_of rfl ?_; (conv => whnf)
    refine hK _ _ _ ?_; clear hK K
    refine HT_if fun K1 K2 hK1 hK2 => ?_; (conv => whnf)
    refine cond_lk h (fun _ h => ?_) (fun _ h => ?_)
    · refine hK1 ?_; clear hK1 hK2 K1 K2
      refine HT_skip ?_
      refine Then_n ?_
      refine HT_seq ?_
      refine HT_block ?_
      refine HT_fr DC_ok rfl fun K hK => ?_; (conv => whnf)
      refine hK _ _ _ ?_; clear hK K
      refine HT_seq ?_
      refine HT_fr DC_ok rfl fun K hK => ?_; (conv => whnf)
      refine hK _ _ _ ?_; clear hK K
      refine HT_block ?_
      replace h := W_bd h
      refine HT_lpK (body := law07_OrderReduces_b3 _ _ _) rfl h [11, 12, 13, 15, 23] [12, 13, 15] [] (fun kl kh ids b s => ⟨ofL ([(24, eB s.1), (25, eI s.2)] ++ kl), ofH ([] ++ kh), b + 64⟩) ?_; (conv => whnf); refine And.intro ?_ (fun s m h => HT_st ?_)
      · refine weak_k ?_; (conv => whnf)
        exact And.intro rfl (And.intro (allL_c (wkr (loose_bool _)) (allL_c wkI (allL_c (wkr (loose_bool _)) (allL_c (WkR.ptr (fun _ => rfl)) (allL_c (WkR.ptr (fun _ => rfl)) (allL_c (WkR.ptr (fun _ => rfl)) (allL_c wkI allL_n))))))) (allL_c ⟨some _, rfl, BkR_c rfl (CkR_cons wkI (CkR_cons (wkr (loose_lst fun _ => (lo_A46 _))) CkR_nil))⟩ (allL_c ⟨some _, rfl, BkR_c rfl (CkR_cons wkI (CkR_cons (wkr (loose_lst fun _ => (lo_A46 _))) CkR_nil))⟩ (allL_c ⟨some _, rfl, BkR_c rfl (CkR_cons wkI (CkR_cons (wkr (loose_lst fun _ => (lo_A46 _))) CkR_nil))⟩ allL_n))))
      replace h := W_blaw07_OrderReduces_b3 (W_bd h)
      refine HT_seq ?_
      refine HT_fr DC_ok rfl fun K hK => ?_; (conv => whnf)
      refine nlA rfl ?_; (conv => whnf)
      refine blkK_of rfl ?_; (conv => whnf)
      refine getK_of rfl ?_; (conv => whnf)
      refine hK _ _ _ ?_; clear hK K
      refine HT_if fun K1 K2 hK1 hK2 => ?_; (conv => whnf)
      refine cond_lk h (fun _ h => ?_) (fun _ h => ?_)
      · refine hK1 ?_; clear hK1 hK2 K1 K2
        refine HT_skip ?_
        refine Then_n ?_
        refine HT_seq ?_
        refine HT_block ?_
        refine HT_fD DC_ok mix_ok rfl (by kernel_rfl) fun K hK => ?_; (conv => whnf)
        replace h := W_jn h
        refine cond_lk h (fun _ h => ?_) (fun _ h => ?_) <;> (conv => whnf)
        · refine hK _ _ _ ?_; clear hK K
          refine InBlock_n ?_
          refine Then_n ?_
          refine HT_f DC_ok rfl fun K hK => ?_; (conv => whnf)
          refine hK _ _ _ ?_; clear hK K
          refine Then_n ?_
          replace h := W_xnx h
          refine ⟨_, h, ?_⟩
          refine weak_k ?_; (conv => whnf)
          exact And.intro rfl (And.intro (allL_c (wkr (loose_bool _)) (allL_c wkI (allL_c (wkr (loose_bool _)) (allL_c (WkR.ptr (fun _ => rfl)) (allL_c (WkR.ptr (fun _ => rfl)) (allL_c (WkR.ptr (fun _ => rfl)) (allL_c wkI allL_n))))))) (allL_c ⟨some _, rfl, BkR_c rfl (CkR_cons wkI (CkR_cons (wkr (loose_lst fun _ => (lo_A46 _))) CkR_nil))⟩ (allL_c ⟨some _, rfl, BkR_c rfl (CkR_cons wkI (CkR_cons (wkr (loose_lst fun _ => (lo_A46 _))) CkR_nil))⟩ (allL_c ⟨some _, rfl, BkR_c rfl (CkR_cons wkI (CkR_cons (wkr (loose_lst fun _ => (lo_A46 _))) CkR_nil))⟩ allL_n))))
        refine nlA rfl ?_; (conv => whnf)
        refine blkK_of rfl ?_; (conv => whnf)
        refine getK_of rfl ?_; (conv => whnf)
        refine ix_lk h fun _ h => ?_; (conv => whnf)
        refine nlA rfl ?_; (conv => whnf)
        refine nlA rfl ?_; (conv => whnf)
        refine blkK_of rfl ?_; (conv => whnf)
        refine getK_of rfl ?_; (conv => whnf)
        refine ix_lk h fun _ h => ?_; (conv => whnf)
        refine nlA rfl ?_; (conv => whnf)
        refine eqK_e (eqv46 _ _ _ _) ?_; (conv => whnf)
        refine hK _ _ _ ?_; clear hK K
        refine InBlock_n ?_
        refine Then_n ?_
        refine HT_f DC_ok rfl fun K hK => ?_; (conv => whnf)
        refine hK _ _ _ ?_; clear hK K
        refine Then_n ?_
        replace h := W_xnx h
        refine ⟨_, h, ?_⟩
        refine weak_k ?_; (conv => whnf)
        exact And.intro rfl (And.intro (allL_c (wkr (loose_bool _)) (allL_c wkI (allL_c (wkr (loose_bool _)) (allL_c (WkR.ptr (fun _ => rfl)) (allL_c (WkR.ptr (fun _ => rfl)) (allL_c (WkR.ptr (fun _ => rfl)) (allL_c wkI allL_n))))))) (allL_c ⟨some _, rfl, BkR_c rfl (CkR_cons wkI (CkR_cons (wkr (loose_lst fun _ => (lo_A46 _))) CkR_nil))⟩ (allL_c ⟨some _, rfl, BkR_c rfl (CkR_cons wkI (CkR_cons (wkr (loose_lst fun _ => (lo_A46 _))) CkR_nil))⟩ (allL_c ⟨some _, rfl, BkR_c rfl (CkR_cons wkI (CkR_cons (wkr (loose_lst fun _ => (lo_A46 _))) CkR_nil))⟩ allL_n))))
      refine hK2 ?_; clear hK1 hK2 K1 K2
      refine HT_exit ?_
      refine Then_e ?_
      refine Then_e ?_
      refine InBlock_e ?_
      replace h := W_xbk h
      replace h := W_inl h
      refine Then_n ?_
      refine HT_fdP (.step 0 (.step 2 (.step 3 (.step 4 (.step 5 (.step 6 (.step 7 (.step 8 (.step 9 (.step 10 (.step 11 (.step 12 (.thr 1 13 15 (.two 13 15 (.step 15 (.step 14 (.step 16 (.nil)))) (.step 13 (.step 14 (.step 16 (.nil))))) (.step 1 (.step 15 (.step 14 (.step 16 (.nil))))) (.two 1 13 (.step 13 (.step 14 (.step 16 (.nil)))) (.step 1 (.step 14 (.step 16 (.nil)))))))))))))))))) DC_ok mix_ok rfl (by kernel_rfl) fun K hK => ?_; (conv => whnf)
      refine lt_lk (enc := eA46) (d := default) DC_ok h rfl rfl rfl ⟨nle rfl, nle rfl, rfl⟩ rfl trivial (fun h => ?_); (conv => whnf)
      refine nlA rfl ?_; (conv => whnf)
      refine blkK_of rfl ?_; (conv => whnf)
      refine getK_of rfl ?_; (conv => whnf)
      refine sl_lk h (.inl ⟨rfl, rfl⟩) (.inr ⟨_, rfl⟩) (fun h => ?_); (conv => whnf)
      refine apf_lk (enc := eA46) (d := default) DC_ok h rfl rfl rfl ⟨rfl, nle rfl, nle rfl, nle rfl, rfl⟩ (fun _ => rfl) (fun h => ?_); (conv => whnf)
      refine nlA rfl ?_; (conv => whnf)
      refine blkK_of rfl ?_; (conv => whnf)
      refine getK_of rfl ?_; (conv => whnf)
      refine sl_lk h (.inr ⟨_, rfl⟩) (.inl ⟨rfl, rfl⟩) (fun h => ?_); (conv => whnf)
      refine And.intro ?_ (And.intro ?_ ?_) <;> (conv => whnf)
      · refine nlA rfl ?_; (conv => whnf)
        refine blkK_of rfl ?_; (conv => whnf)
        refine getK_of rfl ?_; (conv => whnf)
        refine And.intro ?_ ?_ <;> (conv => whnf)
        · refine ap_lk (enc := eA46) (d := default) DC_ok h (.inl rfl) rfl rfl rfl ⟨rfl, nle rfl, nle rfl, nle rfl, rfl⟩ (fun _ => rfl) (.inr (.inr ⟨_, _, rfl, rfl, rfl⟩)) (fun h => ?_); (conv => whnf)
          refine blkK_of rfl ?_; (conv => whnf)
          refine And.intro rfl (And.intro (nle rfl) (And.intro rfl ?_)); (conv => whnf)
          refine hK _ _ _ ?_; clear hK K
          refine HT_fr DC_ok rfl fun K hK => ?_; (conv => whnf)
          refine nlA rfl ?_; (conv => whnf)
          refine blkK_of rfl ?_; (conv => whnf)
          refine nlA rfl ?_; (conv => whnf)
          replace h := W_bd h
          refine order_Close_call h24 h (WkL_cons (Wk_agg (WkL_cons (Wk.refl _) (WkL_cons Wk_free WkL_nil))) WkL_nil) (fun _ h => ?_); (conv => whnf)
          refine blkK_of rfl ?_; (conv => whnf)
          refine And.intro rfl (And.intro (nle rfl) (And.intro rfl ?_)); (conv => whnf)
          refine hK _ _ _ ?_; clear hK K
          refine HT_fr DC_ok rfl fun K hK => ?_; (conv => whnf)
          replace h := W_jn h
          refine cond_lk h (fun _ h => ?_) (fun _ h => ?_) <;> (conv => whnf)
          · refine hK _ _ _ ?_; clear hK K
            refine HT_if fun K1 K2 hK1 hK2 => ?_; (conv => whnf)
            refine hK1 ?_; clear hK1 hK2 K1 K2
            replace h := W_cnT h
            refine HT_fr DC_ok rfl fun K hK => ?_; (conv => whnf)
            refine hK _ _ _ ?_; clear hK K
            refine HT_ret ?_
            refine InBlock_r ?_
            refine Then_r ?_
            refine Then_r ?_
            refine InBlock_r ?_
            refine Then_r ?_
            replace h := W_xrt h
            replace h := W_inr h
            replace h := W_some h
            refine PostP_r DC_ok fun K hK => ?_; (conv => whnf)
            refine hK _ ?_; clear hK K
            cases h
            exact Wk.refl _
          refine cond_lk h (fun _ h => ?_) (fun _ h => ?_) <;> (conv => whnf)
          · refine hK _ _ _ ?_; clear hK K
            refine HT_if fun K1 K2 hK1 hK2 => ?_; (conv => whnf)
            refine hK1 ?_; clear hK1 hK2 K1 K2
            replace h := W_cnT h
            refine HT_fr DC_ok rfl fun K hK => ?_; (conv => whnf)
            refine hK _ _ _ ?_; clear hK K
            refine HT_ret ?_
            refine InBlock_r ?_
            refine Then_r ?_
            refine Then_r ?_
            refine InBlock_r ?_
            refine Then_r ?_
            replace h := W_xrt h
            replace h := W_inr h
            replace h := W_some h
            refine PostP_r DC_ok fun K hK => ?_; (conv => whnf)
            refine hK _ ?_; clear hK K
            cases h
            exact Wk.refl _
          refine nlA rfl ?_; (conv => whnf)
          refine blkK_of rfl ?_; (conv => whnf)
          refine nlA rfl ?_; (conv => whnf)
          refine nlA rfl ?_; (conv => whnf)
          refine blkK_of rfl ?_; (conv => whnf)
          refine nlA rfl ?_; (conv => whnf)
          replace h := W_bd h
          refine ref07_Same_call h26 h (WkL.refl _) (fun _ h => ?_); (conv => whnf)
          refine hK _ _ _ ?_; clear hK K
          refine HT_if fun K1 K2 hK1 hK2 => ?_; (conv => whnf)
          refine cond_lk h (fun _ h => ?_) (fun _ h => ?_)
          · refine hK1 ?_; clear hK1 hK2 K1 K2
            refine HT_fr DC_ok rfl fun K hK => ?_; (conv => whnf)
            refine hK _ _ _ ?_; clear hK K
            refine HT_ret ?_
            refine InBlock_r ?_
            refine Then_r ?_
            refine Then_r ?_
            refine InBlock_r ?_
            refine Then_r ?_
            replace h := W_xrt h
            replace h := W_inr h
            replace h := W_some h
            refine PostP_r DC_ok fun K hK => ?_; (conv => whnf)
            refine hK _ ?_; clear hK K
            cases h
            exact Wk.refl _
          refine hK2 ?_; clear hK1 hK2 K1 K2
          refine HT_skip ?_
          refine InBlock_n ?_
          refine Then_n ?_
          refine HT_f DC_ok rfl fun K hK => ?_; (conv => whnf)
          refine hK _ _ _ ?_; clear hK K
          refine Then_n ?_
          replace h := W_xnx h
          refine ⟨_, h, ?_⟩
          refine weak_k ?_; (conv => whnf)
          exact And.intro rfl (And.intro (allL_c wkI (allL_c (wkr (loose_bool _)) (allL_c (WkR.ptr (fun _ => rfl)) (allL_c (WkR.ptr (fun _ => rfl)) (allL_c (WkR.ptr (fun _ => rfl)) allL_n))))) (allL_c ⟨some _, rfl, BkR_c rfl (CkR_cons wkI (CkR_cons (wkr (loose_lst fun _ => (lo_A46 _))) CkR_nil))⟩ (allL_c ⟨some _, rfl, BkR_c rfl (CkR_cons wkI (CkR_cons (wkr (loose_lst fun _ => (lo_A46 _))) CkR_nil))⟩ (allL_c ⟨some _, rfl, BkR_c rfl (CkR_cons wkI (CkR_cons (wkr (loose_lst fun _ => (lo_A46 _))) CkR_nil))⟩ allL_n))))
        refine ap_lk (enc := eA46) (d := default) DC_ok h (.inl rfl) rfl rfl rfl ⟨rfl, nle rfl, nle rfl, nle rfl, rfl⟩ (fun _ => rfl) (.inr (.inr ⟨_, _, rfl, rfl, rfl⟩)) (fun h => ?_); (conv => whnf)
        refine blkK_of rfl ?_; (conv => whnf)
        refine And.intro rfl (And.intro (nle rfl) (And.intro rfl ?_)); (conv => whnf)
        refine hK _ _ _ ?_; clear hK K
        refine HT_fr DC_ok rfl fun K hK => ?_; (conv => whnf)
        refine nlA rfl ?_; (conv => whnf)
        refine blkK_of rfl ?_; (conv => whnf)
        refine nlA rfl ?_; (conv => whnf)
        replace h := W_bd h
        refine order_Close_call h24 h (WkL_cons (Wk_agg (WkL_cons (Wk.refl _) (WkL_cons Wk_free WkL_nil))) WkL_nil) (fun _ h => ?_); (conv => whnf)
        refine blkK_of rfl ?_; (conv => whnf)
        refine And.intro rfl (And.intro (nle rfl) (And.intro rfl ?_)); (conv => whnf)
        refine hK _ _ _ ?_; clear hK K
        refine HT_fr DC_ok rfl fun K hK => ?_; (conv => whnf)
        replace h := W_jn h
        refine cond_lk h (fun _ h => ?_) (fun _ h => ?_) <;> (conv => whnf)
        · refine hK _ _ _ ?_; clear hK K
          refine HT_if fun K1 K2 hK1 hK2 => ?_; (conv => whnf)
          refine hK1 ?_; clear hK1 hK2 K1 K2
          replace h := W_cnT h
          refine HT_fr DC_ok rfl fun K hK => ?_; (conv => whnf)
          refine hK _ _ _ ?_; clear hK K
          refine HT_ret ?_
          refine InBlock_r ?_
          refine Then_r ?_
          refine Then_r ?_
          refine InBlock_r ?_
          refine Then_r ?_
          replace h := W_xrt h
          replace h := W_inr h
          replace h := W_some h
          refine PostP_r DC_ok fun K hK => ?_; (conv => whnf)
          refine hK _ ?_; clear hK K
          cases h
          exact Wk.refl _
        refine cond_lk h (fun _ h => ?_) (fun _ h => ?_) <;> (conv => whnf)
        · refine hK _ _ _ ?_; clear hK K
          refine HT_if fun K1 K2 hK1 hK2 => ?_; (conv => whnf)
          refine hK1 ?_; clear hK1 hK2 K1 K2
          replace h := W_cnT h
          refine HT_fr DC_ok rfl fun K hK => ?_; (conv => whnf)
          refine hK _ _ _ ?_; clear hK K
          refine HT_ret ?_
          refine InBlock_r ?_
          refine Then_r ?_
          refine Then_r ?_
          refine InBlock_r ?_
          refine Then_r ?_
          replace h := W_xrt h
          replace h := W_inr h
          replace h := W_some h
          refine PostP_r DC_ok fun K hK => ?_; (conv => whnf)
          refine hK _ ?_; clear hK K
          cases h
          exact Wk.refl _
        refine nlA rfl ?_; (conv => whnf)
        refine blkK_of rfl ?_; (conv => whnf)
        refine nlA rfl ?_; (conv => whnf)
        refine nlA rfl ?_; (conv => whnf)
        refine blkK_of rfl ?_; (conv => whnf)
        refine nlA rfl ?_; (conv => whnf)
        replace h := W_bd h
        refine ref07_Same_call h26 h (WkL.refl _) (fun _ h => ?_); (conv => whnf)
        refine hK _ _ _ ?_; clear hK K
        refine HT_if fun K1 K2 hK1 hK2 => ?_; (conv => whnf)
        refine cond_lk h (fun _ h => ?_) (fun _ h => ?_)
        · refine hK1 ?_; clear hK1 hK2 K1 K2
          refine HT_fr DC_ok rfl fun K hK => ?_; (conv => whnf)
          refine hK _ _ _ ?_; clear hK K
          refine HT_ret ?_
          refine InBlock_r ?_
          refine Then_r ?_
          refine Then_r ?_
          refine InBlock_r ?_
          refine Then_r ?_
          replace h := W_xrt h
          replace h := W_inr h
          replace h := W_some h
          refine PostP_r DC_ok fun K hK => ?_; (conv => whnf)
          refine hK _ ?_; clear hK K
          cases h
          exact Wk.refl _
        refine hK2 ?_; clear hK1 hK2 K1 K2
        refine HT_skip ?_
        refine InBlock_n ?_
        refine Then_n ?_
        refine HT_f DC_ok rfl fun K hK => ?_; (conv => whnf)
        refine hK _ _ _ ?_; clear hK K
        refine Then_n ?_
        replace h := W_xnx h
        refine ⟨_, h, ?_⟩
        refine weak_k ?_; (conv => whnf)
        exact And.intro rfl (And.intro (allL_c wkI (allL_c (wkr (loose_bool _)) (allL_c (WkR.ptr (fun _ => rfl)) (allL_c (WkR.ptr (fun _ => rfl)) (allL_c (WkR.ptr (fun _ => rfl)) allL_n))))) (allL_c ⟨some _, rfl, BkR_c rfl (CkR_cons wkI (CkR_cons (wkr (loose_lst fun _ => (lo_A46 _))) CkR_nil))⟩ (allL_c ⟨some _, rfl, BkR_c rfl (CkR_cons wkI (CkR_cons (wkr (loose_lst fun _ => (lo_A46 _))) CkR_nil))⟩ (allL_c ⟨some _, rfl, BkR_c rfl (CkR_cons wkI (CkR_cons (wkr (loose_lst fun _ => (lo_A46 _))) CkR_nil))⟩ allL_n))))
      · refine ap_lk (enc := eA46) (d := default) DC_ok h (.inl rfl) rfl rfl rfl ⟨rfl, nle rfl, nle rfl, nle rfl, rfl⟩ (fun _ => rfl) (.inr (.inr ⟨_, _, rfl, rfl, rfl⟩)) (fun h => ?_); (conv => whnf)
        refine nlA rfl ?_; (conv => whnf)
        refine blkK_of rfl ?_; (conv => whnf)
        refine getK_of rfl ?_; (conv => whnf)
        refine blkK_of rfl ?_; (conv => whnf)
        refine And.intro rfl (And.intro (nle rfl) (And.intro rfl ?_)); (conv => whnf)
        refine hK _ _ _ ?_; clear hK K
        refine HT_fr DC_ok rfl fun K hK => ?_; (conv => whnf)
        refine nlA rfl ?_; (conv => whnf)
        refine blkK_of rfl ?_; (conv => whnf)
        refine nlA rfl ?_; (conv => whnf)
        replace h := W_bd h
        refine order_Close_call h24 h (WkL_cons (Wk_agg (WkL_cons (Wk.refl _) (WkL_cons Wk_free WkL_nil))) WkL_nil) (fun _ h => ?_); (conv => whnf)
        refine blkK_of rfl ?_; (conv => whnf)
        refine And.intro rfl (And.intro (nle rfl) (And.intro rfl ?_)); (conv => whnf)
        refine hK _ _ _ ?_; clear hK K
        refine HT_fr DC_ok rfl fun K hK => ?_; (conv => whnf)
        replace h := W_jn h
        refine cond_lk h (fun _ h => ?_) (fun _ h => ?_) <;> (conv => whnf)
        · refine hK _ _ _ ?_; clear hK K
          refine HT_if fun K1 K2 hK1 hK2 => ?_; (conv => whnf)
          refine hK1 ?_; clear hK1 hK2 K1 K2
          replace h := W_cnT h
          refine HT_fr DC_ok rfl fun K hK => ?_; (conv => whnf)
          refine hK _ _ _ ?_; clear hK K
          refine HT_ret ?_
          refine InBlock_r ?_
          refine Then_r ?_
          refine Then_r ?_
          refine InBlock_r ?_
          refine Then_r ?_
          replace h := W_xrt h
          replace h := W_inr h
          replace h := W_some h
          refine PostP_r DC_ok fun K hK => ?_; (conv => whnf)
          refine hK _ ?_; clear hK K
          cases h
          exact Wk.refl _
        refine cond_lk h (fun _ h => ?_) (fun _ h => ?_) <;> (conv => whnf)
        · refine hK _ _ _ ?_; clear hK K
          refine HT_if fun K1 K2 hK1 hK2 => ?_; (conv => whnf)
          refine hK1 ?_; clear hK1 hK2 K1 K2
          replace h := W_cnT h
          refine HT_fr DC_ok rfl fun K hK => ?_; (conv => whnf)
          refine hK _ _ _ ?_; clear hK K
          refine HT_ret ?_
          refine InBlock_r ?_
          refine Then_r ?_
          refine Then_r ?_
          refine InBlock_r ?_
          refine Then_r ?_
          replace h := W_xrt h
          replace h := W_inr h
          replace h := W_some h
          refine PostP_r DC_ok fun K hK => ?_; (conv => whnf)
          refine hK _ ?_; clear hK K
          cases h
          exact Wk.refl _
        refine nlA rfl ?_; (conv => whnf)
        refine blkK_of rfl ?_; (conv => whnf)
        refine nlA rfl ?_; (conv => whnf)
        refine nlA rfl ?_; (conv => whnf)
        refine blkK_of rfl ?_; (conv => whnf)
        refine nlA rfl ?_; (conv => whnf)
        replace h := W_bd h
        refine ref07_Same_call h26 h (WkL.refl _) (fun _ h => ?_); (conv => whnf)
        refine hK _ _ _ ?_; clear hK K
        refine HT_if fun K1 K2 hK1 hK2 => ?_; (conv => whnf)
        refine cond_lk h (fun _ h => ?_) (fun _ h => ?_)
        · refine hK1 ?_; clear hK1 hK2 K1 K2
          refine HT_fr DC_ok rfl fun K hK => ?_; (conv => whnf)
          refine hK _ _ _ ?_; clear hK K
          refine HT_ret ?_
          refine InBlock_r ?_
          refine Then_r ?_
          refine Then_r ?_
          refine InBlock_r ?_
          refine Then_r ?_
          replace h := W_xrt h
          replace h := W_inr h
          replace h := W_some h
          refine PostP_r DC_ok fun K hK => ?_; (conv => whnf)
          refine hK _ ?_; clear hK K
          cases h
          exact Wk.refl _
        refine hK2 ?_; clear hK1 hK2 K1 K2
        refine HT_skip ?_
        refine InBlock_n ?_
        refine Then_n ?_
        refine HT_f DC_ok rfl fun K hK => ?_; (conv => whnf)
        refine hK _ _ _ ?_; clear hK K
        refine Then_n ?_
        replace h := W_xnx h
        refine ⟨_, h, ?_⟩
        refine weak_k ?_; (conv => whnf)
        exact And.intro rfl (And.intro (allL_c wkI (allL_c (wkr (loose_bool _)) (allL_c (WkR.ptr (fun _ => rfl)) (allL_c (WkR.ptr (fun _ => rfl)) (allL_c (WkR.ptr (fun _ => rfl)) allL_n))))) (allL_c ⟨some _, rfl, BkR_c rfl (CkR_cons wkI (CkR_cons (wkr (loose_lst fun _ => (lo_A46 _))) CkR_nil))⟩ (allL_c ⟨some _, rfl, BkR_c rfl (CkR_cons wkI (CkR_cons (wkr (loose_lst fun _ => (lo_A46 _))) CkR_nil))⟩ (allL_c ⟨some _, rfl, BkR_c rfl (CkR_cons wkI (CkR_cons (wkr (loose_lst fun _ => (lo_A46 _))) CkR_nil))⟩ allL_n))))
      refine And.intro ?_ ?_ <;> (conv => whnf)
      · refine nlA rfl ?_; (conv => whnf)
        refine blkK_of rfl ?_; (conv => whnf)
        refine getK_of rfl ?_; (conv => whnf)
        refine ap_lk (enc := eA46) (d := default) DC_ok h (.inl rfl) rfl rfl rfl ⟨rfl, nle rfl, nle rfl, nle rfl, rfl⟩ (fun _ => rfl) (.inr (.inr ⟨_, _, rfl, rfl, rfl⟩)) (fun h => ?_); (conv => whnf)
        refine blkK_of rfl ?_; (conv => whnf)
        refine And.intro rfl (And.intro (nle rfl) (And.intro rfl ?_)); (conv => whnf)
        refine hK _ _ _ ?_; clear hK K
        refine HT_fr DC_ok rfl fun K hK => ?_; (conv => whnf)
        refine nlA rfl ?_; (conv => whnf)
        refine blkK_of rfl ?_; (conv => whnf)
        refine nlA rfl ?_; (conv => whnf)
        replace h := W_bd h
        refine order_Close_call h24 h (WkL_cons (Wk_agg (WkL_cons (Wk.refl _) (WkL_cons Wk_free WkL_nil))) WkL_nil) (fun _ h => ?_); (conv => whnf)
        refine blkK_of rfl ?_; (conv => whnf)
        refine And.intro rfl (And.intro (nle rfl) (And.intro rfl ?_)); (conv => whnf)
        refine hK _ _ _ ?_; clear hK K
        refine HT_fr DC_ok rfl fun K hK => ?_; (conv => whnf)
        replace h := W_jn h
        refine cond_lk h (fun _ h => ?_) (fun _ h => ?_) <;> (conv => whnf)
        · refine hK _ _ _ ?_; clear hK K
          refine HT_if fun K1 K2 hK1 hK2 => ?_; (conv => whnf)
          refine hK1 ?_; clear hK1 hK2 K1 K2
          replace h := W_cnT h
          refine HT_fr DC_ok rfl fun K hK => ?_; (conv => whnf)
          refine hK _ _ _ ?_; clear hK K
          refine HT_ret ?_
          refine InBlock_r ?_
          refine Then_r ?_
          refine Then_r ?_
          refine InBlock_r ?_
          refine Then_r ?_
          replace h := W_xrt h
          replace h := W_inr h
          replace h := W_some h
          refine PostP_r DC_ok fun K hK => ?_; (conv => whnf)
          refine hK _ ?_; clear hK K
          cases h
          exact Wk.refl _
        refine cond_lk h (fun _ h => ?_) (fun _ h => ?_) <;> (conv => whnf)
        · refine hK _ _ _ ?_; clear hK K
          refine HT_if fun K1 K2 hK1 hK2 => ?_; (conv => whnf)
          refine hK1 ?_; clear hK1 hK2 K1 K2
          replace h := W_cnT h
          refine HT_fr DC_ok rfl fun K hK => ?_; (conv => whnf)
          refine hK _ _ _ ?_; clear hK K
          refine HT_ret ?_
          refine InBlock_r ?_
          refine Then_r ?_
          refine Then_r ?_
          refine InBlock_r ?_
          refine Then_r ?_
          replace h := W_xrt h
          replace h := W_inr h
          replace h := W_some h
          refine PostP_r DC_ok fun K hK => ?_; (conv => whnf)
          refine hK _ ?_; clear hK K
          cases h
          exact Wk.refl _
        refine nlA rfl ?_; (conv => whnf)
        refine blkK_of rfl ?_; (conv => whnf)
        refine nlA rfl ?_; (conv => whnf)
        refine nlA rfl ?_; (conv => whnf)
        refine blkK_of rfl ?_; (conv => whnf)
        refine nlA rfl ?_; (conv => whnf)
        replace h := W_bd h
        refine ref07_Same_call h26 h (WkL.refl _) (fun _ h => ?_); (conv => whnf)
        refine hK _ _ _ ?_; clear hK K
        refine HT_if fun K1 K2 hK1 hK2 => ?_; (conv => whnf)
        refine cond_lk h (fun _ h => ?_) (fun _ h => ?_)
        · refine hK1 ?_; clear hK1 hK2 K1 K2
          refine HT_fr DC_ok rfl fun K hK => ?_; (conv => whnf)
          refine hK _ _ _ ?_; clear hK K
          refine HT_ret ?_
          refine InBlock_r ?_
          refine Then_r ?_
          refine Then_r ?_
          refine InBlock_r ?_
          refine Then_r ?_
          replace h := W_xrt h
          replace h := W_inr h
          replace h := W_some h
          refine PostP_r DC_ok fun K hK => ?_; (conv => whnf)
          refine hK _ ?_; clear hK K
          cases h
          exact Wk.refl _
        refine hK2 ?_; clear hK1 hK2 K1 K2
        refine HT_skip ?_
        refine InBlock_n ?_
        refine Then_n ?_
        refine HT_f DC_ok rfl fun K hK => ?_; (conv => whnf)
        refine hK _ _ _ ?_; clear hK K
        refine Then_n ?_
        replace h := W_xnx h
        refine ⟨_, h, ?_⟩
        refine weak_k ?_; (conv => whnf)
        exact And.intro rfl (And.intro (allL_c wkI (allL_c (wkr (loose_bool _)) (allL_c (WkR.ptr (fun _ => rfl)) (allL_c (WkR.ptr (fun _ => rfl)) (allL_c (WkR.ptr (fun _ => rfl)) allL_n))))) (allL_c ⟨some _, rfl, BkR_c rfl (CkR_cons wkI (CkR_cons (wkr (loose_lst fun _ => (lo_A46 _))) CkR_nil))⟩ (allL_c ⟨some _, rfl, BkR_c rfl (CkR_cons wkI (CkR_cons (wkr (loose_lst fun _ => (lo_A46 _))) CkR_nil))⟩ (allL_c ⟨some _, rfl, BkR_c rfl (CkR_cons wkI (CkR_cons (wkr (loose_lst fun _ => (lo_A46 _))) CkR_nil))⟩ allL_n))))
      refine ap_lk (enc := eA46) (d := default) DC_ok h (.inl rfl) rfl rfl rfl ⟨rfl, nle rfl, nle rfl, nle rfl, rfl⟩ (fun _ => rfl) (.inr (.inr ⟨_, _, rfl, rfl, rfl⟩)) (fun h => ?_); (conv => whnf)
      refine nlA rfl ?_; (conv => whnf)
      refine blkK_of rfl ?_; (conv => whnf)
      refine getK_of rfl ?_; (conv => whnf)
      refine blkK_of rfl ?_; (conv => whnf)
      refine And.intro rfl (And.intro (nle rfl) (And.intro rfl ?_)); (conv => whnf)
      refine hK _ _ _ ?_; clear hK K
      refine HT_fr DC_ok rfl fun K hK => ?_; (conv => whnf)
      refine nlA rfl ?_; (conv => whnf)
      refine blkK_of rfl ?_; (conv => whnf)
      refine nlA rfl ?_; (conv => whnf)
      replace h := W_bd h
      refine order_Close_call h24 h (WkL_cons (Wk_agg (WkL_cons (Wk.refl _) (WkL_cons Wk_free WkL_nil))) WkL_nil) (fun _ h => ?_); (conv => whnf)
      refine blkK_of rfl ?_; (conv => whnf)
      refine And.intro rfl (And.intro (nle rfl) (And.intro rfl ?_)); (conv => whnf)
      refine hK _ _ _ ?_; clear hK K
      refine HT_fr DC_ok rfl fun K hK => ?_; (conv => whnf)
      replace h := W_jn h
      refine cond_lk h (fun _ h => ?_) (fun _ h => ?_) <;> (conv => whnf)
      · refine hK _ _ _ ?_; clear hK K
        refine HT_if fun K1 K2 hK1 hK2 => ?_; (conv => whnf)
        refine hK1 ?_; clear hK1 hK2 K1 K2
        replace h := W_cnT h
        refine HT_fr DC_ok rfl fun K hK => ?_; (conv => whnf)
        refine hK _ _ _ ?_; clear hK K
        refine HT_ret ?_
        refine InBlock_r ?_
        refine Then_r ?_
        refine Then_r ?_
        refine InBlock_r ?_
        refine Then_r ?_
        replace h := W_xrt h
        replace h := W_inr h
        replace h := W_some h
        refine PostP_r DC_ok fun K hK => ?_; (conv => whnf)
        refine hK _ ?_; clear hK K
        cases h
        exact Wk.refl _
      refine cond_lk h (fun _ h => ?_) (fun _ h => ?_) <;> (conv => whnf)
      · refine hK _ _ _ ?_; clear hK K
        refine HT_if fun K1 K2 hK1 hK2 => ?_; (conv => whnf)
        refine hK1 ?_; clear hK1 hK2 K1 K2
        replace h := W_cnT h
        refine HT_fr DC_ok rfl fun K hK => ?_; (conv => whnf)
        refine hK _ _ _ ?_; clear hK K
        refine HT_ret ?_
        refine InBlock_r ?_
        refine Then_r ?_
        refine Then_r ?_
        refine InBlock_r ?_
        refine Then_r ?_
        replace h := W_xrt h
        replace h := W_inr h
        replace h := W_some h
        refine PostP_r DC_ok fun K hK => ?_; (conv => whnf)
        refine hK _ ?_; clear hK K
        cases h
        exact Wk.refl _
      refine nlA rfl ?_; (conv => whnf)
      refine blkK_of rfl ?_; (conv => whnf)
      refine nlA rfl ?_; (conv => whnf)
      refine nlA rfl ?_; (conv => whnf)
      refine blkK_of rfl ?_; (conv => whnf)
      refine nlA rfl ?_; (conv => whnf)
      replace h := W_bd h
      refine ref07_Same_call h26 h (WkL.refl _) (fun _ h => ?_); (conv => whnf)
      refine hK _ _ _ ?_; clear hK K
      refine HT_if fun K1 K2 hK1 hK2 => ?_; (conv => whnf)
      refine cond_lk h (fun _ h => ?_) (fun _ h => ?_)
      · refine hK1 ?_; clear hK1 hK2 K1 K2
        refine HT_fr DC_ok rfl fun K hK => ?_; (conv => whnf)
        refine hK _ _ _ ?_; clear hK K
        refine HT_ret ?_
        refine InBlock_r ?_
        refine Then_r ?_
        refine Then_r ?_
        refine InBlock_r ?_
        refine Then_r ?_
        replace h := W_xrt h
        replace h := W_inr h
        replace h := W_some h
        refine PostP_r DC_ok fun K hK => ?_; (conv => whnf)
        refine hK _ ?_; clear hK K
        cases h
        exact Wk.refl _
      refine hK2 ?_; clear hK1 hK2 K1 K2
      refine HT_skip ?_
      refine InBlock_n ?_
      refine Then_n ?_
      refine HT_f DC_ok rfl fun K hK => ?_; (conv => whnf)
      refine hK _ _ _ ?_; clear hK K
      refine Then_n ?_
      replace h := W_xnx h
      refine ⟨_, h, ?_⟩
      refine weak_k ?_; (conv => whnf)
      exact And.intro rfl (And.intro (allL_c wkI (allL_c (wkr (loose_bool _)) (allL_c (WkR.ptr (fun _ => rfl)) (allL_c (WkR.ptr (fun _ => rfl)) (allL_c (WkR.ptr (fun _ => rfl)) allL_n))))) (allL_c ⟨some _, rfl, BkR_c rfl (CkR_cons wkI (CkR_cons (wkr (loose_lst fun _ => (lo_A46 _))) CkR_nil))⟩ (allL_c ⟨some _, rfl, BkR_c rfl (CkR_cons wkI (CkR_cons (wkr (loose_lst fun _ => (lo_A46 _))) CkR_nil))⟩ (allL_c ⟨some _, rfl, BkR_c rfl (CkR_cons wkI (CkR_cons (wkr (loose_lst fun _ => (lo_A46 _))) CkR_nil))⟩ allL_n))))
    refine hK2 ?_; clear hK1 hK2 K1 K2
    refine HT_exit ?_
    refine Then_e ?_
    refine Then_e ?_
    refine InBlock_e ?_
    replace h := W_xbk h
    replace h := W_inl h
    refine Then_n ?_
    refine HT_fr DC_ok rfl fun K hK => ?_; (conv => whnf)
    refine hK _ _ _ ?_; clear hK K
    refine HT_ret ?_
    replace h := W_some h
    refine PostP_r DC_ok fun K hK => ?_; (conv => whnf)
    refine hK _ ?_; clear hK K
    cases h
    exact Wk.refl _
  refine HT_f DC_ok rfl fun K hK => ?_; (conv => whnf)
  refine cond_lk h (fun _ h => ?_) (fun _ h => ?_) <;> (conv => whnf)
  · refine hK _ _ _ ?_; clear hK K
    refine Then_n ?_
    refine ⟨_, h, ?_⟩
    refine weak_k ?_; (conv => whnf)
    exact And.intro rfl (And.intro (allL_c (wkr (loose_bool _)) (allL_c wkI (allL_c wkI (allL_c (wkr (loose_bool _)) (allL_c (WkR.ptr (fun _ => rfl)) (allL_c (WkR.ptr (fun _ => rfl)) (allL_c (WkR.ptr (fun _ => rfl)) allL_n))))))) (allL_c ⟨some _, rfl, BkR_c rfl (CkR_cons wkI (CkR_cons (wkr (loose_lst fun _ => (lo_A46 _))) CkR_nil))⟩ (allL_c ⟨some _, rfl, BkR_c rfl (CkR_cons wkI (CkR_cons (wkr (loose_lst fun _ => (lo_A46 _))) CkR_nil))⟩ (allL_c ⟨some _, rfl, BkR_c rfl (CkR_cons wkI (CkR_cons (wkr (loose_lst fun _ => (lo_A46 _))) CkR_nil))⟩ allL_n))))
  refine cond_lk h (fun _ h => ?_) (fun _ h => ?_) <;> (conv => whnf)
  · refine hK _ _ _ ?_; clear hK K
    refine Then_n ?_
    refine ⟨_, h, ?_⟩
    refine weak_k ?_; (conv => whnf)
    exact And.intro rfl (And.intro (allL_c (wkr (loose_bool _)) (allL_c wkI (allL_c wkI (allL_c (wkr (loose_bool _)) (allL_c (WkR.ptr (fun _ => rfl)) (allL_c (WkR.ptr (fun _ => rfl)) (allL_c (WkR.ptr (fun _ => rfl)) allL_n))))))) (allL_c ⟨some _, rfl, BkR_c rfl (CkR_cons wkI (CkR_cons (wkr (loose_lst fun _ => (lo_A46 _))) CkR_nil))⟩ (allL_c ⟨some _, rfl, BkR_c rfl (CkR_cons wkI (CkR_cons (wkr (loose_lst fun _ => (lo_A46 _))) CkR_nil))⟩ (allL_c ⟨some _, rfl, BkR_c rfl (CkR_cons wkI (CkR_cons (wkr (loose_lst fun _ => (lo_A46 _))) CkR_nil))⟩ allL_n))))
  refine cond_lk h (fun _ h => ?_) (fun _ h => ?_) <;> (conv => whnf)
  · refine hK _ _ _ ?_; clear hK K
    refine Then_n ?_
    refine ⟨_, h, ?_⟩
    refine weak_k ?_; (conv => whnf)
    exact And.intro rfl (And.intro (allL_c (wkr (loose_bool _)) (allL_c wkI (allL_c wkI (allL_c (wkr (loose_bool _)) (allL_c (WkR.ptr (fun _ => rfl)) (allL_c (WkR.ptr (fun _ => rfl)) (allL_c (WkR.ptr (fun _ => rfl)) allL_n))))))) (allL_c ⟨some _, rfl, BkR_c rfl (CkR_cons wkI (CkR_cons (wkr (loose_lst fun _ => (lo_A46 _))) CkR_nil))⟩ (allL_c ⟨some _, rfl, BkR_c rfl (CkR_cons wkI (CkR_cons (wkr (loose_lst fun _ => (lo_A46 _))) CkR_nil))⟩ (allL_c ⟨some _, rfl, BkR_c rfl (CkR_cons wkI (CkR_cons (wkr (loose_lst fun _ => (lo_A46 _))) CkR_nil))⟩ allL_n))))
  refine cond_lk h (fun _ h => ?_) (fun _ h => ?_) <;> (conv => whnf)
  · refine hK _ _ _ ?_; clear hK K
    refine Then_n ?_
    refine ⟨_, h, ?_⟩
    refine weak_k ?_; (conv => whnf)
    exact And.intro rfl (And.intro (allL_c (wkr (loose_bool _)) (allL_c wkI (allL_c wkI (allL_c (wkr (loose_bool _)) (allL_c (WkR.ptr (fun _ => rfl)) (allL_c (WkR.ptr (fun _ => rfl)) (allL_c (WkR.ptr (fun _ => rfl)) allL_n))))))) (allL_c ⟨some _, rfl, BkR_c rfl (CkR_cons wkI (CkR_cons (wkr (loose_lst fun _ => (lo_A46 _))) CkR_nil))⟩ (allL_c ⟨some _, rfl, BkR_c rfl (CkR_cons wkI (CkR_cons (wkr (loose_lst fun _ => (lo_A46 _))) CkR_nil))⟩ (allL_c ⟨some _, rfl, BkR_c rfl (CkR_cons wkI (CkR_cons (wkr (loose_lst fun _ => (lo_A46 _))) CkR_nil))⟩ allL_n))))
  refine nlA rfl ?_; (conv => whnf)
  refine blkK_of rfl ?_; (conv => whnf)
  refine nlA rfl ?_; (conv => whnf)
  refine nlA rfl ?_; (conv => whnf)
  refine blkK_of rfl ?_; (conv => whnf)
  refine nlA rfl ?_; (conv => whnf)
  replace h := W_bd h
  refine ref07_Same_call h26 h (WkL.refl _) (fun _ h => ?_); (conv => whnf)
  refine cond_lk h (fun _ h => ?_) (fun _ h => ?_) <;> (conv => whnf)
  · refine hK _ _ _ ?_; clear hK K
    refine Then_n ?_
    refine ⟨_, h, ?_⟩
    refine weak_k ?_; (conv => whnf)
    exact And.intro rfl (And.intro (allL_c (wkr (loose_bool _)) (allL_c wkI (allL_c wkI (allL_c (wkr (loose_bool _)) (allL_c (WkR.ptr (fun _ => rfl)) (allL_c (WkR.ptr (fun _ => rfl)) (allL_c (WkR.ptr (fun _ => rfl)) allL_n))))))) (allL_c ⟨some _, rfl, BkR_c rfl (CkR_cons wkI (CkR_cons (wkr (loose_lst fun _ => (lo_A46 _))) CkR_nil))⟩ (allL_c ⟨some _, rfl, BkR_c rfl (CkR_cons wkI (CkR_cons (wkr (loose_lst fun _ => (lo_A46 _))) CkR_nil))⟩ (allL_c ⟨some _, rfl, BkR_c rfl (CkR_cons wkI (CkR_cons (wkr (loose_lst fun _ => (lo_A46 _))) CkR_nil))⟩ allL_n))))
  refine nlA rfl ?_; (conv => whnf)
  refine blkK_of rfl ?_; (conv => whnf)
  refine nlA rfl ?_; (conv => whnf)
  refine nlA rfl ?_; (conv => whnf)
  refine blkK_of rfl ?_; (conv => whnf)
  refine nlA rfl ?_; (conv => whnf)
  replace h := W_bd h
  refine ref07_Same_call h26 h (WkL.refl _) (fun _ h => ?_); (conv => whnf)
  refine cond_lk h (fun _ h => ?_) (fun _ h => ?_) <;> (conv => whnf)
  · refine hK _ _ _ ?_; clear hK K
    refine Then_n ?_
    refine ⟨_, h, ?_⟩
    refine weak_k ?_; (conv => whnf)
    exact And.intro rfl (And.intro (allL_c (wkr (loose_bool _)) (allL_c wkI (allL_c wkI (allL_c (wkr (loose_bool _)) (allL_c (WkR.ptr (fun _ => rfl)) (allL_c (WkR.ptr (fun _ => rfl)) (allL_c (WkR.ptr (fun _ => rfl)) allL_n))))))) (allL_c ⟨some _, rfl, BkR_c rfl (CkR_cons wkI (CkR_cons (wkr (loose_lst fun _ => (lo_A46 _))) CkR_nil))⟩ (allL_c ⟨some _, rfl, BkR_c rfl (CkR_cons wkI (CkR_cons (wkr (loose_lst fun _ => (lo_A46 _))) CkR_nil))⟩ (allL_c ⟨some _, rfl, BkR_c rfl (CkR_cons wkI (CkR_cons (wkr (loose_lst fun _ => (lo_A46 _))) CkR_nil))⟩ allL_n))))
  refine nlA rfl ?_; (conv => whnf)
  refine blkK_of rfl ?_; (conv => whnf)
  refine getK_of rfl ?_; (conv => whnf)
  refine nlA rfl ?_; (conv => whnf)
  refine blkK_of rfl ?_; (conv => whnf)
  refine getK_of rfl ?_; (conv => whnf)
  refine hK _ _ _ ?_; clear hK K
  refine Then_n ?_
  refine ⟨_, h, ?_⟩
  refine weak_k ?_; (conv => whnf)
  exact And.intro rfl (And.intro (allL_c (wkr (loose_bool _)) (allL_c wkI (allL_c wkI (allL_c (wkr (loose_bool _)) (allL_c (WkR.ptr (fun _ => rfl)) (allL_c (WkR.ptr (fun _ => rfl)) (allL_c (WkR.ptr (fun _ => rfl)) allL_n))))))) (allL_c ⟨some _, rfl, BkR_c rfl (CkR_cons wkI (CkR_cons (wkr (loose_lst fun _ => (lo_A46 _))) CkR_nil))⟩ (allL_c ⟨some _, rfl, BkR_c rfl (CkR_cons wkI (CkR_cons (wkr (loose_lst fun _ => (lo_A46 _))) CkR_nil))⟩ (allL_c ⟨some _, rfl, BkR_c rfl (CkR_cons wkI (CkR_cons (wkr (loose_lst fun _ => (lo_A46 _))) CkR_nil))⟩ allL_n))))
end Go.Proofs.YtlmboonbfhkfnaaDoor
namespace Go.Proofs.YtlmboonbfhkfnaaDoor
open Go Go.Eng
set_option maxRecDepth 100000
theorem OV.of {o : TOrder} {n : Nat} {q : Nat → Nat → Bool} (hf : Fm o) (hN : o.N = (n : Int)) (hq : ∀ a b, q a b = true ↔ Rc o.Pairs a b) (ir : ∀ a, q a a = false) : ∃ t, OV o n t q := by
  rcases read_ok o (by have := hf.len; omega) with ⟨_, n', t, r', h⟩ | ⟨hno, _⟩
  · have e1 : n' = n := by have := h.N; omega
    have e2 : r' = q := by
      funext a b
      rw [Bool.eq_iff_iff, h.rc, hq]
    subst e1 e2
    exact ⟨t, h⟩
  · exact absurd ⟨hf, fun a g => by rw [← hq, ir] at g; cases g⟩ hno
theorem pairsP_nodup (k n : Nat) (r : Nat → Nat → Bool) : (pairsP k n r).Nodup := by
  unfold pairsP
  refine List.pairwise_flatMap.2 ⟨fun a _ => ?_, ?_⟩
  · unfold rowP
    refine List.pairwise_map.2 ?_
    refine ((List.nodup_range (n := n)).filter _).imp fun h q => ?_
    rw [Prod.mk.injEq] at q
    exact h (by omega)
  · refine (List.nodup_range (n := k)).imp fun h x hx y hy q => ?_
    subst q
    unfold rowP at hx hy
    obtain ⟨_, _, rfl⟩ := List.mem_map.1 hx
    obtain ⟨_, _, e⟩ := List.mem_map.1 hy
    rw [Prod.mk.injEq] at e
    exact h (by omega)
theorem OV.cv_mem {o : TOrder} {n : Nat} {t : Ar 8} {r : Nat → Nat → Bool} (h : OV o n t r) {P : List (Int × Int)} (hP : ∀ x y : Nat, ((x : Int), (y : Int)) ∈ P → r x y = true) {a b : Nat} (hc : cv n r a b = true) (g : Rc P a b) : ((a : Int), (b : Int)) ∈ P := by
  have key := g (fun x y => ((x : Int), (y : Int)) ∈ P ∨ ∃ k, r x k = true ∧ r k y = true) (fun x y hxy => .inl hxy) (fun x y z g1 g2 => by
    have r1 : r x y = true := by
      rcases g1 with g1 | ⟨k, k1, k2⟩
      · exact hP x y g1
      · exact h.tr _ _ _ k1 k2
    have r2 : r y z = true := by
      rcases g2 with g2 | ⟨k, k1, k2⟩
      · exact hP y z g2
      · exact h.tr _ _ _ k1 k2
    exact .inr ⟨y, r1, r2⟩)
  rcases key with key | ⟨k, k1, k2⟩
  · exact key
  · exact absurd ⟨k1, k2⟩ ((cv_iff.1 hc).2 k (h.lt _ _ k1).2)
theorem beq_pair (x y : Int × Int) : ((x.1 == y.1) && (x.2 == y.2)) = decide (x = y) := by
  rw [Bool.eq_iff_iff, Bool.and_eq_true, beq_iff_eq, beq_iff_eq, decide_eq_true_eq, Prod.ext_iff]
theorem plain5 (a0 : Int) (a1 : List (Int × Int)) (a2 a3 a4 : Int) (o0 : okI a0) (o1 : okL okA46 a1) (o2 : okI a2) (o3 : okI a3) (o4 : okI a4) : law07_OrderReduces_F a0 a1 a2 a3 a4 = some true := by
  obtain ⟨o, n, t, r, e0, h, hol⟩ := made_ok a0 a1 a2 o0 o1 o2
  have n8 := h.n8
  have hN := h.N
  have cl := h.cv_27
  have pl : (pairsP n n r).length ≤ 28 := pairs_28 n8 h.ir fun a b => h.asy
  obtain ⟨a, al, e3⟩ := pick_n a3 (n := 8) o3 (by omega)
  obtain ⟨b, bl, e4⟩ := pick_n a4 (n := 8) o4 (by omega)
  obtain ⟨t1, hR⟩ := OV.of (o := ⟨(n : Int), pairsP n n (cv n r)⟩) ⟨by simp only; omega, by simp only; omega, pairsP_v h.cvi⟩ rfl (fun a b => (h.cv_gen a b).symm) h.ir
  obtain ⟨t2, hC⟩ := OV.of (o := ⟨(n : Int), pairsP n n r⟩) ⟨by simp only; omega, by simp only; omega, pairsP_v h.ir⟩ rfl (fun a b => (h.cl_gen a b).symm) h.ir
  unfold law07_OrderReduces_F
  rw [sane_ok, bd_s, cn_not, cn_t, e0, bd_s, Close_ok h, bd_s, Reduce_ok h, bd_s]
  simp only
  rw [Close_ok hR, bd_s, Reduce_ok hC, bd_s]
  simp only [jn_d, show ((0 : Int) != 0) = false from rfl, cn_f]
  rw [Same_ok _ _ (by simp only; omega), bd_s, Same_ok _ _ (by simp only; omega), bd_s, decide_eq_true rfl, decide_eq_true rfl, hN]
  simp only [Bool.not_true, cn_f]
  rw [show ((n : Int) != (n : Int)) = false from by simp, cn_f, show (8 : Int) = ((8 : Nat) : Int) from rfl, e3, bd_s, e4, bd_s]
  obtain ⟨s, e, h1, h2⟩ := lp_fold (body := law07_OrderReduces_b1 ((⟨(n : Int), pairsP n n r⟩ : TOrder), 0) (a : Int) (b : Int)) (fun k s => s.2 = (k : Int) ∧ s.1 = decide (((a : Int), (b : Int)) ∈ (pairsP n n r).take k)) (pairsP n n r).length (by omega)
    (fun k s hk ⟨hs, hq⟩ => by
      obtain ⟨l, i⟩ := s
      simp only at hs hq
      subst hs hq
      unfold law07_OrderReduces_b1
      simp only [jn_d, cn_dec]
      rw [if_pos (by omega), wr_id (by omega) (by omega), ix_n hk]
      have ts := take_getD hk
      by_cases c : ((a : Int), (b : Int)) ∈ (pairsP n n r).take k
      · rw [if_pos c]
        exact ⟨_, rfl, by simp only; omega, by rw [ts, decide_eq_true (List.mem_append_left _ c)]⟩
      · rw [if_neg c]
        refine ⟨_, rfl, by simp only; omega, ?_⟩
        simp only
        have := beq_pair ((pairsP n n r).getD k default) ((a : Int), (b : Int))
        simp only at this
        rw [this, ts, Bool.eq_iff_iff, decide_eq_true_eq, decide_eq_true_eq, List.mem_append, List.mem_singleton]
        exact ⟨fun q => .inr q.symm, fun q => q.elim (fun q => absurd q c) fun q => q.symm⟩) (fun s ⟨hs, _⟩ => by
      unfold law07_OrderReduces_b1
      simp only [cn_dec]
      rw [if_neg (by omega)]) (false, 0) ⟨rfl, by simp⟩
  rw [e, bd_s, smK_l, Before_n h, bd_s, h2, List.take_length]
  have hb : decide (((a : Int), (b : Int)) ∈ pairsP n n r) = r a b := by
    rw [Bool.eq_iff_iff, decide_eq_true_eq, mem_pairsP_n]
    exact ⟨fun q => q.2.2, fun q => ⟨(h.lt _ _ q).1, (h.lt _ _ q).2, q⟩⟩
  rw [hb, beq_self_eq_true, Bool.not_true, cn_f]
  rcases lp_scan (body := law07_OrderReduces_b2 o ((⟨(n : Int), pairsP n n r⟩ : TOrder), 0) ((⟨(n : Int), pairsP n n (cv n r)⟩ : TOrder), 0)) 0 (pairsP n n (cv n r)).length (Nat.zero_le _) (by omega) (fun _ => false) (fun _ => true)
    (fun k _ hk _ => by
      obtain ⟨x, y, hx, hy, hc, hxy⟩ := mem_pairsP.1 (getD_memD hk)
      have hmem : ((x : Int), (y : Int)) ∈ o.Pairs := h.cv_mem (fun u v g => (h.rc u v).2 (Rc_p g)) hc ((h.rc x y).1 (cv_iff.1 hc).1)
      obtain ⟨si, ei, hi1, hi2⟩ := lp_fold (body := law07_OrderReduces_b3 (k : Int) o ((⟨(n : Int), pairsP n n (cv n r)⟩ : TOrder), 0)) (fun k s => s.2 = (k : Int) ∧ s.1 = decide (((x : Int), (y : Int)) ∈ o.Pairs.take k)) o.Pairs.length (by omega)
        (fun j s hj ⟨hs, hq⟩ => by
          obtain ⟨l, i⟩ := s
          simp only at hs hq
          subst hs hq
          unfold law07_OrderReduces_b3
          simp only [jn_d, cn_dec]
          rw [if_pos (by omega), wr_id (by omega) (by omega), ix_n hj, ix_n hk, hxy]
          have ts := take_getD hj
          by_cases c : ((x : Int), (y : Int)) ∈ o.Pairs.take j
          · rw [if_pos c]
            exact ⟨_, rfl, by simp only; omega, by rw [ts, decide_eq_true (List.mem_append_left _ c)]⟩
          · rw [if_neg c]
            refine ⟨_, rfl, by simp only; omega, ?_⟩
            simp only
            have := beq_pair (o.Pairs.getD j default) ((x : Int), (y : Int))
            simp only at this
            rw [this, ts, Bool.eq_iff_iff, decide_eq_true_eq, decide_eq_true_eq, List.mem_append, List.mem_singleton]
            exact ⟨fun q => .inr q.symm, fun q => q.elim (fun q => absurd q c) fun q => q.symm⟩) (fun s ⟨hs, _⟩ => by
          unfold law07_OrderReduces_b3
          simp only [cn_dec]
          rw [if_neg (by omega)]) (false, 0) ⟨rfl, by simp⟩
      rw [List.take_length, decide_eq_true hmem] at hi2
      have hsplit : pairsP n n (cv n r) = (pairsP n n (cv n r)).take k ++ ((x : Int), (y : Int)) :: (pairsP n n (cv n r)).drop (k + 1) := by
        rw [← hxy, getD_ltD hk, ← List.drop_eq_getElem_cons hk, List.take_append_drop]
      have hnd := pairsP_nodup n n (cv n r)
      generalize hA : (pairsP n n (cv n r)).take k = A at hsplit
      generalize hB : (pairsP n n (cv n r)).drop (k + 1) = B at hsplit
      have hnot : ((x : Int), (y : Int)) ∉ A ++ B := by
        rw [hsplit] at hnd
        have := (List.perm_middle.nodup_iff).1 hnd
        exact (List.nodup_cons.1 this).1
      have hsub : ∀ p ∈ A ++ B, p ∈ pairsP n n (cv n r) := fun p hp => by
        rw [hsplit]
        rcases List.mem_append.1 hp with hp | hp
        · exact List.mem_append_left _ hp
        · exact List.mem_append_right _ (List.mem_cons_of_mem _ hp)
      have hl : (A ++ B).length + 1 = (pairsP n n (cv n r)).length := by rw [hsplit]; simp only [List.length_append, List.length_cons]; omega
      have hPr : ∀ u v : Nat, ((u : Int), (v : Int)) ∈ A ++ B → r u v = true := fun u v g => (cv_iff.1 (mem_pairsP_n.1 (hsub _ g)).2.2).1
      have hfm : Fm ⟨(n : Int), A ++ B⟩ := ⟨by simp only; omega, by simp only; omega, fun p hp => pairsP_v h.cvi p (hsub p hp)⟩
      have hRr : ∀ u v : Nat, Rc (A ++ B) u v → r u v = true := fun u v g => g (fun u v => r u v = true) hPr fun _ _ _ => h.tr _ _ _
      unfold law07_OrderReduces_b2
      simp only [jn_d, cn_dec]
      rw [if_pos (by omega), ei, bd_s, smK_l, lt_d, slc_p (by omega) (by omega) (by omega), sub_take, hA, ap_p (by simp only [List.length_nil]; have := congrArg List.length hA; simp only [List.length_take] at this; omega), List.nil_append, wr_id (by omega) (by omega), slc_p (by omega) (by omega) (by omega), show (k : Int) + 1 = ((k + 1 : Nat) : Int) by omega, sub_drop, hB, ap_p (by rw [← List.length_append]; omega)]
      rcases read_ok ⟨(n : Int), A ++ B⟩ (by simp only; omega) with ⟨_, n', t', r', hv⟩ | ⟨hno, _⟩
      · have hn' : n' = n := by have := hv.N; simp only at this; omega
        subst hn'
        have hne : ¬((⟨(n' : Int), pairsP n' n' r'⟩ : TOrder) = ⟨(n' : Int), pairsP n' n' r⟩) := fun q => by
          have q2 : pairsP n' n' r' = pairsP n' n' r := congrArg TOrder.Pairs q
          have m1 : ((x : Int), (y : Int)) ∈ pairsP n' n' r := mem_pairsP_n.2 ⟨hx, hy, (cv_iff.1 hc).1⟩
          rw [← q2] at m1
          exact hnot (h.cv_mem hPr hc ((hv.rc x y).1 (mem_pairsP_n.1 m1).2.2))
        rw [Close_ok hv, bd_s, Same_ok _ _ (by simp only; have := pairs_28 hv.n8 hv.ir fun a b => hv.asy; omega), bd_s, decide_eq_false hne, hi2, Bool.not_true, cn_f, show ((0 : Int) != 0) = false from rfl, cn_f, cn_f]
        rfl
      · exact absurd ⟨hfm, fun u g => by
          have := hRr u u g
          rw [h.ir] at this; cases this⟩ hno) (by
      unfold law07_OrderReduces_b2
      simp only [cn_dec]
      rw [if_neg (by omega)]) with ⟨_, e5⟩ | ⟨_, _, _, h3, _⟩
  · have e6 : lp (law07_OrderReduces_b2 o ((⟨(n : Int), pairsP n n r⟩ : TOrder), 0) ((⟨(n : Int), pairsP n n (cv n r)⟩ : TOrder), 0)) FU 0 = _ := e5
    rw [e6, bd_s, smK_l]
  · cases h3
end Go.Proofs.YtlmboonbfhkfnaaDoor
