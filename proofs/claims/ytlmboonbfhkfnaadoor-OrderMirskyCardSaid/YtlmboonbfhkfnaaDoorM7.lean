import Derived.Test.YtlmboonbfhkfnaaDoorM5
import Derived.Test.YtlmboonbfhkfnaaDoorM6
set_option linter.unusedVariables false
set_option linter.unusedSimpArgs false
set_option linter.unusedSectionVars false
namespace Go.Proofs.YtlmboonbfhkfnaaDoor
open Go Go.Eng
set_option maxHeartbeats 0
set_option maxRecDepth 100000

    def law07_OrderMirsky_b5 (s43 : (List Int) × Int) (y2 : TOrder) (s45 : Bool × Int) : Option (Ct (Bool × Int) Bool) := cn (decide (s45.2 < (s43.1.length : Int))) (jn (fun p46 : Bool =>
    some (.nx (p46, (wr (s45.2 + 1))))) fun k47 => cn s45.1 (ix s43.1 default (wr (s45.2 - 1)) fun e48 => ix s43.1 default s45.2 fun e49 => bd (order_Before_F y2 e48 e49) fun y50 =>
    k47 y50) (k47 false)) (some (.bk (s45.1, s45.2)))
theorem W_blaw07_OrderMirsky_b5 {s43 : (List Int) × Int} {y2 : TOrder} {s45 : Bool × Int} {Φ : Ct (Bool × Int) Bool → Prop} (h : W (law07_OrderMirsky_b5 s43 y2 s45) Φ) : W (cn (decide (s45.2 < (s43.1.length : Int))) (jn (fun p46 : Bool => some (.nx (p46, (wr (s45.2 + 1))))) fun k47 => cn s45.1 (ix s43.1 default (wr (s45.2 - 1)) fun e48 =>
    ix s43.1 default s45.2 fun e49 => bd (order_Before_F y2 e48 e49) fun y50 => k47 y50) (k47 false)) (some (.bk (s45.1, s45.2)))) Φ := h

    def law07_OrderMirsky_b4 (y5 : (List Int) × Int) (y34 : Int) (s35 : (List Int) × Int) : Option (Ct ((List Int) × Int) Bool) := cn (decide (s35.2 < (y5.1.length : Int))) (ix y5.1 default s35.2 fun e36 =>
    gd (0 ≤ e36) (jn (fun p37 : (List Int) => some (.nx (p37, (wr (s35.2 + 1))))) fun k38 => cn ((Int.tmod (bshr .i64 y34 e36) 2) == 1) (ix y5.1 default s35.2 fun e39 =>
    lt ([e39] : List Int) fun l40 => ap s35.1 l40 fun l41 => k38 l41) (k38 s35.1))) (some (.bk (s35.1, s35.2)))
theorem W_blaw07_OrderMirsky_b4 {y5 : (List Int) × Int} {y34 : Int} {s35 : (List Int) × Int} {Φ : Ct ((List Int) × Int) Bool → Prop} (h : W (law07_OrderMirsky_b4 y5 y34 s35) Φ) : W (cn (decide (s35.2 < (y5.1.length : Int))) (ix y5.1 default s35.2 fun e36 => gd (0 ≤ e36) (jn (fun p37 : (List Int) => some (.nx (p37, (wr (s35.2 + 1))))) fun k38 =>
    cn ((Int.tmod (bshr .i64 y34 e36) 2) == 1) (ix y5.1 default s35.2 fun e39 => lt ([e39] : List Int) fun l40 => ap s35.1 l40 fun l41 =>
    k38 l41) (k38 s35.1))) (some (.bk (s35.1, s35.2)))) Φ := h

    def law07_OrderMirsky_b3 (y2 : TOrder) (y4 : (List Int) × Int) (s27 : Int) : Option (Ct Int Bool) := cn (decide (s27 < (y4.1.length : Int))) (ix y4.1 default (wr (s27 - 1)) fun e28 =>
    ix y4.1 default s27 fun e29 => bd (order_Before_F y2 e28 e29) fun y30 => cn (!y30) (some (.rt false)) (some (.nx (wr (s27 + 1))))) (some (.bk s27))
theorem W_blaw07_OrderMirsky_b3 {y2 : TOrder} {y4 : (List Int) × Int} {s27 : Int} {Φ : Ct Int Bool → Prop} (h : W (law07_OrderMirsky_b3 y2 y4 s27) Φ) : W (cn (decide (s27 < (y4.1.length : Int))) (ix y4.1 default (wr (s27 - 1)) fun e28 => ix y4.1 default s27 fun e29 => bd (order_Before_F y2 e28 e29) fun y30 =>
    cn (!y30) (some (.rt false)) (some (.nx (wr (s27 + 1))))) (some (.bk s27))) Φ := h

    def law07_OrderMirsky_b2 (s8 : Int × Int) (y2 : TOrder) (y3 : (List Int) × Int) (s11 : Bool × Int) : Option (Ct (Bool × Int) Bool) := cn (decide (s11.2 < y2.N)) (jn (fun p12 : Bool =>
    some (.nx (p12, (wr (s11.2 + 1))))) fun k13 => bd (order_Before_F y2 s11.2 s8.2) fun y14 => cn (!y14) (k13 s11.1) (ix y3.1 default s11.2 fun e15 =>
    ix y3.1 default s8.2 fun e16 => cn (decide (e15 ≥ e16)) (some (.rt false)) (jn (fun p17 : Bool => k13 p17) fun k18 => cn s11.1 (k18 true) (ix y3.1 default s11.2 fun e19 =>
    ix y3.1 default s8.2 fun e20 => k18 (e19 == (wr (e20 - 1))))))) (some (.bk (s11.1, s11.2)))
theorem W_blaw07_OrderMirsky_b2 {s8 : Int × Int} {y2 : TOrder} {y3 : (List Int) × Int} {s11 : Bool × Int} {Φ : Ct (Bool × Int) Bool → Prop} (h : W (law07_OrderMirsky_b2 s8 y2 y3 s11) Φ) : W (cn (decide (s11.2 < y2.N)) (jn (fun p12 : Bool => some (.nx (p12, (wr (s11.2 + 1))))) fun k13 => bd (order_Before_F y2 s11.2 s8.2) fun y14 =>
    cn (!y14) (k13 s11.1) (ix y3.1 default s11.2 fun e15 => ix y3.1 default s8.2 fun e16 => cn (decide (e15 ≥ e16)) (some (.rt false)) (jn (fun p17 : Bool => k13 p17) fun k18 =>
    cn s11.1 (k18 true) (ix y3.1 default s11.2 fun e19 => ix y3.1 default s8.2 fun e20 => k18 (e19 == (wr (e20 - 1))))))) (some (.bk (s11.1, s11.2)))) Φ := h
def law07_OrderMirsky_b1 (y2 : TOrder) (y3 : (List Int) × Int) (s8 : Int × Int) : Option (Ct (Int × Int) Bool) := cn (decide (s8.2 < y2.N)) (ix y3.1 default s8.2 fun e9 =>
    ix y3.1 default s8.2 fun e10 => bd (lp (law07_OrderMirsky_b2 s8 y2 y3) FU ((e10 == 0), 0)) fun c21 => smK c21 (fun s22 =>
    cn (!s22.1) (some (.rt false)) (some (.nx ((imax s8.1 e9), (wr (s8.2 + 1)))))) (fun r23 => some (.rt r23))) (some (.bk (s8.1, s8.2)))
theorem W_blaw07_OrderMirsky_b1 {y2 : TOrder} {y3 : (List Int) × Int} {s8 : Int × Int} {Φ : Ct (Int × Int) Bool → Prop} (h : W (law07_OrderMirsky_b1 y2 y3 s8) Φ) : W (cn (decide (s8.2 < y2.N)) (ix y3.1 default s8.2 fun e9 => ix y3.1 default s8.2 fun e10 => bd (lp (law07_OrderMirsky_b2 s8 y2 y3) FU ((e10 == 0), 0)) fun c21 => smK c21 (fun s22 =>
    cn (!s22.1) (some (.rt false)) (some (.nx ((imax s8.1 e9), (wr (s8.2 + 1)))))) (fun r23 => some (.rt r23))) (some (.bk (s8.1, s8.2)))) Φ := h
def law07_OrderMirsky_F (a0 : Int) (a1 : List (Int × Int)) (a2 : Int) (a3 : Int) : Option Bool := bd (law07_sane_F ) fun y1 =>
    cn (!y1) (some false) (bd (ref07_Made_F a0 a1 a2) fun y2 => bd (order_Levels_F y2) fun y3 => bd (order_Chain_F y2) fun y4 => bd (order_Line_F y2) fun y5 => jn (fun p6 : Bool =>
    cn p6 (some false) (bd (lp (law07_OrderMirsky_b1 y2 y3) FU ((-1), 0)) fun c24 => smK c24 (fun s25 => bd (lp (law07_OrderMirsky_b3 y2 y4) FU 1) fun c31 => smK c31 (fun s32 =>
    bd (law07_pick_F a3 256) fun y34 => bd (lp (law07_OrderMirsky_b4 y5 y34) FU ([], 0)) fun c42 => smK c42 (fun s43 => bd (lp (law07_OrderMirsky_b5 s43 y2) FU (true, 1)) fun c51 =>
    smK c51 (fun s52 => jn (fun p54 : Bool => some p54) fun k55 => cn ((y4.1.length : Int) ==
    (wr (s25.1 + 1))) (cn (!s52.1) (k55 true) (let v56 := (decide ((s43.1.length : Int) ≤ (y4.1.length : Int))); k55 v56)) (k55 false)) (fun r53 => some r53)) (fun r44 =>
    some r44)) (fun r33 => some r33)) (fun r26 => some r26))) fun k7 => cn (y3.2 != 0) (k7 true) (cn (y4.2 != 0) (k7 true) (cn (y5.2 != 0) (k7 true) (cn ((y3.1.length : Int) !=
    y2.N) (k7 true) (k7 ((y5.1.length : Int) != y2.N))))))
def law07_OrderMirsky_S : List AV → AV → Prop := fun args r => ∃ a0 a1 a2 a3, args = [eI a0, (eL 2 eA46 default) a1, eI a2, eI a3] ∧ W (law07_OrderMirsky_F a0 a1 a2 a3) fun y => r = (eB y)
theorem law07_OrderMirsky_ok {T : Tbl} (hT : TOk Tryd.prog T) (hpf : PfOk T PF) (h11 : T 11 = pureR law07_sane_S) (h12 : T 12 = pureR ref07_Made_S) (h13 : T 13 = pureR law07_pick_S) (h19 : T 19 = pureR order_Line_S) (h27 : T 27 = pureR order_Before_S) (h28 : T 28 = pureR order_Levels_S) (h29 : T 29 = pureR order_Chain_S) : FOk Tryd.prog 6 (pureR law07_OrderMirsky_S) := by
  refine FOk_pure hT hpf Tryd.func6 rfl Tryd.ntmps6 Tryd.results6 (by decide) ?_
  rintro args r ⟨a0, a1, a2, a3, rfl, h⟩
  refine ⟨nle rfl, ?_, ?_⟩
  · exact (loose_cons (loose_int _ _) (loose_cons (loose_lst fun _ => (lo_A46 _)) (loose_cons (loose_int _ _) (loose_cons (loose_int _ _) loose_nil))))
  rw [law07_OrderMirsky_F.eq_1] at h
  refine HT_fr DC_ok rfl fun K hK => ?_; (conv => whnf)
  refine hK _ _ _ ?_; clear hK K
  refine HT_fr DC_ok rfl fun K hK => ?_; (conv => whnf)
  replace h := W_bd h
  refine law07_sane_call h11 h (WkL.refl _) (fun _ h => ?_); (conv => whnf)
  refine hK _ _ _ ?_; clear hK K
  refine HT_seq ?_
  refine HT_fr DC_ok rfl fun K hK => ?_; (conv => whnf)
  refine hK _ _ _ ?_; clear hK K
  refine HT_if fun K1 K2 hK1 hK2 => ?_; (conv => whnf)
  refine cond_lk h (fun _ h => ?_) (fun _ h => ?_)
  · refine hK1 ?_; clear hK1 hK2 K1 K2
    refine HT_fr DC_ok rfl fun K hK => ?_; (conv => whnf)
    refine hK _ _ _ ?_; clear hK K
    refine HT_ret ?_
    refine Then_r ?_
    replace h := W_some h
    refine PostP_r DC_ok fun K hK => ?_; (conv => whnf)
    refine hK _ ?_; clear hK K
    cases h
    exact Wk.refl _
  refine hK2 ?_; clear hK1 hK2 K1 K2
  refine HT_skip ?_
  refine Then_n ?_
  refine HT_fr DC_ok rfl fun K hK => ?_; (conv => whnf)
  replace h := W_bd h
  refine ref07_Made_call h12 h (WkL.refl _) (fun _ h => ?_); (conv => whnf)
  refine blkK_of rfl ?_; (conv => whnf)
  refine And.intro rfl (And.intro (nle rfl) (And.intro rfl ?_)); (conv => whnf)
  refine hK _ _ _ ?_; clear hK K
  refine HT_fr DC_ok rfl fun K hK => ?_; (conv => whnf)
  refine nlA rfl ?_; (conv => whnf)
  refine blkK_of rfl ?_; (conv => whnf)
  refine nlA rfl ?_; (conv => whnf)
  replace h := W_bd h
  refine order_Levels_call h28 h (WkL.refl _) (fun _ h => ?_); (conv => whnf)
  refine hK _ _ _ ?_; clear hK K
  refine HT_fr DC_ok rfl fun K hK => ?_; (conv => whnf)
  refine nlA rfl ?_; (conv => whnf)
  refine blkK_of rfl ?_; (conv => whnf)
  refine nlA rfl ?_; (conv => whnf)
  replace h := W_bd h
  refine order_Chain_call h29 h (WkL.refl _) (fun _ h => ?_); (conv => whnf)
  refine hK _ _ _ ?_; clear hK K
  refine HT_fr DC_ok rfl fun K hK => ?_; (conv => whnf)
  refine nlA rfl ?_; (conv => whnf)
  refine blkK_of rfl ?_; (conv => whnf)
  refine nlA rfl ?_; (conv => whnf)
  replace h := W_bd h
  refine order_Line_call h19 h (WkL.refl _) (fun _ h => ?_); (conv => whnf)
  refine hK _ _ _ ?_; clear hK K
  refine HT_seq ?_
  refine HT_jnK rfl h [3, 10, 11, 13, 15] [10] [] (fun kl kh ids b s => ⟨ofL ([(72, eB s)] ++ kl), ofH ([] ++ kh), b + 64⟩) ?_; (conv => whnf); refine And.intro (fun s h => HT_st ?_) (fun k h => ?_)
  · refine HT_if fun K1 K2 hK1 hK2 => ?_; (conv => whnf)
    refine cond_lk h (fun _ h => ?_) (fun _ h => ?_)
    · refine hK1 ?_; clear hK1 hK2 K1 K2
      refine HT_fr DC_ok rfl fun K hK => ?_; (conv => whnf)
      refine hK _ _ _ ?_; clear hK K
      refine HT_ret ?_
      refine Then_r ?_
      replace h := W_some h
      refine PostP_r DC_ok fun K hK => ?_; (conv => whnf)
      refine hK _ ?_; clear hK K
      cases h
      exact Wk.refl _
    refine hK2 ?_; clear hK1 hK2 K1 K2
    refine HT_skip ?_
    refine Then_n ?_
    refine HT_fr DC_ok rfl fun K hK => ?_; (conv => whnf)
    refine hK _ _ _ ?_; clear hK K
    refine HT_seq ?_
    refine HT_fr DC_ok rfl fun K hK => ?_; (conv => whnf)
    refine hK _ _ _ ?_; clear hK K
    refine HT_block ?_
    replace h := W_bd h
    refine HT_lpK (body := law07_OrderMirsky_b1 _ _) rfl h [3, 10, 11, 13, 15] [10] [] (fun kl kh ids b s => ⟨ofL ([(17, eI s.1), (18, eI s.2)] ++ kl), ofH ([] ++ kh), b + 64⟩) ?_; (conv => whnf); refine And.intro ?_ (fun s m h => HT_st ?_)
    · refine weak_k ?_; (conv => whnf)
      exact And.intro rfl (And.intro (allL_c wkI (allL_c wkI (allL_c wkI (allL_c (WkR.ptr (fun _ => rfl)) (allL_c (wkr (loose_lst fun _ => (loose_int _ _))) (allL_c (wkr (loose_lst fun _ => (loose_int _ _))) (allL_c (wkr (loose_lst fun _ => (loose_int _ _))) allL_n))))))) (allL_c ⟨some _, rfl, BkR_c rfl (CkR_cons wkI (CkR_cons (wkr (loose_lst fun _ => (lo_A46 _))) CkR_nil))⟩ allL_n))
    replace h := W_blaw07_OrderMirsky_b1 (W_bd h)
    refine HT_seq ?_
    refine HT_fr DC_ok rfl fun K hK => ?_; (conv => whnf)
    refine nlA rfl ?_; (conv => whnf)
    refine blkK_of rfl ?_; (conv => whnf)
    refine getK_of rfl ?_; (conv => whnf)
    refine hK _ _ _ ?_; clear hK K
    refine HT_if fun K1 K2 hK1 hK2 => ?_; (conv => whnf)
    refine cond_lk h (fun _ h => ?_) (fun _ h => ?_)
    · refine hK1 ?_; clear hK1 hK2 K1 K2
      refine HT_skip ?_
      refine Then_n ?_
      refine HT_seq ?_
      refine HT_block ?_
      refine HT_fr DC_ok rfl fun K hK => ?_; (conv => whnf)
      refine ix_lk h fun _ h => ?_; (conv => whnf)
      refine getK_of rfl ?_; (conv => whnf)
      refine hK _ _ _ ?_; clear hK K
      refine HT_fr DC_ok rfl fun K hK => ?_; (conv => whnf)
      refine ix_lk h fun _ h => ?_; (conv => whnf)
      refine getK_of rfl ?_; (conv => whnf)
      refine hK _ _ _ ?_; clear hK K
      refine HT_seq ?_
      refine HT_fr DC_ok rfl fun K hK => ?_; (conv => whnf)
      refine hK _ _ _ ?_; clear hK K
      refine HT_block ?_
      replace h := W_bd h
      refine HT_lpK (body := law07_OrderMirsky_b2 _ _ _) rfl h [3, 10, 11, 13, 15, 17, 18] [10] [] (fun kl kh ids b s => ⟨ofL ([(19, eB s.1), (20, eI s.2)] ++ kl), ofH ([] ++ kh), b + 64⟩) ?_; (conv => whnf); refine And.intro ?_ (fun s m h => HT_st ?_)
      · refine weak_k ?_; (conv => whnf)
        exact And.intro rfl (And.intro (allL_c (wkr (loose_bool _)) (allL_c wkI (allL_c wkI (allL_c (WkR.ptr (fun _ => rfl)) (allL_c (wkr (loose_lst fun _ => (loose_int _ _))) (allL_c (wkr (loose_lst fun _ => (loose_int _ _))) (allL_c (wkr (loose_lst fun _ => (loose_int _ _))) (allL_c wkI (allL_c wkI allL_n))))))))) (allL_c ⟨some _, rfl, BkR_c rfl (CkR_cons wkI (CkR_cons (wkr (loose_lst fun _ => (lo_A46 _))) CkR_nil))⟩ allL_n))
      replace h := W_blaw07_OrderMirsky_b2 (W_bd h)
      refine HT_seq ?_
      refine HT_fr DC_ok rfl fun K hK => ?_; (conv => whnf)
      refine nlA rfl ?_; (conv => whnf)
      refine blkK_of rfl ?_; (conv => whnf)
      refine getK_of rfl ?_; (conv => whnf)
      refine hK _ _ _ ?_; clear hK K
      refine HT_if fun K1 K2 hK1 hK2 => ?_; (conv => whnf)
      refine cond_lk h (fun _ h => ?_) (fun _ h => ?_)
      · refine hK1 ?_; clear hK1 hK2 K1 K2
        refine HT_skip ?_
        refine Then_n ?_
        refine HT_seq ?_
        replace h := W_jn h
        refine HT_block ?_
        refine HT_seq ?_
        refine HT_fr DC_ok rfl fun K hK => ?_; (conv => whnf)
        refine nlA rfl ?_; (conv => whnf)
        refine blkK_of rfl ?_; (conv => whnf)
        refine nlA rfl ?_; (conv => whnf)
        replace h := W_bd h
        refine order_Before_call h27 h (WkL.refl _) (fun _ h => ?_); (conv => whnf)
        refine hK _ _ _ ?_; clear hK K
        refine HT_if fun K1 K2 hK1 hK2 => ?_; (conv => whnf)
        refine cond_lk h (fun _ h => ?_) (fun _ h => ?_)
        · refine hK1 ?_; clear hK1 hK2 K1 K2
          refine HT_exit ?_
          refine Then_e ?_
          refine InBlock_e ?_
          refine Then_n ?_
          refine HT_f DC_ok rfl fun K hK => ?_; (conv => whnf)
          refine hK _ _ _ ?_; clear hK K
          refine Then_n ?_
          replace h := W_xnx h
          refine ⟨_, h, ?_⟩
          refine weak_k ?_; (conv => whnf)
          exact And.intro rfl (And.intro (allL_c (wkr (loose_bool _)) (allL_c wkI (allL_c wkI (allL_c (WkR.ptr (fun _ => rfl)) (allL_c (wkr (loose_lst fun _ => (loose_int _ _))) (allL_c (wkr (loose_lst fun _ => (loose_int _ _))) (allL_c (wkr (loose_lst fun _ => (loose_int _ _))) (allL_c wkI (allL_c wkI allL_n))))))))) (allL_c ⟨some _, rfl, BkR_c rfl (CkR_cons wkI (CkR_cons (wkr (loose_lst fun _ => (lo_A46 _))) CkR_nil))⟩ allL_n))
        refine hK2 ?_; clear hK1 hK2 K1 K2
        refine HT_skip ?_
        refine Then_n ?_
        refine HT_seq ?_
        refine HT_fd DC_ok mix_ok rfl (by kernel_rfl) fun K hK => ?_; (conv => whnf)
        refine ix_lk h fun _ h => ?_; (conv => whnf)
        refine getK_of rfl ?_; (conv => whnf)
        refine ix_lk h fun _ h => ?_; (conv => whnf)
        refine getK_of rfl ?_; (conv => whnf)
        refine hK _ _ _ ?_; clear hK K
        refine HT_if fun K1 K2 hK1 hK2 => ?_; (conv => whnf)
        refine cond_lk h (fun _ h => ?_) (fun _ h => ?_)
        · refine hK1 ?_; clear hK1 hK2 K1 K2
          refine HT_fr DC_ok rfl fun K hK => ?_; (conv => whnf)
          refine hK _ _ _ ?_; clear hK K
          refine HT_ret ?_
          refine Then_r ?_
          refine InBlock_r ?_
          refine Then_r ?_
          refine Then_r ?_
          refine InBlock_r ?_
          refine Then_r ?_
          refine InBlock_r ?_
          refine Then_r ?_
          refine Then_r ?_
          refine InBlock_r ?_
          refine Then_r ?_
          replace h := W_xrt h
          replace h := W_inr h
          replace h := W_xrt h
          replace h := W_inr h
          replace h := W_some h
          refine PostP_r DC_ok fun K hK => ?_; (conv => whnf)
          refine hK _ ?_; clear hK K
          cases h
          exact Wk.refl _
        refine hK2 ?_; clear hK1 hK2 K1 K2
        refine HT_skip ?_
        refine Then_n ?_
        refine HT_fD DC_ok mix_ok rfl (by kernel_rfl) fun K hK => ?_; (conv => whnf)
        replace h := W_jn h
        refine cond_lk h (fun _ h => ?_) (fun _ h => ?_) <;> (conv => whnf)
        · refine hK _ _ _ ?_; clear hK K
          refine InBlock_n ?_
          refine Then_n ?_
          refine HT_f DC_ok rfl fun K hK => ?_; (conv => whnf)
          refine hK _ _ _ ?_; clear hK K
          refine Then_n ?_
          replace h := W_xnx h
          refine ⟨_, h, ?_⟩
          refine weak_k ?_; (conv => whnf)
          exact And.intro rfl (And.intro (allL_c (wkr (loose_bool _)) (allL_c wkI (allL_c wkI (allL_c (WkR.ptr (fun _ => rfl)) (allL_c (wkr (loose_lst fun _ => (loose_int _ _))) (allL_c (wkr (loose_lst fun _ => (loose_int _ _))) (allL_c (wkr (loose_lst fun _ => (loose_int _ _))) (allL_c wkI (allL_c wkI allL_n))))))))) (allL_c ⟨some _, rfl, BkR_c rfl (CkR_cons wkI (CkR_cons (wkr (loose_lst fun _ => (lo_A46 _))) CkR_nil))⟩ allL_n))
        refine ix_lk h fun _ h => ?_; (conv => whnf)
        refine getK_of rfl ?_; (conv => whnf)
        refine ix_lk h fun _ h => ?_; (conv => whnf)
        refine getK_of rfl ?_; (conv => whnf)
        refine hK _ _ _ ?_; clear hK K
        refine InBlock_n ?_
        refine Then_n ?_
        refine HT_f DC_ok rfl fun K hK => ?_; (conv => whnf)
        refine hK _ _ _ ?_; clear hK K
        refine Then_n ?_
        replace h := W_xnx h
        refine ⟨_, h, ?_⟩
        refine weak_k ?_; (conv => whnf)
        exact And.intro rfl (And.intro (allL_c (wkr (loose_bool _)) (allL_c wkI (allL_c wkI (allL_c (WkR.ptr (fun _ => rfl)) (allL_c (wkr (loose_lst fun _ => (loose_int _ _))) (allL_c (wkr (loose_lst fun _ => (loose_int _ _))) (allL_c (wkr (loose_lst fun _ => (loose_int _ _))) (allL_c wkI (allL_c wkI allL_n))))))))) (allL_c ⟨some _, rfl, BkR_c rfl (CkR_cons wkI (CkR_cons (wkr (loose_lst fun _ => (lo_A46 _))) CkR_nil))⟩ allL_n))
      refine hK2 ?_; clear hK1 hK2 K1 K2
      refine HT_exit ?_
      refine Then_e ?_
      refine Then_e ?_
      refine InBlock_e ?_
      replace h := W_xbk h
      replace h := W_inl h
      refine Then_n ?_
      refine HT_fr DC_ok rfl fun K hK => ?_; (conv => whnf)
      refine hK _ _ _ ?_; clear hK K
      refine HT_if fun K1 K2 hK1 hK2 => ?_; (conv => whnf)
      refine cond_lk h (fun _ h => ?_) (fun _ h => ?_)
      · refine hK1 ?_; clear hK1 hK2 K1 K2
        refine HT_fr DC_ok rfl fun K hK => ?_; (conv => whnf)
        refine hK _ _ _ ?_; clear hK K
        refine HT_ret ?_
        refine InBlock_r ?_
        refine Then_r ?_
        refine Then_r ?_
        refine InBlock_r ?_
        refine Then_r ?_
        replace h := W_xrt h
        replace h := W_inr h
        replace h := W_some h
        refine PostP_r DC_ok fun K hK => ?_; (conv => whnf)
        refine hK _ ?_; clear hK K
        cases h
        exact Wk.refl _
      refine hK2 ?_; clear hK1 hK2 K1 K2
      refine HT_skip ?_
      refine InBlock_n ?_
      refine Then_n ?_
      refine HT_f DC_ok rfl fun K hK => ?_; (conv => whnf)
      refine hK _ _ _ ?_; clear hK K
      refine Then_n ?_
      replace h := W_xnx h
      refine ⟨_, h, ?_⟩
      refine weak_k ?_; (conv => whnf)
      exact And.intro rfl (And.intro (allL_c wkI (allL_c wkI (allL_c wkI (allL_c (WkR.ptr (fun _ => rfl)) (allL_c (wkr (loose_lst fun _ => (loose_int _ _))) (allL_c (wkr (loose_lst fun _ => (loose_int _ _))) (allL_c (wkr (loose_lst fun _ => (loose_int _ _))) allL_n))))))) (allL_c ⟨some _, rfl, BkR_c rfl (CkR_cons wkI (CkR_cons (wkr (loose_lst fun _ => (lo_A46 _))) CkR_nil))⟩ allL_n))
    refine hK2 ?_; clear hK1 hK2 K1 K2
    refine HT_exit ?_
    refine Then_e ?_
    refine Then_e ?_
    refine InBlock_e ?_
    replace h := W_xbk h
    replace h := W_inl h
    refine Then_n ?_
    refine HT_seq ?_
    refine HT_fr DC_ok rfl fun K hK => ?_; (conv => whnf)
    refine hK _ _ _ ?_; clear hK K
    refine HT_block ?_
    replace h := W_bd h
    refine HT_lpK (body := law07_OrderMirsky_b3 _ _) rfl h [3, 10, 13, 15, 17] [10] [] (fun kl kh ids b s => ⟨ofL ([(21, eI s)] ++ kl), ofH ([] ++ kh), b + 64⟩) ?_; (conv => whnf); refine And.intro ?_ (fun s m h => HT_st ?_)
    · refine weak_k ?_; (conv => whnf)
      exact And.intro rfl (And.intro (allL_c wkI (allL_c wkI (allL_c (WkR.ptr (fun _ => rfl)) (allL_c (wkr (loose_lst fun _ => (loose_int _ _))) (allL_c (wkr (loose_lst fun _ => (loose_int _ _))) (allL_c wkI allL_n)))))) (allL_c ⟨some _, rfl, BkR_c rfl (CkR_cons wkI (CkR_cons (wkr (loose_lst fun _ => (lo_A46 _))) CkR_nil))⟩ allL_n))
    replace h := W_blaw07_OrderMirsky_b3 (W_bd h)
    refine HT_seq ?_
    refine HT_fr DC_ok rfl fun K hK => ?_; (conv => whnf)
    refine hK _ _ _ ?_; clear hK K
    refine HT_if fun K1 K2 hK1 hK2 => ?_; (conv => whnf)
    refine cond_lk h (fun _ h => ?_) (fun _ h => ?_)
    · refine hK1 ?_; clear hK1 hK2 K1 K2
      refine HT_skip ?_
      refine Then_n ?_
      refine HT_seq ?_
      refine HT_block ?_
      refine HT_fd DC_ok mix_ok rfl (by kernel_rfl) fun K hK => ?_; (conv => whnf)
      refine nlA rfl ?_; (conv => whnf)
      refine blkK_of rfl ?_; (conv => whnf)
      refine nlA rfl ?_; (conv => whnf)
      refine ix_lk h fun _ h => ?_; (conv => whnf)
      refine getK_of rfl ?_; (conv => whnf)
      refine ix_lk h fun _ h => ?_; (conv => whnf)
      refine getK_of rfl ?_; (conv => whnf)
      replace h := W_bd h
      refine order_Before_call h27 h (WkL.refl _) (fun _ h => ?_); (conv => whnf)
      refine hK _ _ _ ?_; clear hK K
      refine HT_if fun K1 K2 hK1 hK2 => ?_; (conv => whnf)
      refine cond_lk h (fun _ h => ?_) (fun _ h => ?_)
      · refine hK1 ?_; clear hK1 hK2 K1 K2
        refine HT_fr DC_ok rfl fun K hK => ?_; (conv => whnf)
        refine hK _ _ _ ?_; clear hK K
        refine HT_ret ?_
        refine InBlock_r ?_
        refine Then_r ?_
        refine Then_r ?_
        refine InBlock_r ?_
        refine Then_r ?_
        replace h := W_xrt h
        replace h := W_inr h
        replace h := W_some h
        refine PostP_r DC_ok fun K hK => ?_; (conv => whnf)
        refine hK _ ?_; clear hK K
        cases h
        exact Wk.refl _
      refine hK2 ?_; clear hK1 hK2 K1 K2
      refine HT_skip ?_
      refine InBlock_n ?_
      refine Then_n ?_
      refine HT_f DC_ok rfl fun K hK => ?_; (conv => whnf)
      refine hK _ _ _ ?_; clear hK K
      refine Then_n ?_
      replace h := W_xnx h
      refine ⟨_, h, ?_⟩
      refine weak_k ?_; (conv => whnf)
      exact And.intro rfl (And.intro (allL_c wkI (allL_c wkI (allL_c (WkR.ptr (fun _ => rfl)) (allL_c (wkr (loose_lst fun _ => (loose_int _ _))) (allL_c (wkr (loose_lst fun _ => (loose_int _ _))) (allL_c wkI allL_n)))))) (allL_c ⟨some _, rfl, BkR_c rfl (CkR_cons wkI (CkR_cons (wkr (loose_lst fun _ => (lo_A46 _))) CkR_nil))⟩ allL_n))
    refine hK2 ?_; clear hK1 hK2 K1 K2
    refine HT_exit ?_
    refine Then_e ?_
    refine Then_e ?_
    refine InBlock_e ?_
    replace h := W_xbk h
    replace h := W_inl h
    refine Then_n ?_
    refine HT_fr DC_ok rfl fun K hK => ?_; (conv => whnf)
    replace h := W_bd h
    refine law07_pick_call h13 h (WkL.refl _) (fun _ h => ?_); (conv => whnf)
    refine hK _ _ _ ?_; clear hK K
    refine HT_fr DC_ok rfl fun K hK => ?_; (conv => whnf)
    refine hK _ _ _ ?_; clear hK K
    refine HT_seq ?_
    refine HT_fr DC_ok rfl fun K hK => ?_; (conv => whnf)
    refine hK _ _ _ ?_; clear hK K
    refine HT_block ?_
    replace h := W_bd h
    refine HT_lpK (body := law07_OrderMirsky_b4 _ _) rfl h [10, 13, 15, 17, 22] [10] [] (fun kl kh ids b s => ⟨ofL ([(23, .lst (.tok (b + 0)) 1 s.1.length (fun j => eI (s.1.getD j default))), (24, eI s.2)] ++ kl), ofH ([(b + 0, .cells [])] ++ kh), b + 128⟩) ?_; (conv => whnf); refine And.intro ?_ (fun s m h => HT_st ?_)
    · refine weak_k ?_; (conv => whnf)
      exact And.intro rfl (And.intro (allL_c (WkR.nil (fun _ => rfl)) (allL_c wkI (allL_c (WkR.ptr (fun _ => rfl)) (allL_c (wkr (loose_lst fun _ => (loose_int _ _))) (allL_c (wkr (loose_lst fun _ => (loose_int _ _))) (allL_c wkI (allL_c wkI allL_n))))))) (allL_c ⟨none, rfl, BkR_n⟩ (allL_c ⟨some _, rfl, BkR_c rfl (CkR_cons wkI (CkR_cons (wkr (loose_lst fun _ => (lo_A46 _))) CkR_nil))⟩ allL_n)))
    replace h := W_blaw07_OrderMirsky_b4 (W_bd h)
    refine HT_seq ?_
    refine HT_fr DC_ok rfl fun K hK => ?_; (conv => whnf)
    refine hK _ _ _ ?_; clear hK K
    refine HT_if fun K1 K2 hK1 hK2 => ?_; (conv => whnf)
    refine cond_lk h (fun _ h => ?_) (fun _ h => ?_)
    · refine hK1 ?_; clear hK1 hK2 K1 K2
      refine HT_skip ?_
      refine Then_n ?_
      refine HT_seq ?_
      refine HT_block ?_
      refine HT_fr DC_ok rfl fun K hK => ?_; (conv => whnf)
      refine ix_lk h fun _ h => ?_; (conv => whnf)
      refine getK_of rfl ?_; (conv => whnf)
      refine gd_lk h fun _ h => ?_; (conv => whnf)
      refine And.intro (by decide) ?_; (conv => whnf)
      refine hK _ _ _ ?_; clear hK K
      replace h := W_jn h
      refine HT_if fun K1 K2 hK1 hK2 => ?_; (conv => whnf)
      refine cond_lk h (fun _ h => ?_) (fun _ h => ?_)
      · refine hK1 ?_; clear hK1 hK2 K1 K2
        refine HT_f DC_ok rfl fun K hK => ?_; (conv => whnf)
        refine ix_lk h fun _ h => ?_; (conv => whnf)
        refine getK_of rfl ?_; (conv => whnf)
        refine lt_lk (enc := eI) (d := default) DC_ok h rfl rfl rfl ⟨nle rfl, nle rfl, rfl⟩ rfl ⟨⟨rfl, rfl, rfl⟩, trivial⟩ (fun h => ?_); (conv => whnf)
        refine ap_lk (enc := eI) (d := default) DC_ok h (.inl rfl) rfl rfl rfl ⟨rfl, nle rfl, nle rfl, nle rfl, rfl⟩ (fun _ => rfl) (.inr (.inr ⟨_, _, rfl, rfl, rfl⟩)) (fun h => ?_); (conv => whnf)
        refine hK _ _ _ ?_; clear hK K
        refine InBlock_n ?_
        refine Then_n ?_
        refine HT_f DC_ok rfl fun K hK => ?_; (conv => whnf)
        refine hK _ _ _ ?_; clear hK K
        refine Then_n ?_
        replace h := W_xnx h
        refine ⟨_, h, ?_⟩
        refine weak_k ?_; (conv => whnf)
        exact And.intro rfl (And.intro (allL_c (WkR.tok (fun _ => rfl) rfl (fun _ _ => Wk.refl _) (fun _ => (loose_int _ _))) (allL_c wkI (allL_c (WkR.ptr (fun _ => rfl)) (allL_c (wkr (loose_lst fun _ => (loose_int _ _))) (allL_c (wkr (loose_lst fun _ => (loose_int _ _))) (allL_c wkI (allL_c wkI allL_n))))))) (allL_c ⟨some _, rfl, BkR_c rfl CkR_nil⟩ (allL_c ⟨some _, rfl, BkR_c rfl (CkR_cons wkI (CkR_cons (wkr (loose_lst fun _ => (lo_A46 _))) CkR_nil))⟩ allL_n)))
      refine hK2 ?_; clear hK1 hK2 K1 K2
      refine HT_skip ?_
      refine InBlock_n ?_
      refine Then_n ?_
      refine HT_f DC_ok rfl fun K hK => ?_; (conv => whnf)
      refine hK _ _ _ ?_; clear hK K
      refine Then_n ?_
      replace h := W_xnx h
      refine ⟨_, h, ?_⟩
      refine weak_k ?_; (conv => whnf)
      exact And.intro rfl (And.intro (allL_c (WkR.tok (fun _ => rfl) rfl (fun _ _ => Wk.refl _) (fun _ => (loose_int _ _))) (allL_c wkI (allL_c (WkR.ptr (fun _ => rfl)) (allL_c (wkr (loose_lst fun _ => (loose_int _ _))) (allL_c (wkr (loose_lst fun _ => (loose_int _ _))) (allL_c wkI (allL_c wkI allL_n))))))) (allL_c ⟨some _, rfl, BkR_c rfl CkR_nil⟩ (allL_c ⟨some _, rfl, BkR_c rfl (CkR_cons wkI (CkR_cons (wkr (loose_lst fun _ => (lo_A46 _))) CkR_nil))⟩ allL_n)))
    refine hK2 ?_; clear hK1 hK2 K1 K2
    refine HT_exit ?_
    refine Then_e ?_
    refine Then_e ?_
    refine InBlock_e ?_
    replace h := W_xbk h
    replace h := W_inl h
    refine Then_n ?_
    refine HT_fr DC_ok rfl fun K hK => ?_; (conv => whnf)
    refine hK _ _ _ ?_; clear hK K
    refine HT_seq ?_
    refine HT_fr DC_ok rfl fun K hK => ?_; (conv => whnf)
    refine hK _ _ _ ?_; clear hK K
    refine HT_block ?_
    replace h := W_bd h
    refine HT_lpK (body := law07_OrderMirsky_b5 _ _) rfl h [10, 13, 17, 23] [10, 23] [] (fun kl kh ids b s => ⟨ofL ([(25, eB s.1), (26, eI s.2)] ++ kl), ofH ([] ++ kh), b + 64⟩) ?_; (conv => whnf); refine And.intro ?_ (fun s m h => HT_st ?_)
    · refine weak_k ?_; (conv => whnf)
      exact And.intro rfl (And.intro (allL_c (wkr (loose_bool _)) (allL_c wkI (allL_c (WkR.ptr (fun _ => rfl)) (allL_c (wkr (loose_lst fun _ => (loose_int _ _))) (allL_c wkI (allL_c (WkR.tok (fun _ => rfl) rfl (fun _ _ => Wk.refl _) (fun _ => (loose_int _ _))) allL_n)))))) (allL_c ⟨some _, rfl, BkR_c rfl (CkR_cons wkI (CkR_cons (wkr (loose_lst fun _ => (lo_A46 _))) CkR_nil))⟩ (allL_c ⟨some _, rfl, BkR_c rfl CkR_nil⟩ allL_n)))
    replace h := W_blaw07_OrderMirsky_b5 (W_bd h)
    refine HT_seq ?_
    refine HT_fr DC_ok rfl fun K hK => ?_; (conv => whnf)
    refine hK _ _ _ ?_; clear hK K
    refine HT_if fun K1 K2 hK1 hK2 => ?_; (conv => whnf)
    refine cond_lk h (fun _ h => ?_) (fun _ h => ?_)
    · refine hK1 ?_; clear hK1 hK2 K1 K2
      refine HT_skip ?_
      refine Then_n ?_
      refine HT_seq ?_
      refine HT_block ?_
      refine HT_fD DC_ok mix_ok rfl (by kernel_rfl) fun K hK => ?_; (conv => whnf)
      replace h := W_jn h
      refine cond_lk h (fun _ h => ?_) (fun _ h => ?_) <;> (conv => whnf)
      · refine nlA rfl ?_; (conv => whnf)
        refine blkK_of rfl ?_; (conv => whnf)
        refine nlA rfl ?_; (conv => whnf)
        refine ix_lk h fun _ h => ?_; (conv => whnf)
        refine getK_of rfl ?_; (conv => whnf)
        refine ix_lk h fun _ h => ?_; (conv => whnf)
        refine getK_of rfl ?_; (conv => whnf)
        replace h := W_bd h
        refine order_Before_call h27 h (WkL.refl _) (fun _ h => ?_); (conv => whnf)
        refine hK _ _ _ ?_; clear hK K
        refine InBlock_n ?_
        refine Then_n ?_
        refine HT_f DC_ok rfl fun K hK => ?_; (conv => whnf)
        refine hK _ _ _ ?_; clear hK K
        refine Then_n ?_
        replace h := W_xnx h
        refine ⟨_, h, ?_⟩
        refine weak_k ?_; (conv => whnf)
        exact And.intro rfl (And.intro (allL_c (wkr (loose_bool _)) (allL_c wkI (allL_c (WkR.ptr (fun _ => rfl)) (allL_c (wkr (loose_lst fun _ => (loose_int _ _))) (allL_c wkI (allL_c (WkR.tok (fun _ => rfl) rfl (fun _ _ => Wk.refl _) (fun _ => (loose_int _ _))) allL_n)))))) (allL_c ⟨some _, rfl, BkR_c rfl (CkR_cons wkI (CkR_cons (wkr (loose_lst fun _ => (lo_A46 _))) CkR_nil))⟩ (allL_c ⟨some _, rfl, BkR_c rfl CkR_nil⟩ allL_n)))
      refine hK _ _ _ ?_; clear hK K
      refine InBlock_n ?_
      refine Then_n ?_
      refine HT_f DC_ok rfl fun K hK => ?_; (conv => whnf)
      refine hK _ _ _ ?_; clear hK K
      refine Then_n ?_
      replace h := W_xnx h
      refine ⟨_, h, ?_⟩
      refine weak_k ?_; (conv => whnf)
      exact And.intro rfl (And.intro (allL_c (wkr (loose_bool _)) (allL_c wkI (allL_c (WkR.ptr (fun _ => rfl)) (allL_c (wkr (loose_lst fun _ => (loose_int _ _))) (allL_c wkI (allL_c (WkR.tok (fun _ => rfl) rfl (fun _ _ => Wk.refl _) (fun _ => (loose_int _ _))) allL_n)))))) (allL_c ⟨some _, rfl, BkR_c rfl (CkR_cons wkI (CkR_cons (wkr (loose_lst fun _ => (lo_A46 _))) CkR_nil))⟩ (allL_c ⟨some _, rfl, BkR_c rfl CkR_nil⟩ allL_n)))
    refine hK2 ?_; clear hK1 hK2 K1 K2
    refine HT_exit ?_
    refine Then_e ?_
    refine Then_e ?_
    refine InBlock_e ?_
    replace h := W_xbk h
    replace h := W_inl h
    refine Then_n ?_
    refine HT_fr DC_ok rfl fun K hK => ?_; (conv => whnf)
    replace h := W_jn h
    refine cond_lk h (fun _ h => ?_) (fun _ h => ?_) <;> (conv => whnf)
    · refine cond_lk h (fun _ h => ?_) (fun _ h => ?_) <;> (conv => whnf)
      · refine hK _ _ _ ?_; clear hK K
        refine HT_ret ?_
        replace h := W_some h
        refine PostP_r DC_ok fun K hK => ?_; (conv => whnf)
        refine hK _ ?_; clear hK K
        cases h
        exact Wk.refl _
      refine hK _ _ _ ?_; clear hK K
      refine HT_ret ?_
      replace h := W_some h
      refine PostP_r DC_ok fun K hK => ?_; (conv => whnf)
      refine hK _ ?_; clear hK K
      cases h
      exact Wk.refl _
    refine hK _ _ _ ?_; clear hK K
    refine HT_ret ?_
    replace h := W_some h
    refine PostP_r DC_ok fun K hK => ?_; (conv => whnf)
    refine hK _ ?_; clear hK K
    cases h
    exact Wk.refl _
  refine HT_f DC_ok rfl fun K hK => ?_; (conv => whnf)
  refine cond_lk h (fun _ h => ?_) (fun _ h => ?_) <;> (conv => whnf)
  · refine hK _ _ _ ?_; clear hK K
    refine Then_n ?_
    refine ⟨_, h, ?_⟩
    refine weak_k ?_; (conv => whnf)
    exact And.intro rfl (And.intro (allL_c (wkr (loose_bool _)) (allL_c wkI (allL_c (WkR.ptr (fun _ => rfl)) (allL_c (wkr (loose_lst fun _ => (loose_int _ _))) (allL_c (wkr (loose_lst fun _ => (loose_int _ _))) (allL_c (wkr (loose_lst fun _ => (loose_int _ _))) allL_n)))))) (allL_c ⟨some _, rfl, BkR_c rfl (CkR_cons wkI (CkR_cons (wkr (loose_lst fun _ => (lo_A46 _))) CkR_nil))⟩ allL_n))
  refine cond_lk h (fun _ h => ?_) (fun _ h => ?_) <;> (conv => whnf)
  · refine hK _ _ _ ?_; clear hK K
    refine Then_n ?_
    refine ⟨_, h, ?_⟩
    refine weak_k ?_; (conv => whnf)
    exact And.intro rfl (And.intro (allL_c (wkr (loose_bool _)) (allL_c wkI (allL_c (WkR.ptr (fun _ => rfl)) (allL_c (wkr (loose_lst fun _ => (loose_int _ _))) (allL_c (wkr (loose_lst fun _ => (loose_int _ _))) (allL_c (wkr (loose_lst fun _ => (loose_int _ _))) allL_n)))))) (allL_c ⟨some _, rfl, BkR_c rfl (CkR_cons wkI (CkR_cons (wkr (loose_lst fun _ => (lo_A46 _))) CkR_nil))⟩ allL_n))
  refine cond_lk h (fun _ h => ?_) (fun _ h => ?_) <;> (conv => whnf)
  · refine hK _ _ _ ?_; clear hK K
    refine Then_n ?_
    refine ⟨_, h, ?_⟩
    refine weak_k ?_; (conv => whnf)
    exact And.intro rfl (And.intro (allL_c (wkr (loose_bool _)) (allL_c wkI (allL_c (WkR.ptr (fun _ => rfl)) (allL_c (wkr (loose_lst fun _ => (loose_int _ _))) (allL_c (wkr (loose_lst fun _ => (loose_int _ _))) (allL_c (wkr (loose_lst fun _ => (loose_int _ _))) allL_n)))))) (allL_c ⟨some _, rfl, BkR_c rfl (CkR_cons wkI (CkR_cons (wkr (loose_lst fun _ => (lo_A46 _))) CkR_nil))⟩ allL_n))
  refine nlA rfl ?_; (conv => whnf)
  refine blkK_of rfl ?_; (conv => whnf)
  refine getK_of rfl ?_; (conv => whnf)
  refine cond_lk h (fun _ h => ?_) (fun _ h => ?_) <;> (conv => whnf)
  · refine hK _ _ _ ?_; clear hK K
    refine Then_n ?_
    refine ⟨_, h, ?_⟩
    refine weak_k ?_; (conv => whnf)
    exact And.intro rfl (And.intro (allL_c (wkr (loose_bool _)) (allL_c wkI (allL_c (WkR.ptr (fun _ => rfl)) (allL_c (wkr (loose_lst fun _ => (loose_int _ _))) (allL_c (wkr (loose_lst fun _ => (loose_int _ _))) (allL_c (wkr (loose_lst fun _ => (loose_int _ _))) allL_n)))))) (allL_c ⟨some _, rfl, BkR_c rfl (CkR_cons wkI (CkR_cons (wkr (loose_lst fun _ => (lo_A46 _))) CkR_nil))⟩ allL_n))
  refine nlA rfl ?_; (conv => whnf)
  refine blkK_of rfl ?_; (conv => whnf)
  refine getK_of rfl ?_; (conv => whnf)
  refine hK _ _ _ ?_; clear hK K
  refine Then_n ?_
  refine ⟨_, h, ?_⟩
  refine weak_k ?_; (conv => whnf)
  exact And.intro rfl (And.intro (allL_c (wkr (loose_bool _)) (allL_c wkI (allL_c (WkR.ptr (fun _ => rfl)) (allL_c (wkr (loose_lst fun _ => (loose_int _ _))) (allL_c (wkr (loose_lst fun _ => (loose_int _ _))) (allL_c (wkr (loose_lst fun _ => (loose_int _ _))) allL_n)))))) (allL_c ⟨some _, rfl, BkR_c rfl (CkR_cons wkI (CkR_cons (wkr (loose_lst fun _ => (lo_A46 _))) CkR_nil))⟩ allL_n))
end Go.Proofs.YtlmboonbfhkfnaaDoor
namespace Go.Proofs.YtlmboonbfhkfnaaDoor
open Go Go.Eng
set_option maxRecDepth 100000
section
variable {o : TOrder} {n : Nat} {t : Ar 8} {r : Nat → Nat → Bool}
theorem steps_pair (h : OV o n t r) {l : List Nat} (hs : ∀ j, j + 1 < l.length → r (l.getD j default) (l.getD (j + 1) default) = true) : l.Pairwise fun x y => r x y = true := by
  refine List.pairwise_iff_getElem.2 fun i j hi hj hij => ?_
  have key : ∀ d, i + 1 + d < l.length → r (l.getD i default) (l.getD (i + 1 + d) default) = true := fun d => by
    induction d with
    | zero => intro hd; exact hs i hd
    | succ d ih => intro hd; exact h.tr _ _ _ (ih (by omega)) (hs (i + 1 + d) hd)
  have := key (j - i - 1) (by omega)
  rw [show i + 1 + (j - i - 1) = j by omega, getD_ltD hi, getD_ltD hj] at this
  exact this
theorem pair_get {l : List Nat} (hp : l.Pairwise fun x y => r x y = true) {i j : Nat} (hij : i < j) (hj : j < l.length) : r (l.getD i default) (l.getD j default) = true := by
  rw [getD_ltD (by omega), getD_ltD hj]
  exact List.pairwise_iff_getElem.1 hp i j (by omega) hj hij
theorem lev_up {L : Nat → Nat} (hL : ∀ b, b < n → LevAt r L b) {l : List Nat} (hl : ∀ x, x ∈ l → x < n) (hp : l.Pairwise fun x y => r x y = true) : ∀ i, i < l.length → i ≤ L (l.getD i default) := fun i => by
  induction i with
  | zero => intro _; exact Nat.zero_le _
  | succ i ih =>
    intro hi
    have h1 := ih (by omega)
    have h2 := (hL _ (hl _ (getD_memD hi))).1 _ (pair_get hp (Nat.lt_succ_self i) hi)
    omega
theorem lev_chain (h : OV o n t r) {L : Nat → Nat} (hL : ∀ b, b < n → LevAt r L b) : ∀ (k x : Nat), L x = k → x < n → ∃ l : List Nat, (l ++ [x]).Pairwise (fun x y => r x y = true) ∧ (∀ y, y ∈ l ++ [x] → y < n) ∧ l.length = k
  | 0, x, _, hx => ⟨[], by simp, fun y hy => by rw [List.nil_append] at hy; rw [List.mem_singleton.1 hy]; exact hx, rfl⟩
  | k + 1, x, hk, hx => by
    rcases (hL x hx).2 with q | ⟨a, ha, q⟩
    · omega
    · obtain ⟨l, l1, l2, l3⟩ := lev_chain h hL k a (by omega) (h.lt _ _ ha).1
      refine ⟨l ++ [a], List.pairwise_append.2 ⟨l1, List.pairwise_singleton _ _, fun y hy z hz => ?_⟩, fun y hy => ?_, by rw [List.length_append, l3]; rfl⟩
      · rw [List.mem_singleton.1 hz]
        rcases List.mem_append.1 hy with hy | hy
        · exact h.tr _ _ _ ((List.pairwise_append.1 l1).2.2 y hy a (List.mem_singleton.2 rfl)) ha
        · rw [List.mem_singleton.1 hy]; exact ha
      · rcases List.mem_append.1 hy with hy | hy
        · exact l2 y hy
        · rw [List.mem_singleton.1 hy]; exact hx
end
theorem plain6 (a0 : Int) (a1 : List (Int × Int)) (a2 a3 : Int) (o0 : okI a0) (o1 : okL okA46 a1) (o2 : okI a2) (o3 : okI a3) : law07_OrderMirsky_F a0 a1 a2 a3 = some true := by
  obtain ⟨o, n, t, r, e0, h, hol⟩ := made_ok a0 a1 a2 o0 o1 o2
  have n8 := h.n8
  have hN := h.N
  obtain ⟨W, L, eL, ⟨w1, w2⟩, hL, hL8⟩ := Levels_ok h
  obtain ⟨ls, e1, l1, l2, _⟩ := Line_ok h
  have hC := Chn_chain h
  have hCl := Chn_len n r
  obtain ⟨z, zl, e3⟩ := pick_n a3 (n := 256) o3 (by omega)
  unfold law07_OrderMirsky_F
  rw [sane_ok, bd_s, cn_not, cn_t, e0, bd_s, eL, bd_s, Chain_ok h, bd_s, e1, bd_s]
  simp only [jn_d, show ((0 : Int) != 0) = false from rfl, cn_f]
  simp only [ints_len]
  rw [w1, hN, l2, show ((n : Int) != (n : Int)) = false by simp, cn_f, cn_f]
  obtain ⟨s, e4, t1, t2, t3, t4⟩ := lp_fold (body := law07_OrderMirsky_b1 o (W, 0)) (fun k s => s.2 = (k : Int) ∧ (∀ x, x < k → (L x : Int) ≤ s.1) ∧ (k = 0 → s.1 = -1) ∧ (0 < k → ∃ x, x < k ∧ s.1 = (L x : Int))) n (by omega)
    (fun k s hk ⟨hs, g1, g2, g3⟩ => by
      obtain ⟨u, v⟩ := s
      simp only at hs g1 g2 g3
      subst hs
      have k8 := hL8 k
      obtain ⟨s, e, q1, q2⟩ := lp_fold (body := law07_OrderMirsky_b2 (u, (k : Int)) o (W, 0)) (fun m s => s.2 = (m : Int) ∧ (s.1 = true ↔ (L k = 0 ∨ ∃ x, x < m ∧ r x k = true ∧ L x + 1 = L k))) n (by omega)
        (fun m s hm ⟨hs, hq⟩ => by
          obtain ⟨u', v⟩ := s
          simp only at hs hq
          subst hs
          have m8 := hL8 m
          unfold law07_OrderMirsky_b2
          simp only [cn_dec, jn_d]
          rw [if_pos (by omega), Before_n h, bd_s, cn_not, cn_if, wr_id (x := (m : Int) + 1) (by omega) (by omega)]
          by_cases c : r m k = true
          · have hlt := (hL k hk).1 m c
            rw [if_pos c, ix_n (by omega), ix_n (by omega), w2 m hm, w2 k hk, if_neg (by omega)]
            refine (fun (q : ∃ b, _ ∧ _) => ?_) (?_ : ∃ b : Bool, (cn u' (some (Ct.nx (true, (m : Int) + 1))) (ix W default (m : Int) fun e19 => ix W default (k : Int) fun e20 => (some (Ct.nx (e19 == wr (e20 - 1), (m : Int) + 1)) : Option (Ct (Bool × Int) Bool)))) = some (.nx (b, (m : Int) + 1)) ∧ (b = true ↔ (L k = 0 ∨ ∃ x, x < m + 1 ∧ r x k = true ∧ L x + 1 = L k)))
            · obtain ⟨b, q1, q2⟩ := q
              rw [q1]
              exact ⟨_, rfl, by simp only; omega, q2⟩
            · rw [cn_if]
              by_cases d : u' = true
              · rw [if_pos d]
                refine ⟨true, rfl, ⟨fun _ => ?_, fun _ => rfl⟩⟩
                rcases hq.1 d with q | ⟨x, x1, x2⟩
                · exact .inl q
                · exact .inr ⟨x, by omega, x2⟩
              · rw [if_neg d, ix_n (by omega), ix_n (by omega), w2 m hm, w2 k hk, wr_id (by omega) (by omega)]
                refine ⟨_, rfl, ?_⟩
                rw [beq_iff_eq]
                constructor
                · intro q; exact .inr ⟨m, by omega, c, by omega⟩
                · rintro (q | ⟨x, x1, x2, x3⟩)
                  · exact absurd (hq.2 (.inl q)) d
                  · by_cases e : x = m
                    · subst e; omega
                    · exact absurd (hq.2 (.inr ⟨x, by omega, x2, x3⟩)) d
          · rw [if_neg c]
            refine ⟨_, rfl, by simp only; omega, ?_⟩
            simp only
            rw [hq]
            refine or_congr_right ⟨fun ⟨x, x1, x2⟩ => ⟨x, by omega, x2⟩, fun ⟨x, x1, x2, x3⟩ => ⟨x, ?_, x2, x3⟩⟩
            by_cases e : x = m
            · subst e; exact absurd x2 c
            · omega) (fun s ⟨hs, _⟩ => by
          unfold law07_OrderMirsky_b2
          simp only [cn_dec]
          rw [if_neg (by omega)]) ((((L k : Nat) : Int) == 0), 0) ⟨rfl, by
            simp only
            rw [beq_iff_eq]
            exact ⟨fun q => .inl (by omega), fun q => q.elim (fun q => by omega) fun ⟨x, x1, _⟩ => absurd x1 (Nat.not_lt_zero _)⟩⟩
      have hb : s.1 = true := q2.2 ((hL k hk).2.imp id fun ⟨a, a1, a2⟩ => ⟨a, (h.lt _ _ a1).1, a1, a2⟩)
      unfold law07_OrderMirsky_b1
      simp only [cn_dec]
      rw [if_pos (by omega), ix_n (by omega), ix_n (by omega), w2 k hk, e, bd_s, smK_l, hb, Bool.not_true, cn_f, wr_id (by omega) (by omega)]
      have em : imax u ((L k : Nat) : Int) = max u ((L k : Nat) : Int) := by unfold imax; split <;> omega
      rw [em]
      refine ⟨_, rfl, by simp only; omega, fun x hx => ?_, fun q => by omega, fun _ => ?_⟩
      · simp only
        by_cases e : x = k
        · subst e; omega
        · have := g1 x (by omega); omega
      · simp only
        by_cases c : u < ((L k : Nat) : Int)
        · exact ⟨k, by omega, by omega⟩
        · by_cases d : k = 0
          · have := g2 d; omega
          · obtain ⟨x, x1, x2⟩ := g3 (by omega)
            exact ⟨x, by omega, by omega⟩) (fun s ⟨hs, _⟩ => by
      unfold law07_OrderMirsky_b1
      simp only [cn_dec]
      rw [if_neg (by omega)]) (-1, 0) ⟨rfl, fun x hx => absurd hx (Nat.not_lt_zero _), fun _ => rfl, fun q => absurd q (Nat.lt_irrefl _)⟩
  rw [e4, bd_s, smK_l]
  generalize s.1 = top at t2 t3 t4
  have htop : ((Chn n r).length : Int) = top + 1 := by
    by_cases c : n = 0
    · have : (Chn n r).length = 0 := by
        refine Nat.eq_zero_of_not_pos fun q => ?_
        have := hC.2 _ (getD_memD q); omega
      have := t3 c; omega
    · obtain ⟨x, x1, x2⟩ := t4 (by omega)
      obtain ⟨l, q1, q2, q3⟩ := lev_chain h hL _ x rfl x1
      have b1 := Chn_best h q2 q1
      rw [List.length_append, q3] at b1
      have b2 : ((Chn n r).length : Int) ≤ top + 1 := by
        by_cases d : (Chn n r).length = 0
        · omega
        · have u := lev_up hL hC.2 hC.1 ((Chn n r).length - 1) (by omega)
          have := t2 _ (hC.2 _ (getD_memD (show (Chn n r).length - 1 < (Chn n r).length by omega)))
          omega
      simp only [List.length_cons, List.length_nil] at b1
      omega
  have ec : lp (law07_OrderMirsky_b3 o (ints (Chn n r), 0)) FU 1 = some (.inl ((max 1 (Chn n r).length : Nat) : Int)) := by
    rcases lp_scan (body := law07_OrderMirsky_b3 o (ints (Chn n r), 0)) 1 (max 1 (Chn n r).length) (by omega) (by omega) (fun _ => false) (fun _ => true) (fun k k1 k2 _ => by
      have kl : k < (Chn n r).length := by omega
      unfold law07_OrderMirsky_b3
      simp only [cn_dec, ints_len]
      rw [if_pos (by omega), wr_id (by omega) (by omega), show (k : Int) - 1 = ((k - 1 : Nat) : Int) by omega, ix_n (by rw [ints_len]; omega), ints_getD (by omega), ix_n (by rw [ints_len]; exact kl), ints_getD kl, Before_n h, bd_s, pair_get hC.1 (by omega) kl, Bool.not_true, cn_f, wr_id (by omega) (by omega)]; rfl) (by
      unfold law07_OrderMirsky_b3
      simp only [cn_dec, ints_len]
      rw [if_neg (by omega)]) with ⟨_, e⟩ | ⟨_, _, _, q, _⟩
    · exact e
    · cases q
  rw [ec, bd_s, smK_l, show (256 : Int) = ((256 : Nat) : Int) from rfl, e3, bd_s]
  obtain ⟨s, e5, _, u2⟩ := lp_fold (body := law07_OrderMirsky_b4 (ints ls, 0) (z : Int)) (fun k s => s.2 = (k : Int) ∧ s.1 = ints ((ls.take k).filter fun x => z.testBit x)) ls.length (by omega)
    (fun k s hk ⟨hs, hq⟩ => by
      obtain ⟨u, v⟩ := s
      simp only at hs hq
      subst hs hq
      have ln := Ln_lt l1 _ (getD_memD hk)
      have z1 := List.length_filter_le (fun x => z.testBit x) (ls.take k)
      rw [List.length_take] at z1
      unfold law07_OrderMirsky_b4
      simp only [cn_dec, jn_d, ints_len]
      rw [if_pos (by omega)]
      simp only [ix_n (show k < (ints ls).length by rw [ints_len]; exact hk), ints_getD hk]
      rw [gd_p _ (by omega), ntm1 (by omega), cn_if, wr_id (by omega) (by omega), lt_d]
      by_cases c : z.testBit (ls.getD k default) = true
      · rw [if_pos c, ap_p (by rw [ints_len]; simp only [List.length_cons, List.length_nil]; omega)]
        exact ⟨_, rfl, by simp only; omega, by simp only; rw [take_getD hk, List.filter_append, filter_one, if_pos c, ints_app]; rfl⟩
      · rw [if_neg c]
        exact ⟨_, rfl, by simp only; omega, by simp only; rw [take_getD hk, List.filter_append, filter_one, if_neg c, List.append_nil]⟩) (fun s ⟨hs, _⟩ => by
      unfold law07_OrderMirsky_b4
      simp only [cn_dec, ints_len]
      rw [if_neg (by omega)]) ([], 0) ⟨rfl, rfl⟩
  rw [List.take_length] at u2
  rw [e5, bd_s, smK_l]
  generalize hO : ls.filter (fun x => z.testBit x) = O at u2
  obtain ⟨p, q⟩ := s
  simp only at u2
  subst u2
  have hO2 : ∀ x, x ∈ O → x < n := fun x hx => by rw [← hO] at hx; exact Ln_lt l1 x (List.mem_filter.1 hx).1
  have hO3 : O.length ≤ n := by rw [← hO, ← l2]; exact List.length_filter_le _ _
  obtain ⟨s, e6, _, v2⟩ := lp_fold (body := law07_OrderMirsky_b5 (ints O, q) o) (fun k s => s.2 = (k : Int) + 1 ∧ (s.1 = true ↔ ∀ j, j < k → r (O.getD j default) (O.getD (j + 1) default) = true)) (O.length - 1) (by omega)
    (fun k s hk ⟨hs, hq⟩ => by
      obtain ⟨u, v⟩ := s
      simp only at hs hq
      subst hs
      unfold law07_OrderMirsky_b5
      simp only [cn_dec, jn_d, ints_len]
      rw [if_pos (by omega), cn_if, wr_id (x := (k : Int) + 1 + 1) (by omega) (by omega)]
      by_cases d : u = true
      · rw [if_pos d, wr_id (by omega) (by omega), show (k : Int) + 1 - 1 = (k : Int) by omega, show (k : Int) + 1 = ((k + 1 : Nat) : Int) by omega, ix_n (by rw [ints_len]; omega), ints_getD (by omega), ix_n (by rw [ints_len]; omega), ints_getD (by omega), Before_n h, bd_s]
        refine ⟨_, rfl, by first | rfl | (simp only; omega), ?_⟩
        simp only
        constructor
        · intro g j hj
          by_cases e : j = k
          · subst e; exact g
          · exact hq.1 d j (by omega)
        · intro g; exact g k (by omega)
      · rw [if_neg d]
        refine ⟨_, rfl, by simp only; omega, ?_⟩
        simp only
        exact ⟨fun g => (by cases g), fun g => absurd (hq.2 fun j hj => g j (by omega)) d⟩) (fun s ⟨hs, _⟩ => by
      unfold law07_OrderMirsky_b5
      simp only [cn_dec, ints_len]
      rw [if_neg (by omega)]) (true, 1) ⟨rfl, ⟨fun _ j hj => absurd hj (Nat.not_lt_zero _), fun _ => rfl⟩⟩
  rw [e6, bd_s, smK_l]
  simp only [ints_len]
  rw [wr_id (by omega) (by omega), htop, beq_self_eq_true, cn_t, cn_not, cn_if]
  by_cases d : s.1 = true
  · rw [if_pos d, decide_eq_true]
    have := Chn_best h hO2 (steps_pair h fun j hj => v2.1 d j (by omega))
    omega
  · rw [if_neg d]
end Go.Proofs.YtlmboonbfhkfnaaDoor
