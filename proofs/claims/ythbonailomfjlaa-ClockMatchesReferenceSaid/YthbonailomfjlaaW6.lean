import Derived.Test.YthbonailomfjlaaN
namespace Go.Proofs.Ythbonailomfjlaa
open Go Go.Eng
set_option maxHeartbeats 0
set_option maxRecDepth 100000
/-! clock.around -/
def clock_around_b1 (a0 : TClock) (a1 : Int) (s1 : Int × TWindow) : Option (Ct (Int × TWindow) TWindow) :=
    cn (decide (s1.1 < (a0.Readings.length : Int))) (ix a0.Readings default s1.1 fun e2 => bd (clock_Spread_F a0.Drift (imax (wr (a1 - e2.Local)) (wr (e2.Local - a1)))) fun y3 =>
    jn (fun p4 : Int × Int => some (.nx ((wr (s1.1 + 1)), (⟨(imax s1.2.low_f (wr (e2.Low + p4.1))), (imin s1.2.high_f (wr (e2.High + p4.2)))⟩ : TWindow)))) fun k5 =>
    cn (decide (a1 < e2.Local)) (k5 ((wr (0 - y3.2)), (wr (0 - y3.1)))) (jn (fun p6 : Int => k5 (p6, y3.2)) fun k7 => cn (a1 ==
    e2.Local) (k7 (wr (0 - y3.2))) (k7 y3.1))) (some (.bk (s1.1, s1.2)))
theorem W_bclock_around_b1 {a0 : TClock} {a1 : Int} {s1 : Int × TWindow} {Φ : Ct (Int × TWindow) TWindow → Prop} (h : W (clock_around_b1 a0 a1 s1) Φ) : W (cn (decide (s1.1 < (a0.Readings.length : Int))) (ix a0.Readings default s1.1 fun e2 => bd (clock_Spread_F a0.Drift (imax (wr (a1 - e2.Local)) (wr (e2.Local - a1)))) fun y3 =>
    jn (fun p4 : Int × Int => some (.nx ((wr (s1.1 + 1)), (⟨(imax s1.2.low_f (wr (e2.Low + p4.1))), (imin s1.2.high_f (wr (e2.High + p4.2)))⟩ : TWindow)))) fun k5 =>
    cn (decide (a1 < e2.Local)) (k5 ((wr (0 - y3.2)), (wr (0 - y3.1)))) (jn (fun p6 : Int => k5 (p6, y3.2)) fun k7 => cn (a1 ==
    e2.Local) (k7 (wr (0 - y3.2))) (k7 y3.1))) (some (.bk (s1.1, s1.2)))) Φ := h
def clock_around_F (a0 : TClock) (a1 : Int) : Option TWindow := bd (lp (clock_around_b1 a0 a1) FU (0, (⟨0, 10000000⟩ : TWindow))) fun c8 => smK c8 (fun s9 => some s9.2) (fun r10 =>
    some r10)
def clock_around_S : List AV → AV → Prop := fun args r => ∃ a0 a1, args = [eTClock a0, eI a1] ∧ W (clock_around_F a0 a1) fun y => r = (eTWindow y)
theorem clock_around_ok {T : Tbl} (hT : TOk Try.prog T) (hpf : PfOk T PF) (h11 : T 11 = pureR clock_Spread_S) (h45 : T 45 = clock_narrow_R) : FOk Try.prog 36 (pureR clock_around_S) := by
  refine FOk_pure hT hpf Try.func36 rfl Try.ntmps36 Try.results36 (by decide) ?_
  rintro args r ⟨a0, a1, rfl, h⟩
  refine ⟨Nat.le_of_ble_eq_true rfl, ?_, ?_⟩
  · exact (loose_cons (lo_TClock _) (loose_cons (loose_int _ _) loose_nil))
  rw [clock_around_F.eq_1] at h
  refine HT_fr DC_ok rfl fun K hK => ?_; (conv => whnf)
  refine hK _ _ _ ?_; clear hK K
  refine HT_fr DC_ok rfl fun K hK => ?_; (conv => whnf)
  refine hK _ _ _ ?_; clear hK K
  refine HT_fr DC_ok rfl fun K hK => ?_; (conv => whnf)
  refine hK _ _ _ ?_; clear hK K
  refine HT_seq ?_
  refine HT_fr DC_ok rfl fun K hK => ?_; (conv => whnf)
  refine And.intro (Nat.le_of_ble_eq_true rfl) ?_; (conv => whnf)
  refine blkK_of rfl ?_; (conv => whnf)
  refine getK_of rfl ?_; (conv => whnf)
  refine hK _ _ _ ?_; clear hK K
  refine HT_block ?_
  replace h := W_bd h
  refine HT_lpK (body := clock_around_b1 _ _) rfl h [1, 2, 4, 5, 6, 16, 17] [2, 4] [5] (fun kl kh ids b s => ⟨ofL ([(18, eI s.1)] ++ kl), ofH ([(nthN ids 0, .cells [eI s.2.low_f, eI s.2.high_f])] ++ kh), b + 64⟩) ?_; (conv => whnf); refine And.intro ?_ (fun s m h => HT_st ?_)
  · refine weak_k ?_; (conv => whnf)
    exact And.intro rfl (And.intro (allL_c (WkR.wk (Wk.refl _) (loose_int _ _)) (allL_c (WkR.wk (Wk.refl _) (loose_int _ _)) (allL_c (WkR.ptr (fun _ => rfl)) (allL_c (WkR.ptr (fun _ => rfl)) (allL_c (WkR.ptr (fun _ => rfl)) (allL_c (WkR_fn (VsR_cons (WkR.ptr (fun _ => rfl)) VsR_nil) VsR_nil) (allL_c (WkR.wk (Wk.refl _) (loose_lst fun _ => (lo_TReading _))) (allL_c (WkR.wk (Wk.refl _) (loose_int _ _)) allL_n)))))))) (allL_c ⟨some _, rfl, BkR_c rfl (CkR_cons (WkR.wk (Wk.refl _) (loose_int _ _)) (CkR_cons (WkR.wk (Wk.refl _) (loose_int _ _)) CkR_nil))⟩ (allL_c ⟨some _, rfl, BkR_c rfl (CkR_cons (WkR.wk (Wk.refl _) (loose_int _ _)) (CkR_cons (WkR.wk (Wk.refl _) (loose_lst fun _ => (lo_TReading _))) CkR_nil))⟩ (allL_c ⟨some _, rfl, BkR_c rfl (CkR_cons (WkR.wk (Wk.refl _) (loose_int _ _)) (CkR_cons (WkR.wk (Wk.refl _) (loose_int _ _)) CkR_nil))⟩ allL_n))))
  replace h := W_bclock_around_b1 (W_bd h)
  refine HT_fr DC_ok rfl fun K hK => ?_; (conv => whnf)
  refine hK _ _ _ ?_; clear hK K
  refine HT_seq ?_
  refine HT_if fun K1 K2 hK1 hK2 => ?_; (conv => whnf)
  refine cond_lk h (fun _ h => ?_) (fun _ h => ?_)
  · refine hK1 ?_; clear hK1 hK2 K1 K2
    refine HT_skip ?_
    refine Then_n ?_
    refine HT_seq ?_
    refine HT_block ?_
    refine HT_fr DC_ok rfl fun K hK => ?_; (conv => whnf)
    refine ix_lk h fun _ h => ?_; (conv => whnf)
    refine And.intro (Nat.le_of_ble_eq_true rfl) ?_; (conv => whnf)
    refine blkK_of rfl ?_; (conv => whnf)
    refine And.intro rfl (And.intro (Nat.le_of_ble_eq_true rfl) (And.intro rfl ?_)); (conv => whnf)
    refine hK _ _ _ ?_; clear hK K
    refine HT_fr DC_ok rfl fun K hK => ?_; (conv => whnf)
    refine And.intro (Nat.le_of_ble_eq_true rfl) ?_; (conv => whnf)
    refine blkK_of rfl ?_; (conv => whnf)
    refine getK_of rfl ?_; (conv => whnf)
    refine And.intro (Nat.le_of_ble_eq_true rfl) ?_; (conv => whnf)
    refine blkK_of rfl ?_; (conv => whnf)
    refine getK_of rfl ?_; (conv => whnf)
    refine And.intro (Nat.le_of_ble_eq_true rfl) ?_; (conv => whnf)
    refine blkK_of rfl ?_; (conv => whnf)
    refine getK_of rfl ?_; (conv => whnf)
    replace h := W_bd h
    refine clock_Spread_call h11 h (WkL.refl _) (fun _ h => ?_); (conv => whnf)
    refine hK _ _ _ ?_; clear hK K
    refine HT_seq ?_
    refine HT_block ?_
    refine HT_fr DC_ok rfl fun K hK => ?_; (conv => whnf)
    refine And.intro (Nat.le_of_ble_eq_true rfl) ?_; (conv => whnf)
    refine blkK_of rfl ?_; (conv => whnf)
    refine getK_of rfl ?_; (conv => whnf)
    refine hK _ _ _ ?_; clear hK K
    replace h := W_jn h
    refine HT_if fun K1 K2 hK1 hK2 => ?_; (conv => whnf)
    refine cond_lk h (fun _ h => ?_) (fun _ h => ?_)
    · refine hK1 ?_; clear hK1 hK2 K1 K2
      refine HT_f DC_ok rfl fun K hK => ?_; (conv => whnf)
      refine hK _ _ _ ?_; clear hK K
      refine InBlock_n ?_
      refine Then_n ?_
      refine HT_f DC_ok rfl fun K hK => ?_; (conv => whnf)
      refine And.intro (Nat.le_of_ble_eq_true rfl) ?_; (conv => whnf)
      refine blkK_of rfl ?_; (conv => whnf)
      refine getK_of rfl ?_; (conv => whnf)
      refine And.intro (Nat.le_of_ble_eq_true rfl) ?_; (conv => whnf)
      refine blkK_of rfl ?_; (conv => whnf)
      refine getK_of rfl ?_; (conv => whnf)
      refine clock_narrow_call h45 rfl ?_; (conv => whnf)
      refine hK _ _ _ ?_; clear hK K
      refine InBlock_n ?_
      refine Then_n ?_
      refine HT_f DC_ok rfl fun K hK => ?_; (conv => whnf)
      refine hK _ _ _ ?_; clear hK K
      refine Then_n ?_
      replace h := W_xnx h
      refine ⟨_, h, ?_⟩
      refine weak_k ?_; (conv => whnf)
      exact And.intro rfl (And.intro (allL_c (WkR.wk (Wk.refl _) (loose_int _ _)) (allL_c (WkR.wk (Wk.refl _) (loose_int _ _)) (allL_c (WkR.ptr (fun _ => rfl)) (allL_c (WkR.ptr (fun _ => rfl)) (allL_c (WkR.ptr (fun _ => rfl)) (allL_c (WkR_fn (VsR_cons (WkR.ptr (fun _ => rfl)) VsR_nil) VsR_nil) (allL_c (WkR.wk (Wk.refl _) (loose_lst fun _ => (lo_TReading _))) (allL_c (WkR.wk (Wk.refl _) (loose_int _ _)) allL_n)))))))) (allL_c ⟨some _, rfl, BkR_c rfl (CkR_cons (WkR.wk (Wk.refl _) (loose_int _ _)) (CkR_cons (WkR.wk (Wk.refl _) (loose_int _ _)) CkR_nil))⟩ (allL_c ⟨some _, rfl, BkR_c rfl (CkR_cons (WkR.wk (Wk.refl _) (loose_int _ _)) (CkR_cons (WkR.wk (Wk.refl _) (loose_lst fun _ => (lo_TReading _))) CkR_nil))⟩ (allL_c ⟨some _, rfl, BkR_c rfl (CkR_cons (WkR.wk (Wk.refl _) (loose_int _ _)) (CkR_cons (WkR.wk (Wk.refl _) (loose_int _ _)) CkR_nil))⟩ allL_n))))
    refine hK2 ?_; clear hK1 hK2 K1 K2
    refine HT_fr DC_ok rfl fun K hK => ?_; (conv => whnf)
    refine And.intro (Nat.le_of_ble_eq_true rfl) ?_; (conv => whnf)
    refine blkK_of rfl ?_; (conv => whnf)
    refine getK_of rfl ?_; (conv => whnf)
    refine hK _ _ _ ?_; clear hK K
    replace h := W_jn h
    refine HT_if fun K1 K2 hK1 hK2 => ?_; (conv => whnf)
    refine cond_lk h (fun _ h => ?_) (fun _ h => ?_)
    · refine hK1 ?_; clear hK1 hK2 K1 K2
      refine HT_f DC_ok rfl fun K hK => ?_; (conv => whnf)
      refine hK _ _ _ ?_; clear hK K
      refine InBlock_n ?_
      refine Then_n ?_
      refine HT_f DC_ok rfl fun K hK => ?_; (conv => whnf)
      refine And.intro (Nat.le_of_ble_eq_true rfl) ?_; (conv => whnf)
      refine blkK_of rfl ?_; (conv => whnf)
      refine getK_of rfl ?_; (conv => whnf)
      refine And.intro (Nat.le_of_ble_eq_true rfl) ?_; (conv => whnf)
      refine blkK_of rfl ?_; (conv => whnf)
      refine getK_of rfl ?_; (conv => whnf)
      refine clock_narrow_call h45 rfl ?_; (conv => whnf)
      refine hK _ _ _ ?_; clear hK K
      refine InBlock_n ?_
      refine Then_n ?_
      refine HT_f DC_ok rfl fun K hK => ?_; (conv => whnf)
      refine hK _ _ _ ?_; clear hK K
      refine Then_n ?_
      replace h := W_xnx h
      refine ⟨_, h, ?_⟩
      refine weak_k ?_; (conv => whnf)
      exact And.intro rfl (And.intro (allL_c (WkR.wk (Wk.refl _) (loose_int _ _)) (allL_c (WkR.wk (Wk.refl _) (loose_int _ _)) (allL_c (WkR.ptr (fun _ => rfl)) (allL_c (WkR.ptr (fun _ => rfl)) (allL_c (WkR.ptr (fun _ => rfl)) (allL_c (WkR_fn (VsR_cons (WkR.ptr (fun _ => rfl)) VsR_nil) VsR_nil) (allL_c (WkR.wk (Wk.refl _) (loose_lst fun _ => (lo_TReading _))) (allL_c (WkR.wk (Wk.refl _) (loose_int _ _)) allL_n)))))))) (allL_c ⟨some _, rfl, BkR_c rfl (CkR_cons (WkR.wk (Wk.refl _) (loose_int _ _)) (CkR_cons (WkR.wk (Wk.refl _) (loose_int _ _)) CkR_nil))⟩ (allL_c ⟨some _, rfl, BkR_c rfl (CkR_cons (WkR.wk (Wk.refl _) (loose_int _ _)) (CkR_cons (WkR.wk (Wk.refl _) (loose_lst fun _ => (lo_TReading _))) CkR_nil))⟩ (allL_c ⟨some _, rfl, BkR_c rfl (CkR_cons (WkR.wk (Wk.refl _) (loose_int _ _)) (CkR_cons (WkR.wk (Wk.refl _) (loose_int _ _)) CkR_nil))⟩ allL_n))))
    refine hK2 ?_; clear hK1 hK2 K1 K2
    refine HT_skip ?_
    refine InBlock_n ?_
    refine Then_n ?_
    refine HT_f DC_ok rfl fun K hK => ?_; (conv => whnf)
    refine And.intro (Nat.le_of_ble_eq_true rfl) ?_; (conv => whnf)
    refine blkK_of rfl ?_; (conv => whnf)
    refine getK_of rfl ?_; (conv => whnf)
    refine And.intro (Nat.le_of_ble_eq_true rfl) ?_; (conv => whnf)
    refine blkK_of rfl ?_; (conv => whnf)
    refine getK_of rfl ?_; (conv => whnf)
    refine clock_narrow_call h45 rfl ?_; (conv => whnf)
    refine hK _ _ _ ?_; clear hK K
    refine InBlock_n ?_
    refine Then_n ?_
    refine HT_f DC_ok rfl fun K hK => ?_; (conv => whnf)
    refine hK _ _ _ ?_; clear hK K
    refine Then_n ?_
    replace h := W_xnx h
    refine ⟨_, h, ?_⟩
    refine weak_k ?_; (conv => whnf)
    exact And.intro rfl (And.intro (allL_c (WkR.wk (Wk.refl _) (loose_int _ _)) (allL_c (WkR.wk (Wk.refl _) (loose_int _ _)) (allL_c (WkR.ptr (fun _ => rfl)) (allL_c (WkR.ptr (fun _ => rfl)) (allL_c (WkR.ptr (fun _ => rfl)) (allL_c (WkR_fn (VsR_cons (WkR.ptr (fun _ => rfl)) VsR_nil) VsR_nil) (allL_c (WkR.wk (Wk.refl _) (loose_lst fun _ => (lo_TReading _))) (allL_c (WkR.wk (Wk.refl _) (loose_int _ _)) allL_n)))))))) (allL_c ⟨some _, rfl, BkR_c rfl (CkR_cons (WkR.wk (Wk.refl _) (loose_int _ _)) (CkR_cons (WkR.wk (Wk.refl _) (loose_int _ _)) CkR_nil))⟩ (allL_c ⟨some _, rfl, BkR_c rfl (CkR_cons (WkR.wk (Wk.refl _) (loose_int _ _)) (CkR_cons (WkR.wk (Wk.refl _) (loose_lst fun _ => (lo_TReading _))) CkR_nil))⟩ (allL_c ⟨some _, rfl, BkR_c rfl (CkR_cons (WkR.wk (Wk.refl _) (loose_int _ _)) (CkR_cons (WkR.wk (Wk.refl _) (loose_int _ _)) CkR_nil))⟩ allL_n))))
  refine hK2 ?_; clear hK1 hK2 K1 K2
  refine HT_exit ?_
  refine Then_e ?_
  refine Then_e ?_
  refine InBlock_e ?_
  replace h := W_xbk h
  replace h := W_inl h
  refine Then_n ?_
  refine HT_fr DC_ok rfl fun K hK => ?_; (conv => whnf)
  refine And.intro (Nat.le_of_ble_eq_true rfl) ?_; (conv => whnf)
  refine blkK_of rfl ?_; (conv => whnf)
  refine And.intro (Nat.le_of_ble_eq_true rfl) ?_; (conv => whnf)
  refine blkK_of rfl ?_; (conv => whnf)
  refine And.intro rfl (And.intro (Nat.le_of_ble_eq_true rfl) (And.intro rfl ?_)); (conv => whnf)
  refine hK _ _ _ ?_; clear hK K
  refine HT_ret ?_
  replace h := W_some h
  refine PostP_r DC_ok fun K hK => ?_; (conv => whnf)
  refine And.intro (Nat.le_of_ble_eq_true rfl) ?_; (conv => whnf)
  refine blkK_of rfl ?_; (conv => whnf)
  refine And.intro (Nat.le_of_ble_eq_true rfl) ?_; (conv => whnf)
  refine hK _ ?_; clear hK K
  cases h
  exact Wk.refl _
theorem clock_around_call {T : Tbl} (hT : T 36 = pureR clock_around_S) {args : List AV} {hp : Heap} {id : Nat} {k : AV → Prop} {a0 : TClock} {a1 : Int} {Φ : TWindow → Prop} (h : W (clock_around_F a0 a1) Φ) (hw : WkL args [eTClock a0, eI a1]) (hk : ∀ y, Φ y → k (eTWindow y)) : callpK T 36 args hp id k := by
  obtain ⟨y, e, hy⟩ := W_inv h
  exact callpK_pure hT ⟨a0, a1, rfl, W_of e rfl⟩ (by exact (lo_TWindow _)) hw (hk y hy)
/-! clock.At -/
def clock_At_F (a0 : TClock) (a1 : Int) : Option (Int × Int × Int) := jn (fun p1 : Int × Bool => cn p1.2 (some (0, 0, 50)) (bd (clock_around_F a0 p1.1) fun y4 =>
    cn (decide (y4.low_f > y4.high_f)) (some (0, 0, 50)) (some (y4.low_f, y4.high_f, 0)))) fun k2 => bd (clock_Valid_F a0) fun y3 =>
    cn (!y3) (k2 (a1, true)) (cn (decide (a1 < 0)) (k2 (a1, true)) (k2 (a1, (decide (a1 > 10000000)))))
def clock_At_S : List AV → AV → Prop := fun args r => ∃ a0 a1, args = [eTClock a0, eI a1] ∧ W (clock_At_F a0 a1) fun y => r = (.tup [eI y.1, eI y.2.1, eI y.2.2])
theorem clock_At_ok {T : Tbl} (hT : TOk Try.prog T) (hpf : PfOk T PF) (h17 : T 17 = pureR clock_Valid_S) (h36 : T 36 = pureR clock_around_S) : FOk Try.prog 20 (pureR clock_At_S) := by
  refine FOk_pure hT hpf Try.func20 rfl Try.ntmps20 Try.results20 (by decide) ?_
  rintro args r ⟨a0, a1, rfl, h⟩
  refine ⟨Nat.le_of_ble_eq_true rfl, ?_, ?_⟩
  · exact (loose_cons (lo_TClock _) (loose_cons (loose_int _ _) loose_nil))
  rw [clock_At_F.eq_1] at h
  refine HT_fr DC_ok rfl fun K hK => ?_; (conv => whnf)
  refine hK _ _ _ ?_; clear hK K
  refine HT_seq ?_
  refine HT_fr DC_ok rfl fun K hK => ?_; (conv => whnf)
  replace h := W_jn h
  refine And.intro (Nat.le_of_ble_eq_true rfl) ?_; (conv => whnf)
  refine blkK_of rfl ?_; (conv => whnf)
  refine And.intro (Nat.le_of_ble_eq_true rfl) ?_; (conv => whnf)
  replace h := W_bd h
  refine clock_Valid_call h17 h (WkL.refl _) (fun _ h => ?_); (conv => whnf)
  refine cond_lk h (fun _ h => ?_) (fun _ h => ?_) <;> (conv => whnf)
  · refine hK _ _ _ ?_; clear hK K
    refine HT_if fun K1 K2 hK1 hK2 => ?_; (conv => whnf)
    refine hK1 ?_; clear hK1 hK2 K1 K2
    replace h := W_cnT h
    refine HT_fr DC_ok rfl fun K hK => ?_; (conv => whnf)
    refine hK _ _ _ ?_; clear hK K
    refine HT_ret ?_
    refine Then_r ?_
    replace h := W_some h
    refine PostP_r DC_ok fun K hK => ?_; (conv => whnf)
    refine hK _ ?_; clear hK K
    cases h
    exact Wk.refl _
  refine cond_lk h (fun _ h => ?_) (fun _ h => ?_) <;> (conv => whnf)
  · refine hK _ _ _ ?_; clear hK K
    refine HT_if fun K1 K2 hK1 hK2 => ?_; (conv => whnf)
    refine hK1 ?_; clear hK1 hK2 K1 K2
    replace h := W_cnT h
    refine HT_fr DC_ok rfl fun K hK => ?_; (conv => whnf)
    refine hK _ _ _ ?_; clear hK K
    refine HT_ret ?_
    refine Then_r ?_
    replace h := W_some h
    refine PostP_r DC_ok fun K hK => ?_; (conv => whnf)
    refine hK _ ?_; clear hK K
    cases h
    exact Wk.refl _
  refine hK _ _ _ ?_; clear hK K
  refine HT_if fun K1 K2 hK1 hK2 => ?_; (conv => whnf)
  refine cond_lk h (fun _ h => ?_) (fun _ h => ?_)
  · refine hK1 ?_; clear hK1 hK2 K1 K2
    refine HT_fr DC_ok rfl fun K hK => ?_; (conv => whnf)
    refine hK _ _ _ ?_; clear hK K
    refine HT_ret ?_
    refine Then_r ?_
    replace h := W_some h
    refine PostP_r DC_ok fun K hK => ?_; (conv => whnf)
    refine hK _ ?_; clear hK K
    cases h
    exact Wk.refl _
  refine hK2 ?_; clear hK1 hK2 K1 K2
  refine HT_skip ?_
  refine Then_n ?_
  refine HT_fr DC_ok rfl fun K hK => ?_; (conv => whnf)
  refine And.intro (Nat.le_of_ble_eq_true rfl) ?_; (conv => whnf)
  refine blkK_of rfl ?_; (conv => whnf)
  refine And.intro (Nat.le_of_ble_eq_true rfl) ?_; (conv => whnf)
  replace h := W_bd h
  refine clock_around_call h36 h (WkL.refl _) (fun _ h => ?_); (conv => whnf)
  refine blkK_of rfl ?_; (conv => whnf)
  refine And.intro rfl (And.intro (Nat.le_of_ble_eq_true rfl) (And.intro rfl ?_)); (conv => whnf)
  refine hK _ _ _ ?_; clear hK K
  refine HT_seq ?_
  refine HT_fr DC_ok rfl fun K hK => ?_; (conv => whnf)
  refine And.intro (Nat.le_of_ble_eq_true rfl) ?_; (conv => whnf)
  refine blkK_of rfl ?_; (conv => whnf)
  refine getK_of rfl ?_; (conv => whnf)
  refine And.intro (Nat.le_of_ble_eq_true rfl) ?_; (conv => whnf)
  refine blkK_of rfl ?_; (conv => whnf)
  refine getK_of rfl ?_; (conv => whnf)
  refine hK _ _ _ ?_; clear hK K
  refine HT_if fun K1 K2 hK1 hK2 => ?_; (conv => whnf)
  refine cond_lk h (fun _ h => ?_) (fun _ h => ?_)
  · refine hK1 ?_; clear hK1 hK2 K1 K2
    refine HT_fr DC_ok rfl fun K hK => ?_; (conv => whnf)
    refine hK _ _ _ ?_; clear hK K
    refine HT_ret ?_
    refine Then_r ?_
    replace h := W_some h
    refine PostP_r DC_ok fun K hK => ?_; (conv => whnf)
    refine hK _ ?_; clear hK K
    cases h
    exact Wk.refl _
  refine hK2 ?_; clear hK1 hK2 K1 K2
  refine HT_skip ?_
  refine Then_n ?_
  refine HT_fd DC_ok mix_ok rfl (by kernel_rfl) fun K hK => ?_; (conv => whnf)
  refine And.intro (Nat.le_of_ble_eq_true rfl) ?_; (conv => whnf)
  refine blkK_of rfl ?_; (conv => whnf)
  refine getK_of rfl ?_; (conv => whnf)
  refine And.intro (Nat.le_of_ble_eq_true rfl) ?_; (conv => whnf)
  refine blkK_of rfl ?_; (conv => whnf)
  refine getK_of rfl ?_; (conv => whnf)
  refine hK _ _ _ ?_; clear hK K
  refine HT_ret ?_
  replace h := W_some h
  refine PostP_r DC_ok fun K hK => ?_; (conv => whnf)
  refine hK _ ?_; clear hK K
  cases h
  exact Wk.refl _
theorem clock_At_call {T : Tbl} (hT : T 20 = pureR clock_At_S) {args : List AV} {hp : Heap} {id : Nat} {k : AV → Prop} {a0 : TClock} {a1 : Int} {Φ : Int × Int × Int → Prop} (h : W (clock_At_F a0 a1) Φ) (hw : WkL args [eTClock a0, eI a1]) (hk : ∀ y, Φ y → k (.tup [eI y.1, eI y.2.1, eI y.2.2])) : callpK T 20 args hp id k := by
  obtain ⟨y, e, hy⟩ := W_inv h
  exact callpK_pure hT ⟨a0, a1, rfl, W_of e rfl⟩ (by exact loose_tup (loose_cons (loose_int _ _) (loose_cons (loose_int _ _) (loose_cons (loose_int _ _) loose_nil)))) hw (hk y hy)
/-! clock.Before -/
def clock_Before_F (a0 : TClock) (a1 : Int) (a2 : Int) : Option Bool := bd (clock_At_F a0 a1) fun y1 => jn (fun p2 : Bool => some p2) fun k3 => cn (y1.2.2 ==
    0) (k3 (decide (y1.2.1 < a2))) (k3 false)
def clock_Before_S : List AV → AV → Prop := fun args r => ∃ a0 a1 a2, args = [eTClock a0, eI a1, eI a2] ∧ W (clock_Before_F a0 a1 a2) fun y => r = (eB y)
theorem clock_Before_ok {T : Tbl} (hT : TOk Try.prog T) (hpf : PfOk T PF) (h20 : T 20 = pureR clock_At_S) : FOk Try.prog 24 (pureR clock_Before_S) := by
  refine FOk_pure hT hpf Try.func24 rfl Try.ntmps24 Try.results24 (by decide) ?_
  rintro args r ⟨a0, a1, a2, rfl, h⟩
  refine ⟨Nat.le_of_ble_eq_true rfl, ?_, ?_⟩
  · exact (loose_cons (lo_TClock _) (loose_cons (loose_int _ _) (loose_cons (loose_int _ _) loose_nil)))
  rw [clock_Before_F.eq_1] at h
  refine HT_fr DC_ok rfl fun K hK => ?_; (conv => whnf)
  refine hK _ _ _ ?_; clear hK K
  refine HT_fr DC_ok rfl fun K hK => ?_; (conv => whnf)
  refine And.intro (Nat.le_of_ble_eq_true rfl) ?_; (conv => whnf)
  refine blkK_of rfl ?_; (conv => whnf)
  refine And.intro (Nat.le_of_ble_eq_true rfl) ?_; (conv => whnf)
  replace h := W_bd h
  refine clock_At_call h20 h (WkL.refl _) (fun _ h => ?_); (conv => whnf)
  refine hK _ _ _ ?_; clear hK K
  refine HT_fr DC_ok rfl fun K hK => ?_; (conv => whnf)
  replace h := W_jn h
  refine cond_lk h (fun _ h => ?_) (fun _ h => ?_) <;> (conv => whnf)
  · refine hK _ _ _ ?_; clear hK K
    refine HT_ret ?_
    replace h := W_some h
    refine PostP_r DC_ok fun K hK => ?_; (conv => whnf)
    refine hK _ ?_; clear hK K
    cases h
    exact Wk.refl _
  refine hK _ _ _ ?_; clear hK K
  refine HT_ret ?_
  replace h := W_some h
  refine PostP_r DC_ok fun K hK => ?_; (conv => whnf)
  refine hK _ ?_; clear hK K
  cases h
  exact Wk.refl _
theorem clock_Before_call {T : Tbl} (hT : T 24 = pureR clock_Before_S) {args : List AV} {hp : Heap} {id : Nat} {k : AV → Prop} {a0 : TClock} {a1 : Int} {a2 : Int} {Φ : Bool → Prop} (h : W (clock_Before_F a0 a1 a2) Φ) (hw : WkL args [eTClock a0, eI a1, eI a2]) (hk : ∀ y, Φ y → k (eB y)) : callpK T 24 args hp id k := by
  obtain ⟨y, e, hy⟩ := W_inv h
  exact callpK_pure hT ⟨a0, a1, a2, rfl, W_of e rfl⟩ (by exact (loose_bool _)) hw (hk y hy)
/-! clock.After -/
def clock_After_F (a0 : TClock) (a1 : Int) (a2 : Int) : Option Bool := bd (clock_At_F a0 a1) fun y1 => jn (fun p2 : Bool => some p2) fun k3 => cn (y1.2.2 == 0) (k3 (decide (y1.1 >
    a2))) (k3 false)
def clock_After_S : List AV → AV → Prop := fun args r => ∃ a0 a1 a2, args = [eTClock a0, eI a1, eI a2] ∧ W (clock_After_F a0 a1 a2) fun y => r = (eB y)
theorem clock_After_ok {T : Tbl} (hT : TOk Try.prog T) (hpf : PfOk T PF) (h20 : T 20 = pureR clock_At_S) : FOk Try.prog 26 (pureR clock_After_S) := by
  refine FOk_pure hT hpf Try.func26 rfl Try.ntmps26 Try.results26 (by decide) ?_
  rintro args r ⟨a0, a1, a2, rfl, h⟩
  refine ⟨Nat.le_of_ble_eq_true rfl, ?_, ?_⟩
  · exact (loose_cons (lo_TClock _) (loose_cons (loose_int _ _) (loose_cons (loose_int _ _) loose_nil)))
  rw [clock_After_F.eq_1] at h
  refine HT_fr DC_ok rfl fun K hK => ?_; (conv => whnf)
  refine hK _ _ _ ?_; clear hK K
  refine HT_fr DC_ok rfl fun K hK => ?_; (conv => whnf)
  refine And.intro (Nat.le_of_ble_eq_true rfl) ?_; (conv => whnf)
  refine blkK_of rfl ?_; (conv => whnf)
  refine And.intro (Nat.le_of_ble_eq_true rfl) ?_; (conv => whnf)
  replace h := W_bd h
  refine clock_At_call h20 h (WkL.refl _) (fun _ h => ?_); (conv => whnf)
  refine hK _ _ _ ?_; clear hK K
  refine HT_fr DC_ok rfl fun K hK => ?_; (conv => whnf)
  replace h := W_jn h
  refine cond_lk h (fun _ h => ?_) (fun _ h => ?_) <;> (conv => whnf)
  · refine hK _ _ _ ?_; clear hK K
    refine HT_ret ?_
    replace h := W_some h
    refine PostP_r DC_ok fun K hK => ?_; (conv => whnf)
    refine hK _ ?_; clear hK K
    cases h
    exact Wk.refl _
  refine hK _ _ _ ?_; clear hK K
  refine HT_ret ?_
  replace h := W_some h
  refine PostP_r DC_ok fun K hK => ?_; (conv => whnf)
  refine hK _ ?_; clear hK K
  cases h
  exact Wk.refl _
theorem clock_After_call {T : Tbl} (hT : T 26 = pureR clock_After_S) {args : List AV} {hp : Heap} {id : Nat} {k : AV → Prop} {a0 : TClock} {a1 : Int} {a2 : Int} {Φ : Bool → Prop} (h : W (clock_After_F a0 a1 a2) Φ) (hw : WkL args [eTClock a0, eI a1, eI a2]) (hk : ∀ y, Φ y → k (eB y)) : callpK T 26 args hp id k := by
  obtain ⟨y, e, hy⟩ := W_inv h
  exact callpK_pure hT ⟨a0, a1, a2, rfl, W_of e rfl⟩ (by exact (loose_bool _)) hw (hk y hy)
end Go.Proofs.Ythbonailomfjlaa
