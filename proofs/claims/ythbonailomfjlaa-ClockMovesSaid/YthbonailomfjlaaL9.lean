import Derived.Test.YthbonailomfjlaaW10
namespace Go.Proofs.Ythbonailomfjlaa
open Go Go.Eng
set_option maxHeartbeats 0
set_option maxRecDepth 100000
/-! dialtonelaw05.ClockMoves -/
def law05_ClockMoves_b1 (y2 : TClock) (y3 : Int) (s5 : Int × TClock) : Option (Ct (Int × TClock) Bool) :=
    cn (decide (s5.1 < (y2.Readings.length : Int))) (ix y2.Readings default s5.1 fun e6 =>
    lt ([(⟨e6.Local, (wr (e6.Low + y3)), (wr (e6.High + y3))⟩ : TReading)] : List TReading) fun l7 => ap s5.2.Readings l7 fun l8 =>
    some (.nx ((wr (s5.1 + 1)), (⟨s5.2.Drift, l8⟩ : TClock)))) (some (.bk (s5.1, s5.2)))
theorem W_blaw05_ClockMoves_b1 {y2 : TClock} {y3 : Int} {s5 : Int × TClock} {Φ : Ct (Int × TClock) Bool → Prop} (h : W (law05_ClockMoves_b1 y2 y3 s5) Φ) : W (cn (decide (s5.1 < (y2.Readings.length : Int))) (ix y2.Readings default s5.1 fun e6 =>
    lt ([(⟨e6.Local, (wr (e6.Low + y3)), (wr (e6.High + y3))⟩ : TReading)] : List TReading) fun l7 => ap s5.2.Readings l7 fun l8 =>
    some (.nx ((wr (s5.1 + 1)), (⟨s5.2.Drift, l8⟩ : TClock)))) (some (.bk (s5.1, s5.2)))) Φ := h
def law05_ClockMoves_F (a0 : Int) (a1 : Int) (a2 : List Int) (a3 : List (Int × Int × Int)) (a4 : Int) (a5 : Int) : Option Bool := bd (law05_sane_F ) fun y1 =>
    cn (!y1) (some false) (bd (ref05_Made_F a0 a1 a2 a3) fun y2 => bd (law05_pick_F a4 100000) fun y3 => bd (law05_pick_F a5 5000) fun y4 =>
    bd (lp (law05_ClockMoves_b1 y2 y3) FU (0, (⟨y2.Drift, []⟩ : TClock))) fun c9 => smK c9 (fun s10 => bd (clock_At_F y2 y4) fun y12 => bd (clock_At_F s10.2 y4) fun y13 =>
    jn (fun p14 : Bool => cn p14 (some y1) (jn (fun p16 : Bool => some p16) fun k17 => cn (y13.1 == (wr (y12.1 + y3))) (let v18 := (y13.2.1 == (wr (y12.2.1 + y3)));
    k17 v18) (k17 false))) fun k15 => cn ((y2.Readings.length : Int) == 0) (k15 true) (cn (y12.2.2 != 0) (k15 true) (cn (y13.2.2 != 0) (k15 true) (cn (y12.1 ==
    0) (k15 true) (k15 (y13.1 == 0)))))) (fun r11 => some r11))
def law05_ClockMoves_S : List AV → AV → Prop := fun args r => ∃ a0 a1 a2 a3 a4 a5, args = [eI a0, eI a1, (eL 1 eI default) a2, (eL 3 eA60 default) a3, eI a4, eI a5] ∧ W (law05_ClockMoves_F a0 a1 a2 a3 a4 a5) fun y => r = (eB y)
theorem law05_ClockMoves_ok {T : Tbl} (hT : TOk Try.prog T) (hpf : PfOk T PF) (h10 : T 10 = pureR law05_sane_S) (h16 : T 16 = pureR ref05_Made_S) (h19 : T 19 = pureR law05_pick_S) (h20 : T 20 = pureR clock_At_S) : FOk Try.prog 9 (pureR law05_ClockMoves_S) := by
  refine FOk_pure hT hpf Try.func9 rfl Try.ntmps9 Try.results9 (by decide) ?_
  rintro args r ⟨a0, a1, a2, a3, a4, a5, rfl, h⟩
  refine ⟨Nat.le_of_ble_eq_true rfl, ?_, ?_⟩
  · exact (loose_cons (loose_int _ _) (loose_cons (loose_int _ _) (loose_cons (loose_lst fun _ => (loose_int _ _)) (loose_cons (loose_lst fun _ => (lo_A60 _)) (loose_cons (loose_int _ _) (loose_cons (loose_int _ _) loose_nil))))))
  rw [law05_ClockMoves_F.eq_1] at h
  refine HT_fr DC_ok rfl fun K hK => ?_; (conv => whnf)
  refine hK _ _ _ ?_; clear hK K
  refine HT_fr DC_ok rfl fun K hK => ?_; (conv => whnf)
  replace h := W_bd h
  refine law05_sane_call h10 h (WkL.refl _) (fun _ h => ?_); (conv => whnf)
  refine hK _ _ _ ?_; clear hK K
  refine HT_seq ?_
  refine HT_fr DC_ok rfl fun K hK => ?_; (conv => whnf)
  refine hK _ _ _ ?_; clear hK K
  refine HT_if fun K1 K2 hK1 hK2 => ?_; (conv => whnf)
  refine cond_lk h (fun _ h => ?_) (fun _ h => ?_)
  · refine hK1 ?_; clear hK1 hK2 K1 K2
    refine HT_fr DC_ok rfl fun K hK => ?_; (conv => whnf)
    refine hK _ _ _ ?_; clear hK K
    refine HT_ret ?_
    refine Then_r ?_
    replace h := W_some h
    refine PostP_r DC_ok fun K hK => ?_; (conv => whnf)
    refine hK _ ?_; clear hK K
    cases h
    exact Wk.refl _
  refine hK2 ?_; clear hK1 hK2 K1 K2
  refine HT_skip ?_
  refine Then_n ?_
  refine HT_fr DC_ok rfl fun K hK => ?_; (conv => whnf)
  replace h := W_bd h
  refine ref05_Made_call h16 h (WkL.refl _) (fun _ h => ?_); (conv => whnf)
  refine blkK_of rfl ?_; (conv => whnf)
  refine And.intro rfl (And.intro (Nat.le_of_ble_eq_true rfl) (And.intro rfl ?_)); (conv => whnf)
  refine hK _ _ _ ?_; clear hK K
  refine HT_fr DC_ok rfl fun K hK => ?_; (conv => whnf)
  replace h := W_bd h
  refine law05_pick_call h19 h (WkL.refl _) (fun _ h => ?_); (conv => whnf)
  refine hK _ _ _ ?_; clear hK K
  refine HT_fr DC_ok rfl fun K hK => ?_; (conv => whnf)
  replace h := W_bd h
  refine law05_pick_call h19 h (WkL.refl _) (fun _ h => ?_); (conv => whnf)
  refine hK _ _ _ ?_; clear hK K
  refine HT_fr DC_ok rfl fun K hK => ?_; (conv => whnf)
  refine And.intro (Nat.le_of_ble_eq_true rfl) ?_; (conv => whnf)
  refine blkK_of rfl ?_; (conv => whnf)
  refine getK_of rfl ?_; (conv => whnf)
  refine blkK_of rfl ?_; (conv => whnf)
  refine And.intro rfl (And.intro (Nat.le_of_ble_eq_true rfl) (And.intro rfl ?_)); (conv => whnf)
  refine hK _ _ _ ?_; clear hK K
  refine HT_seq ?_
  refine HT_fr DC_ok rfl fun K hK => ?_; (conv => whnf)
  refine hK _ _ _ ?_; clear hK K
  refine HT_block ?_
  replace h := W_bd h
  refine HT_lpK (body := law05_ClockMoves_b1 _ _) rfl h [13, 14, 15, 16, 17] [14] [17] (fun kl kh ids b s => ⟨ofL ([(18, eI s.1)] ++ kl), ofH ([(nthN ids 0, .cells [eI s.2.Drift, .lst (.tok (b + 0)) 3 s.2.Readings.length (fun j => eTReading (s.2.Readings.getD j default))]), (b + 0, .cells [])] ++ kh), b + 128⟩) ?_; (conv => whnf); refine And.intro ?_ (fun s m h => HT_st ?_)
  · refine weak_k ?_; (conv => whnf)
    exact And.intro rfl (And.intro (allL_c (WkR.wk (Wk.refl _) (loose_int _ _)) (allL_c (WkR.wk (Wk.refl _) (loose_bool _)) (allL_c (WkR.ptr (fun _ => rfl)) (allL_c (WkR.wk (Wk.refl _) (loose_int _ _)) (allL_c (WkR.wk (Wk.refl _) (loose_int _ _)) (allL_c (WkR.ptr (fun _ => rfl)) allL_n)))))) (allL_c ⟨some _, rfl, BkR_c rfl (CkR_cons (WkR.wk (Wk.refl _) (loose_int _ _)) (CkR_cons (WkR.nil (fun _ => rfl)) CkR_nil))⟩ (allL_c ⟨none, rfl, BkR_n⟩ (allL_c ⟨some _, rfl, BkR_c rfl (CkR_cons (WkR.wk (Wk.refl _) (loose_int _ _)) (CkR_cons (WkR.wk (Wk.refl _) (loose_lst fun _ => (lo_TReading _))) CkR_nil))⟩ allL_n))))
  replace h := W_blaw05_ClockMoves_b1 (W_bd h)
  refine HT_seq ?_
  refine HT_fr DC_ok rfl fun K hK => ?_; (conv => whnf)
  refine And.intro (Nat.le_of_ble_eq_true rfl) ?_; (conv => whnf)
  refine blkK_of rfl ?_; (conv => whnf)
  refine getK_of rfl ?_; (conv => whnf)
  refine hK _ _ _ ?_; clear hK K
  refine HT_if fun K1 K2 hK1 hK2 => ?_; (conv => whnf)
  refine cond_lk h (fun _ h => ?_) (fun _ h => ?_)
  · refine hK1 ?_; clear hK1 hK2 K1 K2
    refine HT_skip ?_
    refine Then_n ?_
    refine HT_seq ?_
    refine HT_block ?_
    refine HT_fr DC_ok rfl fun K hK => ?_; (conv => whnf)
    refine And.intro (Nat.le_of_ble_eq_true rfl) ?_; (conv => whnf)
    refine blkK_of rfl ?_; (conv => whnf)
    refine getK_of rfl ?_; (conv => whnf)
    refine ix_lk h fun _ h => ?_; (conv => whnf)
    refine And.intro (Nat.le_of_ble_eq_true rfl) ?_; (conv => whnf)
    refine blkK_of rfl ?_; (conv => whnf)
    refine And.intro rfl (And.intro (Nat.le_of_ble_eq_true rfl) (And.intro rfl ?_)); (conv => whnf)
    refine hK _ _ _ ?_; clear hK K
    refine HT_f DC_ok rfl fun K hK => ?_; (conv => whnf)
    refine And.intro (Nat.le_of_ble_eq_true rfl) ?_; (conv => whnf)
    refine blkK_of rfl ?_; (conv => whnf)
    refine getK_of rfl ?_; (conv => whnf)
    refine And.intro (Nat.le_of_ble_eq_true rfl) ?_; (conv => whnf)
    refine blkK_of rfl ?_; (conv => whnf)
    refine getK_of rfl ?_; (conv => whnf)
    refine And.intro (Nat.le_of_ble_eq_true rfl) ?_; (conv => whnf)
    refine blkK_of rfl ?_; (conv => whnf)
    refine getK_of rfl ?_; (conv => whnf)
    refine And.intro (Nat.le_of_ble_eq_true rfl) ?_; (conv => whnf)
    refine blkK_of rfl ?_; (conv => whnf)
    refine getK_of rfl ?_; (conv => whnf)
    refine lt_lk (enc := eTReading) (d := default) DC_ok h rfl rfl rfl ⟨Nat.le_of_ble_eq_true rfl, Nat.le_of_ble_eq_true rfl, rfl⟩ rfl ⟨⟨rfl, Nat.le_of_ble_eq_true rfl⟩, trivial⟩ (fun h => ?_); (conv => whnf)
    refine ap_lk (enc := eTReading) (d := default) DC_ok h (.inl rfl) rfl rfl rfl ⟨rfl, Nat.le_of_ble_eq_true rfl, Nat.le_of_ble_eq_true rfl, Nat.le_of_ble_eq_true rfl, rfl⟩ (fun _ => rfl) (.inr (.inr ⟨_, _, rfl, rfl, rfl⟩)) (fun h => ?_); (conv => whnf)
    refine blkK_of rfl ?_; (conv => whnf)
    refine And.intro rfl (And.intro (Nat.le_of_ble_eq_true rfl) (And.intro rfl ?_)); (conv => whnf)
    refine hK _ _ _ ?_; clear hK K
    refine InBlock_n ?_
    refine Then_n ?_
    refine HT_f DC_ok rfl fun K hK => ?_; (conv => whnf)
    refine hK _ _ _ ?_; clear hK K
    refine Then_n ?_
    replace h := W_xnx h
    refine ⟨_, h, ?_⟩
    refine weak_k ?_; (conv => whnf)
    exact And.intro rfl (And.intro (allL_c (WkR.wk (Wk.refl _) (loose_int _ _)) (allL_c (WkR.wk (Wk.refl _) (loose_bool _)) (allL_c (WkR.ptr (fun _ => rfl)) (allL_c (WkR.wk (Wk.refl _) (loose_int _ _)) (allL_c (WkR.wk (Wk.refl _) (loose_int _ _)) (allL_c (WkR.ptr (fun _ => rfl)) allL_n)))))) (allL_c ⟨some _, rfl, BkR_c rfl (CkR_cons (WkR.wk (Wk.refl _) (loose_int _ _)) (CkR_cons (WkR.tok (fun _ => rfl) rfl (fun _ _ => Wk.refl _) (fun _ => (lo_TReading _))) CkR_nil))⟩ (allL_c ⟨some _, rfl, BkR_c rfl CkR_nil⟩ (allL_c ⟨some _, rfl, BkR_c rfl (CkR_cons (WkR.wk (Wk.refl _) (loose_int _ _)) (CkR_cons (WkR.wk (Wk.refl _) (loose_lst fun _ => (lo_TReading _))) CkR_nil))⟩ allL_n))))
  refine hK2 ?_; clear hK1 hK2 K1 K2
  refine HT_exit ?_
  refine Then_e ?_
  refine Then_e ?_
  refine InBlock_e ?_
  replace h := W_xbk h
  replace h := W_inl h
  refine Then_n ?_
  refine HT_fr DC_ok rfl fun K hK => ?_; (conv => whnf)
  refine And.intro (Nat.le_of_ble_eq_true rfl) ?_; (conv => whnf)
  refine blkK_of rfl ?_; (conv => whnf)
  refine And.intro (Nat.le_of_ble_eq_true rfl) ?_; (conv => whnf)
  replace h := W_bd h
  refine clock_At_call h20 h (WkL.refl _) (fun _ h => ?_); (conv => whnf)
  refine hK _ _ _ ?_; clear hK K
  refine HT_fr DC_ok rfl fun K hK => ?_; (conv => whnf)
  refine And.intro (Nat.le_of_ble_eq_true rfl) ?_; (conv => whnf)
  refine blkK_of rfl ?_; (conv => whnf)
  refine And.intro (Nat.le_of_ble_eq_true rfl) ?_; (conv => whnf)
  replace h := W_bd h
  refine clock_At_call h20 h (WkL_cons (Wk_agg (WkL_cons (Wk.refl _) (WkL_cons Wk_free WkL_nil))) (WkL_cons (Wk.refl _) WkL_nil)) (fun _ h => ?_); (conv => whnf)
  refine hK _ _ _ ?_; clear hK K
  refine HT_seq ?_
  refine HT_jnK rfl h [13, 15, 20, 21, 23, 24] [] [] (fun kl kh ids b s => ⟨ofL ([(102, eB s)] ++ kl), ofH ([] ++ kh), b + 64⟩) ?_; (conv => whnf); refine And.intro (fun s h => HT_st ?_) (fun k h => ?_)
  · refine HT_if fun K1 K2 hK1 hK2 => ?_; (conv => whnf)
    refine cond_lk h (fun _ h => ?_) (fun _ h => ?_)
    · refine hK1 ?_; clear hK1 hK2 K1 K2
      refine HT_fr DC_ok rfl fun K hK => ?_; (conv => whnf)
      refine hK _ _ _ ?_; clear hK K
      refine HT_ret ?_
      refine Then_r ?_
      replace h := W_some h
      refine PostP_r DC_ok fun K hK => ?_; (conv => whnf)
      refine hK _ ?_; clear hK K
      cases h
      exact Wk.refl _
    refine hK2 ?_; clear hK1 hK2 K1 K2
    refine HT_skip ?_
    refine Then_n ?_
    refine HT_fr DC_ok rfl fun K hK => ?_; (conv => whnf)
    replace h := W_jn h
    refine cond_lk h (fun _ h => ?_) (fun _ h => ?_) <;> (conv => whnf)
    · refine hK _ _ _ ?_; clear hK K
      refine HT_ret ?_
      replace h := W_some h
      refine PostP_r DC_ok fun K hK => ?_; (conv => whnf)
      refine hK _ ?_; clear hK K
      cases h
      exact Wk.refl _
    refine hK _ _ _ ?_; clear hK K
    refine HT_ret ?_
    replace h := W_some h
    refine PostP_r DC_ok fun K hK => ?_; (conv => whnf)
    refine hK _ ?_; clear hK K
    cases h
    exact Wk.refl _
  refine HT_f DC_ok rfl fun K hK => ?_; (conv => whnf)
  refine And.intro (Nat.le_of_ble_eq_true rfl) ?_; (conv => whnf)
  refine blkK_of rfl ?_; (conv => whnf)
  refine getK_of rfl ?_; (conv => whnf)
  refine cond_lk h (fun _ h => ?_) (fun _ h => ?_) <;> (conv => whnf)
  · refine hK _ _ _ ?_; clear hK K
    refine Then_n ?_
    refine ⟨_, h, ?_⟩
    refine weak_k ?_; (conv => whnf)
    exact And.intro rfl (And.intro (allL_c (WkR.wk (Wk.refl _) (loose_bool _)) (allL_c (WkR.wk (Wk.refl _) (loose_bool _)) (allL_c (WkR.wk (Wk.refl _) (loose_int _ _)) (allL_c (WkR.wk (Wk.refl _) (loose_int _ _)) (allL_c (WkR.wk (Wk.refl _) (loose_int _ _)) (allL_c (WkR.wk (Wk.refl _) (loose_int _ _)) (allL_c (WkR.wk (Wk.refl _) (loose_int _ _)) allL_n))))))) allL_n)
  refine cond_lk h (fun _ h => ?_) (fun _ h => ?_) <;> (conv => whnf)
  · refine hK _ _ _ ?_; clear hK K
    refine Then_n ?_
    refine ⟨_, h, ?_⟩
    refine weak_k ?_; (conv => whnf)
    exact And.intro rfl (And.intro (allL_c (WkR.wk (Wk.refl _) (loose_bool _)) (allL_c (WkR.wk (Wk.refl _) (loose_bool _)) (allL_c (WkR.wk (Wk.refl _) (loose_int _ _)) (allL_c (WkR.wk (Wk.refl _) (loose_int _ _)) (allL_c (WkR.wk (Wk.refl _) (loose_int _ _)) (allL_c (WkR.wk (Wk.refl _) (loose_int _ _)) (allL_c (WkR.wk (Wk.refl _) (loose_int _ _)) allL_n))))))) allL_n)
  refine cond_lk h (fun _ h => ?_) (fun _ h => ?_) <;> (conv => whnf)
  · refine hK _ _ _ ?_; clear hK K
    refine Then_n ?_
    refine ⟨_, h, ?_⟩
    refine weak_k ?_; (conv => whnf)
    exact And.intro rfl (And.intro (allL_c (WkR.wk (Wk.refl _) (loose_bool _)) (allL_c (WkR.wk (Wk.refl _) (loose_bool _)) (allL_c (WkR.wk (Wk.refl _) (loose_int _ _)) (allL_c (WkR.wk (Wk.refl _) (loose_int _ _)) (allL_c (WkR.wk (Wk.refl _) (loose_int _ _)) (allL_c (WkR.wk (Wk.refl _) (loose_int _ _)) (allL_c (WkR.wk (Wk.refl _) (loose_int _ _)) allL_n))))))) allL_n)
  refine cond_lk h (fun _ h => ?_) (fun _ h => ?_) <;> (conv => whnf)
  · refine hK _ _ _ ?_; clear hK K
    refine Then_n ?_
    refine ⟨_, h, ?_⟩
    refine weak_k ?_; (conv => whnf)
    exact And.intro rfl (And.intro (allL_c (WkR.wk (Wk.refl _) (loose_bool _)) (allL_c (WkR.wk (Wk.refl _) (loose_bool _)) (allL_c (WkR.wk (Wk.refl _) (loose_int _ _)) (allL_c (WkR.wk (Wk.refl _) (loose_int _ _)) (allL_c (WkR.wk (Wk.refl _) (loose_int _ _)) (allL_c (WkR.wk (Wk.refl _) (loose_int _ _)) (allL_c (WkR.wk (Wk.refl _) (loose_int _ _)) allL_n))))))) allL_n)
  refine hK _ _ _ ?_; clear hK K
  refine Then_n ?_
  refine ⟨_, h, ?_⟩
  refine weak_k ?_; (conv => whnf)
  exact And.intro rfl (And.intro (allL_c (WkR.wk (Wk.refl _) (loose_bool _)) (allL_c (WkR.wk (Wk.refl _) (loose_bool _)) (allL_c (WkR.wk (Wk.refl _) (loose_int _ _)) (allL_c (WkR.wk (Wk.refl _) (loose_int _ _)) (allL_c (WkR.wk (Wk.refl _) (loose_int _ _)) (allL_c (WkR.wk (Wk.refl _) (loose_int _ _)) (allL_c (WkR.wk (Wk.refl _) (loose_int _ _)) allL_n))))))) allL_n)
theorem law05_ClockMoves_call {T : Tbl} (hT : T 9 = pureR law05_ClockMoves_S) {args : List AV} {hp : Heap} {id : Nat} {k : AV → Prop} {a0 : Int} {a1 : Int} {a2 : List Int} {a3 : List (Int × Int × Int)} {a4 : Int} {a5 : Int} {Φ : Bool → Prop} (h : W (law05_ClockMoves_F a0 a1 a2 a3 a4 a5) Φ) (hw : WkL args [eI a0, eI a1, (eL 1 eI default) a2, (eL 3 eA60 default) a3, eI a4, eI a5]) (hk : ∀ y, Φ y → k (eB y)) : callpK T 9 args hp id k := by
  obtain ⟨y, e, hy⟩ := W_inv h
  exact callpK_pure hT ⟨a0, a1, a2, a3, a4, a5, rfl, W_of e rfl⟩ (by exact (loose_bool _)) hw (hk y hy)
end Go.Proofs.Ythbonailomfjlaa
