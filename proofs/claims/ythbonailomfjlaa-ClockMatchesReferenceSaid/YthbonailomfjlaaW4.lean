import Derived.Test.YthbonailomfjlaaW3
namespace Go.Proofs.Ythbonailomfjlaa
open Go Go.Eng
set_option maxHeartbeats 0
set_option maxRecDepth 100000
/-! dialtoneref05.Made -/
def ref05_Made_b2 (a0 : Int) (a1 : Int) (a2 : List Int) (a3 : List (Int × Int × Int)) (s2 : Int × TClock) (s3 : Int × TClock) : Option (Ct (Int × TClock) TClock) :=
    jn (fun p4 : Bool => cn p4 (jn (fun p6 : TClock => some (.nx ((wr (s3.1 + 1)), p6))) fun k7 => ix a3 default s3.1 fun e8 => bd (ref05_pick_F e8.1 3000) fun y9 => cn (y9 !=
    s2.1) (k7 s3.2) (bd (ref05_Shown_F a0 a1 a2 s2.1) fun y10 => ix a3 default s3.1 fun e11 => bd (ref05_pick_F e11.2.1 51) fun y12 => ix a3 default s3.1 fun e13 =>
    bd (ref05_pick_F e13.2.2 51) fun y14 => let v15 := (s3.2.Readings.length : Int); jn (fun p16 : Bool => jn (fun p19 : TClock => k7 p19) fun k20 =>
    cn p16 (lt ([(⟨y10, (imax (wr (s2.1 - y12)) 0), (wr (s2.1 + y14))⟩ : TReading)] : List TReading) fun l21 => ap s3.2.Readings l21 fun l22 =>
    k20 (⟨s3.2.Drift, l22⟩ : TClock)) (k20 s3.2)) fun k17 => cn (v15 == 0) (k17 true) (ix s3.2.Readings default (wr (v15 - 1)) fun e18 =>
    k17 (decide (e18.Local < y10))))) (some (.bk (s3.1, s3.2)))) fun k5 => cn (decide (s3.1 < (a3.length : Int))) (k5 (decide (s3.1 < 12))) (k5 false)
theorem W_bref05_Made_b2 {a0 : Int} {a1 : Int} {a2 : List Int} {a3 : List (Int × Int × Int)} {s2 : Int × TClock} {s3 : Int × TClock} {Φ : Ct (Int × TClock) TClock → Prop} (h : W (ref05_Made_b2 a0 a1 a2 a3 s2 s3) Φ) : W (jn (fun p4 : Bool => cn p4 (jn (fun p6 : TClock => some (.nx ((wr (s3.1 + 1)), p6))) fun k7 => ix a3 default s3.1 fun e8 => bd (ref05_pick_F e8.1 3000) fun y9 => cn (y9 !=
    s2.1) (k7 s3.2) (bd (ref05_Shown_F a0 a1 a2 s2.1) fun y10 => ix a3 default s3.1 fun e11 => bd (ref05_pick_F e11.2.1 51) fun y12 => ix a3 default s3.1 fun e13 =>
    bd (ref05_pick_F e13.2.2 51) fun y14 => let v15 := (s3.2.Readings.length : Int); jn (fun p16 : Bool => jn (fun p19 : TClock => k7 p19) fun k20 =>
    cn p16 (lt ([(⟨y10, (imax (wr (s2.1 - y12)) 0), (wr (s2.1 + y14))⟩ : TReading)] : List TReading) fun l21 => ap s3.2.Readings l21 fun l22 =>
    k20 (⟨s3.2.Drift, l22⟩ : TClock)) (k20 s3.2)) fun k17 => cn (v15 == 0) (k17 true) (ix s3.2.Readings default (wr (v15 - 1)) fun e18 =>
    k17 (decide (e18.Local < y10))))) (some (.bk (s3.1, s3.2)))) fun k5 => cn (decide (s3.1 < (a3.length : Int))) (k5 (decide (s3.1 < 12))) (k5 false)) Φ := h
def ref05_Made_b1 (a0 : Int) (a1 : Int) (a2 : List Int) (a3 : List (Int × Int × Int)) (s2 : Int × TClock) : Option (Ct (Int × TClock) TClock) :=
    cn (decide (s2.1 < 3000)) (bd (lp (ref05_Made_b2 a0 a1 a2 a3 s2) FU (0, s2.2)) fun c23 => smK c23 (fun s24 => some (.nx ((wr (s2.1 + 1)), s24.2))) (fun r25 =>
    some (.rt r25))) (some (.bk (s2.1, s2.2)))
theorem W_bref05_Made_b1 {a0 : Int} {a1 : Int} {a2 : List Int} {a3 : List (Int × Int × Int)} {s2 : Int × TClock} {Φ : Ct (Int × TClock) TClock → Prop} (h : W (ref05_Made_b1 a0 a1 a2 a3 s2) Φ) : W (cn (decide (s2.1 < 3000)) (bd (lp (ref05_Made_b2 a0 a1 a2 a3 s2) FU (0, s2.2)) fun c23 => smK c23 (fun s24 => some (.nx ((wr (s2.1 + 1)), s24.2))) (fun r25 =>
    some (.rt r25))) (some (.bk (s2.1, s2.2)))) Φ := h
def ref05_Made_F (a0 : Int) (a1 : Int) (a2 : List Int) (a3 : List (Int × Int × Int)) : Option TClock := bd (ref05_pick_F a0 101) fun y1 =>
    bd (lp (ref05_Made_b1 a0 a1 a2 a3) FU (0, (⟨y1, []⟩ : TClock))) fun c26 => smK c26 (fun s27 => some s27.2) (fun r28 => some r28)
def ref05_Made_S : List AV → AV → Prop := fun args r => ∃ a0 a1 a2 a3, args = [eI a0, eI a1, (eL 1 eI default) a2, (eL 3 eA60 default) a3] ∧ W (ref05_Made_F a0 a1 a2 a3) fun y => r = (eTClock y)
theorem ref05_Made_ok {T : Tbl} (hT : TOk Try.prog T) (hpf : PfOk T PF) (h28 : T 28 = pureR ref05_Shown_S) (h35 : T 35 = pureR ref05_pick_S) : FOk Try.prog 16 (pureR ref05_Made_S) := by
  refine FOk_pure hT hpf Try.func16 rfl Try.ntmps16 Try.results16 (by decide) ?_
  rintro args r ⟨a0, a1, a2, a3, rfl, h⟩
  refine ⟨Nat.le_of_ble_eq_true rfl, ?_, ?_⟩
  · exact (loose_cons (loose_int _ _) (loose_cons (loose_int _ _) (loose_cons (loose_lst fun _ => (loose_int _ _)) (loose_cons (loose_lst fun _ => (lo_A60 _)) loose_nil))))
  rw [ref05_Made_F.eq_1] at h
  refine HT_fr DC_ok rfl fun K hK => ?_; (conv => whnf)
  refine hK _ _ _ ?_; clear hK K
  refine HT_fr DC_ok rfl fun K hK => ?_; (conv => whnf)
  replace h := W_bd h
  refine ref05_pick_call h35 h (WkL.refl _) (fun _ h => ?_); (conv => whnf)
  refine blkK_of rfl ?_; (conv => whnf)
  refine And.intro rfl (And.intro (Nat.le_of_ble_eq_true rfl) (And.intro rfl ?_)); (conv => whnf)
  refine hK _ _ _ ?_; clear hK K
  refine HT_seq ?_
  refine HT_fr DC_ok rfl fun K hK => ?_; (conv => whnf)
  refine hK _ _ _ ?_; clear hK K
  refine HT_block ?_
  replace h := W_bd h
  refine HT_lpK (body := ref05_Made_b1 _ _ _ _) rfl h [0, 1, 2, 3, 8, 9] [8] [9] (fun kl kh ids b s => ⟨ofL ([(10, eI s.1)] ++ kl), ofH ([(nthN ids 0, .cells [eI s.2.Drift, .lst (.tok (b + 0)) 3 s.2.Readings.length (fun j => eTReading (s.2.Readings.getD j default))]), (b + 0, .cells [])] ++ kh), b + 128⟩) ?_; (conv => whnf); refine And.intro ?_ (fun s m h => HT_st ?_)
  · refine weak_k ?_; (conv => whnf)
    exact And.intro rfl (And.intro (allL_c (WkR.wk (Wk.refl _) (loose_int _ _)) (allL_c (WkR.wk (Wk.refl _) (loose_int _ _)) (allL_c (WkR.wk (Wk.refl _) (loose_int _ _)) (allL_c (WkR.wk (Wk.refl _) (loose_lst fun _ => (loose_int _ _))) (allL_c (WkR.wk (Wk.refl _) (loose_lst fun _ => (lo_A60 _))) (allL_c (WkR.ptr (fun _ => rfl)) (allL_c (WkR.ptr (fun _ => rfl)) allL_n))))))) (allL_c ⟨some _, rfl, BkR_c rfl (CkR_cons (WkR.wk (Wk.refl _) (loose_int _ _)) (CkR_cons (WkR.nil (fun _ => rfl)) CkR_nil))⟩ (allL_c ⟨none, rfl, BkR_n⟩ (allL_c ⟨some _, rfl, BkR_c rfl (CkR_cons (WkR.wk (Wk.refl _) (loose_int _ _)) (CkR_cons (WkR.wk (Wk.refl _) loose_nils) CkR_nil))⟩ allL_n))))
  replace h := W_bref05_Made_b1 (W_bd h)
  refine HT_seq ?_
  refine HT_fr DC_ok rfl fun K hK => ?_; (conv => whnf)
  refine hK _ _ _ ?_; clear hK K
  refine HT_if fun K1 K2 hK1 hK2 => ?_; (conv => whnf)
  refine cond_lk h (fun _ h => ?_) (fun _ h => ?_)
  · refine hK1 ?_; clear hK1 hK2 K1 K2
    refine HT_skip ?_
    refine Then_n ?_
    refine HT_seq ?_
    refine HT_block ?_
    refine HT_fr DC_ok rfl fun K hK => ?_; (conv => whnf)
    refine hK _ _ _ ?_; clear hK K
    refine HT_block ?_
    replace h := W_bd h
    refine HT_lpK (body := ref05_Made_b2 _ _ _ _ _) rfl h [0, 1, 2, 3, 8, 9, 10] [8] [9] (fun kl kh ids b s => ⟨ofL ([(11, eI s.1)] ++ kl), ofH ([(nthN ids 0, .cells [eI s.2.Drift, .lst (.tok (b + 0)) 3 s.2.Readings.length (fun j => eTReading (s.2.Readings.getD j default))]), (b + 0, .cells [])] ++ kh), b + 128⟩) ?_; (conv => whnf); refine And.intro ?_ (fun s m h => HT_st ?_)
    · refine weak_k ?_; (conv => whnf)
      exact And.intro rfl (And.intro (allL_c (WkR.wk (Wk.refl _) (loose_int _ _)) (allL_c (WkR.wk (Wk.refl _) (loose_int _ _)) (allL_c (WkR.wk (Wk.refl _) (loose_int _ _)) (allL_c (WkR.wk (Wk.refl _) (loose_lst fun _ => (loose_int _ _))) (allL_c (WkR.wk (Wk.refl _) (loose_lst fun _ => (lo_A60 _))) (allL_c (WkR.ptr (fun _ => rfl)) (allL_c (WkR.ptr (fun _ => rfl)) (allL_c (WkR.wk (Wk.refl _) (loose_int _ _)) allL_n)))))))) (allL_c ⟨some _, rfl, BkR_c rfl (CkR_cons (WkR.wk (Wk.refl _) (loose_int _ _)) (CkR_cons (WkR.tok (fun _ => rfl) rfl (fun _ _ => Wk.refl _) (fun _ => (lo_TReading _))) CkR_nil))⟩ (allL_c ⟨some _, rfl, BkR_c rfl CkR_nil⟩ (allL_c ⟨some _, rfl, BkR_c rfl (CkR_cons (WkR.wk (Wk.refl _) (loose_int _ _)) (CkR_cons (WkR.wk (Wk.refl _) loose_nils) CkR_nil))⟩ allL_n))))
    replace h := W_bref05_Made_b2 (W_bd h)
    refine HT_seq ?_
    refine HT_fr DC_ok rfl fun K hK => ?_; (conv => whnf)
    replace h := W_jn h
    refine cond_lk h (fun _ h => ?_) (fun _ h => ?_) <;> (conv => whnf)
    · refine hK _ _ _ ?_; clear hK K
      refine HT_if fun K1 K2 hK1 hK2 => ?_; (conv => whnf)
      refine cond_lk h (fun _ h => ?_) (fun _ h => ?_)
      · refine hK1 ?_; clear hK1 hK2 K1 K2
        refine HT_skip ?_
        refine Then_n ?_
        refine HT_seq ?_
        replace h := W_jn h
        refine HT_block ?_
        refine HT_seq ?_
        refine HT_fr DC_ok rfl fun K hK => ?_; (conv => whnf)
        refine ix_lk h fun _ h => ?_; (conv => whnf)
        refine And.intro (by decide) ?_; (conv => whnf)
        refine getK_of rfl ?_; (conv => whnf)
        replace h := W_bd h
        refine ref05_pick_call h35 h (WkL.refl _) (fun _ h => ?_); (conv => whnf)
        refine hK _ _ _ ?_; clear hK K
        refine HT_if fun K1 K2 hK1 hK2 => ?_; (conv => whnf)
        refine cond_lk h (fun _ h => ?_) (fun _ h => ?_)
        · refine hK1 ?_; clear hK1 hK2 K1 K2
          refine HT_exit ?_
          refine Then_e ?_
          refine InBlock_e ?_
          refine Then_n ?_
          refine HT_f DC_ok rfl fun K hK => ?_; (conv => whnf)
          refine hK _ _ _ ?_; clear hK K
          refine Then_n ?_
          replace h := W_xnx h
          refine ⟨_, h, ?_⟩
          refine weak_k ?_; (conv => whnf)
          exact And.intro rfl (And.intro (allL_c (WkR.wk (Wk.refl _) (loose_int _ _)) (allL_c (WkR.wk (Wk.refl _) (loose_int _ _)) (allL_c (WkR.wk (Wk.refl _) (loose_int _ _)) (allL_c (WkR.wk (Wk.refl _) (loose_lst fun _ => (loose_int _ _))) (allL_c (WkR.wk (Wk.refl _) (loose_lst fun _ => (lo_A60 _))) (allL_c (WkR.ptr (fun _ => rfl)) (allL_c (WkR.ptr (fun _ => rfl)) (allL_c (WkR.wk (Wk.refl _) (loose_int _ _)) allL_n)))))))) (allL_c ⟨some _, rfl, BkR_c rfl (CkR_cons (WkR.wk (Wk.refl _) (loose_int _ _)) (CkR_cons (WkR.tok (fun _ => rfl) rfl (fun _ _ => Wk.refl _) (fun _ => (lo_TReading _))) CkR_nil))⟩ (allL_c ⟨some _, rfl, BkR_c rfl CkR_nil⟩ (allL_c ⟨some _, rfl, BkR_c rfl (CkR_cons (WkR.wk (Wk.refl _) (loose_int _ _)) (CkR_cons (WkR.wk (Wk.refl _) loose_nils) CkR_nil))⟩ allL_n))))
        refine hK2 ?_; clear hK1 hK2 K1 K2
        refine HT_skip ?_
        refine Then_n ?_
        refine HT_fd DC_ok mix_ok rfl (by kernel_rfl) fun K hK => ?_; (conv => whnf)
        replace h := W_bd h
        refine ref05_Shown_call h28 h (WkL.refl _) (fun _ h => ?_); (conv => whnf)
        refine ix_lk h fun _ h => ?_; (conv => whnf)
        refine And.intro (by decide) ?_; (conv => whnf)
        refine getK_of rfl ?_; (conv => whnf)
        replace h := W_bd h
        refine ref05_pick_call h35 h (WkL.refl _) (fun _ h => ?_); (conv => whnf)
        refine ix_lk h fun _ h => ?_; (conv => whnf)
        refine And.intro (by decide) ?_; (conv => whnf)
        refine getK_of rfl ?_; (conv => whnf)
        replace h := W_bd h
        refine ref05_pick_call h35 h (WkL.refl _) (fun _ h => ?_); (conv => whnf)
        refine blkK_of rfl ?_; (conv => whnf)
        refine And.intro rfl (And.intro (Nat.le_of_ble_eq_true rfl) (And.intro rfl ?_)); (conv => whnf)
        refine hK _ _ _ ?_; clear hK K
        refine HT_fr DC_ok rfl fun K hK => ?_; (conv => whnf)
        refine And.intro (Nat.le_of_ble_eq_true rfl) ?_; (conv => whnf)
        refine blkK_of rfl ?_; (conv => whnf)
        refine getK_of rfl ?_; (conv => whnf)
        refine hK _ _ _ ?_; clear hK K
        refine HT_fd DC_ok mix_ok rfl (by kernel_rfl) fun K hK => ?_; (conv => whnf)
        replace h := W_jn h
        refine cond_lk h (fun _ h => ?_) (fun _ h => ?_) <;> (conv => whnf)
        · refine hK _ _ _ ?_; clear hK K
          replace h := W_jn h
          refine HT_if fun K1 K2 hK1 hK2 => ?_; (conv => whnf)
          refine hK1 ?_; clear hK1 hK2 K1 K2
          replace h := W_cnT h
          refine HT_f DC_ok rfl fun K hK => ?_; (conv => whnf)
          refine And.intro (Nat.le_of_ble_eq_true rfl) ?_; (conv => whnf)
          refine blkK_of rfl ?_; (conv => whnf)
          refine getK_of rfl ?_; (conv => whnf)
          refine And.intro (Nat.le_of_ble_eq_true rfl) ?_; (conv => whnf)
          refine blkK_of rfl ?_; (conv => whnf)
          refine And.intro (Nat.le_of_ble_eq_true rfl) ?_; (conv => whnf)
          refine lt_lk (enc := eTReading) (d := default) DC_ok h rfl rfl rfl ⟨Nat.le_of_ble_eq_true rfl, Nat.le_of_ble_eq_true rfl, rfl⟩ rfl ⟨⟨rfl, Nat.le_of_ble_eq_true rfl⟩, trivial⟩ (fun h => ?_); (conv => whnf)
          refine ap_lk (enc := eTReading) (d := default) DC_ok h (.inl rfl) rfl rfl rfl ⟨rfl, Nat.le_of_ble_eq_true rfl, Nat.le_of_ble_eq_true rfl, Nat.le_of_ble_eq_true rfl, rfl⟩ (fun _ => rfl) (.inr (.inr ⟨_, _, rfl, rfl, rfl⟩)) (fun h => ?_); (conv => whnf)
          refine blkK_of rfl ?_; (conv => whnf)
          refine And.intro rfl (And.intro (Nat.le_of_ble_eq_true rfl) (And.intro rfl ?_)); (conv => whnf)
          refine hK _ _ _ ?_; clear hK K
          refine InBlock_n ?_
          refine Then_n ?_
          refine HT_f DC_ok rfl fun K hK => ?_; (conv => whnf)
          refine hK _ _ _ ?_; clear hK K
          refine Then_n ?_
          replace h := W_xnx h
          refine ⟨_, h, ?_⟩
          refine weak_k ?_; (conv => whnf)
          exact And.intro rfl (And.intro (allL_c (WkR.wk (Wk.refl _) (loose_int _ _)) (allL_c (WkR.wk (Wk.refl _) (loose_int _ _)) (allL_c (WkR.wk (Wk.refl _) (loose_int _ _)) (allL_c (WkR.wk (Wk.refl _) (loose_lst fun _ => (loose_int _ _))) (allL_c (WkR.wk (Wk.refl _) (loose_lst fun _ => (lo_A60 _))) (allL_c (WkR.ptr (fun _ => rfl)) (allL_c (WkR.ptr (fun _ => rfl)) (allL_c (WkR.wk (Wk.refl _) (loose_int _ _)) allL_n)))))))) (allL_c ⟨some _, rfl, BkR_c rfl (CkR_cons (WkR.wk (Wk.refl _) (loose_int _ _)) (CkR_cons (WkR.tok (fun _ => rfl) rfl (fun _ _ => Wk.refl _) (fun _ => (lo_TReading _))) CkR_nil))⟩ (allL_c ⟨some _, rfl, BkR_c rfl CkR_nil⟩ (allL_c ⟨some _, rfl, BkR_c rfl (CkR_cons (WkR.wk (Wk.refl _) (loose_int _ _)) (CkR_cons (WkR.wk (Wk.refl _) loose_nils) CkR_nil))⟩ allL_n))))
        refine And.intro (Nat.le_of_ble_eq_true rfl) ?_; (conv => whnf)
        refine blkK_of rfl ?_; (conv => whnf)
        refine getK_of rfl ?_; (conv => whnf)
        refine ix_lk h fun _ h => ?_; (conv => whnf)
        refine getK_of rfl ?_; (conv => whnf)
        refine And.intro (Nat.le_of_ble_eq_true rfl) ?_; (conv => whnf)
        refine blkK_of rfl ?_; (conv => whnf)
        refine getK_of rfl ?_; (conv => whnf)
        refine hK _ _ _ ?_; clear hK K
        replace h := W_jn h
        refine HT_if fun K1 K2 hK1 hK2 => ?_; (conv => whnf)
        refine cond_lk h (fun _ h => ?_) (fun _ h => ?_)
        · refine hK1 ?_; clear hK1 hK2 K1 K2
          refine HT_f DC_ok rfl fun K hK => ?_; (conv => whnf)
          refine And.intro (Nat.le_of_ble_eq_true rfl) ?_; (conv => whnf)
          refine blkK_of rfl ?_; (conv => whnf)
          refine getK_of rfl ?_; (conv => whnf)
          refine And.intro (Nat.le_of_ble_eq_true rfl) ?_; (conv => whnf)
          refine blkK_of rfl ?_; (conv => whnf)
          refine And.intro (Nat.le_of_ble_eq_true rfl) ?_; (conv => whnf)
          refine lt_lk (enc := eTReading) (d := default) DC_ok h rfl rfl rfl ⟨Nat.le_of_ble_eq_true rfl, Nat.le_of_ble_eq_true rfl, rfl⟩ rfl ⟨⟨rfl, Nat.le_of_ble_eq_true rfl⟩, trivial⟩ (fun h => ?_); (conv => whnf)
          refine ap_lk (enc := eTReading) (d := default) DC_ok h (.inl rfl) rfl rfl rfl ⟨rfl, Nat.le_of_ble_eq_true rfl, Nat.le_of_ble_eq_true rfl, Nat.le_of_ble_eq_true rfl, rfl⟩ (fun _ => rfl) (.inr (.inr ⟨_, _, rfl, rfl, rfl⟩)) (fun h => ?_); (conv => whnf)
          refine blkK_of rfl ?_; (conv => whnf)
          refine And.intro rfl (And.intro (Nat.le_of_ble_eq_true rfl) (And.intro rfl ?_)); (conv => whnf)
          refine hK _ _ _ ?_; clear hK K
          refine InBlock_n ?_
          refine Then_n ?_
          refine HT_f DC_ok rfl fun K hK => ?_; (conv => whnf)
          refine hK _ _ _ ?_; clear hK K
          refine Then_n ?_
          replace h := W_xnx h
          refine ⟨_, h, ?_⟩
          refine weak_k ?_; (conv => whnf)
          exact And.intro rfl (And.intro (allL_c (WkR.wk (Wk.refl _) (loose_int _ _)) (allL_c (WkR.wk (Wk.refl _) (loose_int _ _)) (allL_c (WkR.wk (Wk.refl _) (loose_int _ _)) (allL_c (WkR.wk (Wk.refl _) (loose_lst fun _ => (loose_int _ _))) (allL_c (WkR.wk (Wk.refl _) (loose_lst fun _ => (lo_A60 _))) (allL_c (WkR.ptr (fun _ => rfl)) (allL_c (WkR.ptr (fun _ => rfl)) (allL_c (WkR.wk (Wk.refl _) (loose_int _ _)) allL_n)))))))) (allL_c ⟨some _, rfl, BkR_c rfl (CkR_cons (WkR.wk (Wk.refl _) (loose_int _ _)) (CkR_cons (WkR.tok (fun _ => rfl) rfl (fun _ _ => Wk.refl _) (fun _ => (lo_TReading _))) CkR_nil))⟩ (allL_c ⟨some _, rfl, BkR_c rfl CkR_nil⟩ (allL_c ⟨some _, rfl, BkR_c rfl (CkR_cons (WkR.wk (Wk.refl _) (loose_int _ _)) (CkR_cons (WkR.wk (Wk.refl _) loose_nils) CkR_nil))⟩ allL_n))))
        refine hK2 ?_; clear hK1 hK2 K1 K2
        refine HT_skip ?_
        refine InBlock_n ?_
        refine Then_n ?_
        refine HT_f DC_ok rfl fun K hK => ?_; (conv => whnf)
        refine hK _ _ _ ?_; clear hK K
        refine Then_n ?_
        replace h := W_xnx h
        refine ⟨_, h, ?_⟩
        refine weak_k ?_; (conv => whnf)
        exact And.intro rfl (And.intro (allL_c (WkR.wk (Wk.refl _) (loose_int _ _)) (allL_c (WkR.wk (Wk.refl _) (loose_int _ _)) (allL_c (WkR.wk (Wk.refl _) (loose_int _ _)) (allL_c (WkR.wk (Wk.refl _) (loose_lst fun _ => (loose_int _ _))) (allL_c (WkR.wk (Wk.refl _) (loose_lst fun _ => (lo_A60 _))) (allL_c (WkR.ptr (fun _ => rfl)) (allL_c (WkR.ptr (fun _ => rfl)) (allL_c (WkR.wk (Wk.refl _) (loose_int _ _)) allL_n)))))))) (allL_c ⟨some _, rfl, BkR_c rfl (CkR_cons (WkR.wk (Wk.refl _) (loose_int _ _)) (CkR_cons (WkR.tok (fun _ => rfl) rfl (fun _ _ => Wk.refl _) (fun _ => (lo_TReading _))) CkR_nil))⟩ (allL_c ⟨some _, rfl, BkR_c rfl CkR_nil⟩ (allL_c ⟨some _, rfl, BkR_c rfl (CkR_cons (WkR.wk (Wk.refl _) (loose_int _ _)) (CkR_cons (WkR.wk (Wk.refl _) loose_nils) CkR_nil))⟩ allL_n))))
      refine hK2 ?_; clear hK1 hK2 K1 K2
      refine HT_exit ?_
      refine Then_e ?_
      refine Then_e ?_
      refine InBlock_e ?_
      replace h := W_xbk h
      replace h := W_inl h
      refine InBlock_n ?_
      refine Then_n ?_
      refine HT_f DC_ok rfl fun K hK => ?_; (conv => whnf)
      refine hK _ _ _ ?_; clear hK K
      refine Then_n ?_
      replace h := W_xnx h
      refine ⟨_, h, ?_⟩
      refine weak_k ?_; (conv => whnf)
      exact And.intro rfl (And.intro (allL_c (WkR.wk (Wk.refl _) (loose_int _ _)) (allL_c (WkR.wk (Wk.refl _) (loose_int _ _)) (allL_c (WkR.wk (Wk.refl _) (loose_int _ _)) (allL_c (WkR.wk (Wk.refl _) (loose_lst fun _ => (loose_int _ _))) (allL_c (WkR.wk (Wk.refl _) (loose_lst fun _ => (lo_A60 _))) (allL_c (WkR.ptr (fun _ => rfl)) (allL_c (WkR.ptr (fun _ => rfl)) allL_n))))))) (allL_c ⟨some _, rfl, BkR_c rfl (CkR_cons (WkR.wk (Wk.refl _) (loose_int _ _)) (CkR_cons (WkR.tok (fun _ => rfl) rfl (fun _ _ => Wk.refl _) (fun _ => (lo_TReading _))) CkR_nil))⟩ (allL_c ⟨some _, rfl, BkR_c rfl CkR_nil⟩ (allL_c ⟨some _, rfl, BkR_c rfl (CkR_cons (WkR.wk (Wk.refl _) (loose_int _ _)) (CkR_cons (WkR.wk (Wk.refl _) loose_nils) CkR_nil))⟩ allL_n))))
    refine hK _ _ _ ?_; clear hK K
    refine HT_if fun K1 K2 hK1 hK2 => ?_; (conv => whnf)
    refine hK2 ?_; clear hK1 hK2 K1 K2
    replace h := W_cnF h
    refine HT_exit ?_
    refine Then_e ?_
    refine Then_e ?_
    refine InBlock_e ?_
    replace h := W_xbk h
    replace h := W_inl h
    refine InBlock_n ?_
    refine Then_n ?_
    refine HT_f DC_ok rfl fun K hK => ?_; (conv => whnf)
    refine hK _ _ _ ?_; clear hK K
    refine Then_n ?_
    replace h := W_xnx h
    refine ⟨_, h, ?_⟩
    refine weak_k ?_; (conv => whnf)
    exact And.intro rfl (And.intro (allL_c (WkR.wk (Wk.refl _) (loose_int _ _)) (allL_c (WkR.wk (Wk.refl _) (loose_int _ _)) (allL_c (WkR.wk (Wk.refl _) (loose_int _ _)) (allL_c (WkR.wk (Wk.refl _) (loose_lst fun _ => (loose_int _ _))) (allL_c (WkR.wk (Wk.refl _) (loose_lst fun _ => (lo_A60 _))) (allL_c (WkR.ptr (fun _ => rfl)) (allL_c (WkR.ptr (fun _ => rfl)) allL_n))))))) (allL_c ⟨some _, rfl, BkR_c rfl (CkR_cons (WkR.wk (Wk.refl _) (loose_int _ _)) (CkR_cons (WkR.tok (fun _ => rfl) rfl (fun _ _ => Wk.refl _) (fun _ => (lo_TReading _))) CkR_nil))⟩ (allL_c ⟨some _, rfl, BkR_c rfl CkR_nil⟩ (allL_c ⟨some _, rfl, BkR_c rfl (CkR_cons (WkR.wk (Wk.refl _) (loose_int _ _)) (CkR_cons (WkR.wk (Wk.refl _) loose_nils) CkR_nil))⟩ allL_n))))
  refine hK2 ?_; clear hK1 hK2 K1 K2
  refine HT_exit ?_
  refine Then_e ?_
  refine Then_e ?_
  refine InBlock_e ?_
  replace h := W_xbk h
  replace h := W_inl h
  refine Then_n ?_
  refine HT_fr DC_ok rfl fun K hK => ?_; (conv => whnf)
  refine And.intro (Nat.le_of_ble_eq_true rfl) ?_; (conv => whnf)
  refine blkK_of rfl ?_; (conv => whnf)
  refine And.intro (Nat.le_of_ble_eq_true rfl) ?_; (conv => whnf)
  refine blkK_of rfl ?_; (conv => whnf)
  refine And.intro rfl (And.intro (Nat.le_of_ble_eq_true rfl) (And.intro rfl ?_)); (conv => whnf)
  refine hK _ _ _ ?_; clear hK K
  refine HT_ret ?_
  replace h := W_some h
  refine PostP_r DC_ok fun K hK => ?_; (conv => whnf)
  refine And.intro (Nat.le_of_ble_eq_true rfl) ?_; (conv => whnf)
  refine blkK_of rfl ?_; (conv => whnf)
  refine And.intro (Nat.le_of_ble_eq_true rfl) ?_; (conv => whnf)
  refine hK _ ?_; clear hK K
  cases h
  exact (Wk_agg (WkL_cons (Wk.refl _) (WkL_cons Wk_free WkL_nil)))
theorem ref05_Made_call {T : Tbl} (hT : T 16 = pureR ref05_Made_S) {args : List AV} {hp : Heap} {id : Nat} {k : AV → Prop} {a0 : Int} {a1 : Int} {a2 : List Int} {a3 : List (Int × Int × Int)} {Φ : TClock → Prop} (h : W (ref05_Made_F a0 a1 a2 a3) Φ) (hw : WkL args [eI a0, eI a1, (eL 1 eI default) a2, (eL 3 eA60 default) a3]) (hk : ∀ y, Φ y → k (eTClock y)) : callpK T 16 args hp id k := by
  obtain ⟨y, e, hy⟩ := W_inv h
  exact callpK_pure hT ⟨a0, a1, a2, a3, rfl, W_of e rfl⟩ (by exact (lo_TClock _)) hw (hk y hy)
end Go.Proofs.Ythbonailomfjlaa
