import Derived.Test.YthbonailomfjlaaW8
namespace Go.Proofs.Ythbonailomfjlaa
open Go Go.Eng
set_option maxHeartbeats 0
set_option maxRecDepth 100000
/-! dialtoneref05.Agree -/
def ref05_Agree_b3 (a0 : List TSpell) (s13 : Int) (s15 : Int × Int) : Option (Ct (Int × Int) (TSpell × Int)) := cn (decide (s15.2 < (a0.length : Int))) (jn (fun p16 : Bool =>
    jn (fun p20 : Int => jn (fun p23 : Bool => jn (fun p27 : Int => some (.nx (p27, (wr (s15.2 + 1))))) fun k28 => cn p23 (ix a0 default s15.2 fun e29 =>
    k28 e29.To) (k28 p20)) fun k24 => ix a0 default s15.2 fun e25 => cn (decide (e25.To > s13)) (cn (p20 == s13) (k24 true) (ix a0 default s15.2 fun e26 =>
    k24 (decide (e26.To < p20)))) (k24 false)) fun k21 => cn p16 (ix a0 default s15.2 fun e22 => k21 e22.From) (k21 s15.1)) fun k17 => ix a0 default s15.2 fun e18 =>
    cn (decide (e18.From > s13)) (cn (s15.1 == s13) (k17 true) (ix a0 default s15.2 fun e19 => k17 (decide (e19.From < s15.1)))) (k17 false)) (some (.bk (s15.1, s15.2)))
theorem W_bref05_Agree_b3 {a0 : List TSpell} {s13 : Int} {s15 : Int × Int} {Φ : Ct (Int × Int) (TSpell × Int) → Prop} (h : W (ref05_Agree_b3 a0 s13 s15) Φ) : W (cn (decide (s15.2 < (a0.length : Int))) (jn (fun p16 : Bool => jn (fun p20 : Int => jn (fun p23 : Bool => jn (fun p27 : Int => some (.nx (p27, (wr (s15.2 + 1))))) fun k28 =>
    cn p23 (ix a0 default s15.2 fun e29 => k28 e29.To) (k28 p20)) fun k24 => ix a0 default s15.2 fun e25 => cn (decide (e25.To > s13)) (cn (p20 ==
    s13) (k24 true) (ix a0 default s15.2 fun e26 => k24 (decide (e26.To < p20)))) (k24 false)) fun k21 => cn p16 (ix a0 default s15.2 fun e22 =>
    k21 e22.From) (k21 s15.1)) fun k17 => ix a0 default s15.2 fun e18 => cn (decide (e18.From > s13)) (cn (s15.1 == s13) (k17 true) (ix a0 default s15.2 fun e19 =>
    k17 (decide (e19.From < s15.1)))) (k17 false)) (some (.bk (s15.1, s15.2)))) Φ := h
def ref05_Agree_b2 (a0 : List TSpell) (s11 : Int × Int × Int) (s13 : Int) : Option (Ct Int (TSpell × Int)) := bd (ref05_Inside_F a0 s13) fun y14 => cn (y14 ==
    s11.1) (bd (lp (ref05_Agree_b3 a0 s13) FU (s13, 0)) fun c30 => smK c30 (fun s31 => some (.nx s31.1)) (fun r32 => some (.rt r32))) (some (.bk s13))
theorem W_bref05_Agree_b2 {a0 : List TSpell} {s11 : Int × Int × Int} {s13 : Int} {Φ : Ct Int (TSpell × Int) → Prop} (h : W (ref05_Agree_b2 a0 s11 s13) Φ) : W (bd (ref05_Inside_F a0 s13) fun y14 => cn (y14 == s11.1) (bd (lp (ref05_Agree_b3 a0 s13) FU (s13, 0)) fun c30 => smK c30 (fun s31 => some (.nx s31.1)) (fun r32 =>
    some (.rt r32))) (some (.bk s13))) Φ := h
def ref05_Agree_b1 (a0 : List TSpell) (s1 : Int × Int × Int) : Option (Ct (Int × Int × Int) (TSpell × Int)) :=
    cn (decide (s1.2.2 < (a0.length : Int))) (ix a0 default s1.2.2 fun e2 => bd (ref05_Inside_F a0 e2.From) fun y3 => jn (fun p4 : Bool => jn (fun p7 : Int × Int =>
    some (.nx (p7.1, p7.2, (wr (s1.2.2 + 1))))) fun k8 => cn p4 (ix a0 default s1.2.2 fun e9 => k8 (y3, e9.From)) (k8 (s1.1, s1.2.1))) fun k5 => cn (decide (y3 >
    s1.1)) (k5 true) (cn (y3 == s1.1) (ix a0 default s1.2.2 fun e6 => k5 (decide (e6.From < s1.2.1))) (k5 false))) (some (.bk (s1.1, s1.2.1, s1.2.2)))
theorem W_bref05_Agree_b1 {a0 : List TSpell} {s1 : Int × Int × Int} {Φ : Ct (Int × Int × Int) (TSpell × Int) → Prop} (h : W (ref05_Agree_b1 a0 s1) Φ) : W (cn (decide (s1.2.2 < (a0.length : Int))) (ix a0 default s1.2.2 fun e2 => bd (ref05_Inside_F a0 e2.From) fun y3 => jn (fun p4 : Bool => jn (fun p7 : Int × Int =>
    some (.nx (p7.1, p7.2, (wr (s1.2.2 + 1))))) fun k8 => cn p4 (ix a0 default s1.2.2 fun e9 => k8 (y3, e9.From)) (k8 (s1.1, s1.2.1))) fun k5 => cn (decide (y3 >
    s1.1)) (k5 true) (cn (y3 == s1.1) (ix a0 default s1.2.2 fun e6 => k5 (decide (e6.From < s1.2.1))) (k5 false))) (some (.bk (s1.1, s1.2.1, s1.2.2)))) Φ := h
def ref05_Agree_F (a0 : List TSpell) : Option (TSpell × Int) := bd (lp (ref05_Agree_b1 a0) FU (0, 0, 0)) fun c10 => smK c10 (fun s11 => cn (s11.1 ==
    0) (some ((⟨0, 0⟩ : TSpell), 0)) (bd (lp (ref05_Agree_b2 a0 s11) FU s11.2.1) fun c33 => smK c33 (fun s34 => some ((⟨s11.2.1, s34⟩ : TSpell), s11.1)) (fun r35 =>
    some r35))) (fun r12 => some r12)
def ref05_Agree_S : List AV → AV → Prop := fun args r => ∃ a0, args = [(eL 2 eTSpell default) a0] ∧ W (ref05_Agree_F a0) fun y => r = (.tup [eTSpell y.1, eI y.2])
theorem ref05_Agree_ok {T : Tbl} (hT : TOk Try.prog T) (hpf : PfOk T PF) (h34 : T 34 = pureR ref05_Inside_S) : FOk Try.prog 14 (pureR ref05_Agree_S) := by
  refine FOk_pure hT hpf Try.func14 rfl Try.ntmps14 Try.results14 (by decide) ?_
  rintro args r ⟨a0, rfl, h⟩
  refine ⟨Nat.le_of_ble_eq_true rfl, ?_, ?_⟩
  · exact (loose_cons (loose_lst fun _ => (lo_TSpell _)) loose_nil)
  rw [ref05_Agree_F.eq_1] at h
  refine HT_fr DC_ok rfl fun K hK => ?_; (conv => whnf)
  refine hK _ _ _ ?_; clear hK K
  refine HT_fr DC_ok rfl fun K hK => ?_; (conv => whnf)
  refine hK _ _ _ ?_; clear hK K
  refine HT_fr DC_ok rfl fun K hK => ?_; (conv => whnf)
  refine hK _ _ _ ?_; clear hK K
  refine HT_seq ?_
  refine HT_fr DC_ok rfl fun K hK => ?_; (conv => whnf)
  refine hK _ _ _ ?_; clear hK K
  refine HT_block ?_
  replace h := W_bd h
  refine HT_lpK (body := ref05_Agree_b1 _) rfl h [0, 2] [2] [] (fun kl kh ids b s => ⟨ofL ([(4, eI s.1), (5, eI s.2.1), (6, eI s.2.2)] ++ kl), ofH ([] ++ kh), b + 64⟩) ?_; (conv => whnf); refine And.intro ?_ (fun s m h => HT_st ?_)
  · refine weak_k ?_; (conv => whnf)
    exact And.intro rfl (And.intro (allL_c (WkR.wk (Wk.refl _) (loose_int _ _)) (allL_c (WkR.wk (Wk.refl _) (loose_int _ _)) (allL_c (WkR.wk (Wk.refl _) (loose_int _ _)) (allL_c (WkR.wk (Wk.refl _) (loose_lst fun _ => (lo_TSpell _))) (allL_c (WkR.ptr (fun _ => rfl)) allL_n))))) (allL_c ⟨some _, rfl, BkR_c rfl (CkR_cons (WkR.wk (Wk.refl _) (loose_int _ _)) (CkR_cons (WkR.wk (Wk.refl _) (loose_int _ _)) CkR_nil))⟩ allL_n))
  replace h := W_bref05_Agree_b1 (W_bd h)
  refine HT_seq ?_
  refine HT_fr DC_ok rfl fun K hK => ?_; (conv => whnf)
  refine hK _ _ _ ?_; clear hK K
  refine HT_if fun K1 K2 hK1 hK2 => ?_; (conv => whnf)
  refine cond_lk h (fun _ h => ?_) (fun _ h => ?_)
  · refine hK1 ?_; clear hK1 hK2 K1 K2
    refine HT_skip ?_
    refine Then_n ?_
    refine HT_seq ?_
    refine HT_block ?_
    refine HT_fr DC_ok rfl fun K hK => ?_; (conv => whnf)
    refine ix_lk h fun _ h => ?_; (conv => whnf)
    refine getK_of rfl ?_; (conv => whnf)
    replace h := W_bd h
    refine ref05_Inside_call h34 h (WkL.refl _) (fun _ h => ?_); (conv => whnf)
    refine hK _ _ _ ?_; clear hK K
    refine HT_fr DC_ok rfl fun K hK => ?_; (conv => whnf)
    replace h := W_jn h
    refine cond_lk h (fun _ h => ?_) (fun _ h => ?_) <;> (conv => whnf)
    · refine hK _ _ _ ?_; clear hK K
      replace h := W_jn h
      refine HT_if fun K1 K2 hK1 hK2 => ?_; (conv => whnf)
      refine hK1 ?_; clear hK1 hK2 K1 K2
      replace h := W_cnT h
      refine HT_fr DC_ok rfl fun K hK => ?_; (conv => whnf)
      refine hK _ _ _ ?_; clear hK K
      refine HT_f DC_ok rfl fun K hK => ?_; (conv => whnf)
      refine ix_lk h fun _ h => ?_; (conv => whnf)
      refine getK_of rfl ?_; (conv => whnf)
      refine hK _ _ _ ?_; clear hK K
      refine InBlock_n ?_
      refine Then_n ?_
      refine HT_f DC_ok rfl fun K hK => ?_; (conv => whnf)
      refine hK _ _ _ ?_; clear hK K
      refine Then_n ?_
      replace h := W_xnx h
      refine ⟨_, h, ?_⟩
      refine weak_k ?_; (conv => whnf)
      exact And.intro rfl (And.intro (allL_c (WkR.wk (Wk.refl _) (loose_int _ _)) (allL_c (WkR.wk (Wk.refl _) (loose_int _ _)) (allL_c (WkR.wk (Wk.refl _) (loose_int _ _)) (allL_c (WkR.wk (Wk.refl _) (loose_lst fun _ => (lo_TSpell _))) (allL_c (WkR.ptr (fun _ => rfl)) allL_n))))) (allL_c ⟨some _, rfl, BkR_c rfl (CkR_cons (WkR.wk (Wk.refl _) (loose_int _ _)) (CkR_cons (WkR.wk (Wk.refl _) (loose_int _ _)) CkR_nil))⟩ allL_n))
    refine cond_lk h (fun _ h => ?_) (fun _ h => ?_) <;> (conv => whnf)
    · refine ix_lk h fun _ h => ?_; (conv => whnf)
      refine getK_of rfl ?_; (conv => whnf)
      refine hK _ _ _ ?_; clear hK K
      replace h := W_jn h
      refine HT_if fun K1 K2 hK1 hK2 => ?_; (conv => whnf)
      refine cond_lk h (fun _ h => ?_) (fun _ h => ?_)
      · refine hK1 ?_; clear hK1 hK2 K1 K2
        refine HT_fr DC_ok rfl fun K hK => ?_; (conv => whnf)
        refine hK _ _ _ ?_; clear hK K
        refine HT_f DC_ok rfl fun K hK => ?_; (conv => whnf)
        refine ix_lk h fun _ h => ?_; (conv => whnf)
        refine getK_of rfl ?_; (conv => whnf)
        refine hK _ _ _ ?_; clear hK K
        refine InBlock_n ?_
        refine Then_n ?_
        refine HT_f DC_ok rfl fun K hK => ?_; (conv => whnf)
        refine hK _ _ _ ?_; clear hK K
        refine Then_n ?_
        replace h := W_xnx h
        refine ⟨_, h, ?_⟩
        refine weak_k ?_; (conv => whnf)
        exact And.intro rfl (And.intro (allL_c (WkR.wk (Wk.refl _) (loose_int _ _)) (allL_c (WkR.wk (Wk.refl _) (loose_int _ _)) (allL_c (WkR.wk (Wk.refl _) (loose_int _ _)) (allL_c (WkR.wk (Wk.refl _) (loose_lst fun _ => (lo_TSpell _))) (allL_c (WkR.ptr (fun _ => rfl)) allL_n))))) (allL_c ⟨some _, rfl, BkR_c rfl (CkR_cons (WkR.wk (Wk.refl _) (loose_int _ _)) (CkR_cons (WkR.wk (Wk.refl _) (loose_int _ _)) CkR_nil))⟩ allL_n))
      refine hK2 ?_; clear hK1 hK2 K1 K2
      refine HT_skip ?_
      refine InBlock_n ?_
      refine Then_n ?_
      refine HT_f DC_ok rfl fun K hK => ?_; (conv => whnf)
      refine hK _ _ _ ?_; clear hK K
      refine Then_n ?_
      replace h := W_xnx h
      refine ⟨_, h, ?_⟩
      refine weak_k ?_; (conv => whnf)
      exact And.intro rfl (And.intro (allL_c (WkR.wk (Wk.refl _) (loose_int _ _)) (allL_c (WkR.wk (Wk.refl _) (loose_int _ _)) (allL_c (WkR.wk (Wk.refl _) (loose_int _ _)) (allL_c (WkR.wk (Wk.refl _) (loose_lst fun _ => (lo_TSpell _))) (allL_c (WkR.ptr (fun _ => rfl)) allL_n))))) (allL_c ⟨some _, rfl, BkR_c rfl (CkR_cons (WkR.wk (Wk.refl _) (loose_int _ _)) (CkR_cons (WkR.wk (Wk.refl _) (loose_int _ _)) CkR_nil))⟩ allL_n))
    refine hK _ _ _ ?_; clear hK K
    replace h := W_jn h
    refine HT_if fun K1 K2 hK1 hK2 => ?_; (conv => whnf)
    refine hK2 ?_; clear hK1 hK2 K1 K2
    replace h := W_cnF h
    refine HT_skip ?_
    refine InBlock_n ?_
    refine Then_n ?_
    refine HT_f DC_ok rfl fun K hK => ?_; (conv => whnf)
    refine hK _ _ _ ?_; clear hK K
    refine Then_n ?_
    replace h := W_xnx h
    refine ⟨_, h, ?_⟩
    refine weak_k ?_; (conv => whnf)
    exact And.intro rfl (And.intro (allL_c (WkR.wk (Wk.refl _) (loose_int _ _)) (allL_c (WkR.wk (Wk.refl _) (loose_int _ _)) (allL_c (WkR.wk (Wk.refl _) (loose_int _ _)) (allL_c (WkR.wk (Wk.refl _) (loose_lst fun _ => (lo_TSpell _))) (allL_c (WkR.ptr (fun _ => rfl)) allL_n))))) (allL_c ⟨some _, rfl, BkR_c rfl (CkR_cons (WkR.wk (Wk.refl _) (loose_int _ _)) (CkR_cons (WkR.wk (Wk.refl _) (loose_int _ _)) CkR_nil))⟩ allL_n))
  refine hK2 ?_; clear hK1 hK2 K1 K2
  refine HT_exit ?_
  refine Then_e ?_
  refine Then_e ?_
  refine InBlock_e ?_
  replace h := W_xbk h
  replace h := W_inl h
  refine Then_n ?_
  refine HT_seq ?_
  refine HT_fr DC_ok rfl fun K hK => ?_; (conv => whnf)
  refine hK _ _ _ ?_; clear hK K
  refine HT_if fun K1 K2 hK1 hK2 => ?_; (conv => whnf)
  refine cond_lk h (fun _ h => ?_) (fun _ h => ?_)
  · refine hK1 ?_; clear hK1 hK2 K1 K2
    refine HT_fr DC_ok rfl fun K hK => ?_; (conv => whnf)
    refine blkK_of rfl ?_; (conv => whnf)
    refine And.intro rfl (And.intro (Nat.le_of_ble_eq_true rfl) (And.intro rfl ?_)); (conv => whnf)
    refine hK _ _ _ ?_; clear hK K
    refine HT_ret ?_
    refine Then_r ?_
    replace h := W_some h
    refine PostP_r DC_ok fun K hK => ?_; (conv => whnf)
    refine And.intro (Nat.le_of_ble_eq_true rfl) ?_; (conv => whnf)
    refine blkK_of rfl ?_; (conv => whnf)
    refine And.intro (Nat.le_of_ble_eq_true rfl) ?_; (conv => whnf)
    refine hK _ ?_; clear hK K
    cases h
    exact Wk.refl _
  refine hK2 ?_; clear hK1 hK2 K1 K2
  refine HT_skip ?_
  refine Then_n ?_
  refine HT_fr DC_ok rfl fun K hK => ?_; (conv => whnf)
  refine hK _ _ _ ?_; clear hK K
  refine HT_seq ?_
  refine HT_block ?_
  replace h := W_bd h
  refine HT_lpK (body := ref05_Agree_b2 _ _) rfl h [0, 2, 4, 5] [2] [] (fun kl kh ids b s => ⟨ofL ([(8, eI s)] ++ kl), ofH ([] ++ kh), b + 64⟩) ?_; (conv => whnf); refine And.intro ?_ (fun s m h => HT_st ?_)
  · refine weak_k ?_; (conv => whnf)
    exact And.intro rfl (And.intro (allL_c (WkR.wk (Wk.refl _) (loose_int _ _)) (allL_c (WkR.wk (Wk.refl _) (loose_lst fun _ => (lo_TSpell _))) (allL_c (WkR.ptr (fun _ => rfl)) (allL_c (WkR.wk (Wk.refl _) (loose_int _ _)) (allL_c (WkR.wk (Wk.refl _) (loose_int _ _)) allL_n))))) (allL_c ⟨some _, rfl, BkR_c rfl (CkR_cons (WkR.wk (Wk.refl _) (loose_int _ _)) (CkR_cons (WkR.wk (Wk.refl _) (loose_int _ _)) CkR_nil))⟩ allL_n))
  replace h := W_bref05_Agree_b2 (W_bd h)
  refine HT_seq ?_
  refine HT_fr DC_ok rfl fun K hK => ?_; (conv => whnf)
  replace h := W_bd h
  refine ref05_Inside_call h34 h (WkL.refl _) (fun _ h => ?_); (conv => whnf)
  refine hK _ _ _ ?_; clear hK K
  refine HT_if fun K1 K2 hK1 hK2 => ?_; (conv => whnf)
  refine cond_lk h (fun _ h => ?_) (fun _ h => ?_)
  · refine hK1 ?_; clear hK1 hK2 K1 K2
    refine HT_skip ?_
    refine Then_n ?_
    refine HT_block ?_
    refine HT_fr DC_ok rfl fun K hK => ?_; (conv => whnf)
    refine hK _ _ _ ?_; clear hK K
    refine HT_seq ?_
    refine HT_fr DC_ok rfl fun K hK => ?_; (conv => whnf)
    refine hK _ _ _ ?_; clear hK K
    refine HT_block ?_
    replace h := W_bd h
    refine HT_lpK (body := ref05_Agree_b3 _ _) rfl h [0, 2, 4, 5, 8] [2] [] (fun kl kh ids b s => ⟨ofL ([(9, eI s.1), (10, eI s.2)] ++ kl), ofH ([] ++ kh), b + 64⟩) ?_; (conv => whnf); refine And.intro ?_ (fun s m h => HT_st ?_)
    · refine weak_k ?_; (conv => whnf)
      exact And.intro rfl (And.intro (allL_c (WkR.wk (Wk.refl _) (loose_int _ _)) (allL_c (WkR.wk (Wk.refl _) (loose_int _ _)) (allL_c (WkR.wk (Wk.refl _) (loose_lst fun _ => (lo_TSpell _))) (allL_c (WkR.ptr (fun _ => rfl)) (allL_c (WkR.wk (Wk.refl _) (loose_int _ _)) (allL_c (WkR.wk (Wk.refl _) (loose_int _ _)) (allL_c (WkR.wk (Wk.refl _) (loose_int _ _)) allL_n))))))) (allL_c ⟨some _, rfl, BkR_c rfl (CkR_cons (WkR.wk (Wk.refl _) (loose_int _ _)) (CkR_cons (WkR.wk (Wk.refl _) (loose_int _ _)) CkR_nil))⟩ allL_n))
    replace h := W_bref05_Agree_b3 (W_bd h)
    refine HT_seq ?_
    refine HT_fr DC_ok rfl fun K hK => ?_; (conv => whnf)
    refine hK _ _ _ ?_; clear hK K
    refine HT_if fun K1 K2 hK1 hK2 => ?_; (conv => whnf)
    refine cond_lk h (fun _ h => ?_) (fun _ h => ?_)
    · refine hK1 ?_; clear hK1 hK2 K1 K2
      refine HT_skip ?_
      refine Then_n ?_
      refine HT_seq ?_
      refine HT_block ?_
      refine HT_seq ?_
      refine HT_fr DC_ok rfl fun K hK => ?_; (conv => whnf)
      replace h := W_jn h
      refine ix_lk h fun _ h => ?_; (conv => whnf)
      refine getK_of rfl ?_; (conv => whnf)
      refine cond_lk h (fun _ h => ?_) (fun _ h => ?_) <;> (conv => whnf)
      · refine cond_lk h (fun _ h => ?_) (fun _ h => ?_) <;> (conv => whnf)
        · refine hK _ _ _ ?_; clear hK K
          replace h := W_jn h
          refine HT_if fun K1 K2 hK1 hK2 => ?_; (conv => whnf)
          refine hK1 ?_; clear hK1 hK2 K1 K2
          replace h := W_cnT h
          refine HT_f DC_ok rfl fun K hK => ?_; (conv => whnf)
          refine ix_lk h fun _ h => ?_; (conv => whnf)
          refine getK_of rfl ?_; (conv => whnf)
          refine hK _ _ _ ?_; clear hK K
          refine Then_n ?_
          refine HT_fr DC_ok rfl fun K hK => ?_; (conv => whnf)
          replace h := W_jn h
          refine ix_lk h fun _ h => ?_; (conv => whnf)
          refine getK_of rfl ?_; (conv => whnf)
          refine cond_lk h (fun _ h => ?_) (fun _ h => ?_) <;> (conv => whnf)
          · refine cond_lk h (fun _ h => ?_) (fun _ h => ?_) <;> (conv => whnf)
            · refine hK _ _ _ ?_; clear hK K
              replace h := W_jn h
              refine HT_if fun K1 K2 hK1 hK2 => ?_; (conv => whnf)
              refine hK1 ?_; clear hK1 hK2 K1 K2
              replace h := W_cnT h
              refine HT_f DC_ok rfl fun K hK => ?_; (conv => whnf)
              refine ix_lk h fun _ h => ?_; (conv => whnf)
              refine getK_of rfl ?_; (conv => whnf)
              refine hK _ _ _ ?_; clear hK K
              refine InBlock_n ?_
              refine Then_n ?_
              refine HT_f DC_ok rfl fun K hK => ?_; (conv => whnf)
              refine hK _ _ _ ?_; clear hK K
              refine Then_n ?_
              replace h := W_xnx h
              refine ⟨_, h, ?_⟩
              refine weak_k ?_; (conv => whnf)
              exact And.intro rfl (And.intro (allL_c (WkR.wk (Wk.refl _) (loose_int _ _)) (allL_c (WkR.wk (Wk.refl _) (loose_int _ _)) (allL_c (WkR.wk (Wk.refl _) (loose_lst fun _ => (lo_TSpell _))) (allL_c (WkR.ptr (fun _ => rfl)) (allL_c (WkR.wk (Wk.refl _) (loose_int _ _)) (allL_c (WkR.wk (Wk.refl _) (loose_int _ _)) (allL_c (WkR.wk (Wk.refl _) (loose_int _ _)) allL_n))))))) (allL_c ⟨some _, rfl, BkR_c rfl (CkR_cons (WkR.wk (Wk.refl _) (loose_int _ _)) (CkR_cons (WkR.wk (Wk.refl _) (loose_int _ _)) CkR_nil))⟩ allL_n))
            refine ix_lk h fun _ h => ?_; (conv => whnf)
            refine getK_of rfl ?_; (conv => whnf)
            refine hK _ _ _ ?_; clear hK K
            replace h := W_jn h
            refine HT_if fun K1 K2 hK1 hK2 => ?_; (conv => whnf)
            refine cond_lk h (fun _ h => ?_) (fun _ h => ?_)
            · refine hK1 ?_; clear hK1 hK2 K1 K2
              refine HT_f DC_ok rfl fun K hK => ?_; (conv => whnf)
              refine ix_lk h fun _ h => ?_; (conv => whnf)
              refine getK_of rfl ?_; (conv => whnf)
              refine hK _ _ _ ?_; clear hK K
              refine InBlock_n ?_
              refine Then_n ?_
              refine HT_f DC_ok rfl fun K hK => ?_; (conv => whnf)
              refine hK _ _ _ ?_; clear hK K
              refine Then_n ?_
              replace h := W_xnx h
              refine ⟨_, h, ?_⟩
              refine weak_k ?_; (conv => whnf)
              exact And.intro rfl (And.intro (allL_c (WkR.wk (Wk.refl _) (loose_int _ _)) (allL_c (WkR.wk (Wk.refl _) (loose_int _ _)) (allL_c (WkR.wk (Wk.refl _) (loose_lst fun _ => (lo_TSpell _))) (allL_c (WkR.ptr (fun _ => rfl)) (allL_c (WkR.wk (Wk.refl _) (loose_int _ _)) (allL_c (WkR.wk (Wk.refl _) (loose_int _ _)) (allL_c (WkR.wk (Wk.refl _) (loose_int _ _)) allL_n))))))) (allL_c ⟨some _, rfl, BkR_c rfl (CkR_cons (WkR.wk (Wk.refl _) (loose_int _ _)) (CkR_cons (WkR.wk (Wk.refl _) (loose_int _ _)) CkR_nil))⟩ allL_n))
            refine hK2 ?_; clear hK1 hK2 K1 K2
            refine HT_skip ?_
            refine InBlock_n ?_
            refine Then_n ?_
            refine HT_f DC_ok rfl fun K hK => ?_; (conv => whnf)
            refine hK _ _ _ ?_; clear hK K
            refine Then_n ?_
            replace h := W_xnx h
            refine ⟨_, h, ?_⟩
            refine weak_k ?_; (conv => whnf)
            exact And.intro rfl (And.intro (allL_c (WkR.wk (Wk.refl _) (loose_int _ _)) (allL_c (WkR.wk (Wk.refl _) (loose_int _ _)) (allL_c (WkR.wk (Wk.refl _) (loose_lst fun _ => (lo_TSpell _))) (allL_c (WkR.ptr (fun _ => rfl)) (allL_c (WkR.wk (Wk.refl _) (loose_int _ _)) (allL_c (WkR.wk (Wk.refl _) (loose_int _ _)) (allL_c (WkR.wk (Wk.refl _) (loose_int _ _)) allL_n))))))) (allL_c ⟨some _, rfl, BkR_c rfl (CkR_cons (WkR.wk (Wk.refl _) (loose_int _ _)) (CkR_cons (WkR.wk (Wk.refl _) (loose_int _ _)) CkR_nil))⟩ allL_n))
          refine hK _ _ _ ?_; clear hK K
          replace h := W_jn h
          refine HT_if fun K1 K2 hK1 hK2 => ?_; (conv => whnf)
          refine hK2 ?_; clear hK1 hK2 K1 K2
          replace h := W_cnF h
          refine HT_skip ?_
          refine InBlock_n ?_
          refine Then_n ?_
          refine HT_f DC_ok rfl fun K hK => ?_; (conv => whnf)
          refine hK _ _ _ ?_; clear hK K
          refine Then_n ?_
          replace h := W_xnx h
          refine ⟨_, h, ?_⟩
          refine weak_k ?_; (conv => whnf)
          exact And.intro rfl (And.intro (allL_c (WkR.wk (Wk.refl _) (loose_int _ _)) (allL_c (WkR.wk (Wk.refl _) (loose_int _ _)) (allL_c (WkR.wk (Wk.refl _) (loose_lst fun _ => (lo_TSpell _))) (allL_c (WkR.ptr (fun _ => rfl)) (allL_c (WkR.wk (Wk.refl _) (loose_int _ _)) (allL_c (WkR.wk (Wk.refl _) (loose_int _ _)) (allL_c (WkR.wk (Wk.refl _) (loose_int _ _)) allL_n))))))) (allL_c ⟨some _, rfl, BkR_c rfl (CkR_cons (WkR.wk (Wk.refl _) (loose_int _ _)) (CkR_cons (WkR.wk (Wk.refl _) (loose_int _ _)) CkR_nil))⟩ allL_n))
        refine ix_lk h fun _ h => ?_; (conv => whnf)
        refine getK_of rfl ?_; (conv => whnf)
        refine hK _ _ _ ?_; clear hK K
        replace h := W_jn h
        refine HT_if fun K1 K2 hK1 hK2 => ?_; (conv => whnf)
        refine cond_lk h (fun _ h => ?_) (fun _ h => ?_)
        · refine hK1 ?_; clear hK1 hK2 K1 K2
          refine HT_f DC_ok rfl fun K hK => ?_; (conv => whnf)
          refine ix_lk h fun _ h => ?_; (conv => whnf)
          refine getK_of rfl ?_; (conv => whnf)
          refine hK _ _ _ ?_; clear hK K
          refine Then_n ?_
          refine HT_fr DC_ok rfl fun K hK => ?_; (conv => whnf)
          replace h := W_jn h
          refine ix_lk h fun _ h => ?_; (conv => whnf)
          refine getK_of rfl ?_; (conv => whnf)
          refine cond_lk h (fun _ h => ?_) (fun _ h => ?_) <;> (conv => whnf)
          · refine cond_lk h (fun _ h => ?_) (fun _ h => ?_) <;> (conv => whnf)
            · refine hK _ _ _ ?_; clear hK K
              replace h := W_jn h
              refine HT_if fun K1 K2 hK1 hK2 => ?_; (conv => whnf)
              refine hK1 ?_; clear hK1 hK2 K1 K2
              replace h := W_cnT h
              refine HT_f DC_ok rfl fun K hK => ?_; (conv => whnf)
              refine ix_lk h fun _ h => ?_; (conv => whnf)
              refine getK_of rfl ?_; (conv => whnf)
              refine hK _ _ _ ?_; clear hK K
              refine InBlock_n ?_
              refine Then_n ?_
              refine HT_f DC_ok rfl fun K hK => ?_; (conv => whnf)
              refine hK _ _ _ ?_; clear hK K
              refine Then_n ?_
              replace h := W_xnx h
              refine ⟨_, h, ?_⟩
              refine weak_k ?_; (conv => whnf)
              exact And.intro rfl (And.intro (allL_c (WkR.wk (Wk.refl _) (loose_int _ _)) (allL_c (WkR.wk (Wk.refl _) (loose_int _ _)) (allL_c (WkR.wk (Wk.refl _) (loose_lst fun _ => (lo_TSpell _))) (allL_c (WkR.ptr (fun _ => rfl)) (allL_c (WkR.wk (Wk.refl _) (loose_int _ _)) (allL_c (WkR.wk (Wk.refl _) (loose_int _ _)) (allL_c (WkR.wk (Wk.refl _) (loose_int _ _)) allL_n))))))) (allL_c ⟨some _, rfl, BkR_c rfl (CkR_cons (WkR.wk (Wk.refl _) (loose_int _ _)) (CkR_cons (WkR.wk (Wk.refl _) (loose_int _ _)) CkR_nil))⟩ allL_n))
            refine ix_lk h fun _ h => ?_; (conv => whnf)
            refine getK_of rfl ?_; (conv => whnf)
            refine hK _ _ _ ?_; clear hK K
            replace h := W_jn h
            refine HT_if fun K1 K2 hK1 hK2 => ?_; (conv => whnf)
            refine cond_lk h (fun _ h => ?_) (fun _ h => ?_)
            · refine hK1 ?_; clear hK1 hK2 K1 K2
              refine HT_f DC_ok rfl fun K hK => ?_; (conv => whnf)
              refine ix_lk h fun _ h => ?_; (conv => whnf)
              refine getK_of rfl ?_; (conv => whnf)
              refine hK _ _ _ ?_; clear hK K
              refine InBlock_n ?_
              refine Then_n ?_
              refine HT_f DC_ok rfl fun K hK => ?_; (conv => whnf)
              refine hK _ _ _ ?_; clear hK K
              refine Then_n ?_
              replace h := W_xnx h
              refine ⟨_, h, ?_⟩
              refine weak_k ?_; (conv => whnf)
              exact And.intro rfl (And.intro (allL_c (WkR.wk (Wk.refl _) (loose_int _ _)) (allL_c (WkR.wk (Wk.refl _) (loose_int _ _)) (allL_c (WkR.wk (Wk.refl _) (loose_lst fun _ => (lo_TSpell _))) (allL_c (WkR.ptr (fun _ => rfl)) (allL_c (WkR.wk (Wk.refl _) (loose_int _ _)) (allL_c (WkR.wk (Wk.refl _) (loose_int _ _)) (allL_c (WkR.wk (Wk.refl _) (loose_int _ _)) allL_n))))))) (allL_c ⟨some _, rfl, BkR_c rfl (CkR_cons (WkR.wk (Wk.refl _) (loose_int _ _)) (CkR_cons (WkR.wk (Wk.refl _) (loose_int _ _)) CkR_nil))⟩ allL_n))
            refine hK2 ?_; clear hK1 hK2 K1 K2
            refine HT_skip ?_
            refine InBlock_n ?_
            refine Then_n ?_
            refine HT_f DC_ok rfl fun K hK => ?_; (conv => whnf)
            refine hK _ _ _ ?_; clear hK K
            refine Then_n ?_
            replace h := W_xnx h
            refine ⟨_, h, ?_⟩
            refine weak_k ?_; (conv => whnf)
            exact And.intro rfl (And.intro (allL_c (WkR.wk (Wk.refl _) (loose_int _ _)) (allL_c (WkR.wk (Wk.refl _) (loose_int _ _)) (allL_c (WkR.wk (Wk.refl _) (loose_lst fun _ => (lo_TSpell _))) (allL_c (WkR.ptr (fun _ => rfl)) (allL_c (WkR.wk (Wk.refl _) (loose_int _ _)) (allL_c (WkR.wk (Wk.refl _) (loose_int _ _)) (allL_c (WkR.wk (Wk.refl _) (loose_int _ _)) allL_n))))))) (allL_c ⟨some _, rfl, BkR_c rfl (CkR_cons (WkR.wk (Wk.refl _) (loose_int _ _)) (CkR_cons (WkR.wk (Wk.refl _) (loose_int _ _)) CkR_nil))⟩ allL_n))
          refine hK _ _ _ ?_; clear hK K
          replace h := W_jn h
          refine HT_if fun K1 K2 hK1 hK2 => ?_; (conv => whnf)
          refine hK2 ?_; clear hK1 hK2 K1 K2
          replace h := W_cnF h
          refine HT_skip ?_
          refine InBlock_n ?_
          refine Then_n ?_
          refine HT_f DC_ok rfl fun K hK => ?_; (conv => whnf)
          refine hK _ _ _ ?_; clear hK K
          refine Then_n ?_
          replace h := W_xnx h
          refine ⟨_, h, ?_⟩
          refine weak_k ?_; (conv => whnf)
          exact And.intro rfl (And.intro (allL_c (WkR.wk (Wk.refl _) (loose_int _ _)) (allL_c (WkR.wk (Wk.refl _) (loose_int _ _)) (allL_c (WkR.wk (Wk.refl _) (loose_lst fun _ => (lo_TSpell _))) (allL_c (WkR.ptr (fun _ => rfl)) (allL_c (WkR.wk (Wk.refl _) (loose_int _ _)) (allL_c (WkR.wk (Wk.refl _) (loose_int _ _)) (allL_c (WkR.wk (Wk.refl _) (loose_int _ _)) allL_n))))))) (allL_c ⟨some _, rfl, BkR_c rfl (CkR_cons (WkR.wk (Wk.refl _) (loose_int _ _)) (CkR_cons (WkR.wk (Wk.refl _) (loose_int _ _)) CkR_nil))⟩ allL_n))
        refine hK2 ?_; clear hK1 hK2 K1 K2
        refine HT_skip ?_
        refine Then_n ?_
        refine HT_fr DC_ok rfl fun K hK => ?_; (conv => whnf)
        replace h := W_jn h
        refine ix_lk h fun _ h => ?_; (conv => whnf)
        refine getK_of rfl ?_; (conv => whnf)
        refine cond_lk h (fun _ h => ?_) (fun _ h => ?_) <;> (conv => whnf)
        · refine cond_lk h (fun _ h => ?_) (fun _ h => ?_) <;> (conv => whnf)
          · refine hK _ _ _ ?_; clear hK K
            replace h := W_jn h
            refine HT_if fun K1 K2 hK1 hK2 => ?_; (conv => whnf)
            refine hK1 ?_; clear hK1 hK2 K1 K2
            replace h := W_cnT h
            refine HT_f DC_ok rfl fun K hK => ?_; (conv => whnf)
            refine ix_lk h fun _ h => ?_; (conv => whnf)
            refine getK_of rfl ?_; (conv => whnf)
            refine hK _ _ _ ?_; clear hK K
            refine InBlock_n ?_
            refine Then_n ?_
            refine HT_f DC_ok rfl fun K hK => ?_; (conv => whnf)
            refine hK _ _ _ ?_; clear hK K
            refine Then_n ?_
            replace h := W_xnx h
            refine ⟨_, h, ?_⟩
            refine weak_k ?_; (conv => whnf)
            exact And.intro rfl (And.intro (allL_c (WkR.wk (Wk.refl _) (loose_int _ _)) (allL_c (WkR.wk (Wk.refl _) (loose_int _ _)) (allL_c (WkR.wk (Wk.refl _) (loose_lst fun _ => (lo_TSpell _))) (allL_c (WkR.ptr (fun _ => rfl)) (allL_c (WkR.wk (Wk.refl _) (loose_int _ _)) (allL_c (WkR.wk (Wk.refl _) (loose_int _ _)) (allL_c (WkR.wk (Wk.refl _) (loose_int _ _)) allL_n))))))) (allL_c ⟨some _, rfl, BkR_c rfl (CkR_cons (WkR.wk (Wk.refl _) (loose_int _ _)) (CkR_cons (WkR.wk (Wk.refl _) (loose_int _ _)) CkR_nil))⟩ allL_n))
          refine ix_lk h fun _ h => ?_; (conv => whnf)
          refine getK_of rfl ?_; (conv => whnf)
          refine hK _ _ _ ?_; clear hK K
          replace h := W_jn h
          refine HT_if fun K1 K2 hK1 hK2 => ?_; (conv => whnf)
          refine cond_lk h (fun _ h => ?_) (fun _ h => ?_)
          · refine hK1 ?_; clear hK1 hK2 K1 K2
            refine HT_f DC_ok rfl fun K hK => ?_; (conv => whnf)
            refine ix_lk h fun _ h => ?_; (conv => whnf)
            refine getK_of rfl ?_; (conv => whnf)
            refine hK _ _ _ ?_; clear hK K
            refine InBlock_n ?_
            refine Then_n ?_
            refine HT_f DC_ok rfl fun K hK => ?_; (conv => whnf)
            refine hK _ _ _ ?_; clear hK K
            refine Then_n ?_
            replace h := W_xnx h
            refine ⟨_, h, ?_⟩
            refine weak_k ?_; (conv => whnf)
            exact And.intro rfl (And.intro (allL_c (WkR.wk (Wk.refl _) (loose_int _ _)) (allL_c (WkR.wk (Wk.refl _) (loose_int _ _)) (allL_c (WkR.wk (Wk.refl _) (loose_lst fun _ => (lo_TSpell _))) (allL_c (WkR.ptr (fun _ => rfl)) (allL_c (WkR.wk (Wk.refl _) (loose_int _ _)) (allL_c (WkR.wk (Wk.refl _) (loose_int _ _)) (allL_c (WkR.wk (Wk.refl _) (loose_int _ _)) allL_n))))))) (allL_c ⟨some _, rfl, BkR_c rfl (CkR_cons (WkR.wk (Wk.refl _) (loose_int _ _)) (CkR_cons (WkR.wk (Wk.refl _) (loose_int _ _)) CkR_nil))⟩ allL_n))
          refine hK2 ?_; clear hK1 hK2 K1 K2
          refine HT_skip ?_
          refine InBlock_n ?_
          refine Then_n ?_
          refine HT_f DC_ok rfl fun K hK => ?_; (conv => whnf)
          refine hK _ _ _ ?_; clear hK K
          refine Then_n ?_
          replace h := W_xnx h
          refine ⟨_, h, ?_⟩
          refine weak_k ?_; (conv => whnf)
          exact And.intro rfl (And.intro (allL_c (WkR.wk (Wk.refl _) (loose_int _ _)) (allL_c (WkR.wk (Wk.refl _) (loose_int _ _)) (allL_c (WkR.wk (Wk.refl _) (loose_lst fun _ => (lo_TSpell _))) (allL_c (WkR.ptr (fun _ => rfl)) (allL_c (WkR.wk (Wk.refl _) (loose_int _ _)) (allL_c (WkR.wk (Wk.refl _) (loose_int _ _)) (allL_c (WkR.wk (Wk.refl _) (loose_int _ _)) allL_n))))))) (allL_c ⟨some _, rfl, BkR_c rfl (CkR_cons (WkR.wk (Wk.refl _) (loose_int _ _)) (CkR_cons (WkR.wk (Wk.refl _) (loose_int _ _)) CkR_nil))⟩ allL_n))
        refine hK _ _ _ ?_; clear hK K
        replace h := W_jn h
        refine HT_if fun K1 K2 hK1 hK2 => ?_; (conv => whnf)
        refine hK2 ?_; clear hK1 hK2 K1 K2
        replace h := W_cnF h
        refine HT_skip ?_
        refine InBlock_n ?_
        refine Then_n ?_
        refine HT_f DC_ok rfl fun K hK => ?_; (conv => whnf)
        refine hK _ _ _ ?_; clear hK K
        refine Then_n ?_
        replace h := W_xnx h
        refine ⟨_, h, ?_⟩
        refine weak_k ?_; (conv => whnf)
        exact And.intro rfl (And.intro (allL_c (WkR.wk (Wk.refl _) (loose_int _ _)) (allL_c (WkR.wk (Wk.refl _) (loose_int _ _)) (allL_c (WkR.wk (Wk.refl _) (loose_lst fun _ => (lo_TSpell _))) (allL_c (WkR.ptr (fun _ => rfl)) (allL_c (WkR.wk (Wk.refl _) (loose_int _ _)) (allL_c (WkR.wk (Wk.refl _) (loose_int _ _)) (allL_c (WkR.wk (Wk.refl _) (loose_int _ _)) allL_n))))))) (allL_c ⟨some _, rfl, BkR_c rfl (CkR_cons (WkR.wk (Wk.refl _) (loose_int _ _)) (CkR_cons (WkR.wk (Wk.refl _) (loose_int _ _)) CkR_nil))⟩ allL_n))
      refine hK _ _ _ ?_; clear hK K
      replace h := W_jn h
      refine HT_if fun K1 K2 hK1 hK2 => ?_; (conv => whnf)
      refine hK2 ?_; clear hK1 hK2 K1 K2
      replace h := W_cnF h
      refine HT_skip ?_
      refine Then_n ?_
      refine HT_fr DC_ok rfl fun K hK => ?_; (conv => whnf)
      replace h := W_jn h
      refine ix_lk h fun _ h => ?_; (conv => whnf)
      refine getK_of rfl ?_; (conv => whnf)
      refine cond_lk h (fun _ h => ?_) (fun _ h => ?_) <;> (conv => whnf)
      · refine cond_lk h (fun _ h => ?_) (fun _ h => ?_) <;> (conv => whnf)
        · refine hK _ _ _ ?_; clear hK K
          replace h := W_jn h
          refine HT_if fun K1 K2 hK1 hK2 => ?_; (conv => whnf)
          refine hK1 ?_; clear hK1 hK2 K1 K2
          replace h := W_cnT h
          refine HT_f DC_ok rfl fun K hK => ?_; (conv => whnf)
          refine ix_lk h fun _ h => ?_; (conv => whnf)
          refine getK_of rfl ?_; (conv => whnf)
          refine hK _ _ _ ?_; clear hK K
          refine InBlock_n ?_
          refine Then_n ?_
          refine HT_f DC_ok rfl fun K hK => ?_; (conv => whnf)
          refine hK _ _ _ ?_; clear hK K
          refine Then_n ?_
          replace h := W_xnx h
          refine ⟨_, h, ?_⟩
          refine weak_k ?_; (conv => whnf)
          exact And.intro rfl (And.intro (allL_c (WkR.wk (Wk.refl _) (loose_int _ _)) (allL_c (WkR.wk (Wk.refl _) (loose_int _ _)) (allL_c (WkR.wk (Wk.refl _) (loose_lst fun _ => (lo_TSpell _))) (allL_c (WkR.ptr (fun _ => rfl)) (allL_c (WkR.wk (Wk.refl _) (loose_int _ _)) (allL_c (WkR.wk (Wk.refl _) (loose_int _ _)) (allL_c (WkR.wk (Wk.refl _) (loose_int _ _)) allL_n))))))) (allL_c ⟨some _, rfl, BkR_c rfl (CkR_cons (WkR.wk (Wk.refl _) (loose_int _ _)) (CkR_cons (WkR.wk (Wk.refl _) (loose_int _ _)) CkR_nil))⟩ allL_n))
        refine ix_lk h fun _ h => ?_; (conv => whnf)
        refine getK_of rfl ?_; (conv => whnf)
        refine hK _ _ _ ?_; clear hK K
        replace h := W_jn h
        refine HT_if fun K1 K2 hK1 hK2 => ?_; (conv => whnf)
        refine cond_lk h (fun _ h => ?_) (fun _ h => ?_)
        · refine hK1 ?_; clear hK1 hK2 K1 K2
          refine HT_f DC_ok rfl fun K hK => ?_; (conv => whnf)
          refine ix_lk h fun _ h => ?_; (conv => whnf)
          refine getK_of rfl ?_; (conv => whnf)
          refine hK _ _ _ ?_; clear hK K
          refine InBlock_n ?_
          refine Then_n ?_
          refine HT_f DC_ok rfl fun K hK => ?_; (conv => whnf)
          refine hK _ _ _ ?_; clear hK K
          refine Then_n ?_
          replace h := W_xnx h
          refine ⟨_, h, ?_⟩
          refine weak_k ?_; (conv => whnf)
          exact And.intro rfl (And.intro (allL_c (WkR.wk (Wk.refl _) (loose_int _ _)) (allL_c (WkR.wk (Wk.refl _) (loose_int _ _)) (allL_c (WkR.wk (Wk.refl _) (loose_lst fun _ => (lo_TSpell _))) (allL_c (WkR.ptr (fun _ => rfl)) (allL_c (WkR.wk (Wk.refl _) (loose_int _ _)) (allL_c (WkR.wk (Wk.refl _) (loose_int _ _)) (allL_c (WkR.wk (Wk.refl _) (loose_int _ _)) allL_n))))))) (allL_c ⟨some _, rfl, BkR_c rfl (CkR_cons (WkR.wk (Wk.refl _) (loose_int _ _)) (CkR_cons (WkR.wk (Wk.refl _) (loose_int _ _)) CkR_nil))⟩ allL_n))
        refine hK2 ?_; clear hK1 hK2 K1 K2
        refine HT_skip ?_
        refine InBlock_n ?_
        refine Then_n ?_
        refine HT_f DC_ok rfl fun K hK => ?_; (conv => whnf)
        refine hK _ _ _ ?_; clear hK K
        refine Then_n ?_
        replace h := W_xnx h
        refine ⟨_, h, ?_⟩
        refine weak_k ?_; (conv => whnf)
        exact And.intro rfl (And.intro (allL_c (WkR.wk (Wk.refl _) (loose_int _ _)) (allL_c (WkR.wk (Wk.refl _) (loose_int _ _)) (allL_c (WkR.wk (Wk.refl _) (loose_lst fun _ => (lo_TSpell _))) (allL_c (WkR.ptr (fun _ => rfl)) (allL_c (WkR.wk (Wk.refl _) (loose_int _ _)) (allL_c (WkR.wk (Wk.refl _) (loose_int _ _)) (allL_c (WkR.wk (Wk.refl _) (loose_int _ _)) allL_n))))))) (allL_c ⟨some _, rfl, BkR_c rfl (CkR_cons (WkR.wk (Wk.refl _) (loose_int _ _)) (CkR_cons (WkR.wk (Wk.refl _) (loose_int _ _)) CkR_nil))⟩ allL_n))
      refine hK _ _ _ ?_; clear hK K
      replace h := W_jn h
      refine HT_if fun K1 K2 hK1 hK2 => ?_; (conv => whnf)
      refine hK2 ?_; clear hK1 hK2 K1 K2
      replace h := W_cnF h
      refine HT_skip ?_
      refine InBlock_n ?_
      refine Then_n ?_
      refine HT_f DC_ok rfl fun K hK => ?_; (conv => whnf)
      refine hK _ _ _ ?_; clear hK K
      refine Then_n ?_
      replace h := W_xnx h
      refine ⟨_, h, ?_⟩
      refine weak_k ?_; (conv => whnf)
      exact And.intro rfl (And.intro (allL_c (WkR.wk (Wk.refl _) (loose_int _ _)) (allL_c (WkR.wk (Wk.refl _) (loose_int _ _)) (allL_c (WkR.wk (Wk.refl _) (loose_lst fun _ => (lo_TSpell _))) (allL_c (WkR.ptr (fun _ => rfl)) (allL_c (WkR.wk (Wk.refl _) (loose_int _ _)) (allL_c (WkR.wk (Wk.refl _) (loose_int _ _)) (allL_c (WkR.wk (Wk.refl _) (loose_int _ _)) allL_n))))))) (allL_c ⟨some _, rfl, BkR_c rfl (CkR_cons (WkR.wk (Wk.refl _) (loose_int _ _)) (CkR_cons (WkR.wk (Wk.refl _) (loose_int _ _)) CkR_nil))⟩ allL_n))
    refine hK2 ?_; clear hK1 hK2 K1 K2
    refine HT_exit ?_
    refine Then_e ?_
    refine Then_e ?_
    refine InBlock_e ?_
    replace h := W_xbk h
    replace h := W_inl h
    refine Then_n ?_
    refine HT_f DC_ok rfl fun K hK => ?_; (conv => whnf)
    refine hK _ _ _ ?_; clear hK K
    refine InBlock_n ?_
    refine Then_n ?_
    replace h := W_xnx h
    refine ⟨_, h, ?_⟩
    refine weak_k ?_; (conv => whnf)
    exact And.intro rfl (And.intro (allL_c (WkR.wk (Wk.refl _) (loose_int _ _)) (allL_c (WkR.wk (Wk.refl _) (loose_lst fun _ => (lo_TSpell _))) (allL_c (WkR.ptr (fun _ => rfl)) (allL_c (WkR.wk (Wk.refl _) (loose_int _ _)) (allL_c (WkR.wk (Wk.refl _) (loose_int _ _)) allL_n))))) (allL_c ⟨some _, rfl, BkR_c rfl (CkR_cons (WkR.wk (Wk.refl _) (loose_int _ _)) (CkR_cons (WkR.wk (Wk.refl _) (loose_int _ _)) CkR_nil))⟩ allL_n))
  refine hK2 ?_; clear hK1 hK2 K1 K2
  refine HT_exit ?_
  refine Then_e ?_
  refine Then_e ?_
  refine InBlock_e ?_
  replace h := W_xbk h
  replace h := W_inl h
  refine Then_n ?_
  refine HT_fr DC_ok rfl fun K hK => ?_; (conv => whnf)
  refine blkK_of rfl ?_; (conv => whnf)
  refine And.intro rfl (And.intro (Nat.le_of_ble_eq_true rfl) (And.intro rfl ?_)); (conv => whnf)
  refine hK _ _ _ ?_; clear hK K
  refine HT_ret ?_
  replace h := W_some h
  refine PostP_r DC_ok fun K hK => ?_; (conv => whnf)
  refine And.intro (Nat.le_of_ble_eq_true rfl) ?_; (conv => whnf)
  refine blkK_of rfl ?_; (conv => whnf)
  refine And.intro (Nat.le_of_ble_eq_true rfl) ?_; (conv => whnf)
  refine hK _ ?_; clear hK K
  cases h
  exact Wk.refl _
theorem ref05_Agree_call {T : Tbl} (hT : T 14 = pureR ref05_Agree_S) {args : List AV} {hp : Heap} {id : Nat} {k : AV → Prop} {a0 : List TSpell} {Φ : TSpell × Int → Prop} (h : W (ref05_Agree_F a0) Φ) (hw : WkL args [(eL 2 eTSpell default) a0]) (hk : ∀ y, Φ y → k (.tup [eTSpell y.1, eI y.2])) : callpK T 14 args hp id k := by
  obtain ⟨y, e, hy⟩ := W_inv h
  exact callpK_pure hT ⟨a0, rfl, W_of e rfl⟩ (by exact loose_tup (loose_cons (lo_TSpell _) (loose_cons (loose_int _ _) loose_nil))) hw (hk y hy)
end Go.Proofs.Ythbonailomfjlaa
