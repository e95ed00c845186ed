import Derived.Test.YthbonailomfjlaaW10
namespace Go.Proofs.Ythbonailomfjlaa
open Go Go.Eng
set_option maxHeartbeats 0
set_option maxRecDepth 100000
/-! dialtonelaw05.ClockSound -/
def law05_ClockSound_F (a0 : Int) (a1 : Int) (a2 : List Int) (a3 : List (Int × Int × Int)) (a4 : Int) (a5 : Int) : Option Bool := bd (law05_sane_F ) fun y1 =>
    cn (!y1) (some false) (bd (ref05_Made_F a0 a1 a2 a3) fun y2 => bd (law05_pick_F a4 5000) fun y3 => bd (ref05_Shown_F a0 a1 a2 y3) fun y4 => bd (clock_At_F y2 y4) fun y5 =>
    bd (clock_Reads_F y2 y3) fun y6 => jn (fun p7 : Bool => cn p7 (some false) (bd (law05_pick_F a5 201) fun y10 => let v11 := (wr ((wr (y3 + y10)) - 100)); jn (fun p12 : Bool =>
    cn p12 (some false) (jn (fun p29 : Bool => some p29) fun k30 =>
    cn (decide (y5.1 ≤ y3)) (cn (decide (y3 ≤ y5.2.1)) (cn (decide (y6.1 ≤ y4)) (k30 (decide (y4 ≤ y6.2.1))) (k30 false)) (k30 false)) (k30 false))) fun k13 =>
    bd (clock_Before_F y2 y4 a5) fun y14 => cn y14 (cn (decide (y3 ≥ a5)) (k13 true) (bd (clock_After_F y2 y4 a5) fun y15 =>
    cn y15 (cn (decide (y3 ≤ a5)) (k13 true) (bd (clock_Before_F y2 y4 v11) fun y16 => cn y16 (cn (decide (y3 ≥ v11)) (k13 true) (bd (clock_After_F y2 y4 v11) fun y17 =>
    cn y17 (k13 (decide (y3 ≤ v11))) (k13 false))) (bd (clock_After_F y2 y4 v11) fun y18 => cn y18 (k13 (decide (y3 ≤ v11))) (k13 false)))) (bd (clock_Before_F y2 y4 v11) fun y19 =>
    cn y19 (cn (decide (y3 ≥ v11)) (k13 true) (bd (clock_After_F y2 y4 v11) fun y20 => cn y20 (k13 (decide (y3 ≤ v11))) (k13 false))) (bd (clock_After_F y2 y4 v11) fun y21 =>
    cn y21 (k13 (decide (y3 ≤ v11))) (k13 false))))) (bd (clock_After_F y2 y4 a5) fun y22 => cn y22 (cn (decide (y3 ≤ a5)) (k13 true) (bd (clock_Before_F y2 y4 v11) fun y23 =>
    cn y23 (cn (decide (y3 ≥ v11)) (k13 true) (bd (clock_After_F y2 y4 v11) fun y24 => cn y24 (k13 (decide (y3 ≤ v11))) (k13 false))) (bd (clock_After_F y2 y4 v11) fun y25 =>
    cn y25 (k13 (decide (y3 ≤ v11))) (k13 false)))) (bd (clock_Before_F y2 y4 v11) fun y26 => cn y26 (cn (decide (y3 ≥ v11)) (k13 true) (bd (clock_After_F y2 y4 v11) fun y27 =>
    cn y27 (k13 (decide (y3 ≤ v11))) (k13 false))) (bd (clock_After_F y2 y4 v11) fun y28 => cn y28 (k13 (decide (y3 ≤ v11))) (k13 false)))))) fun k8 => cn (y5.2.2 !=
    0) (k8 true) (cn (y6.2.2 != 0) (k8 true) (bd (clock_Valid_F y2) fun y9 => k8 (!y9))))
def law05_ClockSound_S : List AV → AV → Prop := fun args r => ∃ a0 a1 a2 a3 a4 a5, args = [eI a0, eI a1, (eL 1 eI default) a2, (eL 3 eA60 default) a3, eI a4, eI a5] ∧ W (law05_ClockSound_F a0 a1 a2 a3 a4 a5) fun y => r = (eB y)
theorem law05_ClockSound_ok {T : Tbl} (hT : TOk Try.prog T) (hpf : PfOk T PF) (h10 : T 10 = pureR law05_sane_S) (h16 : T 16 = pureR ref05_Made_S) (h17 : T 17 = pureR clock_Valid_S) (h19 : T 19 = pureR law05_pick_S) (h20 : T 20 = pureR clock_At_S) (h22 : T 22 = pureR clock_Reads_S) (h24 : T 24 = pureR clock_Before_S) (h26 : T 26 = pureR clock_After_S) (h28 : T 28 = pureR ref05_Shown_S) : FOk Try.prog 4 (pureR law05_ClockSound_S) := by
  refine FOk_pure hT hpf Try.func4 rfl Try.ntmps4 Try.results4 (by decide) ?_
  rintro args r ⟨a0, a1, a2, a3, a4, a5, rfl, h⟩
  refine ⟨Nat.le_of_ble_eq_true rfl, ?_, ?_⟩
  · exact (loose_cons (loose_int _ _) (loose_cons (loose_int _ _) (loose_cons (loose_lst fun _ => (loose_int _ _)) (loose_cons (loose_lst fun _ => (lo_A60 _)) (loose_cons (loose_int _ _) (loose_cons (loose_int _ _) loose_nil))))))
  rw [law05_ClockSound_F.eq_1] at h
  refine HT_fr DC_ok rfl fun K hK => ?_; (conv => whnf)
  refine hK _ _ _ ?_; clear hK K
  refine HT_fr DC_ok rfl fun K hK => ?_; (conv => whnf)
  replace h := W_bd h
  refine law05_sane_call h10 h (WkL.refl _) (fun _ h => ?_); (conv => whnf)
  refine hK _ _ _ ?_; clear hK K
  refine HT_seq ?_
  refine HT_fr DC_ok rfl fun K hK => ?_; (conv => whnf)
  refine hK _ _ _ ?_; clear hK K
  refine HT_if fun K1 K2 hK1 hK2 => ?_; (conv => whnf)
  refine cond_lk h (fun _ h => ?_) (fun _ h => ?_)
  · refine hK1 ?_; clear hK1 hK2 K1 K2
    refine HT_fr DC_ok rfl fun K hK => ?_; (conv => whnf)
    refine hK _ _ _ ?_; clear hK K
    refine HT_ret ?_
    refine Then_r ?_
    replace h := W_some h
    refine PostP_r DC_ok fun K hK => ?_; (conv => whnf)
    refine hK _ ?_; clear hK K
    cases h
    exact Wk.refl _
  refine hK2 ?_; clear hK1 hK2 K1 K2
  refine HT_skip ?_
  refine Then_n ?_
  refine HT_fr DC_ok rfl fun K hK => ?_; (conv => whnf)
  replace h := W_bd h
  refine ref05_Made_call h16 h (WkL.refl _) (fun _ h => ?_); (conv => whnf)
  refine blkK_of rfl ?_; (conv => whnf)
  refine And.intro rfl (And.intro (Nat.le_of_ble_eq_true rfl) (And.intro rfl ?_)); (conv => whnf)
  refine hK _ _ _ ?_; clear hK K
  refine HT_fr DC_ok rfl fun K hK => ?_; (conv => whnf)
  replace h := W_bd h
  refine law05_pick_call h19 h (WkL.refl _) (fun _ h => ?_); (conv => whnf)
  refine hK _ _ _ ?_; clear hK K
  refine HT_fr DC_ok rfl fun K hK => ?_; (conv => whnf)
  replace h := W_bd h
  refine ref05_Shown_call h28 h (WkL.refl _) (fun _ h => ?_); (conv => whnf)
  refine hK _ _ _ ?_; clear hK K
  refine HT_fr DC_ok rfl fun K hK => ?_; (conv => whnf)
  refine And.intro (Nat.le_of_ble_eq_true rfl) ?_; (conv => whnf)
  refine blkK_of rfl ?_; (conv => whnf)
  refine And.intro (Nat.le_of_ble_eq_true rfl) ?_; (conv => whnf)
  replace h := W_bd h
  refine clock_At_call h20 h (WkL.refl _) (fun _ h => ?_); (conv => whnf)
  refine hK _ _ _ ?_; clear hK K
  refine HT_fr DC_ok rfl fun K hK => ?_; (conv => whnf)
  refine And.intro (Nat.le_of_ble_eq_true rfl) ?_; (conv => whnf)
  refine blkK_of rfl ?_; (conv => whnf)
  refine And.intro (Nat.le_of_ble_eq_true rfl) ?_; (conv => whnf)
  replace h := W_bd h
  refine clock_Reads_call h22 h (WkL.refl _) (fun _ h => ?_); (conv => whnf)
  refine hK _ _ _ ?_; clear hK K
  refine HT_seq ?_
  refine HT_fr DC_ok rfl fun K hK => ?_; (conv => whnf)
  replace h := W_jn h
  refine cond_lk h (fun _ h => ?_) (fun _ h => ?_) <;> (conv => whnf)
  · refine hK _ _ _ ?_; clear hK K
    refine HT_if fun K1 K2 hK1 hK2 => ?_; (conv => whnf)
    refine hK1 ?_; clear hK1 hK2 K1 K2
    replace h := W_cnT h
    refine HT_fr DC_ok rfl fun K hK => ?_; (conv => whnf)
    refine hK _ _ _ ?_; clear hK K
    refine HT_ret ?_
    refine Then_r ?_
    replace h := W_some h
    refine PostP_r DC_ok fun K hK => ?_; (conv => whnf)
    refine hK _ ?_; clear hK K
    cases h
    exact Wk.refl _
  refine cond_lk h (fun _ h => ?_) (fun _ h => ?_) <;> (conv => whnf)
  · refine hK _ _ _ ?_; clear hK K
    refine HT_if fun K1 K2 hK1 hK2 => ?_; (conv => whnf)
    refine hK1 ?_; clear hK1 hK2 K1 K2
    replace h := W_cnT h
    refine HT_fr DC_ok rfl fun K hK => ?_; (conv => whnf)
    refine hK _ _ _ ?_; clear hK K
    refine HT_ret ?_
    refine Then_r ?_
    replace h := W_some h
    refine PostP_r DC_ok fun K hK => ?_; (conv => whnf)
    refine hK _ ?_; clear hK K
    cases h
    exact Wk.refl _
  refine And.intro (Nat.le_of_ble_eq_true rfl) ?_; (conv => whnf)
  refine blkK_of rfl ?_; (conv => whnf)
  refine And.intro (Nat.le_of_ble_eq_true rfl) ?_; (conv => whnf)
  replace h := W_bd h
  refine clock_Valid_call h17 h (WkL.refl _) (fun _ h => ?_); (conv => whnf)
  refine hK _ _ _ ?_; clear hK K
  refine HT_if fun K1 K2 hK1 hK2 => ?_; (conv => whnf)
  refine cond_lk h (fun _ h => ?_) (fun _ h => ?_)
  · refine hK1 ?_; clear hK1 hK2 K1 K2
    refine HT_fr DC_ok rfl fun K hK => ?_; (conv => whnf)
    refine hK _ _ _ ?_; clear hK K
    refine HT_ret ?_
    refine Then_r ?_
    replace h := W_some h
    refine PostP_r DC_ok fun K hK => ?_; (conv => whnf)
    refine hK _ ?_; clear hK K
    cases h
    exact Wk.refl _
  refine hK2 ?_; clear hK1 hK2 K1 K2
  refine HT_skip ?_
  refine Then_n ?_
  refine HT_fr DC_ok rfl fun K hK => ?_; (conv => whnf)
  replace h := W_bd h
  refine law05_pick_call h19 h (WkL.refl _) (fun _ h => ?_); (conv => whnf)
  refine hK _ _ _ ?_; clear hK K
  refine HT_seq ?_
  refine HT_jnK rfl h [4, 15, 16, 17, 19, 20] [] [] (fun kl kh ids b s => ⟨ofL ([(109, eB s)] ++ kl), ofH ([] ++ kh), b + 64⟩) ?_; (conv => whnf); refine And.intro (fun s h => HT_st ?_) (fun k h => ?_)
  · refine HT_if fun K1 K2 hK1 hK2 => ?_; (conv => whnf)
    refine cond_lk h (fun _ h => ?_) (fun _ h => ?_)
    · refine hK1 ?_; clear hK1 hK2 K1 K2
      refine HT_fr DC_ok rfl fun K hK => ?_; (conv => whnf)
      refine hK _ _ _ ?_; clear hK K
      refine HT_ret ?_
      refine Then_r ?_
      replace h := W_some h
      refine PostP_r DC_ok fun K hK => ?_; (conv => whnf)
      refine hK _ ?_; clear hK K
      cases h
      exact Wk.refl _
    refine hK2 ?_; clear hK1 hK2 K1 K2
    refine HT_skip ?_
    refine Then_n ?_
    refine HT_fr DC_ok rfl fun K hK => ?_; (conv => whnf)
    replace h := W_jn h
    refine cond_lk h (fun _ h => ?_) (fun _ h => ?_) <;> (conv => whnf)
    · refine cond_lk h (fun _ h => ?_) (fun _ h => ?_) <;> (conv => whnf)
      · refine cond_lk h (fun _ h => ?_) (fun _ h => ?_) <;> (conv => whnf)
        · refine hK _ _ _ ?_; clear hK K
          refine HT_ret ?_
          replace h := W_some h
          refine PostP_r DC_ok fun K hK => ?_; (conv => whnf)
          refine hK _ ?_; clear hK K
          cases h
          exact Wk.refl _
        refine hK _ _ _ ?_; clear hK K
        refine HT_ret ?_
        replace h := W_some h
        refine PostP_r DC_ok fun K hK => ?_; (conv => whnf)
        refine hK _ ?_; clear hK K
        cases h
        exact Wk.refl _
      refine hK _ _ _ ?_; clear hK K
      refine HT_ret ?_
      replace h := W_some h
      refine PostP_r DC_ok fun K hK => ?_; (conv => whnf)
      refine hK _ ?_; clear hK K
      cases h
      exact Wk.refl _
    refine hK _ _ _ ?_; clear hK K
    refine HT_ret ?_
    replace h := W_some h
    refine PostP_r DC_ok fun K hK => ?_; (conv => whnf)
    refine hK _ ?_; clear hK K
    cases h
    exact Wk.refl _
  refine HT_f DC_ok rfl fun K hK => ?_; (conv => whnf)
  refine And.intro (Nat.le_of_ble_eq_true rfl) ?_; (conv => whnf)
  refine blkK_of rfl ?_; (conv => whnf)
  refine And.intro (Nat.le_of_ble_eq_true rfl) ?_; (conv => whnf)
  replace h := W_bd h
  refine clock_Before_call h24 h (WkL.refl _) (fun _ h => ?_); (conv => whnf)
  refine cond_lk h (fun _ h => ?_) (fun _ h => ?_) <;> (conv => whnf)
  · refine cond_lk h (fun _ h => ?_) (fun _ h => ?_) <;> (conv => whnf)
    · refine hK _ _ _ ?_; clear hK K
      refine Then_n ?_
      refine ⟨_, h, ?_⟩
      refine weak_k ?_; (conv => whnf)
      exact And.intro rfl (And.intro (allL_c (WkR.wk (Wk.refl _) (loose_bool _)) (allL_c (WkR.wk (Wk.refl _) (loose_int _ _)) (allL_c (WkR.wk (Wk.refl _) (loose_int _ _)) (allL_c (WkR.wk (Wk.refl _) (loose_int _ _)) (allL_c (WkR.wk (Wk.refl _) (loose_int _ _)) (allL_c (WkR.wk (Wk.refl _) (loose_int _ _)) (allL_c (WkR.wk (Wk.refl _) (loose_int _ _)) allL_n))))))) allL_n)
    refine And.intro (Nat.le_of_ble_eq_true rfl) ?_; (conv => whnf)
    refine blkK_of rfl ?_; (conv => whnf)
    refine And.intro (Nat.le_of_ble_eq_true rfl) ?_; (conv => whnf)
    replace h := W_bd h
    refine clock_After_call h26 h (WkL.refl _) (fun _ h => ?_); (conv => whnf)
    refine cond_lk h (fun _ h => ?_) (fun _ h => ?_) <;> (conv => whnf)
    · refine cond_lk h (fun _ h => ?_) (fun _ h => ?_) <;> (conv => whnf)
      · refine hK _ _ _ ?_; clear hK K
        refine Then_n ?_
        refine ⟨_, h, ?_⟩
        refine weak_k ?_; (conv => whnf)
        exact And.intro rfl (And.intro (allL_c (WkR.wk (Wk.refl _) (loose_bool _)) (allL_c (WkR.wk (Wk.refl _) (loose_int _ _)) (allL_c (WkR.wk (Wk.refl _) (loose_int _ _)) (allL_c (WkR.wk (Wk.refl _) (loose_int _ _)) (allL_c (WkR.wk (Wk.refl _) (loose_int _ _)) (allL_c (WkR.wk (Wk.refl _) (loose_int _ _)) (allL_c (WkR.wk (Wk.refl _) (loose_int _ _)) allL_n))))))) allL_n)
      refine And.intro (Nat.le_of_ble_eq_true rfl) ?_; (conv => whnf)
      refine blkK_of rfl ?_; (conv => whnf)
      refine And.intro (Nat.le_of_ble_eq_true rfl) ?_; (conv => whnf)
      replace h := W_bd h
      refine clock_Before_call h24 h (WkL.refl _) (fun _ h => ?_); (conv => whnf)
      refine cond_lk h (fun _ h => ?_) (fun _ h => ?_) <;> (conv => whnf)
      · refine cond_lk h (fun _ h => ?_) (fun _ h => ?_) <;> (conv => whnf)
        · refine hK _ _ _ ?_; clear hK K
          refine Then_n ?_
          refine ⟨_, h, ?_⟩
          refine weak_k ?_; (conv => whnf)
          exact And.intro rfl (And.intro (allL_c (WkR.wk (Wk.refl _) (loose_bool _)) (allL_c (WkR.wk (Wk.refl _) (loose_int _ _)) (allL_c (WkR.wk (Wk.refl _) (loose_int _ _)) (allL_c (WkR.wk (Wk.refl _) (loose_int _ _)) (allL_c (WkR.wk (Wk.refl _) (loose_int _ _)) (allL_c (WkR.wk (Wk.refl _) (loose_int _ _)) (allL_c (WkR.wk (Wk.refl _) (loose_int _ _)) allL_n))))))) allL_n)
        refine And.intro (Nat.le_of_ble_eq_true rfl) ?_; (conv => whnf)
        refine blkK_of rfl ?_; (conv => whnf)
        refine And.intro (Nat.le_of_ble_eq_true rfl) ?_; (conv => whnf)
        replace h := W_bd h
        refine clock_After_call h26 h (WkL.refl _) (fun _ h => ?_); (conv => whnf)
        refine cond_lk h (fun _ h => ?_) (fun _ h => ?_) <;> (conv => whnf)
        · refine hK _ _ _ ?_; clear hK K
          refine Then_n ?_
          refine ⟨_, h, ?_⟩
          refine weak_k ?_; (conv => whnf)
          exact And.intro rfl (And.intro (allL_c (WkR.wk (Wk.refl _) (loose_bool _)) (allL_c (WkR.wk (Wk.refl _) (loose_int _ _)) (allL_c (WkR.wk (Wk.refl _) (loose_int _ _)) (allL_c (WkR.wk (Wk.refl _) (loose_int _ _)) (allL_c (WkR.wk (Wk.refl _) (loose_int _ _)) (allL_c (WkR.wk (Wk.refl _) (loose_int _ _)) (allL_c (WkR.wk (Wk.refl _) (loose_int _ _)) allL_n))))))) allL_n)
        refine hK _ _ _ ?_; clear hK K
        refine Then_n ?_
        refine ⟨_, h, ?_⟩
        refine weak_k ?_; (conv => whnf)
        exact And.intro rfl (And.intro (allL_c (WkR.wk (Wk.refl _) (loose_bool _)) (allL_c (WkR.wk (Wk.refl _) (loose_int _ _)) (allL_c (WkR.wk (Wk.refl _) (loose_int _ _)) (allL_c (WkR.wk (Wk.refl _) (loose_int _ _)) (allL_c (WkR.wk (Wk.refl _) (loose_int _ _)) (allL_c (WkR.wk (Wk.refl _) (loose_int _ _)) (allL_c (WkR.wk (Wk.refl _) (loose_int _ _)) allL_n))))))) allL_n)
      refine And.intro (Nat.le_of_ble_eq_true rfl) ?_; (conv => whnf)
      refine blkK_of rfl ?_; (conv => whnf)
      refine And.intro (Nat.le_of_ble_eq_true rfl) ?_; (conv => whnf)
      replace h := W_bd h
      refine clock_After_call h26 h (WkL.refl _) (fun _ h => ?_); (conv => whnf)
      refine cond_lk h (fun _ h => ?_) (fun _ h => ?_) <;> (conv => whnf)
      · refine hK _ _ _ ?_; clear hK K
        refine Then_n ?_
        refine ⟨_, h, ?_⟩
        refine weak_k ?_; (conv => whnf)
        exact And.intro rfl (And.intro (allL_c (WkR.wk (Wk.refl _) (loose_bool _)) (allL_c (WkR.wk (Wk.refl _) (loose_int _ _)) (allL_c (WkR.wk (Wk.refl _) (loose_int _ _)) (allL_c (WkR.wk (Wk.refl _) (loose_int _ _)) (allL_c (WkR.wk (Wk.refl _) (loose_int _ _)) (allL_c (WkR.wk (Wk.refl _) (loose_int _ _)) (allL_c (WkR.wk (Wk.refl _) (loose_int _ _)) allL_n))))))) allL_n)
      refine hK _ _ _ ?_; clear hK K
      refine Then_n ?_
      refine ⟨_, h, ?_⟩
      refine weak_k ?_; (conv => whnf)
      exact And.intro rfl (And.intro (allL_c (WkR.wk (Wk.refl _) (loose_bool _)) (allL_c (WkR.wk (Wk.refl _) (loose_int _ _)) (allL_c (WkR.wk (Wk.refl _) (loose_int _ _)) (allL_c (WkR.wk (Wk.refl _) (loose_int _ _)) (allL_c (WkR.wk (Wk.refl _) (loose_int _ _)) (allL_c (WkR.wk (Wk.refl _) (loose_int _ _)) (allL_c (WkR.wk (Wk.refl _) (loose_int _ _)) allL_n))))))) allL_n)
    refine And.intro (Nat.le_of_ble_eq_true rfl) ?_; (conv => whnf)
    refine blkK_of rfl ?_; (conv => whnf)
    refine And.intro (Nat.le_of_ble_eq_true rfl) ?_; (conv => whnf)
    replace h := W_bd h
    refine clock_Before_call h24 h (WkL.refl _) (fun _ h => ?_); (conv => whnf)
    refine cond_lk h (fun _ h => ?_) (fun _ h => ?_) <;> (conv => whnf)
    · refine cond_lk h (fun _ h => ?_) (fun _ h => ?_) <;> (conv => whnf)
      · refine hK _ _ _ ?_; clear hK K
        refine Then_n ?_
        refine ⟨_, h, ?_⟩
        refine weak_k ?_; (conv => whnf)
        exact And.intro rfl (And.intro (allL_c (WkR.wk (Wk.refl _) (loose_bool _)) (allL_c (WkR.wk (Wk.refl _) (loose_int _ _)) (allL_c (WkR.wk (Wk.refl _) (loose_int _ _)) (allL_c (WkR.wk (Wk.refl _) (loose_int _ _)) (allL_c (WkR.wk (Wk.refl _) (loose_int _ _)) (allL_c (WkR.wk (Wk.refl _) (loose_int _ _)) (allL_c (WkR.wk (Wk.refl _) (loose_int _ _)) allL_n))))))) allL_n)
      refine And.intro (Nat.le_of_ble_eq_true rfl) ?_; (conv => whnf)
      refine blkK_of rfl ?_; (conv => whnf)
      refine And.intro (Nat.le_of_ble_eq_true rfl) ?_; (conv => whnf)
      replace h := W_bd h
      refine clock_After_call h26 h (WkL.refl _) (fun _ h => ?_); (conv => whnf)
      refine cond_lk h (fun _ h => ?_) (fun _ h => ?_) <;> (conv => whnf)
      · refine hK _ _ _ ?_; clear hK K
        refine Then_n ?_
        refine ⟨_, h, ?_⟩
        refine weak_k ?_; (conv => whnf)
        exact And.intro rfl (And.intro (allL_c (WkR.wk (Wk.refl _) (loose_bool _)) (allL_c (WkR.wk (Wk.refl _) (loose_int _ _)) (allL_c (WkR.wk (Wk.refl _) (loose_int _ _)) (allL_c (WkR.wk (Wk.refl _) (loose_int _ _)) (allL_c (WkR.wk (Wk.refl _) (loose_int _ _)) (allL_c (WkR.wk (Wk.refl _) (loose_int _ _)) (allL_c (WkR.wk (Wk.refl _) (loose_int _ _)) allL_n))))))) allL_n)
      refine hK _ _ _ ?_; clear hK K
      refine Then_n ?_
      refine ⟨_, h, ?_⟩
      refine weak_k ?_; (conv => whnf)
      exact And.intro rfl (And.intro (allL_c (WkR.wk (Wk.refl _) (loose_bool _)) (allL_c (WkR.wk (Wk.refl _) (loose_int _ _)) (allL_c (WkR.wk (Wk.refl _) (loose_int _ _)) (allL_c (WkR.wk (Wk.refl _) (loose_int _ _)) (allL_c (WkR.wk (Wk.refl _) (loose_int _ _)) (allL_c (WkR.wk (Wk.refl _) (loose_int _ _)) (allL_c (WkR.wk (Wk.refl _) (loose_int _ _)) allL_n))))))) allL_n)
    refine And.intro (Nat.le_of_ble_eq_true rfl) ?_; (conv => whnf)
    refine blkK_of rfl ?_; (conv => whnf)
    refine And.intro (Nat.le_of_ble_eq_true rfl) ?_; (conv => whnf)
    replace h := W_bd h
    refine clock_After_call h26 h (WkL.refl _) (fun _ h => ?_); (conv => whnf)
    refine cond_lk h (fun _ h => ?_) (fun _ h => ?_) <;> (conv => whnf)
    · refine hK _ _ _ ?_; clear hK K
      refine Then_n ?_
      refine ⟨_, h, ?_⟩
      refine weak_k ?_; (conv => whnf)
      exact And.intro rfl (And.intro (allL_c (WkR.wk (Wk.refl _) (loose_bool _)) (allL_c (WkR.wk (Wk.refl _) (loose_int _ _)) (allL_c (WkR.wk (Wk.refl _) (loose_int _ _)) (allL_c (WkR.wk (Wk.refl _) (loose_int _ _)) (allL_c (WkR.wk (Wk.refl _) (loose_int _ _)) (allL_c (WkR.wk (Wk.refl _) (loose_int _ _)) (allL_c (WkR.wk (Wk.refl _) (loose_int _ _)) allL_n))))))) allL_n)
    refine hK _ _ _ ?_; clear hK K
    refine Then_n ?_
    refine ⟨_, h, ?_⟩
    refine weak_k ?_; (conv => whnf)
    exact And.intro rfl (And.intro (allL_c (WkR.wk (Wk.refl _) (loose_bool _)) (allL_c (WkR.wk (Wk.refl _) (loose_int _ _)) (allL_c (WkR.wk (Wk.refl _) (loose_int _ _)) (allL_c (WkR.wk (Wk.refl _) (loose_int _ _)) (allL_c (WkR.wk (Wk.refl _) (loose_int _ _)) (allL_c (WkR.wk (Wk.refl _) (loose_int _ _)) (allL_c (WkR.wk (Wk.refl _) (loose_int _ _)) allL_n))))))) allL_n)
  refine And.intro (Nat.le_of_ble_eq_true rfl) ?_; (conv => whnf)
  refine blkK_of rfl ?_; (conv => whnf)
  refine And.intro (Nat.le_of_ble_eq_true rfl) ?_; (conv => whnf)
  replace h := W_bd h
  refine clock_After_call h26 h (WkL.refl _) (fun _ h => ?_); (conv => whnf)
  refine cond_lk h (fun _ h => ?_) (fun _ h => ?_) <;> (conv => whnf)
  · refine cond_lk h (fun _ h => ?_) (fun _ h => ?_) <;> (conv => whnf)
    · refine hK _ _ _ ?_; clear hK K
      refine Then_n ?_
      refine ⟨_, h, ?_⟩
      refine weak_k ?_; (conv => whnf)
      exact And.intro rfl (And.intro (allL_c (WkR.wk (Wk.refl _) (loose_bool _)) (allL_c (WkR.wk (Wk.refl _) (loose_int _ _)) (allL_c (WkR.wk (Wk.refl _) (loose_int _ _)) (allL_c (WkR.wk (Wk.refl _) (loose_int _ _)) (allL_c (WkR.wk (Wk.refl _) (loose_int _ _)) (allL_c (WkR.wk (Wk.refl _) (loose_int _ _)) (allL_c (WkR.wk (Wk.refl _) (loose_int _ _)) allL_n))))))) allL_n)
    refine And.intro (Nat.le_of_ble_eq_true rfl) ?_; (conv => whnf)
    refine blkK_of rfl ?_; (conv => whnf)
    refine And.intro (Nat.le_of_ble_eq_true rfl) ?_; (conv => whnf)
    replace h := W_bd h
    refine clock_Before_call h24 h (WkL.refl _) (fun _ h => ?_); (conv => whnf)
    refine cond_lk h (fun _ h => ?_) (fun _ h => ?_) <;> (conv => whnf)
    · refine cond_lk h (fun _ h => ?_) (fun _ h => ?_) <;> (conv => whnf)
      · refine hK _ _ _ ?_; clear hK K
        refine Then_n ?_
        refine ⟨_, h, ?_⟩
        refine weak_k ?_; (conv => whnf)
        exact And.intro rfl (And.intro (allL_c (WkR.wk (Wk.refl _) (loose_bool _)) (allL_c (WkR.wk (Wk.refl _) (loose_int _ _)) (allL_c (WkR.wk (Wk.refl _) (loose_int _ _)) (allL_c (WkR.wk (Wk.refl _) (loose_int _ _)) (allL_c (WkR.wk (Wk.refl _) (loose_int _ _)) (allL_c (WkR.wk (Wk.refl _) (loose_int _ _)) (allL_c (WkR.wk (Wk.refl _) (loose_int _ _)) allL_n))))))) allL_n)
      refine And.intro (Nat.le_of_ble_eq_true rfl) ?_; (conv => whnf)
      refine blkK_of rfl ?_; (conv => whnf)
      refine And.intro (Nat.le_of_ble_eq_true rfl) ?_; (conv => whnf)
      replace h := W_bd h
      refine clock_After_call h26 h (WkL.refl _) (fun _ h => ?_); (conv => whnf)
      refine cond_lk h (fun _ h => ?_) (fun _ h => ?_) <;> (conv => whnf)
      · refine hK _ _ _ ?_; clear hK K
        refine Then_n ?_
        refine ⟨_, h, ?_⟩
        refine weak_k ?_; (conv => whnf)
        exact And.intro rfl (And.intro (allL_c (WkR.wk (Wk.refl _) (loose_bool _)) (allL_c (WkR.wk (Wk.refl _) (loose_int _ _)) (allL_c (WkR.wk (Wk.refl _) (loose_int _ _)) (allL_c (WkR.wk (Wk.refl _) (loose_int _ _)) (allL_c (WkR.wk (Wk.refl _) (loose_int _ _)) (allL_c (WkR.wk (Wk.refl _) (loose_int _ _)) (allL_c (WkR.wk (Wk.refl _) (loose_int _ _)) allL_n))))))) allL_n)
      refine hK _ _ _ ?_; clear hK K
      refine Then_n ?_
      refine ⟨_, h, ?_⟩
      refine weak_k ?_; (conv => whnf)
      exact And.intro rfl (And.intro (allL_c (WkR.wk (Wk.refl _) (loose_bool _)) (allL_c (WkR.wk (Wk.refl _) (loose_int _ _)) (allL_c (WkR.wk (Wk.refl _) (loose_int _ _)) (allL_c (WkR.wk (Wk.refl _) (loose_int _ _)) (allL_c (WkR.wk (Wk.refl _) (loose_int _ _)) (allL_c (WkR.wk (Wk.refl _) (loose_int _ _)) (allL_c (WkR.wk (Wk.refl _) (loose_int _ _)) allL_n))))))) allL_n)
    refine And.intro (Nat.le_of_ble_eq_true rfl) ?_; (conv => whnf)
    refine blkK_of rfl ?_; (conv => whnf)
    refine And.intro (Nat.le_of_ble_eq_true rfl) ?_; (conv => whnf)
    replace h := W_bd h
    refine clock_After_call h26 h (WkL.refl _) (fun _ h => ?_); (conv => whnf)
    refine cond_lk h (fun _ h => ?_) (fun _ h => ?_) <;> (conv => whnf)
    · refine hK _ _ _ ?_; clear hK K
      refine Then_n ?_
      refine ⟨_, h, ?_⟩
      refine weak_k ?_; (conv => whnf)
      exact And.intro rfl (And.intro (allL_c (WkR.wk (Wk.refl _) (loose_bool _)) (allL_c (WkR.wk (Wk.refl _) (loose_int _ _)) (allL_c (WkR.wk (Wk.refl _) (loose_int _ _)) (allL_c (WkR.wk (Wk.refl _) (loose_int _ _)) (allL_c (WkR.wk (Wk.refl _) (loose_int _ _)) (allL_c (WkR.wk (Wk.refl _) (loose_int _ _)) (allL_c (WkR.wk (Wk.refl _) (loose_int _ _)) allL_n))))))) allL_n)
    refine hK _ _ _ ?_; clear hK K
    refine Then_n ?_
    refine ⟨_, h, ?_⟩
    refine weak_k ?_; (conv => whnf)
    exact And.intro rfl (And.intro (allL_c (WkR.wk (Wk.refl _) (loose_bool _)) (allL_c (WkR.wk (Wk.refl _) (loose_int _ _)) (allL_c (WkR.wk (Wk.refl _) (loose_int _ _)) (allL_c (WkR.wk (Wk.refl _) (loose_int _ _)) (allL_c (WkR.wk (Wk.refl _) (loose_int _ _)) (allL_c (WkR.wk (Wk.refl _) (loose_int _ _)) (allL_c (WkR.wk (Wk.refl _) (loose_int _ _)) allL_n))))))) allL_n)
  refine And.intro (Nat.le_of_ble_eq_true rfl) ?_; (conv => whnf)
  refine blkK_of rfl ?_; (conv => whnf)
  refine And.intro (Nat.le_of_ble_eq_true rfl) ?_; (conv => whnf)
  replace h := W_bd h
  refine clock_Before_call h24 h (WkL.refl _) (fun _ h => ?_); (conv => whnf)
  refine cond_lk h (fun _ h => ?_) (fun _ h => ?_) <;> (conv => whnf)
  · refine cond_lk h (fun _ h => ?_) (fun _ h => ?_) <;> (conv => whnf)
    · refine hK _ _ _ ?_; clear hK K
      refine Then_n ?_
      refine ⟨_, h, ?_⟩
      refine weak_k ?_; (conv => whnf)
      exact And.intro rfl (And.intro (allL_c (WkR.wk (Wk.refl _) (loose_bool _)) (allL_c (WkR.wk (Wk.refl _) (loose_int _ _)) (allL_c (WkR.wk (Wk.refl _) (loose_int _ _)) (allL_c (WkR.wk (Wk.refl _) (loose_int _ _)) (allL_c (WkR.wk (Wk.refl _) (loose_int _ _)) (allL_c (WkR.wk (Wk.refl _) (loose_int _ _)) (allL_c (WkR.wk (Wk.refl _) (loose_int _ _)) allL_n))))))) allL_n)
    refine And.intro (Nat.le_of_ble_eq_true rfl) ?_; (conv => whnf)
    refine blkK_of rfl ?_; (conv => whnf)
    refine And.intro (Nat.le_of_ble_eq_true rfl) ?_; (conv => whnf)
    replace h := W_bd h
    refine clock_After_call h26 h (WkL.refl _) (fun _ h => ?_); (conv => whnf)
    refine cond_lk h (fun _ h => ?_) (fun _ h => ?_) <;> (conv => whnf)
    · refine hK _ _ _ ?_; clear hK K
      refine Then_n ?_
      refine ⟨_, h, ?_⟩
      refine weak_k ?_; (conv => whnf)
      exact And.intro rfl (And.intro (allL_c (WkR.wk (Wk.refl _) (loose_bool _)) (allL_c (WkR.wk (Wk.refl _) (loose_int _ _)) (allL_c (WkR.wk (Wk.refl _) (loose_int _ _)) (allL_c (WkR.wk (Wk.refl _) (loose_int _ _)) (allL_c (WkR.wk (Wk.refl _) (loose_int _ _)) (allL_c (WkR.wk (Wk.refl _) (loose_int _ _)) (allL_c (WkR.wk (Wk.refl _) (loose_int _ _)) allL_n))))))) allL_n)
    refine hK _ _ _ ?_; clear hK K
    refine Then_n ?_
    refine ⟨_, h, ?_⟩
    refine weak_k ?_; (conv => whnf)
    exact And.intro rfl (And.intro (allL_c (WkR.wk (Wk.refl _) (loose_bool _)) (allL_c (WkR.wk (Wk.refl _) (loose_int _ _)) (allL_c (WkR.wk (Wk.refl _) (loose_int _ _)) (allL_c (WkR.wk (Wk.refl _) (loose_int _ _)) (allL_c (WkR.wk (Wk.refl _) (loose_int _ _)) (allL_c (WkR.wk (Wk.refl _) (loose_int _ _)) (allL_c (WkR.wk (Wk.refl _) (loose_int _ _)) allL_n))))))) allL_n)
  refine And.intro (Nat.le_of_ble_eq_true rfl) ?_; (conv => whnf)
  refine blkK_of rfl ?_; (conv => whnf)
  refine And.intro (Nat.le_of_ble_eq_true rfl) ?_; (conv => whnf)
  replace h := W_bd h
  refine clock_After_call h26 h (WkL.refl _) (fun _ h => ?_); (conv => whnf)
  refine cond_lk h (fun _ h => ?_) (fun _ h => ?_) <;> (conv => whnf)
  · refine hK _ _ _ ?_; clear hK K
    refine Then_n ?_
    refine ⟨_, h, ?_⟩
    refine weak_k ?_; (conv => whnf)
    exact And.intro rfl (And.intro (allL_c (WkR.wk (Wk.refl _) (loose_bool _)) (allL_c (WkR.wk (Wk.refl _) (loose_int _ _)) (allL_c (WkR.wk (Wk.refl _) (loose_int _ _)) (allL_c (WkR.wk (Wk.refl _) (loose_int _ _)) (allL_c (WkR.wk (Wk.refl _) (loose_int _ _)) (allL_c (WkR.wk (Wk.refl _) (loose_int _ _)) (allL_c (WkR.wk (Wk.refl _) (loose_int _ _)) allL_n))))))) allL_n)
  refine hK _ _ _ ?_; clear hK K
  refine Then_n ?_
  refine ⟨_, h, ?_⟩
  refine weak_k ?_; (conv => whnf)
  exact And.intro rfl (And.intro (allL_c (WkR.wk (Wk.refl _) (loose_bool _)) (allL_c (WkR.wk (Wk.refl _) (loose_int _ _)) (allL_c (WkR.wk (Wk.refl _) (loose_int _ _)) (allL_c (WkR.wk (Wk.refl _) (loose_int _ _)) (allL_c (WkR.wk (Wk.refl _) (loose_int _ _)) (allL_c (WkR.wk (Wk.refl _) (loose_int _ _)) (allL_c (WkR.wk (Wk.refl _) (loose_int _ _)) allL_n))))))) allL_n)
theorem law05_ClockSound_call {T : Tbl} (hT : T 4 = pureR law05_ClockSound_S) {args : List AV} {hp : Heap} {id : Nat} {k : AV → Prop} {a0 : Int} {a1 : Int} {a2 : List Int} {a3 : List (Int × Int × Int)} {a4 : Int} {a5 : Int} {Φ : Bool → Prop} (h : W (law05_ClockSound_F a0 a1 a2 a3 a4 a5) Φ) (hw : WkL args [eI a0, eI a1, (eL 1 eI default) a2, (eL 3 eA60 default) a3, eI a4, eI a5]) (hk : ∀ y, Φ y → k (eB y)) : callpK T 4 args hp id k := by
  obtain ⟨y, e, hy⟩ := W_inv h
  exact callpK_pure hT ⟨a0, a1, a2, a3, a4, a5, rfl, W_of e rfl⟩ (by exact (loose_bool _)) hw (hk y hy)
end Go.Proofs.Ythbonailomfjlaa
