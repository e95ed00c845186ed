import Derived.Test.YthbonailomfjlaaW9
namespace Go.Proofs.Ythbonailomfjlaa
open Go Go.Eng
set_option maxHeartbeats 0
set_option maxRecDepth 100000
/-! dialtonelaw05.sane -/
def law05_sane_F : Option Bool := lt ([(⟨1000, 2000, 2010⟩ : TReading)] : List TReading) fun l1 => bd (clock_Spread_F 0 7) fun y2 => bd (clock_Spread_F 100 0) fun y3 =>
    bd (clock_Spread_F 100 110) fun y4 => bd (clock_At_F (⟨100, l1⟩ : TClock) 1110) fun y5 => bd (clock_At_F (⟨100, l1⟩ : TClock) 890) fun y6 =>
    bd (clock_Reads_F (⟨100, l1⟩ : TClock) 2005) fun y7 => lt ([(⟨0, 10⟩ : TSpell), (⟨5, 15⟩ : TSpell), (⟨8, 9⟩ : TSpell), (⟨12, 20⟩ : TSpell)] : List TSpell) fun l8 =>
    bd (clock_Agree_F l8) fun y9 => jn (fun p10 : Bool => jn (fun p12 : Bool => jn (fun p14 : Bool => some p14) fun k15 => cn p10 (cn p12 (cn (y7.2.2 == 0) (cn (y7.1 ==
    994) (cn (y7.2.1 == 1006) (cn ((y9.1.From == 8) && (y9.1.To == 9)) (cn (y9.2 == 3) (bd (clock_Valid_F (⟨100, l1⟩ : TClock)) fun y16 =>
    cn y16 (bd (clock_Before_F (⟨100, l1⟩ : TClock) 890 1911) fun y17 => cn y17 (bd (clock_Before_F (⟨100, l1⟩ : TClock) 890 1910) fun y18 =>
    cn (!y18) (bd (clock_After_F (⟨100, l1⟩ : TClock) 1110 2099) fun y19 => cn y19 (bd (clock_After_F (⟨100, l1⟩ : TClock) 1110 2100) fun y20 =>
    k15 (!y20)) (k15 false)) (k15 false)) (k15 false)) (k15 false)) (k15 false)) (k15 false)) (k15 false)) (k15 false)) (k15 false)) (k15 false)) (k15 false)) fun k13 =>
    cn (y5.2.2 == 0) (cn (y5.1 == 2100) (cn (y5.2.1 == 2133) (cn (y6.2.2 == 0) (cn (y6.1 == 1877) (k13 (y6.2.1 ==
    1910)) (k13 false)) (k13 false)) (k13 false)) (k13 false)) (k13 false)) fun k11 => cn (y2.1 == 7) (cn (y2.2 == 7) (cn (y3.1 == 0) (cn (y3.2 == 1) (cn (y4.1 == 100) (k11 (y4.2 ==
    123)) (k11 false)) (k11 false)) (k11 false)) (k11 false)) (k11 false)
def law05_sane_S : List AV → AV → Prop := fun args r =>  args = [] ∧ W (law05_sane_F ) fun y => r = (eB y)
theorem law05_sane_ok {T : Tbl} (hT : TOk Try.prog T) (hpf : PfOk T PF) (h11 : T 11 = pureR clock_Spread_S) (h13 : T 13 = pureR clock_Agree_S) (h17 : T 17 = pureR clock_Valid_S) (h20 : T 20 = pureR clock_At_S) (h22 : T 22 = pureR clock_Reads_S) (h24 : T 24 = pureR clock_Before_S) (h26 : T 26 = pureR clock_After_S) : FOk Try.prog 10 (pureR law05_sane_S) := by
  refine FOk_pure hT hpf Try.func10 rfl Try.ntmps10 Try.results10 (by decide) ?_
  rintro args r ⟨rfl, h⟩
  refine ⟨Nat.le_of_ble_eq_true rfl, ?_, ?_⟩
  · exact loose_nil
  rw [law05_sane_F.eq_1] at h
  refine HT_fr DC_ok rfl fun K hK => ?_; (conv => whnf)
  refine hK _ _ _ ?_; clear hK K
  refine HT_fr DC_ok rfl fun K hK => ?_; (conv => whnf)
  refine lt_lk (enc := eTReading) (d := default) DC_ok h rfl rfl rfl ⟨Nat.le_of_ble_eq_true rfl, Nat.le_of_ble_eq_true rfl, rfl⟩ rfl ⟨⟨rfl, Nat.le_of_ble_eq_true rfl⟩, trivial⟩ (fun h => ?_); (conv => whnf)
  refine blkK_of rfl ?_; (conv => whnf)
  refine And.intro rfl (And.intro (Nat.le_of_ble_eq_true rfl) (And.intro rfl ?_)); (conv => whnf)
  refine hK _ _ _ ?_; clear hK K
  refine HT_fr DC_ok rfl fun K hK => ?_; (conv => whnf)
  replace h := W_bd h
  refine clock_Spread_call h11 h (WkL.refl _) (fun _ h => ?_); (conv => whnf)
  refine hK _ _ _ ?_; clear hK K
  refine HT_fr DC_ok rfl fun K hK => ?_; (conv => whnf)
  replace h := W_bd h
  refine clock_Spread_call h11 h (WkL.refl _) (fun _ h => ?_); (conv => whnf)
  refine hK _ _ _ ?_; clear hK K
  refine HT_fr DC_ok rfl fun K hK => ?_; (conv => whnf)
  replace h := W_bd h
  refine clock_Spread_call h11 h (WkL.refl _) (fun _ h => ?_); (conv => whnf)
  refine hK _ _ _ ?_; clear hK K
  refine HT_fr DC_ok rfl fun K hK => ?_; (conv => whnf)
  refine And.intro (Nat.le_of_ble_eq_true rfl) ?_; (conv => whnf)
  refine blkK_of rfl ?_; (conv => whnf)
  refine And.intro (Nat.le_of_ble_eq_true rfl) ?_; (conv => whnf)
  replace h := W_bd h
  refine clock_At_call h20 h (WkL_cons (Wk_agg (WkL_cons (Wk.refl _) (WkL_cons Wk_free WkL_nil))) (WkL_cons (Wk.refl _) WkL_nil)) (fun _ h => ?_); (conv => whnf)
  refine hK _ _ _ ?_; clear hK K
  refine HT_fr DC_ok rfl fun K hK => ?_; (conv => whnf)
  refine And.intro (Nat.le_of_ble_eq_true rfl) ?_; (conv => whnf)
  refine blkK_of rfl ?_; (conv => whnf)
  refine And.intro (Nat.le_of_ble_eq_true rfl) ?_; (conv => whnf)
  replace h := W_bd h
  refine clock_At_call h20 h (WkL_cons (Wk_agg (WkL_cons (Wk.refl _) (WkL_cons Wk_free WkL_nil))) (WkL_cons (Wk.refl _) WkL_nil)) (fun _ h => ?_); (conv => whnf)
  refine hK _ _ _ ?_; clear hK K
  refine HT_fr DC_ok rfl fun K hK => ?_; (conv => whnf)
  refine And.intro (Nat.le_of_ble_eq_true rfl) ?_; (conv => whnf)
  refine blkK_of rfl ?_; (conv => whnf)
  refine And.intro (Nat.le_of_ble_eq_true rfl) ?_; (conv => whnf)
  replace h := W_bd h
  refine clock_Reads_call h22 h (WkL_cons (Wk_agg (WkL_cons (Wk.refl _) (WkL_cons Wk_free WkL_nil))) (WkL_cons (Wk.refl _) WkL_nil)) (fun _ h => ?_); (conv => whnf)
  refine hK _ _ _ ?_; clear hK K
  refine HT_fr DC_ok rfl fun K hK => ?_; (conv => whnf)
  refine lt_lk (enc := eTSpell) (d := default) DC_ok h rfl rfl rfl ⟨Nat.le_of_ble_eq_true rfl, Nat.le_of_ble_eq_true rfl, rfl⟩ rfl ⟨⟨rfl, Nat.le_of_ble_eq_true rfl⟩, ⟨⟨rfl, Nat.le_of_ble_eq_true rfl⟩, ⟨⟨rfl, Nat.le_of_ble_eq_true rfl⟩, ⟨⟨rfl, Nat.le_of_ble_eq_true rfl⟩, trivial⟩⟩⟩⟩ (fun h => ?_); (conv => whnf)
  replace h := W_bd h
  refine clock_Agree_call h13 h (WkL_cons Wk_free WkL_nil) (fun _ h => ?_); (conv => whnf)
  refine blkK_of rfl ?_; (conv => whnf)
  refine And.intro rfl (And.intro (Nat.le_of_ble_eq_true rfl) (And.intro rfl ?_)); (conv => whnf)
  refine hK _ _ _ ?_; clear hK K
  refine HT_jnK rfl h [1, 8, 9, 10, 11, 12, 13, 14, 15, 16, 17, 18] [1, 17] [] (fun kl kh ids b s => ⟨ofL ([(19, eB s)] ++ kl), ofH ([] ++ kh), b + 64⟩) ?_; (conv => whnf); refine And.intro (fun s h => HT_st ?_) (fun k h => ?_)
  · refine HT_jnK rfl h [1, 14, 15, 16, 17, 18, 19] [1, 17] [] (fun kl kh ids b s => ⟨ofL ([(20, eB s)] ++ kl), ofH ([] ++ kh), b + 64⟩) ?_; (conv => whnf); refine And.intro (fun s h => HT_st ?_) (fun k h => ?_)
    · refine HT_fr DC_ok rfl fun K hK => ?_; (conv => whnf)
      replace h := W_jn h
      refine cond_lk h (fun _ h => ?_) (fun _ h => ?_) <;> (conv => whnf)
      · refine cond_lk h (fun _ h => ?_) (fun _ h => ?_) <;> (conv => whnf)
        · refine cond_lk h (fun _ h => ?_) (fun _ h => ?_) <;> (conv => whnf)
          · refine cond_lk h (fun _ h => ?_) (fun _ h => ?_) <;> (conv => whnf)
            · refine cond_lk h (fun _ h => ?_) (fun _ h => ?_) <;> (conv => whnf)
              · refine And.intro (Nat.le_of_ble_eq_true rfl) ?_; (conv => whnf)
                refine blkK_of rfl ?_; (conv => whnf)
                refine And.intro (Nat.le_of_ble_eq_true rfl) ?_; (conv => whnf)
                refine eqK_e (eqv32 _ _ _ _) ?_; (conv => whnf)
                refine cond_lk h (fun _ h => ?_) (fun _ h => ?_) <;> (conv => whnf)
                · refine cond_lk h (fun _ h => ?_) (fun _ h => ?_) <;> (conv => whnf)
                  · refine And.intro (Nat.le_of_ble_eq_true rfl) ?_; (conv => whnf)
                    refine blkK_of rfl ?_; (conv => whnf)
                    refine And.intro (Nat.le_of_ble_eq_true rfl) ?_; (conv => whnf)
                    replace h := W_bd h
                    refine clock_Valid_call h17 h (WkL_cons (Wk_agg (WkL_cons (Wk.refl _) (WkL_cons Wk_free WkL_nil))) WkL_nil) (fun _ h => ?_); (conv => whnf)
                    refine cond_lk h (fun _ h => ?_) (fun _ h => ?_) <;> (conv => whnf)
                    · refine And.intro (Nat.le_of_ble_eq_true rfl) ?_; (conv => whnf)
                      refine blkK_of rfl ?_; (conv => whnf)
                      refine And.intro (Nat.le_of_ble_eq_true rfl) ?_; (conv => whnf)
                      replace h := W_bd h
                      refine clock_Before_call h24 h (WkL_cons (Wk_agg (WkL_cons (Wk.refl _) (WkL_cons Wk_free WkL_nil))) (WkL_cons (Wk.refl _) (WkL_cons (Wk.refl _) WkL_nil))) (fun _ h => ?_); (conv => whnf)
                      refine cond_lk h (fun _ h => ?_) (fun _ h => ?_) <;> (conv => whnf)
                      · refine And.intro (Nat.le_of_ble_eq_true rfl) ?_; (conv => whnf)
                        refine blkK_of rfl ?_; (conv => whnf)
                        refine And.intro (Nat.le_of_ble_eq_true rfl) ?_; (conv => whnf)
                        replace h := W_bd h
                        refine clock_Before_call h24 h (WkL_cons (Wk_agg (WkL_cons (Wk.refl _) (WkL_cons Wk_free WkL_nil))) (WkL_cons (Wk.refl _) (WkL_cons (Wk.refl _) WkL_nil))) (fun _ h => ?_); (conv => whnf)
                        refine cond_lk h (fun _ h => ?_) (fun _ h => ?_) <;> (conv => whnf)
                        · refine And.intro (Nat.le_of_ble_eq_true rfl) ?_; (conv => whnf)
                          refine blkK_of rfl ?_; (conv => whnf)
                          refine And.intro (Nat.le_of_ble_eq_true rfl) ?_; (conv => whnf)
                          replace h := W_bd h
                          refine clock_After_call h26 h (WkL_cons (Wk_agg (WkL_cons (Wk.refl _) (WkL_cons Wk_free WkL_nil))) (WkL_cons (Wk.refl _) (WkL_cons (Wk.refl _) WkL_nil))) (fun _ h => ?_); (conv => whnf)
                          refine cond_lk h (fun _ h => ?_) (fun _ h => ?_) <;> (conv => whnf)
                          · refine And.intro (Nat.le_of_ble_eq_true rfl) ?_; (conv => whnf)
                            refine blkK_of rfl ?_; (conv => whnf)
                            refine And.intro (Nat.le_of_ble_eq_true rfl) ?_; (conv => whnf)
                            replace h := W_bd h
                            refine clock_After_call h26 h (WkL_cons (Wk_agg (WkL_cons (Wk.refl _) (WkL_cons Wk_free WkL_nil))) (WkL_cons (Wk.refl _) (WkL_cons (Wk.refl _) WkL_nil))) (fun _ h => ?_); (conv => whnf)
                            refine hK _ _ _ ?_; clear hK K
                            refine HT_ret ?_
                            replace h := W_some h
                            refine PostP_r DC_ok fun K hK => ?_; (conv => whnf)
                            refine hK _ ?_; clear hK K
                            cases h
                            exact Wk.refl _
                          refine hK _ _ _ ?_; clear hK K
                          refine HT_ret ?_
                          replace h := W_some h
                          refine PostP_r DC_ok fun K hK => ?_; (conv => whnf)
                          refine hK _ ?_; clear hK K
                          cases h
                          exact Wk.refl _
                        refine hK _ _ _ ?_; clear hK K
                        refine HT_ret ?_
                        replace h := W_some h
                        refine PostP_r DC_ok fun K hK => ?_; (conv => whnf)
                        refine hK _ ?_; clear hK K
                        cases h
                        exact Wk.refl _
                      refine hK _ _ _ ?_; clear hK K
                      refine HT_ret ?_
                      replace h := W_some h
                      refine PostP_r DC_ok fun K hK => ?_; (conv => whnf)
                      refine hK _ ?_; clear hK K
                      cases h
                      exact Wk.refl _
                    refine hK _ _ _ ?_; clear hK K
                    refine HT_ret ?_
                    replace h := W_some h
                    refine PostP_r DC_ok fun K hK => ?_; (conv => whnf)
                    refine hK _ ?_; clear hK K
                    cases h
                    exact Wk.refl _
                  refine hK _ _ _ ?_; clear hK K
                  refine HT_ret ?_
                  replace h := W_some h
                  refine PostP_r DC_ok fun K hK => ?_; (conv => whnf)
                  refine hK _ ?_; clear hK K
                  cases h
                  exact Wk.refl _
                refine hK _ _ _ ?_; clear hK K
                refine HT_ret ?_
                replace h := W_some h
                refine PostP_r DC_ok fun K hK => ?_; (conv => whnf)
                refine hK _ ?_; clear hK K
                cases h
                exact Wk.refl _
              refine hK _ _ _ ?_; clear hK K
              refine HT_ret ?_
              replace h := W_some h
              refine PostP_r DC_ok fun K hK => ?_; (conv => whnf)
              refine hK _ ?_; clear hK K
              cases h
              exact Wk.refl _
            refine hK _ _ _ ?_; clear hK K
            refine HT_ret ?_
            replace h := W_some h
            refine PostP_r DC_ok fun K hK => ?_; (conv => whnf)
            refine hK _ ?_; clear hK K
            cases h
            exact Wk.refl _
          refine hK _ _ _ ?_; clear hK K
          refine HT_ret ?_
          replace h := W_some h
          refine PostP_r DC_ok fun K hK => ?_; (conv => whnf)
          refine hK _ ?_; clear hK K
          cases h
          exact Wk.refl _
        refine hK _ _ _ ?_; clear hK K
        refine HT_ret ?_
        replace h := W_some h
        refine PostP_r DC_ok fun K hK => ?_; (conv => whnf)
        refine hK _ ?_; clear hK K
        cases h
        exact Wk.refl _
      refine hK _ _ _ ?_; clear hK K
      refine HT_ret ?_
      replace h := W_some h
      refine PostP_r DC_ok fun K hK => ?_; (conv => whnf)
      refine hK _ ?_; clear hK K
      cases h
      exact Wk.refl _
    refine HT_f DC_ok rfl fun K hK => ?_; (conv => whnf)
    refine cond_lk h (fun _ h => ?_) (fun _ h => ?_) <;> (conv => whnf)
    · refine cond_lk h (fun _ h => ?_) (fun _ h => ?_) <;> (conv => whnf)
      · refine cond_lk h (fun _ h => ?_) (fun _ h => ?_) <;> (conv => whnf)
        · refine cond_lk h (fun _ h => ?_) (fun _ h => ?_) <;> (conv => whnf)
          · refine cond_lk h (fun _ h => ?_) (fun _ h => ?_) <;> (conv => whnf)
            · refine hK _ _ _ ?_; clear hK K
              refine Then_n ?_
              refine ⟨_, h, ?_⟩
              refine weak_k ?_; (conv => whnf)
              exact And.intro rfl (And.intro (allL_c (WkR.wk (Wk.refl _) (loose_bool _)) (allL_c (WkR.ptr (fun _ => rfl)) (allL_c (WkR.wk (Wk.refl _) (loose_int _ _)) (allL_c (WkR.wk (Wk.refl _) (loose_int _ _)) (allL_c (WkR.wk (Wk.refl _) (loose_int _ _)) (allL_c (WkR.ptr (fun _ => rfl)) (allL_c (WkR.wk (Wk.refl _) (loose_int _ _)) (allL_c (WkR.wk (Wk.refl _) (loose_bool _)) allL_n)))))))) (allL_c ⟨some _, rfl, BkR_c rfl (CkR_cons (WkR.wk (Wk.refl _) (loose_int _ _)) (CkR_cons (WkR.wk (Wk.refl _) (loose_lstc fun _ => (lo_TReading _))) CkR_nil))⟩ (allL_c ⟨some _, rfl, BkR_c rfl (CkR_cons (WkR.wk (Wk.refl _) (loose_int _ _)) (CkR_cons (WkR.wk (Wk.refl _) (loose_int _ _)) CkR_nil))⟩ allL_n)))
            refine hK _ _ _ ?_; clear hK K
            refine Then_n ?_
            refine ⟨_, h, ?_⟩
            refine weak_k ?_; (conv => whnf)
            exact And.intro rfl (And.intro (allL_c (WkR.wk (Wk.refl _) (loose_bool _)) (allL_c (WkR.ptr (fun _ => rfl)) (allL_c (WkR.wk (Wk.refl _) (loose_int _ _)) (allL_c (WkR.wk (Wk.refl _) (loose_int _ _)) (allL_c (WkR.wk (Wk.refl _) (loose_int _ _)) (allL_c (WkR.ptr (fun _ => rfl)) (allL_c (WkR.wk (Wk.refl _) (loose_int _ _)) (allL_c (WkR.wk (Wk.refl _) (loose_bool _)) allL_n)))))))) (allL_c ⟨some _, rfl, BkR_c rfl (CkR_cons (WkR.wk (Wk.refl _) (loose_int _ _)) (CkR_cons (WkR.wk (Wk.refl _) (loose_lstc fun _ => (lo_TReading _))) CkR_nil))⟩ (allL_c ⟨some _, rfl, BkR_c rfl (CkR_cons (WkR.wk (Wk.refl _) (loose_int _ _)) (CkR_cons (WkR.wk (Wk.refl _) (loose_int _ _)) CkR_nil))⟩ allL_n)))
          refine hK _ _ _ ?_; clear hK K
          refine Then_n ?_
          refine ⟨_, h, ?_⟩
          refine weak_k ?_; (conv => whnf)
          exact And.intro rfl (And.intro (allL_c (WkR.wk (Wk.refl _) (loose_bool _)) (allL_c (WkR.ptr (fun _ => rfl)) (allL_c (WkR.wk (Wk.refl _) (loose_int _ _)) (allL_c (WkR.wk (Wk.refl _) (loose_int _ _)) (allL_c (WkR.wk (Wk.refl _) (loose_int _ _)) (allL_c (WkR.ptr (fun _ => rfl)) (allL_c (WkR.wk (Wk.refl _) (loose_int _ _)) (allL_c (WkR.wk (Wk.refl _) (loose_bool _)) allL_n)))))))) (allL_c ⟨some _, rfl, BkR_c rfl (CkR_cons (WkR.wk (Wk.refl _) (loose_int _ _)) (CkR_cons (WkR.wk (Wk.refl _) (loose_lstc fun _ => (lo_TReading _))) CkR_nil))⟩ (allL_c ⟨some _, rfl, BkR_c rfl (CkR_cons (WkR.wk (Wk.refl _) (loose_int _ _)) (CkR_cons (WkR.wk (Wk.refl _) (loose_int _ _)) CkR_nil))⟩ allL_n)))
        refine hK _ _ _ ?_; clear hK K
        refine Then_n ?_
        refine ⟨_, h, ?_⟩
        refine weak_k ?_; (conv => whnf)
        exact And.intro rfl (And.intro (allL_c (WkR.wk (Wk.refl _) (loose_bool _)) (allL_c (WkR.ptr (fun _ => rfl)) (allL_c (WkR.wk (Wk.refl _) (loose_int _ _)) (allL_c (WkR.wk (Wk.refl _) (loose_int _ _)) (allL_c (WkR.wk (Wk.refl _) (loose_int _ _)) (allL_c (WkR.ptr (fun _ => rfl)) (allL_c (WkR.wk (Wk.refl _) (loose_int _ _)) (allL_c (WkR.wk (Wk.refl _) (loose_bool _)) allL_n)))))))) (allL_c ⟨some _, rfl, BkR_c rfl (CkR_cons (WkR.wk (Wk.refl _) (loose_int _ _)) (CkR_cons (WkR.wk (Wk.refl _) (loose_lstc fun _ => (lo_TReading _))) CkR_nil))⟩ (allL_c ⟨some _, rfl, BkR_c rfl (CkR_cons (WkR.wk (Wk.refl _) (loose_int _ _)) (CkR_cons (WkR.wk (Wk.refl _) (loose_int _ _)) CkR_nil))⟩ allL_n)))
      refine hK _ _ _ ?_; clear hK K
      refine Then_n ?_
      refine ⟨_, h, ?_⟩
      refine weak_k ?_; (conv => whnf)
      exact And.intro rfl (And.intro (allL_c (WkR.wk (Wk.refl _) (loose_bool _)) (allL_c (WkR.ptr (fun _ => rfl)) (allL_c (WkR.wk (Wk.refl _) (loose_int _ _)) (allL_c (WkR.wk (Wk.refl _) (loose_int _ _)) (allL_c (WkR.wk (Wk.refl _) (loose_int _ _)) (allL_c (WkR.ptr (fun _ => rfl)) (allL_c (WkR.wk (Wk.refl _) (loose_int _ _)) (allL_c (WkR.wk (Wk.refl _) (loose_bool _)) allL_n)))))))) (allL_c ⟨some _, rfl, BkR_c rfl (CkR_cons (WkR.wk (Wk.refl _) (loose_int _ _)) (CkR_cons (WkR.wk (Wk.refl _) (loose_lstc fun _ => (lo_TReading _))) CkR_nil))⟩ (allL_c ⟨some _, rfl, BkR_c rfl (CkR_cons (WkR.wk (Wk.refl _) (loose_int _ _)) (CkR_cons (WkR.wk (Wk.refl _) (loose_int _ _)) CkR_nil))⟩ allL_n)))
    refine hK _ _ _ ?_; clear hK K
    refine Then_n ?_
    refine ⟨_, h, ?_⟩
    refine weak_k ?_; (conv => whnf)
    exact And.intro rfl (And.intro (allL_c (WkR.wk (Wk.refl _) (loose_bool _)) (allL_c (WkR.ptr (fun _ => rfl)) (allL_c (WkR.wk (Wk.refl _) (loose_int _ _)) (allL_c (WkR.wk (Wk.refl _) (loose_int _ _)) (allL_c (WkR.wk (Wk.refl _) (loose_int _ _)) (allL_c (WkR.ptr (fun _ => rfl)) (allL_c (WkR.wk (Wk.refl _) (loose_int _ _)) (allL_c (WkR.wk (Wk.refl _) (loose_bool _)) allL_n)))))))) (allL_c ⟨some _, rfl, BkR_c rfl (CkR_cons (WkR.wk (Wk.refl _) (loose_int _ _)) (CkR_cons (WkR.wk (Wk.refl _) (loose_lstc fun _ => (lo_TReading _))) CkR_nil))⟩ (allL_c ⟨some _, rfl, BkR_c rfl (CkR_cons (WkR.wk (Wk.refl _) (loose_int _ _)) (CkR_cons (WkR.wk (Wk.refl _) (loose_int _ _)) CkR_nil))⟩ allL_n)))
  refine HT_f DC_ok rfl fun K hK => ?_; (conv => whnf)
  refine cond_lk h (fun _ h => ?_) (fun _ h => ?_) <;> (conv => whnf)
  · refine cond_lk h (fun _ h => ?_) (fun _ h => ?_) <;> (conv => whnf)
    · refine cond_lk h (fun _ h => ?_) (fun _ h => ?_) <;> (conv => whnf)
      · refine cond_lk h (fun _ h => ?_) (fun _ h => ?_) <;> (conv => whnf)
        · refine cond_lk h (fun _ h => ?_) (fun _ h => ?_) <;> (conv => whnf)
          · refine hK _ _ _ ?_; clear hK K
            refine Then_n ?_
            refine ⟨_, h, ?_⟩
            refine weak_k ?_; (conv => whnf)
            exact And.intro rfl (And.intro (allL_c (WkR.wk (Wk.refl _) (loose_bool _)) (allL_c (WkR.ptr (fun _ => rfl)) (allL_c (WkR.wk (Wk.refl _) (loose_int _ _)) (allL_c (WkR.wk (Wk.refl _) (loose_int _ _)) (allL_c (WkR.wk (Wk.refl _) (loose_int _ _)) (allL_c (WkR.wk (Wk.refl _) (loose_int _ _)) (allL_c (WkR.wk (Wk.refl _) (loose_int _ _)) (allL_c (WkR.wk (Wk.refl _) (loose_int _ _)) (allL_c (WkR.wk (Wk.refl _) (loose_int _ _)) (allL_c (WkR.wk (Wk.refl _) (loose_int _ _)) (allL_c (WkR.wk (Wk.refl _) (loose_int _ _)) (allL_c (WkR.ptr (fun _ => rfl)) (allL_c (WkR.wk (Wk.refl _) (loose_int _ _)) allL_n))))))))))))) (allL_c ⟨some _, rfl, BkR_c rfl (CkR_cons (WkR.wk (Wk.refl _) (loose_int _ _)) (CkR_cons (WkR.wk (Wk.refl _) (loose_lstc fun _ => (lo_TReading _))) CkR_nil))⟩ (allL_c ⟨some _, rfl, BkR_c rfl (CkR_cons (WkR.wk (Wk.refl _) (loose_int _ _)) (CkR_cons (WkR.wk (Wk.refl _) (loose_int _ _)) CkR_nil))⟩ allL_n)))
          refine hK _ _ _ ?_; clear hK K
          refine Then_n ?_
          refine ⟨_, h, ?_⟩
          refine weak_k ?_; (conv => whnf)
          exact And.intro rfl (And.intro (allL_c (WkR.wk (Wk.refl _) (loose_bool _)) (allL_c (WkR.ptr (fun _ => rfl)) (allL_c (WkR.wk (Wk.refl _) (loose_int _ _)) (allL_c (WkR.wk (Wk.refl _) (loose_int _ _)) (allL_c (WkR.wk (Wk.refl _) (loose_int _ _)) (allL_c (WkR.wk (Wk.refl _) (loose_int _ _)) (allL_c (WkR.wk (Wk.refl _) (loose_int _ _)) (allL_c (WkR.wk (Wk.refl _) (loose_int _ _)) (allL_c (WkR.wk (Wk.refl _) (loose_int _ _)) (allL_c (WkR.wk (Wk.refl _) (loose_int _ _)) (allL_c (WkR.wk (Wk.refl _) (loose_int _ _)) (allL_c (WkR.ptr (fun _ => rfl)) (allL_c (WkR.wk (Wk.refl _) (loose_int _ _)) allL_n))))))))))))) (allL_c ⟨some _, rfl, BkR_c rfl (CkR_cons (WkR.wk (Wk.refl _) (loose_int _ _)) (CkR_cons (WkR.wk (Wk.refl _) (loose_lstc fun _ => (lo_TReading _))) CkR_nil))⟩ (allL_c ⟨some _, rfl, BkR_c rfl (CkR_cons (WkR.wk (Wk.refl _) (loose_int _ _)) (CkR_cons (WkR.wk (Wk.refl _) (loose_int _ _)) CkR_nil))⟩ allL_n)))
        refine hK _ _ _ ?_; clear hK K
        refine Then_n ?_
        refine ⟨_, h, ?_⟩
        refine weak_k ?_; (conv => whnf)
        exact And.intro rfl (And.intro (allL_c (WkR.wk (Wk.refl _) (loose_bool _)) (allL_c (WkR.ptr (fun _ => rfl)) (allL_c (WkR.wk (Wk.refl _) (loose_int _ _)) (allL_c (WkR.wk (Wk.refl _) (loose_int _ _)) (allL_c (WkR.wk (Wk.refl _) (loose_int _ _)) (allL_c (WkR.wk (Wk.refl _) (loose_int _ _)) (allL_c (WkR.wk (Wk.refl _) (loose_int _ _)) (allL_c (WkR.wk (Wk.refl _) (loose_int _ _)) (allL_c (WkR.wk (Wk.refl _) (loose_int _ _)) (allL_c (WkR.wk (Wk.refl _) (loose_int _ _)) (allL_c (WkR.wk (Wk.refl _) (loose_int _ _)) (allL_c (WkR.ptr (fun _ => rfl)) (allL_c (WkR.wk (Wk.refl _) (loose_int _ _)) allL_n))))))))))))) (allL_c ⟨some _, rfl, BkR_c rfl (CkR_cons (WkR.wk (Wk.refl _) (loose_int _ _)) (CkR_cons (WkR.wk (Wk.refl _) (loose_lstc fun _ => (lo_TReading _))) CkR_nil))⟩ (allL_c ⟨some _, rfl, BkR_c rfl (CkR_cons (WkR.wk (Wk.refl _) (loose_int _ _)) (CkR_cons (WkR.wk (Wk.refl _) (loose_int _ _)) CkR_nil))⟩ allL_n)))
      refine hK _ _ _ ?_; clear hK K
      refine Then_n ?_
      refine ⟨_, h, ?_⟩
      refine weak_k ?_; (conv => whnf)
      exact And.intro rfl (And.intro (allL_c (WkR.wk (Wk.refl _) (loose_bool _)) (allL_c (WkR.ptr (fun _ => rfl)) (allL_c (WkR.wk (Wk.refl _) (loose_int _ _)) (allL_c (WkR.wk (Wk.refl _) (loose_int _ _)) (allL_c (WkR.wk (Wk.refl _) (loose_int _ _)) (allL_c (WkR.wk (Wk.refl _) (loose_int _ _)) (allL_c (WkR.wk (Wk.refl _) (loose_int _ _)) (allL_c (WkR.wk (Wk.refl _) (loose_int _ _)) (allL_c (WkR.wk (Wk.refl _) (loose_int _ _)) (allL_c (WkR.wk (Wk.refl _) (loose_int _ _)) (allL_c (WkR.wk (Wk.refl _) (loose_int _ _)) (allL_c (WkR.ptr (fun _ => rfl)) (allL_c (WkR.wk (Wk.refl _) (loose_int _ _)) allL_n))))))))))))) (allL_c ⟨some _, rfl, BkR_c rfl (CkR_cons (WkR.wk (Wk.refl _) (loose_int _ _)) (CkR_cons (WkR.wk (Wk.refl _) (loose_lstc fun _ => (lo_TReading _))) CkR_nil))⟩ (allL_c ⟨some _, rfl, BkR_c rfl (CkR_cons (WkR.wk (Wk.refl _) (loose_int _ _)) (CkR_cons (WkR.wk (Wk.refl _) (loose_int _ _)) CkR_nil))⟩ allL_n)))
    refine hK _ _ _ ?_; clear hK K
    refine Then_n ?_
    refine ⟨_, h, ?_⟩
    refine weak_k ?_; (conv => whnf)
    exact And.intro rfl (And.intro (allL_c (WkR.wk (Wk.refl _) (loose_bool _)) (allL_c (WkR.ptr (fun _ => rfl)) (allL_c (WkR.wk (Wk.refl _) (loose_int _ _)) (allL_c (WkR.wk (Wk.refl _) (loose_int _ _)) (allL_c (WkR.wk (Wk.refl _) (loose_int _ _)) (allL_c (WkR.wk (Wk.refl _) (loose_int _ _)) (allL_c (WkR.wk (Wk.refl _) (loose_int _ _)) (allL_c (WkR.wk (Wk.refl _) (loose_int _ _)) (allL_c (WkR.wk (Wk.refl _) (loose_int _ _)) (allL_c (WkR.wk (Wk.refl _) (loose_int _ _)) (allL_c (WkR.wk (Wk.refl _) (loose_int _ _)) (allL_c (WkR.ptr (fun _ => rfl)) (allL_c (WkR.wk (Wk.refl _) (loose_int _ _)) allL_n))))))))))))) (allL_c ⟨some _, rfl, BkR_c rfl (CkR_cons (WkR.wk (Wk.refl _) (loose_int _ _)) (CkR_cons (WkR.wk (Wk.refl _) (loose_lstc fun _ => (lo_TReading _))) CkR_nil))⟩ (allL_c ⟨some _, rfl, BkR_c rfl (CkR_cons (WkR.wk (Wk.refl _) (loose_int _ _)) (CkR_cons (WkR.wk (Wk.refl _) (loose_int _ _)) CkR_nil))⟩ allL_n)))
  refine hK _ _ _ ?_; clear hK K
  refine Then_n ?_
  refine ⟨_, h, ?_⟩
  refine weak_k ?_; (conv => whnf)
  exact And.intro rfl (And.intro (allL_c (WkR.wk (Wk.refl _) (loose_bool _)) (allL_c (WkR.ptr (fun _ => rfl)) (allL_c (WkR.wk (Wk.refl _) (loose_int _ _)) (allL_c (WkR.wk (Wk.refl _) (loose_int _ _)) (allL_c (WkR.wk (Wk.refl _) (loose_int _ _)) (allL_c (WkR.wk (Wk.refl _) (loose_int _ _)) (allL_c (WkR.wk (Wk.refl _) (loose_int _ _)) (allL_c (WkR.wk (Wk.refl _) (loose_int _ _)) (allL_c (WkR.wk (Wk.refl _) (loose_int _ _)) (allL_c (WkR.wk (Wk.refl _) (loose_int _ _)) (allL_c (WkR.wk (Wk.refl _) (loose_int _ _)) (allL_c (WkR.ptr (fun _ => rfl)) (allL_c (WkR.wk (Wk.refl _) (loose_int _ _)) allL_n))))))))))))) (allL_c ⟨some _, rfl, BkR_c rfl (CkR_cons (WkR.wk (Wk.refl _) (loose_int _ _)) (CkR_cons (WkR.wk (Wk.refl _) (loose_lstc fun _ => (lo_TReading _))) CkR_nil))⟩ (allL_c ⟨some _, rfl, BkR_c rfl (CkR_cons (WkR.wk (Wk.refl _) (loose_int _ _)) (CkR_cons (WkR.wk (Wk.refl _) (loose_int _ _)) CkR_nil))⟩ allL_n)))
theorem law05_sane_call {T : Tbl} (hT : T 10 = pureR law05_sane_S) {args : List AV} {hp : Heap} {id : Nat} {k : AV → Prop} {Φ : Bool → Prop} (h : W (law05_sane_F ) Φ) (hw : WkL args []) (hk : ∀ y, Φ y → k (eB y)) : callpK T 10 args hp id k := by
  obtain ⟨y, e, hy⟩ := W_inv h
  exact callpK_pure hT ⟨rfl, W_of e rfl⟩ (by exact (loose_bool _)) hw (hk y hy)
end Go.Proofs.Ythbonailomfjlaa
