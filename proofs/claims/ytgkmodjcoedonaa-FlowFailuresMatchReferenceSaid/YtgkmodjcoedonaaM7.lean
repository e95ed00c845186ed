import Derived.Test.YtgkmodjcoedonaaM5
import Derived.Test.YtgkmodjcoedonaaM6
import Derived.Test.YtgkmodjcoedonaaM3
import Derived.Test.YtgkmodjcoedonaaM4
import Derived.KernelRfl
set_option linter.unusedVariables false
set_option linter.unusedSimpArgs false
set_option linter.unusedSectionVars false
namespace Go.Proofs.Ytgkmodjcoedonaa
open Go Go.Eng
set_option maxHeartbeats 0
set_option maxRecDepth 100000
def law27_sane_F : Option Bool := bd (law27_example_F ) fun y1 => bd (flow_Max_F y1 0 3) fun y2 => bd (flow_CheckFlow_F y1 0 3 y2.1) fun y3 =>
   bd (flow_CheckCut_F y1 0 3 1) fun y4 => bd (flow_CheckCut_F y1 0 3 3) fun y5 => lt ([5, 2, 4, 3, 1] : List Int) fun l6 => bd (flow_CheckFlow_F y1 0 3 l6) fun y7 =>
   lt ([5, 3, 4, 3, 1] : List Int) fun l8 => bd (flow_CheckFlow_F y1 0 3 l8) fun y9 => bd (flow_Worst_F y1 0 3 1) fun y10 => bd (flow_Worst_F y1 0 3 2) fun y11 =>
   lt ([7, 0, 0, (-7)] : List Int) fun l12 => bd (flow_Meet_F y1 l12) fun y13 => lt ([8, 0, 0, (-8)] : List Int) fun l14 => bd (flow_Meet_F y1 l14) fun y15 =>
   bd (flow_Max_F y1 3 3) fun y16 => lt ([0, 5, 0, (-5)] : List Int) fun l17 => bd (flow_Meet_F y1 l17) fun y18 => jn (fun p19 : Bool => cn p19 (some false) (jn (fun p21 : Bool =>
   jn (fun p23 : Bool => jn (fun p28 : Bool => some p28) fun k29 => cn p21 (cn p23 (lt ([8, 0, 0, (-8)] : List Int) fun l30 =>
   bd (flow_CheckMeet_F y1 l30 (⟨false, [], 7⟩ : TSupply)) fun y31 => cn y31 (lt ([0, 5, 0, (-5)] : List Int) fun l32 => lt ([0, 0, 4, 1, 1] : List Int) fun l33 =>
   bd (flow_CheckMeet_F y1 l32 (⟨true, l33, 0⟩ : TSupply)) fun y34 => cn y34 (lt ([7, 0, 0, (-7)] : List Int) fun l35 => bd (flow_CheckMeet_F y1 l35 y15.1) fun y36 =>
   cn (!y36) (bd (flow_Valid_F y1) fun y37 => cn y37 (bd (flow_Valid_F (⟨13, []⟩ : TNet)) fun y38 =>
   k29 (!y38)) (k29 false)) (k29 false)) (k29 false)) (k29 false)) (k29 false)) (k29 false)) fun k24 => bd (flow_CheckWorst_F y1 0 3 1 y10.1) fun y25 =>
   cn y25 (bd (flow_CheckWorst_F y1 0 3 1 (⟨4, 3, 7⟩ : TFailure)) fun y26 => cn y26 (bd (flow_CheckWorst_F y1 0 3 1 y11.1) fun y27 =>
   cn (!y27) (cn y13.1.Met (cn (!y15.1.Met) (k24 y18.1.Met) (k24 false)) (k24 false)) (k24 false)) (k24 false)) (k24 false)) fun k22 => cn (y3.1 == 7) (cn (y2.2.1 ==
   7) (cn (y4.1 == 8) (cn (y5.1 == 8) (cn (y7.1 == 7) (cn (y10.1.Value == 3) (k22 (y11.1.Value ==
   0)) (k22 false)) (k22 false)) (k22 false)) (k22 false)) (k22 false)) (k22 false))) fun k20 => cn (y2.2.2 != 0) (k20 true) (cn (y10.2 != 0) (k20 true) (cn (y11.2 !=
   0) (k20 true) (cn (y13.2 != 0) (k20 true) (cn (y15.2 != 0) (k20 true) (cn (y16.2.2 != 270) (k20 true) (cn (y18.2 !=
   0) (k20 true) (cn (!y3.2) (k20 true) (cn (!y4.2) (k20 true) (cn (!y5.2) (k20 true) (cn (!y7.2) (k20 true) (k20 y9.2)))))))))))
def law27_sane_S : List AV → AV → Prop := fun args r =>  args = [] ∧ W (law27_sane_F ) fun y => r = (eB y)
theorem law27_sane_ok {T : Tbl} (hT : TOk Try.prog T) (hpf : PfOk T PF) (h19 : T 19 = pureR flow_Valid_S) (h21 : T 21 = pureR flow_Max_S) (h26 : T 26 = pureR flow_CheckFlow_S) (h28 : T 28 = pureR flow_CheckCut_S) (h33 : T 33 = pureR flow_Worst_S) (h35 : T 35 = pureR flow_CheckWorst_S) (h38 : T 38 = pureR flow_Meet_S) (h41 : T 41 = pureR flow_CheckMeet_S) (h44 : T 44 = pureR law27_example_S) : FOk Try.prog 14 (pureR law27_sane_S) := by
 refine FOk_pure hT hpf Try.func14 rfl Try.ntmps14 Try.results14 (by decide) ?_
 rintro args r ⟨rfl, h⟩
 refine ⟨nle rfl, ?_, ?_⟩
 · exact loose_nil
 rw [law27_sane_F.eq_1] at h
 refine HT_fr dCo rfl fun K hK => ?_; conv => whnf
 refine hK _ _ _ ?_; clear hK K
 refine HT_fr dCo rfl fun K hK => ?_; conv => whnf
 replace h := W_bd h
 refine law27_example_call h44 h (WkL.refl _) (fun _ h => ?_); conv => whnf
 refine bKo rfl ?_; conv => whnf
 refine And.intro rfl (And.intro (nle rfl) (And.intro rfl ?_)); conv => whnf
 refine hK _ _ _ ?_; clear hK K
 refine HT_fr dCo rfl fun K hK => ?_; conv => whnf
 refine nlA rfl ?_; conv => whnf
 refine bKo rfl ?_; conv => whnf
 refine nlA rfl ?_; conv => whnf
 replace h := W_bd h
 refine flow_Max_call h21 h (WkL.refl _) (fun _ h => ?_); conv => whnf
 refine hK _ _ _ ?_; clear hK K
 refine HT_fr dCo rfl fun K hK => ?_; conv => whnf
 refine nlA rfl ?_; conv => whnf
 refine bKo rfl ?_; conv => whnf
 refine nlA rfl ?_; conv => whnf
 replace h := W_bd h
 refine flow_CheckFlow_call h26 h (WkL.refl _) (fun _ h => ?_); conv => whnf
 refine hK _ _ _ ?_; clear hK K
 refine HT_fr dCo rfl fun K hK => ?_; conv => whnf
 refine nlA rfl ?_; conv => whnf
 refine bKo rfl ?_; conv => whnf
 refine nlA rfl ?_; conv => whnf
 replace h := W_bd h
 refine flow_CheckCut_call h28 h (WkL.refl _) (fun _ h => ?_); conv => whnf
 refine hK _ _ _ ?_; clear hK K
 refine HT_fr dCo rfl fun K hK => ?_; conv => whnf
 refine nlA rfl ?_; conv => whnf
 refine bKo rfl ?_; conv => whnf
 refine nlA rfl ?_; conv => whnf
 replace h := W_bd h
 refine flow_CheckCut_call h28 h (WkL.refl _) (fun _ h => ?_); conv => whnf
 refine hK _ _ _ ?_; clear hK K
 refine HT_fr dCo rfl fun K hK => ?_; conv => whnf
 refine nlA rfl ?_; conv => whnf
 refine bKo rfl ?_; conv => whnf
 refine nlA rfl ?_; conv => whnf
 refine lt_lk (enc := eI) (d := default) dCo h rfl rfl rfl ⟨nle rfl, nle rfl, rfl⟩ rfl ⟨⟨rfl, rfl, rfl⟩, ⟨⟨rfl, rfl, rfl⟩, ⟨⟨rfl, rfl, rfl⟩, ⟨⟨rfl, rfl, rfl⟩, ⟨⟨rfl, rfl, rfl⟩, trivial⟩⟩⟩⟩⟩ (fun h => ?_); conv => whnf
 replace h := W_bd h
 refine flow_CheckFlow_call h26 h (WkL_cons (Wk.refl _) (WkL_cons (Wk.refl _) (WkL_cons (Wk.refl _) (WkL_cons Wk_free WkL_nil)))) (fun _ h => ?_); conv => whnf
 refine hK _ _ _ ?_; clear hK K
 refine HT_fr dCo rfl fun K hK => ?_; conv => whnf
 refine nlA rfl ?_; conv => whnf
 refine bKo rfl ?_; conv => whnf
 refine nlA rfl ?_; conv => whnf
 refine lt_lk (enc := eI) (d := default) dCo h rfl rfl rfl ⟨nle rfl, nle rfl, rfl⟩ rfl ⟨⟨rfl, rfl, rfl⟩, ⟨⟨rfl, rfl, rfl⟩, ⟨⟨rfl, rfl, rfl⟩, ⟨⟨rfl, rfl, rfl⟩, ⟨⟨rfl, rfl, rfl⟩, trivial⟩⟩⟩⟩⟩ (fun h => ?_); conv => whnf
 replace h := W_bd h
 refine flow_CheckFlow_call h26 h (WkL_cons (Wk.refl _) (WkL_cons (Wk.refl _) (WkL_cons (Wk.refl _) (WkL_cons Wk_free WkL_nil)))) (fun _ h => ?_); conv => whnf
 refine hK _ _ _ ?_; clear hK K
 refine HT_fr dCo rfl fun K hK => ?_; conv => whnf
 refine nlA rfl ?_; conv => whnf
 refine bKo rfl ?_; conv => whnf
 refine nlA rfl ?_; conv => whnf
 replace h := W_bd h
 refine flow_Worst_call h33 h (WkL.refl _) (fun _ h => ?_); conv => whnf
 refine bKo rfl ?_; conv => whnf
 refine And.intro rfl (And.intro (nle rfl) (And.intro rfl ?_)); conv => whnf
 refine hK _ _ _ ?_; clear hK K
 refine HT_fr dCo rfl fun K hK => ?_; conv => whnf
 refine nlA rfl ?_; conv => whnf
 refine bKo rfl ?_; conv => whnf
 refine nlA rfl ?_; conv => whnf
 replace h := W_bd h
 refine flow_Worst_call h33 h (WkL.refl _) (fun _ h => ?_); conv => whnf
 refine bKo rfl ?_; conv => whnf
 refine And.intro rfl (And.intro (nle rfl) (And.intro rfl ?_)); conv => whnf
 refine hK _ _ _ ?_; clear hK K
 refine HT_fr dCo rfl fun K hK => ?_; conv => whnf
 refine nlA rfl ?_; conv => whnf
 refine bKo rfl ?_; conv => whnf
 refine nlA rfl ?_; conv => whnf
 refine lt_lk (enc := eI) (d := default) dCo h rfl rfl rfl ⟨nle rfl, nle rfl, rfl⟩ rfl ⟨⟨rfl, rfl, rfl⟩, ⟨⟨rfl, rfl, rfl⟩, ⟨⟨rfl, rfl, rfl⟩, ⟨⟨rfl, rfl, rfl⟩, trivial⟩⟩⟩⟩ (fun h => ?_); conv => whnf
 replace h := W_bd h
 refine flow_Meet_call h38 h (WkL_cons (Wk.refl _) (WkL_cons Wk_free WkL_nil)) (fun _ h => ?_); conv => whnf
 refine bKo rfl ?_; conv => whnf
 refine And.intro rfl (And.intro (nle rfl) (And.intro rfl ?_)); conv => whnf
 refine hK _ _ _ ?_; clear hK K
 refine HT_fr dCo rfl fun K hK => ?_; conv => whnf
 refine nlA rfl ?_; conv => whnf
 refine bKo rfl ?_; conv => whnf
 refine nlA rfl ?_; conv => whnf
 refine lt_lk (enc := eI) (d := default) dCo h rfl rfl rfl ⟨nle rfl, nle rfl, rfl⟩ rfl ⟨⟨rfl, rfl, rfl⟩, ⟨⟨rfl, rfl, rfl⟩, ⟨⟨rfl, rfl, rfl⟩, ⟨⟨rfl, rfl, rfl⟩, trivial⟩⟩⟩⟩ (fun h => ?_); conv => whnf
 replace h := W_bd h
 refine flow_Meet_call h38 h (WkL_cons (Wk.refl _) (WkL_cons Wk_free WkL_nil)) (fun _ h => ?_); conv => whnf
 refine bKo rfl ?_; conv => whnf
 refine And.intro rfl (And.intro (nle rfl) (And.intro rfl ?_)); conv => whnf
 refine hK _ _ _ ?_; clear hK K
 refine HT_fr dCo rfl fun K hK => ?_; conv => whnf
 refine nlA rfl ?_; conv => whnf
 refine bKo rfl ?_; conv => whnf
 refine nlA rfl ?_; conv => whnf
 replace h := W_bd h
 refine flow_Max_call h21 h (WkL.refl _) (fun _ h => ?_); conv => whnf
 refine hK _ _ _ ?_; clear hK K
 refine HT_fr dCo rfl fun K hK => ?_; conv => whnf
 refine nlA rfl ?_; conv => whnf
 refine bKo rfl ?_; conv => whnf
 refine nlA rfl ?_; conv => whnf
 refine lt_lk (enc := eI) (d := default) dCo h rfl rfl rfl ⟨nle rfl, nle rfl, rfl⟩ rfl ⟨⟨rfl, rfl, rfl⟩, ⟨⟨rfl, rfl, rfl⟩, ⟨⟨rfl, rfl, rfl⟩, ⟨⟨rfl, rfl, rfl⟩, trivial⟩⟩⟩⟩ (fun h => ?_); conv => whnf
 replace h := W_bd h
 refine flow_Meet_call h38 h (WkL_cons (Wk.refl _) (WkL_cons Wk_free WkL_nil)) (fun _ h => ?_); conv => whnf
 refine bKo rfl ?_; conv => whnf
 refine And.intro rfl (And.intro (nle rfl) (And.intro rfl ?_)); conv => whnf
 refine hK _ _ _ ?_; clear hK K
 refine HT_seq ?_
 refine HT_jnK rfl h [1, 3, 5, 7, 9, 11, 15, 17, 19, 21, 26] [1, 15, 17, 19, 21, 26] [] (fun kl kh ids b s => ⟨ofL ([(143, eB s)] ++ kl), ofH ([] ++ kh), b + 64⟩) ?_; (conv => whnf); refine And.intro (fun s h => HT_st ?_) (fun k h => ?_)
 · refine HT_if fun K1 K2 hK1 hK2 => ?_; conv => whnf
   refine cond_lk h (fun _ h => ?_) (fun _ h => ?_)
   · refine hK1 ?_; clear hK1 hK2 K1 K2
     refine HT_fr dCo rfl fun K hK => ?_; conv => whnf
     refine hK _ _ _ ?_; clear hK K
     refine HT_ret ?_
     refine Then_r ?_
     replace h := W_some h
     refine PostP_r dCo fun K hK => ?_; conv => whnf
     refine hK _ ?_; clear hK K
     cases h
     exact Wk.refl _
   refine hK2 ?_; clear hK1 hK2 K1 K2
   refine HT_skip ?_
   refine Then_n ?_
   refine HT_jnK rfl h [1, 15, 17, 19, 21, 26] [1, 15, 17, 19, 21, 26] [] (fun kl kh ids b s => ⟨ofL ([(28, eB s)] ++ kl), ofH ([] ++ kh), b + 64⟩) ?_; (conv => whnf); refine And.intro (fun s h => HT_st ?_) (fun k h => ?_)
   · refine HT_jnK rfl h [1, 21, 28] [1, 21] [] (fun kl kh ids b s => ⟨ofL ([(29, eB s)] ++ kl), ofH ([] ++ kh), b + 64⟩) ?_; (conv => whnf); refine And.intro (fun s h => HT_st ?_) (fun k h => ?_)
     · refine HT_fr dCo rfl fun K hK => ?_; conv => whnf
       replace h := W_jn h
       refine cond_lk h (fun _ h => ?_) (fun _ h => ?_) <;> (conv => whnf)
       · refine cond_lk h (fun _ h => ?_) (fun _ h => ?_) <;> (conv => whnf)
         · refine nlA rfl ?_; conv => whnf
           refine bKo rfl ?_; conv => whnf
           refine nlA rfl ?_; conv => whnf
           refine lt_lk (enc := eI) (d := default) dCo h rfl rfl rfl ⟨nle rfl, nle rfl, rfl⟩ rfl ⟨⟨rfl, rfl, rfl⟩, ⟨⟨rfl, rfl, rfl⟩, ⟨⟨rfl, rfl, rfl⟩, ⟨⟨rfl, rfl, rfl⟩, trivial⟩⟩⟩⟩ (fun h => ?_); conv => whnf
           replace h := W_bd h
           refine flow_CheckMeet_call h41 h (WkL_cons (Wk.refl _) (WkL_cons Wk_free (WkL_cons (Wk_agg (WkL_cons (Wk.refl _) (WkL_cons Wk_nil (WkL_cons (Wk.refl _) WkL_nil)))) WkL_nil))) (fun _ h => ?_); conv => whnf
           refine cond_lk h (fun _ h => ?_) (fun _ h => ?_) <;> (conv => whnf)
           · refine nlA rfl ?_; conv => whnf
             refine bKo rfl ?_; conv => whnf
             refine nlA rfl ?_; conv => whnf
             refine lt_lk (enc := eI) (d := default) dCo h rfl rfl rfl ⟨nle rfl, nle rfl, rfl⟩ rfl ⟨⟨rfl, rfl, rfl⟩, ⟨⟨rfl, rfl, rfl⟩, ⟨⟨rfl, rfl, rfl⟩, ⟨⟨rfl, rfl, rfl⟩, trivial⟩⟩⟩⟩ (fun h => ?_); conv => whnf
             refine lt_lk (enc := eI) (d := default) dCo h rfl rfl rfl ⟨nle rfl, nle rfl, rfl⟩ rfl ⟨⟨rfl, rfl, rfl⟩, ⟨⟨rfl, rfl, rfl⟩, ⟨⟨rfl, rfl, rfl⟩, ⟨⟨rfl, rfl, rfl⟩, ⟨⟨rfl, rfl, rfl⟩, trivial⟩⟩⟩⟩⟩ (fun h => ?_); conv => whnf
             replace h := W_bd h
             refine flow_CheckMeet_call h41 h (WkL_cons (Wk.refl _) (WkL_cons Wk_free (WkL_cons (Wk_agg (WkL_cons (Wk.refl _) (WkL_cons Wk_free (WkL_cons (Wk.refl _) WkL_nil)))) WkL_nil))) (fun _ h => ?_); conv => whnf
             refine cond_lk h (fun _ h => ?_) (fun _ h => ?_) <;> (conv => whnf)
             · refine nlA rfl ?_; conv => whnf
               refine bKo rfl ?_; conv => whnf
               refine nlA rfl ?_; conv => whnf
               refine lt_lk (enc := eI) (d := default) dCo h rfl rfl rfl ⟨nle rfl, nle rfl, rfl⟩ rfl ⟨⟨rfl, rfl, rfl⟩, ⟨⟨rfl, rfl, rfl⟩, ⟨⟨rfl, rfl, rfl⟩, ⟨⟨rfl, rfl, rfl⟩, trivial⟩⟩⟩⟩ (fun h => ?_); conv => whnf
               refine nlA rfl ?_; conv => whnf
               refine bKo rfl ?_; conv => whnf
               refine nlA rfl ?_; conv => whnf
               replace h := W_bd h
               refine flow_CheckMeet_call h41 h (WkL_cons (Wk.refl _) (WkL_cons Wk_free (WkL_cons (Wk.refl _) WkL_nil))) (fun _ h => ?_); conv => whnf
               refine cond_lk h (fun _ h => ?_) (fun _ h => ?_) <;> (conv => whnf)
               · refine nlA rfl ?_; conv => whnf
                 refine bKo rfl ?_; conv => whnf
                 refine nlA rfl ?_; conv => whnf
                 replace h := W_bd h
                 refine flow_Valid_call h19 h (WkL.refl _) (fun _ h => ?_); conv => whnf
                 refine cond_lk h (fun _ h => ?_) (fun _ h => ?_) <;> (conv => whnf)
                 · replace h := W_bd h
                   refine flow_Valid_call h19 h (WkL_cons (Wk_agg (WkL_cons (Wk.refl _) (WkL_cons Wk_nil WkL_nil))) WkL_nil) (fun _ h => ?_); conv => whnf
                   refine hK _ _ _ ?_; clear hK K
                   refine HT_ret ?_
                   replace h := W_some h
                   refine PostP_r dCo fun K hK => ?_; conv => whnf
                   refine hK _ ?_; clear hK K
                   cases h
                   exact Wk.refl _
                 refine hK _ _ _ ?_; clear hK K
                 refine HT_ret ?_
                 replace h := W_some h
                 refine PostP_r dCo fun K hK => ?_; conv => whnf
                 refine hK _ ?_; clear hK K
                 cases h
                 exact Wk.refl _
               refine hK _ _ _ ?_; clear hK K
               refine HT_ret ?_
               replace h := W_some h
               refine PostP_r dCo fun K hK => ?_; conv => whnf
               refine hK _ ?_; clear hK K
               cases h
               exact Wk.refl _
             refine hK _ _ _ ?_; clear hK K
             refine HT_ret ?_
             replace h := W_some h
             refine PostP_r dCo fun K hK => ?_; conv => whnf
             refine hK _ ?_; clear hK K
             cases h
             exact Wk.refl _
           refine hK _ _ _ ?_; clear hK K
           refine HT_ret ?_
           replace h := W_some h
           refine PostP_r dCo fun K hK => ?_; conv => whnf
           refine hK _ ?_; clear hK K
           cases h
           exact Wk.refl _
         refine hK _ _ _ ?_; clear hK K
         refine HT_ret ?_
         replace h := W_some h
         refine PostP_r dCo fun K hK => ?_; conv => whnf
         refine hK _ ?_; clear hK K
         cases h
         exact Wk.refl _
       refine hK _ _ _ ?_; clear hK K
       refine HT_ret ?_
       replace h := W_some h
       refine PostP_r dCo fun K hK => ?_; conv => whnf
       refine hK _ ?_; clear hK K
       cases h
       exact Wk.refl _
     refine HT_f dCo rfl fun K hK => ?_; conv => whnf
     refine nlA rfl ?_; conv => whnf
     refine bKo rfl ?_; conv => whnf
     refine nlA rfl ?_; conv => whnf
     refine nlA rfl ?_; conv => whnf
     refine bKo rfl ?_; conv => whnf
     refine nlA rfl ?_; conv => whnf
     replace h := W_bd h
     refine flow_CheckWorst_call h35 h (WkL.refl _) (fun _ h => ?_); conv => whnf
     refine cond_lk h (fun _ h => ?_) (fun _ h => ?_) <;> (conv => whnf)
     · refine nlA rfl ?_; conv => whnf
       refine bKo rfl ?_; conv => whnf
       refine nlA rfl ?_; conv => whnf
       replace h := W_bd h
       refine flow_CheckWorst_call h35 h (WkL.refl _) (fun _ h => ?_); conv => whnf
       refine cond_lk h (fun _ h => ?_) (fun _ h => ?_) <;> (conv => whnf)
       · refine nlA rfl ?_; conv => whnf
         refine bKo rfl ?_; conv => whnf
         refine nlA rfl ?_; conv => whnf
         refine nlA rfl ?_; conv => whnf
         refine bKo rfl ?_; conv => whnf
         refine nlA rfl ?_; conv => whnf
         replace h := W_bd h
         refine flow_CheckWorst_call h35 h (WkL.refl _) (fun _ h => ?_); conv => whnf
         refine cond_lk h (fun _ h => ?_) (fun _ h => ?_) <;> (conv => whnf)
         · refine nlA rfl ?_; conv => whnf
           refine bKo rfl ?_; conv => whnf
           refine getK_of rfl ?_; conv => whnf
           refine cond_lk h (fun _ h => ?_) (fun _ h => ?_) <;> (conv => whnf)
           · refine nlA rfl ?_; conv => whnf
             refine bKo rfl ?_; conv => whnf
             refine getK_of rfl ?_; conv => whnf
             refine cond_lk h (fun _ h => ?_) (fun _ h => ?_) <;> (conv => whnf)
             · refine nlA rfl ?_; conv => whnf
               refine bKo rfl ?_; conv => whnf
               refine getK_of rfl ?_; conv => whnf
               refine hK _ _ _ ?_; clear hK K
               refine Then_n ?_
               refine ⟨_, h, ?_⟩
               refine weak_k ?_; conv => whnf
               exact And.intro rfl (And.intro (aLc (wkr (lsB _)) (aLc (WkR.ptr (fun _ => rfl)) (aLc (WkR.ptr (fun _ => rfl)) (aLc (wkr (lsB _)) aLn)))) (aLc ⟨some _, rfl, BkR_c rfl (cKc wkI (cKc (wkr (lsL fun _ => (lo_TEdge _))) cKn))⟩ (aLc ⟨some _, rfl, BkR_c rfl (cKc (wkr (lsB _)) (cKc (wkr (lsL fun _ => (lsI _ _))) (cKc wkI cKn)))⟩ aLn)))
             refine hK _ _ _ ?_; clear hK K
             refine Then_n ?_
             refine ⟨_, h, ?_⟩
             refine weak_k ?_; conv => whnf
             exact And.intro rfl (And.intro (aLc (wkr (lsB _)) (aLc (WkR.ptr (fun _ => rfl)) (aLc (WkR.ptr (fun _ => rfl)) (aLc (wkr (lsB _)) aLn)))) (aLc ⟨some _, rfl, BkR_c rfl (cKc wkI (cKc (wkr (lsL fun _ => (lo_TEdge _))) cKn))⟩ (aLc ⟨some _, rfl, BkR_c rfl (cKc (wkr (lsB _)) (cKc (wkr (lsL fun _ => (lsI _ _))) (cKc wkI cKn)))⟩ aLn)))
           refine hK _ _ _ ?_; clear hK K
           refine Then_n ?_
           refine ⟨_, h, ?_⟩
           refine weak_k ?_; conv => whnf
           exact And.intro rfl (And.intro (aLc (wkr (lsB _)) (aLc (WkR.ptr (fun _ => rfl)) (aLc (WkR.ptr (fun _ => rfl)) (aLc (wkr (lsB _)) aLn)))) (aLc ⟨some _, rfl, BkR_c rfl (cKc wkI (cKc (wkr (lsL fun _ => (lo_TEdge _))) cKn))⟩ (aLc ⟨some _, rfl, BkR_c rfl (cKc (wkr (lsB _)) (cKc (wkr (lsL fun _ => (lsI _ _))) (cKc wkI cKn)))⟩ aLn)))
         refine hK _ _ _ ?_; clear hK K
         refine Then_n ?_
         refine ⟨_, h, ?_⟩
         refine weak_k ?_; conv => whnf
         exact And.intro rfl (And.intro (aLc (wkr (lsB _)) (aLc (WkR.ptr (fun _ => rfl)) (aLc (WkR.ptr (fun _ => rfl)) (aLc (wkr (lsB _)) aLn)))) (aLc ⟨some _, rfl, BkR_c rfl (cKc wkI (cKc (wkr (lsL fun _ => (lo_TEdge _))) cKn))⟩ (aLc ⟨some _, rfl, BkR_c rfl (cKc (wkr (lsB _)) (cKc (wkr (lsL fun _ => (lsI _ _))) (cKc wkI cKn)))⟩ aLn)))
       refine hK _ _ _ ?_; clear hK K
       refine Then_n ?_
       refine ⟨_, h, ?_⟩
       refine weak_k ?_; conv => whnf
       exact And.intro rfl (And.intro (aLc (wkr (lsB _)) (aLc (WkR.ptr (fun _ => rfl)) (aLc (WkR.ptr (fun _ => rfl)) (aLc (wkr (lsB _)) aLn)))) (aLc ⟨some _, rfl, BkR_c rfl (cKc wkI (cKc (wkr (lsL fun _ => (lo_TEdge _))) cKn))⟩ (aLc ⟨some _, rfl, BkR_c rfl (cKc (wkr (lsB _)) (cKc (wkr (lsL fun _ => (lsI _ _))) (cKc wkI cKn)))⟩ aLn)))
     refine hK _ _ _ ?_; clear hK K
     refine Then_n ?_
     refine ⟨_, h, ?_⟩
     refine weak_k ?_; conv => whnf
     exact And.intro rfl (And.intro (aLc (wkr (lsB _)) (aLc (WkR.ptr (fun _ => rfl)) (aLc (WkR.ptr (fun _ => rfl)) (aLc (wkr (lsB _)) aLn)))) (aLc ⟨some _, rfl, BkR_c rfl (cKc wkI (cKc (wkr (lsL fun _ => (lo_TEdge _))) cKn))⟩ (aLc ⟨some _, rfl, BkR_c rfl (cKc (wkr (lsB _)) (cKc (wkr (lsL fun _ => (lsI _ _))) (cKc wkI cKn)))⟩ aLn)))
   refine HT_f dCo rfl fun K hK => ?_; conv => whnf
   refine cond_lk h (fun _ h => ?_) (fun _ h => ?_) <;> (conv => whnf)
   · refine cond_lk h (fun _ h => ?_) (fun _ h => ?_) <;> (conv => whnf)
     · refine cond_lk h (fun _ h => ?_) (fun _ h => ?_) <;> (conv => whnf)
       · refine cond_lk h (fun _ h => ?_) (fun _ h => ?_) <;> (conv => whnf)
         · refine cond_lk h (fun _ h => ?_) (fun _ h => ?_) <;> (conv => whnf)
           · refine nlA rfl ?_; conv => whnf
             refine bKo rfl ?_; conv => whnf
             refine getK_of rfl ?_; conv => whnf
             refine cond_lk h (fun _ h => ?_) (fun _ h => ?_) <;> (conv => whnf)
             · refine nlA rfl ?_; conv => whnf
               refine bKo rfl ?_; conv => whnf
               refine getK_of rfl ?_; conv => whnf
               refine hK _ _ _ ?_; clear hK K
               refine Then_n ?_
               refine ⟨_, h, ?_⟩
               refine weak_k ?_; conv => whnf
               exact And.intro rfl (And.intro (aLc (wkr (lsB _)) (aLc (WkR.ptr (fun _ => rfl)) (aLc (WkR.ptr (fun _ => rfl)) (aLc (WkR.ptr (fun _ => rfl)) (aLc (WkR.ptr (fun _ => rfl)) (aLc (WkR.ptr (fun _ => rfl)) (aLc (WkR.ptr (fun _ => rfl)) aLn))))))) (aLc ⟨some _, rfl, BkR_c rfl (cKc wkI (cKc (wkr (lsL fun _ => (lo_TEdge _))) cKn))⟩ (aLc ⟨some _, rfl, BkR_c rfl (cKc wkI (cKc wkI (cKc wkI cKn)))⟩ (aLc ⟨some _, rfl, BkR_c rfl (cKc wkI (cKc wkI (cKc wkI cKn)))⟩ (aLc ⟨some _, rfl, BkR_c rfl (cKc (wkr (lsB _)) (cKc (wkr (lsL fun _ => (lsI _ _))) (cKc wkI cKn)))⟩ (aLc ⟨some _, rfl, BkR_c rfl (cKc (wkr (lsB _)) (cKc (wkr (lsL fun _ => (lsI _ _))) (cKc wkI cKn)))⟩ (aLc ⟨some _, rfl, BkR_c rfl (cKc (wkr (lsB _)) (cKc (wkr (lsL fun _ => (lsI _ _))) (cKc wkI cKn)))⟩ aLn)))))))
             refine hK _ _ _ ?_; clear hK K
             refine Then_n ?_
             refine ⟨_, h, ?_⟩
             refine weak_k ?_; conv => whnf
             exact And.intro rfl (And.intro (aLc (wkr (lsB _)) (aLc (WkR.ptr (fun _ => rfl)) (aLc (WkR.ptr (fun _ => rfl)) (aLc (WkR.ptr (fun _ => rfl)) (aLc (WkR.ptr (fun _ => rfl)) (aLc (WkR.ptr (fun _ => rfl)) (aLc (WkR.ptr (fun _ => rfl)) aLn))))))) (aLc ⟨some _, rfl, BkR_c rfl (cKc wkI (cKc (wkr (lsL fun _ => (lo_TEdge _))) cKn))⟩ (aLc ⟨some _, rfl, BkR_c rfl (cKc wkI (cKc wkI (cKc wkI cKn)))⟩ (aLc ⟨some _, rfl, BkR_c rfl (cKc wkI (cKc wkI (cKc wkI cKn)))⟩ (aLc ⟨some _, rfl, BkR_c rfl (cKc (wkr (lsB _)) (cKc (wkr (lsL fun _ => (lsI _ _))) (cKc wkI cKn)))⟩ (aLc ⟨some _, rfl, BkR_c rfl (cKc (wkr (lsB _)) (cKc (wkr (lsL fun _ => (lsI _ _))) (cKc wkI cKn)))⟩ (aLc ⟨some _, rfl, BkR_c rfl (cKc (wkr (lsB _)) (cKc (wkr (lsL fun _ => (lsI _ _))) (cKc wkI cKn)))⟩ aLn)))))))
           refine hK _ _ _ ?_; clear hK K
           refine Then_n ?_
           refine ⟨_, h, ?_⟩
           refine weak_k ?_; conv => whnf
           exact And.intro rfl (And.intro (aLc (wkr (lsB _)) (aLc (WkR.ptr (fun _ => rfl)) (aLc (WkR.ptr (fun _ => rfl)) (aLc (WkR.ptr (fun _ => rfl)) (aLc (WkR.ptr (fun _ => rfl)) (aLc (WkR.ptr (fun _ => rfl)) (aLc (WkR.ptr (fun _ => rfl)) aLn))))))) (aLc ⟨some _, rfl, BkR_c rfl (cKc wkI (cKc (wkr (lsL fun _ => (lo_TEdge _))) cKn))⟩ (aLc ⟨some _, rfl, BkR_c rfl (cKc wkI (cKc wkI (cKc wkI cKn)))⟩ (aLc ⟨some _, rfl, BkR_c rfl (cKc wkI (cKc wkI (cKc wkI cKn)))⟩ (aLc ⟨some _, rfl, BkR_c rfl (cKc (wkr (lsB _)) (cKc (wkr (lsL fun _ => (lsI _ _))) (cKc wkI cKn)))⟩ (aLc ⟨some _, rfl, BkR_c rfl (cKc (wkr (lsB _)) (cKc (wkr (lsL fun _ => (lsI _ _))) (cKc wkI cKn)))⟩ (aLc ⟨some _, rfl, BkR_c rfl (cKc (wkr (lsB _)) (cKc (wkr (lsL fun _ => (lsI _ _))) (cKc wkI cKn)))⟩ aLn)))))))
         refine hK _ _ _ ?_; clear hK K
         refine Then_n ?_
         refine ⟨_, h, ?_⟩
         refine weak_k ?_; conv => whnf
         exact And.intro rfl (And.intro (aLc (wkr (lsB _)) (aLc (WkR.ptr (fun _ => rfl)) (aLc (WkR.ptr (fun _ => rfl)) (aLc (WkR.ptr (fun _ => rfl)) (aLc (WkR.ptr (fun _ => rfl)) (aLc (WkR.ptr (fun _ => rfl)) (aLc (WkR.ptr (fun _ => rfl)) aLn))))))) (aLc ⟨some _, rfl, BkR_c rfl (cKc wkI (cKc (wkr (lsL fun _ => (lo_TEdge _))) cKn))⟩ (aLc ⟨some _, rfl, BkR_c rfl (cKc wkI (cKc wkI (cKc wkI cKn)))⟩ (aLc ⟨some _, rfl, BkR_c rfl (cKc wkI (cKc wkI (cKc wkI cKn)))⟩ (aLc ⟨some _, rfl, BkR_c rfl (cKc (wkr (lsB _)) (cKc (wkr (lsL fun _ => (lsI _ _))) (cKc wkI cKn)))⟩ (aLc ⟨some _, rfl, BkR_c rfl (cKc (wkr (lsB _)) (cKc (wkr (lsL fun _ => (lsI _ _))) (cKc wkI cKn)))⟩ (aLc ⟨some _, rfl, BkR_c rfl (cKc (wkr (lsB _)) (cKc (wkr (lsL fun _ => (lsI _ _))) (cKc wkI cKn)))⟩ aLn)))))))
       refine hK _ _ _ ?_; clear hK K
       refine Then_n ?_
       refine ⟨_, h, ?_⟩
       refine weak_k ?_; conv => whnf
       exact And.intro rfl (And.intro (aLc (wkr (lsB _)) (aLc (WkR.ptr (fun _ => rfl)) (aLc (WkR.ptr (fun _ => rfl)) (aLc (WkR.ptr (fun _ => rfl)) (aLc (WkR.ptr (fun _ => rfl)) (aLc (WkR.ptr (fun _ => rfl)) (aLc (WkR.ptr (fun _ => rfl)) aLn))))))) (aLc ⟨some _, rfl, BkR_c rfl (cKc wkI (cKc (wkr (lsL fun _ => (lo_TEdge _))) cKn))⟩ (aLc ⟨some _, rfl, BkR_c rfl (cKc wkI (cKc wkI (cKc wkI cKn)))⟩ (aLc ⟨some _, rfl, BkR_c rfl (cKc wkI (cKc wkI (cKc wkI cKn)))⟩ (aLc ⟨some _, rfl, BkR_c rfl (cKc (wkr (lsB _)) (cKc (wkr (lsL fun _ => (lsI _ _))) (cKc wkI cKn)))⟩ (aLc ⟨some _, rfl, BkR_c rfl (cKc (wkr (lsB _)) (cKc (wkr (lsL fun _ => (lsI _ _))) (cKc wkI cKn)))⟩ (aLc ⟨some _, rfl, BkR_c rfl (cKc (wkr (lsB _)) (cKc (wkr (lsL fun _ => (lsI _ _))) (cKc wkI cKn)))⟩ aLn)))))))
     refine hK _ _ _ ?_; clear hK K
     refine Then_n ?_
     refine ⟨_, h, ?_⟩
     refine weak_k ?_; conv => whnf
     exact And.intro rfl (And.intro (aLc (wkr (lsB _)) (aLc (WkR.ptr (fun _ => rfl)) (aLc (WkR.ptr (fun _ => rfl)) (aLc (WkR.ptr (fun _ => rfl)) (aLc (WkR.ptr (fun _ => rfl)) (aLc (WkR.ptr (fun _ => rfl)) (aLc (WkR.ptr (fun _ => rfl)) aLn))))))) (aLc ⟨some _, rfl, BkR_c rfl (cKc wkI (cKc (wkr (lsL fun _ => (lo_TEdge _))) cKn))⟩ (aLc ⟨some _, rfl, BkR_c rfl (cKc wkI (cKc wkI (cKc wkI cKn)))⟩ (aLc ⟨some _, rfl, BkR_c rfl (cKc wkI (cKc wkI (cKc wkI cKn)))⟩ (aLc ⟨some _, rfl, BkR_c rfl (cKc (wkr (lsB _)) (cKc (wkr (lsL fun _ => (lsI _ _))) (cKc wkI cKn)))⟩ (aLc ⟨some _, rfl, BkR_c rfl (cKc (wkr (lsB _)) (cKc (wkr (lsL fun _ => (lsI _ _))) (cKc wkI cKn)))⟩ (aLc ⟨some _, rfl, BkR_c rfl (cKc (wkr (lsB _)) (cKc (wkr (lsL fun _ => (lsI _ _))) (cKc wkI cKn)))⟩ aLn)))))))
   refine hK _ _ _ ?_; clear hK K
   refine Then_n ?_
   refine ⟨_, h, ?_⟩
   refine weak_k ?_; conv => whnf
   exact And.intro rfl (And.intro (aLc (wkr (lsB _)) (aLc (WkR.ptr (fun _ => rfl)) (aLc (WkR.ptr (fun _ => rfl)) (aLc (WkR.ptr (fun _ => rfl)) (aLc (WkR.ptr (fun _ => rfl)) (aLc (WkR.ptr (fun _ => rfl)) (aLc (WkR.ptr (fun _ => rfl)) aLn))))))) (aLc ⟨some _, rfl, BkR_c rfl (cKc wkI (cKc (wkr (lsL fun _ => (lo_TEdge _))) cKn))⟩ (aLc ⟨some _, rfl, BkR_c rfl (cKc wkI (cKc wkI (cKc wkI cKn)))⟩ (aLc ⟨some _, rfl, BkR_c rfl (cKc wkI (cKc wkI (cKc wkI cKn)))⟩ (aLc ⟨some _, rfl, BkR_c rfl (cKc (wkr (lsB _)) (cKc (wkr (lsL fun _ => (lsI _ _))) (cKc wkI cKn)))⟩ (aLc ⟨some _, rfl, BkR_c rfl (cKc (wkr (lsB _)) (cKc (wkr (lsL fun _ => (lsI _ _))) (cKc wkI cKn)))⟩ (aLc ⟨some _, rfl, BkR_c rfl (cKc (wkr (lsB _)) (cKc (wkr (lsL fun _ => (lsI _ _))) (cKc wkI cKn)))⟩ aLn)))))))
 refine HT_f dCo rfl fun K hK => ?_; conv => whnf
 refine cond_lk h (fun _ h => ?_) (fun _ h => ?_) <;> (conv => whnf)
 · refine hK _ _ _ ?_; clear hK K
   refine Then_n ?_
   refine ⟨_, h, ?_⟩
   refine weak_k ?_; conv => whnf
   exact And.intro rfl (And.intro (aLc (wkr (lsB _)) (aLc (WkR.ptr (fun _ => rfl)) (aLc wkI (aLc wkI (aLc wkI (aLc wkI (aLc wkI (aLc (WkR.ptr (fun _ => rfl)) (aLc (WkR.ptr (fun _ => rfl)) (aLc (WkR.ptr (fun _ => rfl)) (aLc (WkR.ptr (fun _ => rfl)) (aLc (WkR.ptr (fun _ => rfl)) aLn)))))))))))) (aLc ⟨some _, rfl, BkR_c rfl (cKc wkI (cKc (wkr (lsL fun _ => (lo_TEdge _))) cKn))⟩ (aLc ⟨some _, rfl, BkR_c rfl (cKc wkI (cKc wkI (cKc wkI cKn)))⟩ (aLc ⟨some _, rfl, BkR_c rfl (cKc wkI (cKc wkI (cKc wkI cKn)))⟩ (aLc ⟨some _, rfl, BkR_c rfl (cKc (wkr (lsB _)) (cKc (wkr (lsL fun _ => (lsI _ _))) (cKc wkI cKn)))⟩ (aLc ⟨some _, rfl, BkR_c rfl (cKc (wkr (lsB _)) (cKc (wkr (lsL fun _ => (lsI _ _))) (cKc wkI cKn)))⟩ (aLc ⟨some _, rfl, BkR_c rfl (cKc (wkr (lsB _)) (cKc (wkr (lsL fun _ => (lsI _ _))) (cKc wkI cKn)))⟩ aLn)))))))
 refine cond_lk h (fun _ h => ?_) (fun _ h => ?_) <;> (conv => whnf)
 · refine hK _ _ _ ?_; clear hK K
   refine Then_n ?_
   refine ⟨_, h, ?_⟩
   refine weak_k ?_; conv => whnf
   exact And.intro rfl (And.intro (aLc (wkr (lsB _)) (aLc (WkR.ptr (fun _ => rfl)) (aLc wkI (aLc wkI (aLc wkI (aLc wkI (aLc wkI (aLc (WkR.ptr (fun _ => rfl)) (aLc (WkR.ptr (fun _ => rfl)) (aLc (WkR.ptr (fun _ => rfl)) (aLc (WkR.ptr (fun _ => rfl)) (aLc (WkR.ptr (fun _ => rfl)) aLn)))))))))))) (aLc ⟨some _, rfl, BkR_c rfl (cKc wkI (cKc (wkr (lsL fun _ => (lo_TEdge _))) cKn))⟩ (aLc ⟨some _, rfl, BkR_c rfl (cKc wkI (cKc wkI (cKc wkI cKn)))⟩ (aLc ⟨some _, rfl, BkR_c rfl (cKc wkI (cKc wkI (cKc wkI cKn)))⟩ (aLc ⟨some _, rfl, BkR_c rfl (cKc (wkr (lsB _)) (cKc (wkr (lsL fun _ => (lsI _ _))) (cKc wkI cKn)))⟩ (aLc ⟨some _, rfl, BkR_c rfl (cKc (wkr (lsB _)) (cKc (wkr (lsL fun _ => (lsI _ _))) (cKc wkI cKn)))⟩ (aLc ⟨some _, rfl, BkR_c rfl (cKc (wkr (lsB _)) (cKc (wkr (lsL fun _ => (lsI _ _))) (cKc wkI cKn)))⟩ aLn)))))))
 refine cond_lk h (fun _ h => ?_) (fun _ h => ?_) <;> (conv => whnf)
 · refine hK _ _ _ ?_; clear hK K
   refine Then_n ?_
   refine ⟨_, h, ?_⟩
   refine weak_k ?_; conv => whnf
   exact And.intro rfl (And.intro (aLc (wkr (lsB _)) (aLc (WkR.ptr (fun _ => rfl)) (aLc wkI (aLc wkI (aLc wkI (aLc wkI (aLc wkI (aLc (WkR.ptr (fun _ => rfl)) (aLc (WkR.ptr (fun _ => rfl)) (aLc (WkR.ptr (fun _ => rfl)) (aLc (WkR.ptr (fun _ => rfl)) (aLc (WkR.ptr (fun _ => rfl)) aLn)))))))))))) (aLc ⟨some _, rfl, BkR_c rfl (cKc wkI (cKc (wkr (lsL fun _ => (lo_TEdge _))) cKn))⟩ (aLc ⟨some _, rfl, BkR_c rfl (cKc wkI (cKc wkI (cKc wkI cKn)))⟩ (aLc ⟨some _, rfl, BkR_c rfl (cKc wkI (cKc wkI (cKc wkI cKn)))⟩ (aLc ⟨some _, rfl, BkR_c rfl (cKc (wkr (lsB _)) (cKc (wkr (lsL fun _ => (lsI _ _))) (cKc wkI cKn)))⟩ (aLc ⟨some _, rfl, BkR_c rfl (cKc (wkr (lsB _)) (cKc (wkr (lsL fun _ => (lsI _ _))) (cKc wkI cKn)))⟩ (aLc ⟨some _, rfl, BkR_c rfl (cKc (wkr (lsB _)) (cKc (wkr (lsL fun _ => (lsI _ _))) (cKc wkI cKn)))⟩ aLn)))))))
 refine cond_lk h (fun _ h => ?_) (fun _ h => ?_) <;> (conv => whnf)
 · refine hK _ _ _ ?_; clear hK K
   refine Then_n ?_
   refine ⟨_, h, ?_⟩
   refine weak_k ?_; conv => whnf
   exact And.intro rfl (And.intro (aLc (wkr (lsB _)) (aLc (WkR.ptr (fun _ => rfl)) (aLc wkI (aLc wkI (aLc wkI (aLc wkI (aLc wkI (aLc (WkR.ptr (fun _ => rfl)) (aLc (WkR.ptr (fun _ => rfl)) (aLc (WkR.ptr (fun _ => rfl)) (aLc (WkR.ptr (fun _ => rfl)) (aLc (WkR.ptr (fun _ => rfl)) aLn)))))))))))) (aLc ⟨some _, rfl, BkR_c rfl (cKc wkI (cKc (wkr (lsL fun _ => (lo_TEdge _))) cKn))⟩ (aLc ⟨some _, rfl, BkR_c rfl (cKc wkI (cKc wkI (cKc wkI cKn)))⟩ (aLc ⟨some _, rfl, BkR_c rfl (cKc wkI (cKc wkI (cKc wkI cKn)))⟩ (aLc ⟨some _, rfl, BkR_c rfl (cKc (wkr (lsB _)) (cKc (wkr (lsL fun _ => (lsI _ _))) (cKc wkI cKn)))⟩ (aLc ⟨some _, rfl, BkR_c rfl (cKc (wkr (lsB _)) (cKc (wkr (lsL fun _ => (lsI _ _))) (cKc wkI cKn)))⟩ (aLc ⟨some _, rfl, BkR_c rfl (cKc (wkr (lsB _)) (cKc (wkr (lsL fun _ => (lsI _ _))) (cKc wkI cKn)))⟩ aLn)))))))
 refine cond_lk h (fun _ h => ?_) (fun _ h => ?_) <;> (conv => whnf)
 · refine hK _ _ _ ?_; clear hK K
   refine Then_n ?_
   refine ⟨_, h, ?_⟩
   refine weak_k ?_; conv => whnf
   exact And.intro rfl (And.intro (aLc (wkr (lsB _)) (aLc (WkR.ptr (fun _ => rfl)) (aLc wkI (aLc wkI (aLc wkI (aLc wkI (aLc wkI (aLc (WkR.ptr (fun _ => rfl)) (aLc (WkR.ptr (fun _ => rfl)) (aLc (WkR.ptr (fun _ => rfl)) (aLc (WkR.ptr (fun _ => rfl)) (aLc (WkR.ptr (fun _ => rfl)) aLn)))))))))))) (aLc ⟨some _, rfl, BkR_c rfl (cKc wkI (cKc (wkr (lsL fun _ => (lo_TEdge _))) cKn))⟩ (aLc ⟨some _, rfl, BkR_c rfl (cKc wkI (cKc wkI (cKc wkI cKn)))⟩ (aLc ⟨some _, rfl, BkR_c rfl (cKc wkI (cKc wkI (cKc wkI cKn)))⟩ (aLc ⟨some _, rfl, BkR_c rfl (cKc (wkr (lsB _)) (cKc (wkr (lsL fun _ => (lsI _ _))) (cKc wkI cKn)))⟩ (aLc ⟨some _, rfl, BkR_c rfl (cKc (wkr (lsB _)) (cKc (wkr (lsL fun _ => (lsI _ _))) (cKc wkI cKn)))⟩ (aLc ⟨some _, rfl, BkR_c rfl (cKc (wkr (lsB _)) (cKc (wkr (lsL fun _ => (lsI _ _))) (cKc wkI cKn)))⟩ aLn)))))))
 refine cond_lk h (fun _ h => ?_) (fun _ h => ?_) <;> (conv => whnf)
 · refine hK _ _ _ ?_; clear hK K
   refine Then_n ?_
   refine ⟨_, h, ?_⟩
   refine weak_k ?_; conv => whnf
   exact And.intro rfl (And.intro (aLc (wkr (lsB _)) (aLc (WkR.ptr (fun _ => rfl)) (aLc wkI (aLc wkI (aLc wkI (aLc wkI (aLc wkI (aLc (WkR.ptr (fun _ => rfl)) (aLc (WkR.ptr (fun _ => rfl)) (aLc (WkR.ptr (fun _ => rfl)) (aLc (WkR.ptr (fun _ => rfl)) (aLc (WkR.ptr (fun _ => rfl)) aLn)))))))))))) (aLc ⟨some _, rfl, BkR_c rfl (cKc wkI (cKc (wkr (lsL fun _ => (lo_TEdge _))) cKn))⟩ (aLc ⟨some _, rfl, BkR_c rfl (cKc wkI (cKc wkI (cKc wkI cKn)))⟩ (aLc ⟨some _, rfl, BkR_c rfl (cKc wkI (cKc wkI (cKc wkI cKn)))⟩ (aLc ⟨some _, rfl, BkR_c rfl (cKc (wkr (lsB _)) (cKc (wkr (lsL fun _ => (lsI _ _))) (cKc wkI cKn)))⟩ (aLc ⟨some _, rfl, BkR_c rfl (cKc (wkr (lsB _)) (cKc (wkr (lsL fun _ => (lsI _ _))) (cKc wkI cKn)))⟩ (aLc ⟨some _, rfl, BkR_c rfl (cKc (wkr (lsB _)) (cKc (wkr (lsL fun _ => (lsI _ _))) (cKc wkI cKn)))⟩ aLn)))))))
 refine cond_lk h (fun _ h => ?_) (fun _ h => ?_) <;> (conv => whnf)
 · refine hK _ _ _ ?_; clear hK K
   refine Then_n ?_
   refine ⟨_, h, ?_⟩
   refine weak_k ?_; conv => whnf
   exact And.intro rfl (And.intro (aLc (wkr (lsB _)) (aLc (WkR.ptr (fun _ => rfl)) (aLc wkI (aLc wkI (aLc wkI (aLc wkI (aLc wkI (aLc (WkR.ptr (fun _ => rfl)) (aLc (WkR.ptr (fun _ => rfl)) (aLc (WkR.ptr (fun _ => rfl)) (aLc (WkR.ptr (fun _ => rfl)) (aLc (WkR.ptr (fun _ => rfl)) aLn)))))))))))) (aLc ⟨some _, rfl, BkR_c rfl (cKc wkI (cKc (wkr (lsL fun _ => (lo_TEdge _))) cKn))⟩ (aLc ⟨some _, rfl, BkR_c rfl (cKc wkI (cKc wkI (cKc wkI cKn)))⟩ (aLc ⟨some _, rfl, BkR_c rfl (cKc wkI (cKc wkI (cKc wkI cKn)))⟩ (aLc ⟨some _, rfl, BkR_c rfl (cKc (wkr (lsB _)) (cKc (wkr (lsL fun _ => (lsI _ _))) (cKc wkI cKn)))⟩ (aLc ⟨some _, rfl, BkR_c rfl (cKc (wkr (lsB _)) (cKc (wkr (lsL fun _ => (lsI _ _))) (cKc wkI cKn)))⟩ (aLc ⟨some _, rfl, BkR_c rfl (cKc (wkr (lsB _)) (cKc (wkr (lsL fun _ => (lsI _ _))) (cKc wkI cKn)))⟩ aLn)))))))
 refine cond_lk h (fun _ h => ?_) (fun _ h => ?_) <;> (conv => whnf)
 · refine hK _ _ _ ?_; clear hK K
   refine Then_n ?_
   refine ⟨_, h, ?_⟩
   refine weak_k ?_; conv => whnf
   exact And.intro rfl (And.intro (aLc (wkr (lsB _)) (aLc (WkR.ptr (fun _ => rfl)) (aLc wkI (aLc wkI (aLc wkI (aLc wkI (aLc wkI (aLc (WkR.ptr (fun _ => rfl)) (aLc (WkR.ptr (fun _ => rfl)) (aLc (WkR.ptr (fun _ => rfl)) (aLc (WkR.ptr (fun _ => rfl)) (aLc (WkR.ptr (fun _ => rfl)) aLn)))))))))))) (aLc ⟨some _, rfl, BkR_c rfl (cKc wkI (cKc (wkr (lsL fun _ => (lo_TEdge _))) cKn))⟩ (aLc ⟨some _, rfl, BkR_c rfl (cKc wkI (cKc wkI (cKc wkI cKn)))⟩ (aLc ⟨some _, rfl, BkR_c rfl (cKc wkI (cKc wkI (cKc wkI cKn)))⟩ (aLc ⟨some _, rfl, BkR_c rfl (cKc (wkr (lsB _)) (cKc (wkr (lsL fun _ => (lsI _ _))) (cKc wkI cKn)))⟩ (aLc ⟨some _, rfl, BkR_c rfl (cKc (wkr (lsB _)) (cKc (wkr (lsL fun _ => (lsI _ _))) (cKc wkI cKn)))⟩ (aLc ⟨some _, rfl, BkR_c rfl (cKc (wkr (lsB _)) (cKc (wkr (lsL fun _ => (lsI _ _))) (cKc wkI cKn)))⟩ aLn)))))))
 refine cond_lk h (fun _ h => ?_) (fun _ h => ?_) <;> (conv => whnf)
 · refine hK _ _ _ ?_; clear hK K
   refine Then_n ?_
   refine ⟨_, h, ?_⟩
   refine weak_k ?_; conv => whnf
   exact And.intro rfl (And.intro (aLc (wkr (lsB _)) (aLc (WkR.ptr (fun _ => rfl)) (aLc wkI (aLc wkI (aLc wkI (aLc wkI (aLc wkI (aLc (WkR.ptr (fun _ => rfl)) (aLc (WkR.ptr (fun _ => rfl)) (aLc (WkR.ptr (fun _ => rfl)) (aLc (WkR.ptr (fun _ => rfl)) (aLc (WkR.ptr (fun _ => rfl)) aLn)))))))))))) (aLc ⟨some _, rfl, BkR_c rfl (cKc wkI (cKc (wkr (lsL fun _ => (lo_TEdge _))) cKn))⟩ (aLc ⟨some _, rfl, BkR_c rfl (cKc wkI (cKc wkI (cKc wkI cKn)))⟩ (aLc ⟨some _, rfl, BkR_c rfl (cKc wkI (cKc wkI (cKc wkI cKn)))⟩ (aLc ⟨some _, rfl, BkR_c rfl (cKc (wkr (lsB _)) (cKc (wkr (lsL fun _ => (lsI _ _))) (cKc wkI cKn)))⟩ (aLc ⟨some _, rfl, BkR_c rfl (cKc (wkr (lsB _)) (cKc (wkr (lsL fun _ => (lsI _ _))) (cKc wkI cKn)))⟩ (aLc ⟨some _, rfl, BkR_c rfl (cKc (wkr (lsB _)) (cKc (wkr (lsL fun _ => (lsI _ _))) (cKc wkI cKn)))⟩ aLn)))))))
 refine cond_lk h (fun _ h => ?_) (fun _ h => ?_) <;> (conv => whnf)
 · refine hK _ _ _ ?_; clear hK K
   refine Then_n ?_
   refine ⟨_, h, ?_⟩
   refine weak_k ?_; conv => whnf
   exact And.intro rfl (And.intro (aLc (wkr (lsB _)) (aLc (WkR.ptr (fun _ => rfl)) (aLc wkI (aLc wkI (aLc wkI (aLc wkI (aLc wkI (aLc (WkR.ptr (fun _ => rfl)) (aLc (WkR.ptr (fun _ => rfl)) (aLc (WkR.ptr (fun _ => rfl)) (aLc (WkR.ptr (fun _ => rfl)) (aLc (WkR.ptr (fun _ => rfl)) aLn)))))))))))) (aLc ⟨some _, rfl, BkR_c rfl (cKc wkI (cKc (wkr (lsL fun _ => (lo_TEdge _))) cKn))⟩ (aLc ⟨some _, rfl, BkR_c rfl (cKc wkI (cKc wkI (cKc wkI cKn)))⟩ (aLc ⟨some _, rfl, BkR_c rfl (cKc wkI (cKc wkI (cKc wkI cKn)))⟩ (aLc ⟨some _, rfl, BkR_c rfl (cKc (wkr (lsB _)) (cKc (wkr (lsL fun _ => (lsI _ _))) (cKc wkI cKn)))⟩ (aLc ⟨some _, rfl, BkR_c rfl (cKc (wkr (lsB _)) (cKc (wkr (lsL fun _ => (lsI _ _))) (cKc wkI cKn)))⟩ (aLc ⟨some _, rfl, BkR_c rfl (cKc (wkr (lsB _)) (cKc (wkr (lsL fun _ => (lsI _ _))) (cKc wkI cKn)))⟩ aLn)))))))
 refine cond_lk h (fun _ h => ?_) (fun _ h => ?_) <;> (conv => whnf)
 · refine hK _ _ _ ?_; clear hK K
   refine Then_n ?_
   refine ⟨_, h, ?_⟩
   refine weak_k ?_; conv => whnf
   exact And.intro rfl (And.intro (aLc (wkr (lsB _)) (aLc (WkR.ptr (fun _ => rfl)) (aLc wkI (aLc wkI (aLc wkI (aLc wkI (aLc wkI (aLc (WkR.ptr (fun _ => rfl)) (aLc (WkR.ptr (fun _ => rfl)) (aLc (WkR.ptr (fun _ => rfl)) (aLc (WkR.ptr (fun _ => rfl)) (aLc (WkR.ptr (fun _ => rfl)) aLn)))))))))))) (aLc ⟨some _, rfl, BkR_c rfl (cKc wkI (cKc (wkr (lsL fun _ => (lo_TEdge _))) cKn))⟩ (aLc ⟨some _, rfl, BkR_c rfl (cKc wkI (cKc wkI (cKc wkI cKn)))⟩ (aLc ⟨some _, rfl, BkR_c rfl (cKc wkI (cKc wkI (cKc wkI cKn)))⟩ (aLc ⟨some _, rfl, BkR_c rfl (cKc (wkr (lsB _)) (cKc (wkr (lsL fun _ => (lsI _ _))) (cKc wkI cKn)))⟩ (aLc ⟨some _, rfl, BkR_c rfl (cKc (wkr (lsB _)) (cKc (wkr (lsL fun _ => (lsI _ _))) (cKc wkI cKn)))⟩ (aLc ⟨some _, rfl, BkR_c rfl (cKc (wkr (lsB _)) (cKc (wkr (lsL fun _ => (lsI _ _))) (cKc wkI cKn)))⟩ aLn)))))))
 refine hK _ _ _ ?_; clear hK K
 refine Then_n ?_
 refine ⟨_, h, ?_⟩
 refine weak_k ?_; conv => whnf
 exact And.intro rfl (And.intro (aLc (wkr (lsB _)) (aLc (WkR.ptr (fun _ => rfl)) (aLc wkI (aLc wkI (aLc wkI (aLc wkI (aLc wkI (aLc (WkR.ptr (fun _ => rfl)) (aLc (WkR.ptr (fun _ => rfl)) (aLc (WkR.ptr (fun _ => rfl)) (aLc (WkR.ptr (fun _ => rfl)) (aLc (WkR.ptr (fun _ => rfl)) aLn)))))))))))) (aLc ⟨some _, rfl, BkR_c rfl (cKc wkI (cKc (wkr (lsL fun _ => (lo_TEdge _))) cKn))⟩ (aLc ⟨some _, rfl, BkR_c rfl (cKc wkI (cKc wkI (cKc wkI cKn)))⟩ (aLc ⟨some _, rfl, BkR_c rfl (cKc wkI (cKc wkI (cKc wkI cKn)))⟩ (aLc ⟨some _, rfl, BkR_c rfl (cKc (wkr (lsB _)) (cKc (wkr (lsL fun _ => (lsI _ _))) (cKc wkI cKn)))⟩ (aLc ⟨some _, rfl, BkR_c rfl (cKc (wkr (lsB _)) (cKc (wkr (lsL fun _ => (lsI _ _))) (cKc wkI cKn)))⟩ (aLc ⟨some _, rfl, BkR_c rfl (cKc (wkr (lsB _)) (cKc (wkr (lsL fun _ => (lsI _ _))) (cKc wkI cKn)))⟩ aLn)))))))
theorem law27_sane_call {T : Tbl} (hT : T 14 = pureR law27_sane_S) {args : List AV} {hp : Heap} {id : Nat} {k : AV → Prop} {Φ : Bool → Prop} (h : W (law27_sane_F ) Φ) (hw : WkL args []) (hk : ∀ y, Φ y → k (eB y)) : callpK T 14 args hp id k := by
 obtain ⟨y, e, hy⟩ := W_inv h
 exact callpK_pure hT ⟨rfl, W_of e rfl⟩ (by exact (lsB _)) hw (hk y hy)
end Go.Proofs.Ytgkmodjcoedonaa
namespace Go.Proofs.Ytgkmodjcoedonaa
open Go Go.Eng
set_option maxRecDepth 100000
theorem T0_ok : TOk Try.prog T0 ∧ PfOk T0 PF := ⟨TOk_T0 _, PfOk_T0 _⟩
def TT46 : Tbl := ext T0 46 (pureR flow_isIn_S)
theorem TT46_f : FOk Try.prog 46 (pureR flow_isIn_S) := flow_isIn_ok T0_ok.1 T0_ok.2
theorem TT46_ok : TOk Try.prog TT46 ∧ PfOk TT46 PF := ⟨TOk_ext T0_ok.1 TT46_f, PfOk_ext T0_ok.2 fun _ => ⟨_, rfl⟩⟩
def TT47 : Tbl := ext TT46 47 (pureR flow_Valid_1_S)
theorem TT47_f : FOk Try.prog 47 (pureR flow_Valid_1_S) := flow_Valid_1_ok TT46_ok.1 TT46_ok.2 rfl
theorem TT47_ok : TOk Try.prog TT47 ∧ PfOk TT47 PF := ⟨TOk_ext TT46_ok.1 TT47_f, PfOk_ext TT46_ok.2 fun _ => ⟨_, rfl⟩⟩
def TT71 : Tbl := ext TT47 71 (pureR slices_IndexFunc_Edge_S)
theorem TT71_f : FOk Try.prog 71 (pureR slices_IndexFunc_Edge_S) := slices_IndexFunc_Edge_ok TT47_ok.1 TT47_ok.2 rfl
theorem TT71_ok : TOk Try.prog TT71 ∧ PfOk TT71 PF := ⟨TOk_ext TT47_ok.1 TT71_f, PfOk_ext TT47_ok.2 fun _ => ⟨_, rfl⟩⟩
def TT48 : Tbl := ext TT71 48 (pureR slices_ContainsFunc_Edge_S)
theorem TT48_f : FOk Try.prog 48 (pureR slices_ContainsFunc_Edge_S) := slices_ContainsFunc_Edge_ok TT71_ok.1 TT71_ok.2 rfl
theorem TT48_ok : TOk Try.prog TT48 ∧ PfOk TT48 PF := ⟨TOk_ext TT71_ok.1 TT48_f, PfOk_ext TT71_ok.2 fun _ => ⟨_, rfl⟩⟩
def TT19 : Tbl := ext TT48 19 (pureR flow_Valid_S)
theorem TT19_f : FOk Try.prog 19 (pureR flow_Valid_S) := flow_Valid_ok TT48_ok.1 TT48_ok.2 rfl rfl
theorem TT19_ok : TOk Try.prog TT19 ∧ PfOk TT19 PF := ⟨TOk_ext TT48_ok.1 TT19_f, PfOk_ext TT48_ok.2 fun _ => ⟨_, rfl⟩⟩
def TT50 : Tbl := ext TT19 50 (pureR flow_isPair_S)
theorem TT50_f : FOk Try.prog 50 (pureR flow_isPair_S) := flow_isPair_ok TT19_ok.1 TT19_ok.2 rfl rfl
theorem TT50_ok : TOk Try.prog TT50 ∧ PfOk TT50 PF := ⟨TOk_ext TT19_ok.1 TT50_f, PfOk_ext TT19_ok.2 fun _ => ⟨_, rfl⟩⟩
def TT51 : Tbl := ext TT50 51 (ownR flow_open_res flow_open_blk flow_open_S)
theorem TT51_f : FOk Try.prog 51 (ownR flow_open_res flow_open_blk flow_open_S) := flow_open_ok TT50_ok.1 TT50_ok.2
theorem TT51_ok : TOk Try.prog TT51 ∧ PfOk TT51 PF := ⟨TOk_ext TT50_ok.1 TT51_f, PfOk_ext TT50_ok.2 (fun h => by cases h)⟩
def TT73 : Tbl := ext TT51 73 (blkF push_2_S)
theorem TT73_f : FOk Try.prog 73 (blkF push_2_S) := push_2_ok TT51_ok.1 TT51_ok.2
theorem TT73_ok : TOk Try.prog TT73 ∧ PfOk TT73 PF := ⟨TOk_ext TT51_ok.1 TT73_f, PfOk_ext TT51_ok.2 (fun h => by cases h)⟩
def TT74 : Tbl := ext TT73 74 (blkF push_3_S)
theorem TT74_f : FOk Try.prog 74 (blkF push_3_S) := push_3_ok TT73_ok.1 TT73_ok.2
theorem TT74_ok : TOk Try.prog TT74 ∧ PfOk TT74 PF := ⟨TOk_ext TT73_ok.1 TT74_f, PfOk_ext TT73_ok.2 (fun h => by cases h)⟩
def TT72 : Tbl := ext TT74 72 (blkF push_1_S)
theorem TT72_f : FOk Try.prog 72 (blkF push_1_S) := push_1_ok TT74_ok.1 TT74_ok.2 rfl rfl
theorem TT72_ok : TOk Try.prog TT72 ∧ PfOk TT72 PF := ⟨TOk_ext TT74_ok.1 TT72_f, PfOk_ext TT74_ok.2 (fun h => by cases h)⟩
def TT52 : Tbl := ext TT72 52 (blkF push_S)
theorem TT52_f : FOk Try.prog 52 (blkF push_S) := push_ok TT72_ok.1 TT72_ok.2 rfl
theorem TT52_ok : TOk Try.prog TT52 ∧ PfOk TT52 PF := ⟨TOk_ext TT72_ok.1 TT52_f, PfOk_ext TT72_ok.2 (fun h => by cases h)⟩
def TT53 : Tbl := ext TT52 53 (blkF flow_amounts_S)
theorem TT53_f : FOk Try.prog 53 (blkF flow_amounts_S) := flow_amounts_ok TT52_ok.1 TT52_ok.2 rfl
theorem TT53_ok : TOk Try.prog TT53 ∧ PfOk TT53 PF := ⟨TOk_ext TT52_ok.1 TT53_f, PfOk_ext TT52_ok.2 (fun h => by cases h)⟩
def TT21 : Tbl := ext TT53 21 (pureR flow_Max_S)
theorem TT21_f : FOk Try.prog 21 (pureR flow_Max_S) := flow_Max_ok TT53_ok.1 TT53_ok.2 rfl rfl rfl rfl
theorem TT21_ok : TOk Try.prog TT21 ∧ PfOk TT21 PF := ⟨TOk_ext TT53_ok.1 TT21_f, PfOk_ext TT53_ok.2 fun _ => ⟨_, rfl⟩⟩
def TT58 : Tbl := ext TT21 58 (pureR flow_given_S)
theorem TT58_f : FOk Try.prog 58 (pureR flow_given_S) := flow_given_ok TT21_ok.1 TT21_ok.2 rfl
theorem TT58_ok : TOk Try.prog TT58 ∧ PfOk TT58 PF := ⟨TOk_ext TT21_ok.1 TT58_f, PfOk_ext TT21_ok.2 fun _ => ⟨_, rfl⟩⟩
def TT26 : Tbl := ext TT58 26 (pureR flow_CheckFlow_S)
theorem TT26_f : FOk Try.prog 26 (pureR flow_CheckFlow_S) := flow_CheckFlow_ok TT58_ok.1 TT58_ok.2 rfl rfl
theorem TT26_ok : TOk Try.prog TT26 ∧ PfOk TT26 PF := ⟨TOk_ext TT58_ok.1 TT26_f, PfOk_ext TT58_ok.2 fun _ => ⟨_, rfl⟩⟩
def TT62 : Tbl := ext TT26 62 (pureR flow_leaving_S)
theorem TT62_f : FOk Try.prog 62 (pureR flow_leaving_S) := flow_leaving_ok TT26_ok.1 TT26_ok.2
theorem TT62_ok : TOk Try.prog TT62 ∧ PfOk TT62 PF := ⟨TOk_ext TT26_ok.1 TT62_f, PfOk_ext TT26_ok.2 fun _ => ⟨_, rfl⟩⟩
def TT77 : Tbl := ext TT62 77 ((itR Try.prog (fun x => [Value.int .i64 x]) flow_leaving_1_C))
theorem TT77_f : FOk Try.prog 77 ((itR Try.prog (fun x => [Value.int .i64 x]) flow_leaving_1_C)) := flow_leaving_1_ok TT62_ok.1 TT62_ok.2
theorem TT77_ok : TOk Try.prog TT77 ∧ PfOk TT77 PF := ⟨TOk_ext TT62_ok.1 TT77_f, PfOk_ext TT62_ok.2 (fun h => by cases h)⟩
def TT59 : Tbl := ext TT77 59 (pureR flow_capacity_S)
theorem TT59_f : FOk Try.prog 59 (pureR flow_capacity_S) := flow_capacity_ok TT77_ok.1 TT77_ok.2 rfl rfl
theorem TT59_ok : TOk Try.prog TT59 ∧ PfOk TT59 PF := ⟨TOk_ext TT77_ok.1 TT59_f, PfOk_ext TT77_ok.2 fun _ => ⟨_, rfl⟩⟩
def TT28 : Tbl := ext TT59 28 (pureR flow_CheckCut_S)
theorem TT28_f : FOk Try.prog 28 (pureR flow_CheckCut_S) := flow_CheckCut_ok TT59_ok.1 TT59_ok.2 rfl rfl rfl
theorem TT28_ok : TOk Try.prog TT28 ∧ PfOk TT28 PF := ⟨TOk_ext TT59_ok.1 TT28_f, PfOk_ext TT59_ok.2 fun _ => ⟨_, rfl⟩⟩
def TT76 : Tbl := ext TT28 76 (ownR col_res col_blk slices_AppendSeq_int_S)
theorem TT76_f : FOk Try.prog 76 (ownR col_res col_blk slices_AppendSeq_int_S) := slices_AppendSeq_int_ok TT28_ok.1 TT28_ok.2 rfl
theorem TT76_ok : TOk Try.prog TT76 ∧ PfOk TT76 PF := ⟨TOk_ext TT28_ok.1 TT76_f, PfOk_ext TT28_ok.2 (fun h => by cases h)⟩
def TT61 : Tbl := ext TT76 61 (ownR col_res col_blk slices_Collect_int_S)
theorem TT61_f : FOk Try.prog 61 (ownR col_res col_blk slices_Collect_int_S) := slices_Collect_int_ok TT76_ok.1 TT76_ok.2 rfl
theorem TT61_ok : TOk Try.prog TT61 ∧ PfOk TT61 PF := ⟨TOk_ext TT76_ok.1 TT61_f, PfOk_ext TT76_ok.2 (fun h => by cases h)⟩
def TT63 : Tbl := ext TT61 63 (sortN_R)
theorem TT63_f : FOk Try.prog 63 (sortN_R) := sortN_ok TT61_ok.1 TT61_ok.2
theorem TT63_ok : TOk Try.prog TT63 ∧ PfOk TT63 PF := ⟨TOk_ext TT61_ok.1 TT63_f, PfOk_ext TT61_ok.2 (fun h => by cases h)⟩
def TT33 : Tbl := ext TT63 33 (pureR flow_Worst_S)
theorem TT33_f : FOk Try.prog 33 (pureR flow_Worst_S) := flow_Worst_ok TT63_ok.1 TT63_ok.2 rfl rfl rfl rfl rfl
theorem TT33_ok : TOk Try.prog TT33 ∧ PfOk TT33 PF := ⟨TOk_ext TT63_ok.1 TT33_f, PfOk_ext TT63_ok.2 fun _ => ⟨_, rfl⟩⟩
def TT75 : Tbl := ext TT33 75 (cloneR 3 eTEdge default)
theorem TT75_f : FOk Try.prog 75 (cloneR 3 eTEdge default) := slices_Clone_Edge_ok TT33_ok.1 TT33_ok.2
theorem TT75_ok : TOk Try.prog TT75 ∧ PfOk TT75 PF := ⟨TOk_ext TT33_ok.1 TT75_f, PfOk_ext TT33_ok.2 (fun h => by cases h)⟩
def TT60 : Tbl := ext TT75 60 (pureR flow_without_S)
theorem TT60_f : FOk Try.prog 60 (pureR flow_without_S) := flow_without_ok TT75_ok.1 TT75_ok.2 rfl
theorem TT60_ok : TOk Try.prog TT60 ∧ PfOk TT60 PF := ⟨TOk_ext TT75_ok.1 TT60_f, PfOk_ext TT75_ok.2 fun _ => ⟨_, rfl⟩⟩
def TT30 : Tbl := ext TT60 30 (pureR flow_Without_S)
theorem TT30_f : FOk Try.prog 30 (pureR flow_Without_S) := flow_Without_ok TT60_ok.1 TT60_ok.2 rfl rfl rfl
theorem TT30_ok : TOk Try.prog TT30 ∧ PfOk TT30 PF := ⟨TOk_ext TT60_ok.1 TT30_f, PfOk_ext TT60_ok.2 fun _ => ⟨_, rfl⟩⟩
def TT81 : Tbl := ext TT30 81 (pureR math_bits_OnesCount64_S)
theorem TT81_f : FOk Try.prog 81 (pureR math_bits_OnesCount64_S) := math_bits_OnesCount64_ok TT30_ok.1 TT30_ok.2
theorem TT81_ok : TOk Try.prog TT81 ∧ PfOk TT81 PF := ⟨TOk_ext TT30_ok.1 TT81_f, PfOk_ext TT30_ok.2 fun _ => ⟨_, rfl⟩⟩
def TT66 : Tbl := ext TT81 66 (pureR math_bits_OnesCount_S)
theorem TT66_f : FOk Try.prog 66 (pureR math_bits_OnesCount_S) := math_bits_OnesCount_ok TT81_ok.1 TT81_ok.2 rfl
theorem TT66_ok : TOk Try.prog TT66 ∧ PfOk TT66 PF := ⟨TOk_ext TT81_ok.1 TT66_f, PfOk_ext TT81_ok.2 fun _ => ⟨_, rfl⟩⟩
def TT35 : Tbl := ext TT66 35 (pureR flow_CheckWorst_S)
theorem TT35_f : FOk Try.prog 35 (pureR flow_CheckWorst_S) := flow_CheckWorst_ok TT66_ok.1 TT66_ok.2 rfl rfl rfl rfl
theorem TT35_ok : TOk Try.prog TT35 ∧ PfOk TT35 PF := ⟨TOk_ext TT66_ok.1 TT35_f, PfOk_ext TT66_ok.2 fun _ => ⟨_, rfl⟩⟩
def TT68 : Tbl := ext TT35 68 (pureR flow_isSupply_S)
theorem TT68_f : FOk Try.prog 68 (pureR flow_isSupply_S) := flow_isSupply_ok TT35_ok.1 TT35_ok.2 rfl rfl
theorem TT68_ok : TOk Try.prog TT68 ∧ PfOk TT68 PF := ⟨TOk_ext TT35_ok.1 TT68_f, PfOk_ext TT35_ok.2 fun _ => ⟨_, rfl⟩⟩
def TT38 : Tbl := ext TT68 38 (pureR flow_Meet_S)
theorem TT38_f : FOk Try.prog 38 (pureR flow_Meet_S) := flow_Meet_ok TT68_ok.1 TT68_ok.2 rfl rfl rfl rfl
theorem TT38_ok : TOk Try.prog TT38 ∧ PfOk TT38 PF := ⟨TOk_ext TT68_ok.1 TT38_f, PfOk_ext TT68_ok.2 fun _ => ⟨_, rfl⟩⟩
def TT70 : Tbl := ext TT38 70 (pureR slices_Equal_int_S)
theorem TT70_f : FOk Try.prog 70 (pureR slices_Equal_int_S) := slices_Equal_int_ok TT38_ok.1 TT38_ok.2
theorem TT70_ok : TOk Try.prog TT70 ∧ PfOk TT70 PF := ⟨TOk_ext TT38_ok.1 TT70_f, PfOk_ext TT38_ok.2 fun _ => ⟨_, rfl⟩⟩
def TT41 : Tbl := ext TT70 41 (pureR flow_CheckMeet_S)
theorem TT41_f : FOk Try.prog 41 (pureR flow_CheckMeet_S) := flow_CheckMeet_ok TT70_ok.1 TT70_ok.2 rfl rfl rfl rfl rfl
theorem TT41_ok : TOk Try.prog TT41 ∧ PfOk TT41 PF := ⟨TOk_ext TT70_ok.1 TT41_f, PfOk_ext TT70_ok.2 fun _ => ⟨_, rfl⟩⟩
def TT44 : Tbl := ext TT41 44 (pureR law27_example_S)
theorem TT44_f : FOk Try.prog 44 (pureR law27_example_S) := law27_example_ok TT41_ok.1 TT41_ok.2
theorem TT44_ok : TOk Try.prog TT44 ∧ PfOk TT44 PF := ⟨TOk_ext TT41_ok.1 TT44_f, PfOk_ext TT41_ok.2 fun _ => ⟨_, rfl⟩⟩
def TT14 : Tbl := ext TT44 14 (pureR law27_sane_S)
theorem TT14_f : FOk Try.prog 14 (pureR law27_sane_S) := law27_sane_ok TT44_ok.1 TT44_ok.2 rfl rfl rfl rfl rfl rfl rfl rfl rfl
theorem TT14_ok : TOk Try.prog TT14 ∧ PfOk TT14 PF := ⟨TOk_ext TT44_ok.1 TT14_f, PfOk_ext TT44_ok.2 fun _ => ⟨_, rfl⟩⟩
def TT45 : Tbl := ext TT14 45 (pureR ref27_pick_S)
theorem TT45_f : FOk Try.prog 45 (pureR ref27_pick_S) := ref27_pick_ok TT14_ok.1 TT14_ok.2
theorem TT45_ok : TOk Try.prog TT45 ∧ PfOk TT45 PF := ⟨TOk_ext TT14_ok.1 TT45_f, PfOk_ext TT14_ok.2 fun _ => ⟨_, rfl⟩⟩
def TT15 : Tbl := ext TT45 15 (pureR ref27_Made_S)
theorem TT15_f : FOk Try.prog 15 (pureR ref27_Made_S) := ref27_Made_ok TT45_ok.1 TT45_ok.2 rfl
theorem TT15_ok : TOk Try.prog TT15 ∧ PfOk TT15 PF := ⟨TOk_ext TT45_ok.1 TT15_f, PfOk_ext TT45_ok.2 fun _ => ⟨_, rfl⟩⟩
def TT27 : Tbl := ext TT15 27 (pureR law27_pick_S)
theorem TT27_f : FOk Try.prog 27 (pureR law27_pick_S) := law27_pick_ok TT15_ok.1 TT15_ok.2
theorem TT27_ok : TOk Try.prog TT27 ∧ PfOk TT27 PF := ⟨TOk_ext TT15_ok.1 TT27_f, PfOk_ext TT15_ok.2 fun _ => ⟨_, rfl⟩⟩
def TT16 : Tbl := ext TT27 16 (pureR law27_ends_S)
theorem TT16_f : FOk Try.prog 16 (pureR law27_ends_S) := law27_ends_ok TT27_ok.1 TT27_ok.2 rfl
theorem TT16_ok : TOk Try.prog TT16 ∧ PfOk TT16 PF := ⟨TOk_ext TT27_ok.1 TT16_f, PfOk_ext TT27_ok.2 fun _ => ⟨_, rfl⟩⟩
def TT17 : Tbl := ext TT16 17 (pureR ref27_Bent_S)
theorem TT17_f : FOk Try.prog 17 (pureR ref27_Bent_S) := ref27_Bent_ok TT16_ok.1 TT16_ok.2 rfl
theorem TT17_ok : TOk Try.prog TT17 ∧ PfOk TT17 PF := ⟨TOk_ext TT16_ok.1 TT17_f, PfOk_ext TT16_ok.2 fun _ => ⟨_, rfl⟩⟩
def TT18 : Tbl := ext TT17 18 (pureR law27_few_S)
theorem TT18_f : FOk Try.prog 18 (pureR law27_few_S) := law27_few_ok TT17_ok.1 TT17_ok.2
theorem TT18_ok : TOk Try.prog TT18 ∧ PfOk TT18 PF := ⟨TOk_ext TT17_ok.1 TT18_f, PfOk_ext TT17_ok.2 fun _ => ⟨_, rfl⟩⟩
def TT49 : Tbl := ext TT18 49 (pureR ref27_in_S)
theorem TT49_f : FOk Try.prog 49 (pureR ref27_in_S) := ref27_in_ok TT18_ok.1 TT18_ok.2
theorem TT49_ok : TOk Try.prog TT49 ∧ PfOk TT49 PF := ⟨TOk_ext TT18_ok.1 TT49_f, PfOk_ext TT18_ok.2 fun _ => ⟨_, rfl⟩⟩
def TT20 : Tbl := ext TT49 20 (pureR ref27_Valid_S)
theorem TT20_f : FOk Try.prog 20 (pureR ref27_Valid_S) := ref27_Valid_ok TT49_ok.1 TT49_ok.2 rfl
theorem TT20_ok : TOk Try.prog TT20 ∧ PfOk TT20 PF := ⟨TOk_ext TT49_ok.1 TT20_f, PfOk_ext TT49_ok.2 fun _ => ⟨_, rfl⟩⟩
def TT22 : Tbl := ext TT20 22 (pureR ref27_Ends_S)
theorem TT22_f : FOk Try.prog 22 (pureR ref27_Ends_S) := ref27_Ends_ok TT20_ok.1 TT20_ok.2 rfl rfl
theorem TT22_ok : TOk Try.prog TT22 ∧ PfOk TT22 PF := ⟨TOk_ext TT20_ok.1 TT22_f, PfOk_ext TT20_ok.2 fun _ => ⟨_, rfl⟩⟩
def TT54 : Tbl := ext TT22 54 (pureR ref27_amounts_S)
theorem TT54_f : FOk Try.prog 54 (pureR ref27_amounts_S) := ref27_amounts_ok TT22_ok.1 TT22_ok.2 rfl
theorem TT54_ok : TOk Try.prog TT54 ∧ PfOk TT54 PF := ⟨TOk_ext TT22_ok.1 TT54_f, PfOk_ext TT22_ok.2 fun _ => ⟨_, rfl⟩⟩
def TT55 : Tbl := ext TT54 55 (pureR ref27_gives_S)
theorem TT55_f : FOk Try.prog 55 (pureR ref27_gives_S) := ref27_gives_ok TT54_ok.1 TT54_ok.2
theorem TT55_ok : TOk Try.prog TT55 ∧ PfOk TT55 PF := ⟨TOk_ext TT54_ok.1 TT55_f, PfOk_ext TT54_ok.2 fun _ => ⟨_, rfl⟩⟩
def TT23 : Tbl := ext TT55 23 (pureR ref27_CheckFlow_S)
theorem TT23_f : FOk Try.prog 23 (pureR ref27_CheckFlow_S) := ref27_CheckFlow_ok TT55_ok.1 TT55_ok.2 rfl rfl rfl
theorem TT23_ok : TOk Try.prog TT23 ∧ PfOk TT23 PF := ⟨TOk_ext TT55_ok.1 TT23_f, PfOk_ext TT55_ok.2 fun _ => ⟨_, rfl⟩⟩
def TT56 : Tbl := ext TT23 56 (pureR ref27_has_S)
theorem TT56_f : FOk Try.prog 56 (pureR ref27_has_S) := ref27_has_ok TT23_ok.1 TT23_ok.2
theorem TT56_ok : TOk Try.prog TT56 ∧ PfOk TT56 PF := ⟨TOk_ext TT23_ok.1 TT56_f, PfOk_ext TT23_ok.2 fun _ => ⟨_, rfl⟩⟩
def TT57 : Tbl := ext TT56 57 (pureR ref27_Leaves_S)
theorem TT57_f : FOk Try.prog 57 (pureR ref27_Leaves_S) := ref27_Leaves_ok TT56_ok.1 TT56_ok.2 rfl
theorem TT57_ok : TOk Try.prog TT57 ∧ PfOk TT57 PF := ⟨TOk_ext TT56_ok.1 TT57_f, PfOk_ext TT56_ok.2 fun _ => ⟨_, rfl⟩⟩
def TT24 : Tbl := ext TT57 24 (pureR ref27_Least_S)
theorem TT24_f : FOk Try.prog 24 (pureR ref27_Least_S) := ref27_Least_ok TT57_ok.1 TT57_ok.2 rfl rfl
theorem TT24_ok : TOk Try.prog TT24 ∧ PfOk TT24 PF := ⟨TOk_ext TT57_ok.1 TT24_f, PfOk_ext TT57_ok.2 fun _ => ⟨_, rfl⟩⟩
def TT25 : Tbl := ext TT24 25 (pureR ref27_BentList_S)
theorem TT25_f : FOk Try.prog 25 (pureR ref27_BentList_S) := ref27_BentList_ok TT24_ok.1 TT24_ok.2 rfl
theorem TT25_ok : TOk Try.prog TT25 ∧ PfOk TT25 PF := ⟨TOk_ext TT24_ok.1 TT25_f, PfOk_ext TT24_ok.2 fun _ => ⟨_, rfl⟩⟩
def TT29 : Tbl := ext TT25 29 (pureR ref27_CheckCut_S)
theorem TT29_f : FOk Try.prog 29 (pureR ref27_CheckCut_S) := ref27_CheckCut_ok TT25_ok.1 TT25_ok.2 rfl rfl rfl rfl
theorem TT29_ok : TOk Try.prog TT29 ∧ PfOk TT29 PF := ⟨TOk_ext TT25_ok.1 TT29_f, PfOk_ext TT25_ok.2 fun _ => ⟨_, rfl⟩⟩
def TT31 : Tbl := ext TT29 31 (pureR ref27_Without_S)
theorem TT31_f : FOk Try.prog 31 (pureR ref27_Without_S) := ref27_Without_ok TT29_ok.1 TT29_ok.2 rfl rfl rfl
theorem TT31_ok : TOk Try.prog TT31 ∧ PfOk TT31 PF := ⟨TOk_ext TT29_ok.1 TT31_f, PfOk_ext TT29_ok.2 fun _ => ⟨_, rfl⟩⟩
def TT32 : Tbl := ext TT31 32 (pureR ref27_Same_S)
theorem TT32_f : FOk Try.prog 32 (pureR ref27_Same_S) := ref27_Same_ok TT31_ok.1 TT31_ok.2
theorem TT32_ok : TOk Try.prog TT32 ∧ PfOk TT32 PF := ⟨TOk_ext TT31_ok.1 TT32_f, PfOk_ext TT31_ok.2 fun _ => ⟨_, rfl⟩⟩
def TT65 : Tbl := ext TT32 65 (pureR ref27_greatest_S)
theorem TT65_f : FOk Try.prog 65 (pureR ref27_greatest_S) := ref27_greatest_ok TT32_ok.1 TT32_ok.2 rfl
theorem TT65_ok : TOk Try.prog TT65 ∧ PfOk TT65 PF := ⟨TOk_ext TT32_ok.1 TT65_f, PfOk_ext TT32_ok.2 fun _ => ⟨_, rfl⟩⟩
def TT34 : Tbl := ext TT65 34 (pureR ref27_Worst_S)
theorem TT34_f : FOk Try.prog 34 (pureR ref27_Worst_S) := ref27_Worst_ok TT65_ok.1 TT65_ok.2 rfl rfl rfl
theorem TT34_ok : TOk Try.prog TT34 ∧ PfOk TT34 PF := ⟨TOk_ext TT65_ok.1 TT34_f, PfOk_ext TT65_ok.2 fun _ => ⟨_, rfl⟩⟩
def TT67 : Tbl := ext TT34 67 (pureR ref27_Many_S)
theorem TT67_f : FOk Try.prog 67 (pureR ref27_Many_S) := ref27_Many_ok TT34_ok.1 TT34_ok.2
theorem TT67_ok : TOk Try.prog TT67 ∧ PfOk TT67 PF := ⟨TOk_ext TT34_ok.1 TT67_f, PfOk_ext TT34_ok.2 fun _ => ⟨_, rfl⟩⟩
def TT36 : Tbl := ext TT67 36 (pureR ref27_CheckWorst_S)
theorem TT36_f : FOk Try.prog 36 (pureR ref27_CheckWorst_S) := ref27_CheckWorst_ok TT67_ok.1 TT67_ok.2 rfl rfl rfl rfl rfl
theorem TT36_ok : TOk Try.prog TT36 ∧ PfOk TT36 PF := ⟨TOk_ext TT67_ok.1 TT36_f, PfOk_ext TT67_ok.2 fun _ => ⟨_, rfl⟩⟩
def TT37 : Tbl := ext TT36 37 (pureR ref27_Supplied_S)
theorem TT37_f : FOk Try.prog 37 (pureR ref27_Supplied_S) := ref27_Supplied_ok TT36_ok.1 TT36_ok.2 rfl
theorem TT37_ok : TOk Try.prog TT37 ∧ PfOk TT37 PF := ⟨TOk_ext TT36_ok.1 TT37_f, PfOk_ext TT36_ok.2 fun _ => ⟨_, rfl⟩⟩
def TT39 : Tbl := ext TT37 39 (pureR ref27_Supplies_S)
theorem TT39_f : FOk Try.prog 39 (pureR ref27_Supplies_S) := ref27_Supplies_ok TT37_ok.1 TT37_ok.2 rfl rfl
theorem TT39_ok : TOk Try.prog TT39 ∧ PfOk TT39 PF := ⟨TOk_ext TT37_ok.1 TT39_f, PfOk_ext TT37_ok.2 fun _ => ⟨_, rfl⟩⟩
def TT69 : Tbl := ext TT39 69 (pureR ref27_Refutes_S)
theorem TT69_f : FOk Try.prog 69 (pureR ref27_Refutes_S) := ref27_Refutes_ok TT39_ok.1 TT39_ok.2 rfl rfl
theorem TT69_ok : TOk Try.prog TT69 ∧ PfOk TT69 PF := ⟨TOk_ext TT39_ok.1 TT69_f, PfOk_ext TT39_ok.2 fun _ => ⟨_, rfl⟩⟩
def TT40 : Tbl := ext TT69 40 (pureR ref27_Refuted_S)
theorem TT40_f : FOk Try.prog 40 (pureR ref27_Refuted_S) := ref27_Refuted_ok TT69_ok.1 TT69_ok.2 rfl
theorem TT40_ok : TOk Try.prog TT40 ∧ PfOk TT40 PF := ⟨TOk_ext TT69_ok.1 TT40_f, PfOk_ext TT69_ok.2 fun _ => ⟨_, rfl⟩⟩
def TT42 : Tbl := ext TT40 42 (pureR ref27_CheckMeet_S)
theorem TT42_f : FOk Try.prog 42 (pureR ref27_CheckMeet_S) := ref27_CheckMeet_ok TT40_ok.1 TT40_ok.2 rfl rfl rfl rfl rfl
theorem TT42_ok : TOk Try.prog TT42 ∧ PfOk TT42 PF := ⟨TOk_ext TT40_ok.1 TT42_f, PfOk_ext TT40_ok.2 fun _ => ⟨_, rfl⟩⟩
def TT43 : Tbl := ext TT42 43 (pureR law27_greatest_S)
theorem TT43_f : FOk Try.prog 43 (pureR law27_greatest_S) := law27_greatest_ok TT42_ok.1 TT42_ok.2 rfl rfl rfl
theorem TT43_ok : TOk Try.prog TT43 ∧ PfOk TT43 PF := ⟨TOk_ext TT42_ok.1 TT43_f, PfOk_ext TT42_ok.2 fun _ => ⟨_, rfl⟩⟩
end Go.Proofs.Ytgkmodjcoedonaa
namespace Go.Proofs.Ytgkmodjcoedonaa
open Go Go.Eng
set_option maxRecDepth 100000
theorem op_3 : Opn Try.prog 3 eI okI := Op_int Try.underlying3
theorem op1_3 : Opn1 Try.prog 3 eI := .inr ⟨by rfl, fun _ => ⟨rfl, rfl⟩⟩
theorem opv_3 : OpV Try.prog 3 eI okI := OpV_of op_3 op1_3 fun _ => one_int Try.underlying3
def okA23 (x : Int × Int × Int) : Prop := okI x.1 ∧ okI x.2.1 ∧ okI x.2.2
theorem op_23 : Opn Try.prog 23 eA23 okA23 := by
 refine Op_array (β := Int × Int × Int × Unit) (fs := [(3, 0), (3, 1), (3, 2)]) Try.underlying23 (by kernel_rfl) (by kernel_rfl) (OpFs_cons (sz := 1) op_3 (by kernel_rfl) rfl (OpFs_cons (sz := 1) op_3 (by kernel_rfl) rfl (OpFs_cons (sz := 1) op_3 (by kernel_rfl) rfl OpFs_nil))) (fun p => (p.1, p.2.1, p.2.2.1)) (fun _ => rfl) ?_
 intro p h
 exact ⟨h.1, h.2.1, h.2.2.1⟩
theorem op1_23 : Opn1 Try.prog 23 eA23 := .inl ⟨by rfl, fun _ => rfl⟩
theorem opv_23 : OpV Try.prog 23 eA23 okA23 := OpV_of op_23 op1_23 (fun h => by cases (show some true = some false from h))
theorem op_22 : Opn Try.prog 22 (eL 3 eA23 default) (okL okA23) := Op_slice Try.underlying22 (by kernel_rfl) (by decide) op_23 op1_23
theorem op1_22 : Opn1 Try.prog 22 (eL 3 eA23 default) := .inr ⟨by rfl, fun _ => ⟨rfl, rfl⟩⟩
theorem opv_22 : OpV Try.prog 22 (eL 3 eA23 default) (okL okA23) := OpV_of op_22 op1_22 fun _ => one_slice Try.underlying22
def okTEdge (x : TEdge) : Prop := okI x.From ∧ okI x.To ∧ okI x.Capacity
def okTNet (x : TNet) : Prop := okI x.N ∧ (okL okTEdge) x.Edges
theorem op_27 : Opn Try.prog 27 (eL 1 eI default) (okL okI) := Op_slice Try.underlying27 (by kernel_rfl) (by decide) op_3 op1_3
theorem op1_27 : Opn1 Try.prog 27 (eL 1 eI default) := .inr ⟨by rfl, fun _ => ⟨rfl, rfl⟩⟩
theorem opv_27 : OpV Try.prog 27 (eL 1 eI default) (okL okI) := OpV_of op_27 op1_27 fun _ => one_slice Try.underlying27
def okTFailure (x : TFailure) : Prop := okI x.Failed ∧ okI x.Value ∧ okI x.Cut
theorem op_53 : Opn Try.prog 53 eTFailure okTFailure := by
 refine Op_struct (β := Int × Int × Int × Unit) (fs := [(3, 0), (3, 1), (3, 2)]) Try.underlying53 rfl (by kernel_rfl) (OpFs_cons (sz := 1) op_3 (by kernel_rfl) rfl (OpFs_cons (sz := 1) op_3 (by kernel_rfl) rfl (OpFs_cons (sz := 1) op_3 (by kernel_rfl) rfl OpFs_nil))) (fun p => ⟨p.1, p.2.1, p.2.2.1⟩) (fun _ => rfl) ?_
 intro p h
 exact ⟨h.1, h.2.1, h.2.2.1⟩
theorem op1_53 : Opn1 Try.prog 53 eTFailure := .inl ⟨by rfl, fun _ => rfl⟩
theorem opv_53 : OpV Try.prog 53 eTFailure okTFailure := OpV_of op_53 op1_53 (fun h => by cases (show some true = some false from h))
theorem op_4 : Opn Try.prog 4 eB okB := Op_bool Try.underlying4
def okTSupply (x : TSupply) : Prop := okB x.Met ∧ (okL okI) x.Amounts ∧ okI x.Set
theorem op_55 : Opn Try.prog 55 eTSupply okTSupply := by
 refine Op_struct (β := Bool × (List Int) × Int × Unit) (fs := [(4, 0), (27, 1), (3, 2)]) Try.underlying55 rfl (by kernel_rfl) (OpFs_cons (sz := 1) op_4 (by kernel_rfl) rfl (OpFs_cons (sz := 1) op_27 (by kernel_rfl) rfl (OpFs_cons (sz := 1) op_3 (by kernel_rfl) rfl OpFs_nil))) (fun p => ⟨p.1, p.2.1, p.2.2.1⟩) (fun _ => rfl) ?_
 intro p h
 exact ⟨h.1, h.2.1, h.2.2.1⟩
theorem op1_55 : Opn1 Try.prog 55 eTSupply := .inl ⟨by rfl, fun _ => rfl⟩
theorem opv_55 : OpV Try.prog 55 eTSupply okTSupply := OpV_of op_55 op1_55 (fun h => by cases (show some true = some false from h))
end Go.Proofs.Ytgkmodjcoedonaa
namespace Go.Proofs.Ytgkmodjcoedonaa
open Go Go.Eng
set_option maxRecDepth 100000
theorem ofInt_nat {a : Int} (h0 : 0 ≤ a) (h1 : a < 4611686018427387904) : (BitVec.ofInt IntKind.i64.bits a).toNat = a.toNat := by
 show (BitVec.ofInt 64 a).toNat = a.toNat
 rw [BitVec.toNat_ofInt, Int.emod_eq_of_lt h0 (by omega)]
theorem band_nat {a b : Int} (h0 : 0 ≤ a) (h1 : a < 4611686018427387904) (g0 : 0 ≤ b) (g1 : b < 4611686018427387904) : band .i64 a b = ((a.toNat &&& b.toNat : Nat) : Int) := by
 show IntKind.i64.wrap _ = _
 rw [BitVec.toNat_and, ofInt_nat h0 h1, ofInt_nat g0 g1]
 have : a.toNat &&& b.toNat ≤ a.toNat := Nat.and_le_left
 exact wrap64 (by omega) (by omega)
theorem bor_nat {a b : Int} (h0 : 0 ≤ a) (h1 : a < 4611686018427387904) (g0 : 0 ≤ b) (g1 : b < 4611686018427387904) : bor .i64 a b = ((a.toNat ||| b.toNat : Nat) : Int) := by
 show IntKind.i64.wrap _ = _
 rw [BitVec.toNat_or, ofInt_nat h0 h1, ofInt_nat g0 g1]
 have : a.toNat ||| b.toNat < 2 ^ 62 := Nat.or_lt_two_pow (by omega) (by omega)
 exact wrap64 (by omega) (by omega)
theorem two_pow_le {n m : Nat} (h : n ≤ m) : (2 : Int) ^ n ≤ 2 ^ m := by
 have := Nat.pow_le_pow_right (n := 2) (by omega) h
 exact_mod_cast this
theorem two_pow_pos (n : Nat) : (0 : Int) < 2 ^ n := by
 have := Nat.two_pow_pos n
 exact_mod_cast this
theorem bshl_one {k : Nat} (h : k ≤ 60) : bshl .i64 1 (k : Int) = 2 ^ k := by
 show IntKind.i64.wrap (1 * 2 ^ (min (k : Int).toNat 64)) = _
 rw [Int.toNat_natCast, Nat.min_eq_left (by omega), Int.one_mul]
 have h1 := two_pow_le h
 have h2 := two_pow_pos k
 exact wrap64 (by omega) (by omega)
theorem bshr_nat {s : Int} {i : Nat} (h0 : 0 ≤ s) (hi : i ≤ 60) : bshr .i64 s (i : Int) = ((s.toNat >>> i : Nat) : Int) := by
 show s.fdiv (2 ^ (min (i : Int).toNat 64)) = _
 rw [Int.toNat_natCast, Nat.min_eq_left (by omega), Int.fdiv_eq_ediv_of_nonneg _ (Int.le_of_lt (two_pow_pos i)), Nat.shiftRight_eq_div_pow]
 conv => lhs; rw [← Int.toNat_of_nonneg h0]
 norm_cast
theorem and_one_bit (n i : Nat) : (n >>> i) &&& 1 = if n.testBit i then 1 else 0 := by
 rw [Nat.testBit_eq_decide_div_mod_eq, Nat.shiftRight_eq_div_pow, Nat.and_one_is_mod]
 have := Nat.mod_two_eq_zero_or_one (n / 2 ^ i)
 rcases this with h | h <;> simp [h]
theorem bit1 {s : Int} {i : Nat} (h0 : 0 ≤ s) (h1 : s < 4611686018427387904) (hi : i ≤ 60) : (band .i64 (bshr .i64 s (i : Int)) 1 == 1) = s.toNat.testBit i := by
 rw [bshr_nat h0 hi]
 have : s.toNat >>> i ≤ s.toNat := by rw [Nat.shiftRight_eq_div_pow]; exact Nat.div_le_self _ _
 generalize hg : s.toNat >>> i = g at this
 rw [band_nat (by omega) (by omega) (by omega) (by omega), Int.toNat_natCast, show Int.toNat 1 = 1 from rfl, ← hg, and_one_bit]
 cases s.toNat.testBit i <;> rfl
theorem bit0 {s : Int} {i : Nat} (h0 : 0 ≤ s) (h1 : s < 4611686018427387904) (hi : i ≤ 60) : (band .i64 (bshr .i64 s (i : Int)) 1 == 0) = !s.toNat.testBit i := by
 rw [bshr_nat h0 hi]
 have : s.toNat >>> i ≤ s.toNat := by rw [Nat.shiftRight_eq_div_pow]; exact Nat.div_le_self _ _
 generalize hg : s.toNat >>> i = g at this
 rw [band_nat (by omega) (by omega) (by omega) (by omega), Int.toNat_natCast, show Int.toNat 1 = 1 from rfl, ← hg, and_one_bit]
 cases s.toNat.testBit i <;> rfl
def rest : Nat → List Int → Int
 | _, [] => 0
 | 0, a :: l => a + rest 0 l
 | k + 1, a :: l => min (rest k l) (a + rest (k + 1) l)
theorem rest_nil (k : Nat) : rest k [] = 0 := by cases k <;> rfl
theorem rest_z (a : Int) (l : List Int) : rest 0 (a :: l) = a + rest 0 l := rfl
theorem rest_s (k : Nat) (a : Int) (l : List Int) : rest (k + 1) (a :: l) = min (rest k l) (a + rest (k + 1) l) := rfl
theorem rest_nn : ∀ {l : List Int} (k : Nat), (∀ x ∈ l, 0 ≤ x) → 0 ≤ rest k l
 | [], k, _ => by rw [rest_nil]; exact Int.le_refl 0
 | a :: l, 0, h => by
   have := rest_nn 0 fun x hx => h x (List.mem_cons_of_mem a hx)
   have := h a List.mem_cons_self
   rw [rest_z]; omega
 | a :: l, k + 1, h => by
   have := rest_nn k fun x hx => h x (List.mem_cons_of_mem a hx)
   have := rest_nn (k + 1) fun x hx => h x (List.mem_cons_of_mem a hx)
   have := h a List.mem_cons_self
   rw [rest_s]; omega
theorem rest_mono {α : Type} {f g : α → Int} : ∀ {l : List α} (k : Nat), (∀ x ∈ l, f x ≤ g x) → rest k (l.map f) ≤ rest k (l.map g)
 | [], k, _ => by simp [rest_nil]
 | a :: l, 0, h => by
   have := rest_mono (f := f) (g := g) 0 fun x hx => h x (List.mem_cons_of_mem a hx)
   have := h a List.mem_cons_self
   rw [List.map_cons, List.map_cons, rest_z, rest_z]; omega
 | a :: l, k + 1, h => by
   have := rest_mono (f := f) (g := g) k fun x hx => h x (List.mem_cons_of_mem a hx)
   have := rest_mono (f := f) (g := g) (k + 1) fun x hx => h x (List.mem_cons_of_mem a hx)
   have := h a List.mem_cons_self
   rw [List.map_cons, List.map_cons, rest_s, rest_s]; omega
theorem rest_perm {l l' : List Int} (h : l.Perm l') : ∀ k, rest k l = rest k l' := by
 induction h with
 | nil => exact fun _ => rfl
 | cons a _ ih => intro k; cases k with
   | zero => rw [rest_z, rest_z, ih]
   | succ k => rw [rest_s, rest_s, ih, ih]
 | swap a b l => intro k; match k with
   | 0 => rw [rest_z, rest_z, rest_z, rest_z]; omega
   | 1 =>
     have e1 : ∀ x y : Int, rest 1 (x :: y :: l) = min (y + rest 0 l) (x + min (rest 0 l) (y + rest 1 l)) := fun _ _ => rfl
     rw [e1, e1]; omega
   | k + 2 => rw [rest_s, rest_s, rest_s, rest_s, rest_s, rest_s]; omega
 | trans _ _ ih1 ih2 => exact fun k => (ih1 k).trans (ih2 k)
theorem rest_app0 : ∀ (l l' : List Int), rest 0 (l ++ l') = rest 0 l + rest 0 l'
 | [], l' => by simp [rest_nil]
 | a :: l, l' => by
   have := rest_app0 l l'
   rw [List.cons_append, rest_z, rest_z, this]; omega
theorem drop_le : ∀ (l : List Int) (a : Int) (k : Nat), (∀ x ∈ l, x ≤ a) → 0 ≤ a → rest 0 (l.drop k) ≤ a + rest 0 (l.drop (k + 1))
 | [], a, k, _, h => by simp [rest_nil, h]
 | b :: l, a, 0, h, _ => by
   have := h b List.mem_cons_self
   simp only [List.drop_zero, List.drop_succ_cons, rest_z]; omega
 | b :: l, a, k + 1, h, h0 => drop_le l a k (fun x hx => h x (List.mem_cons_of_mem b hx)) h0
theorem rest_sorted : ∀ {l : List Int} (k : Nat), l.Pairwise (fun x y => y ≤ x) → (∀ x ∈ l, 0 ≤ x) → rest k l = rest 0 (l.drop k)
 | [], k, _, _ => by simp [rest_nil]
 | a :: l, 0, _, _ => rfl
 | a :: l, k + 1, h, h0 => by
   obtain ⟨h1, h2⟩ := List.pairwise_cons.1 h
   have e1 := rest_sorted k h2 fun x hx => h0 x (List.mem_cons_of_mem a hx)
   have e2 := rest_sorted (k + 1) h2 fun x hx => h0 x (List.mem_cons_of_mem a hx)
   have := drop_le l a k h1 (h0 a List.mem_cons_self)
   rw [rest_s, e1, e2, List.drop_succ_cons]
   omega
theorem rest0_le {B : Int} : ∀ {l : List Int}, (∀ x ∈ l, x ≤ B) → rest 0 l ≤ l.length * B
 | [], _ => by simp [rest_nil]
 | a :: l, h => by
   have := rest0_le fun x hx => h x (List.mem_cons_of_mem a hx)
   have := h a List.mem_cons_self
   rw [rest_z, List.length_cons]
   have e : ((l.length + 1 : Nat) : Int) * B = l.length * B + B := by rw [Int.natCast_add, Int.add_mul]; simp
   omega
end Go.Proofs.Ytgkmodjcoedonaa
namespace Go.Proofs.Ytgkmodjcoedonaa
open Go Go.Eng
set_option maxRecDepth 100000
def mx (m : Ar 196) (a b : Nat) : Int := m.l.getD (a * 14 + b) 0
def vx (x : Ar 14) (a : Nat) : Int := x.l.getD a 0
theorem at2_mx (m : Ar 196) (a b : Int) : m.at2 14 a b = mx m a.toNat b.toNat := rfl
theorem at1_vx (x : Ar 14) (a : Int) : x.at1 a = vx x a.toNat := rfl
theorem getD_set {l : List Int} {k j : Nat} {v : Int} (hk : k < l.length) : (l.set k v).getD j 0 = if j = k then v else l.getD j 0 := by
 simp only [List.getD_eq_getElem?_getD, List.getElem?_set]
 by_cases e : k = j
 · subst e; simp [hk]
 · rw [if_neg e, if_neg (fun h => e h.symm)]
theorem mx_st2 (m : Ar 196) {i j : Int} (hi : 0 ≤ i ∧ i < 14) (hj : 0 ≤ j ∧ j < 14) (v : Int) {a b : Nat} (ha : a < 14) (hb : b < 14) : mx (m.st2 14 i j v) a b = if a = i.toNat ∧ b = j.toNat then v else mx m a b := by
 unfold mx Ar.st2
 rw [getD_set (by rw [m.h]; omega)]
 by_cases e : a = i.toNat ∧ b = j.toNat
 · rw [if_pos e, if_pos (by omega)]
 · rw [if_neg e, if_neg (by omega)]
theorem vx_st1 (x : Ar 14) {i : Int} (hi : 0 ≤ i ∧ i < 14) (v : Int) {a : Nat} : vx (x.st1 i v) a = if a = i.toNat then v else vx x a := by
 unfold vx Ar.st1
 rw [getD_set (by rw [x.h]; omega)]
theorem mx_zero (a b : Nat) : mx (Ar.zero 196) a b = 0 := by
 unfold mx Ar.zero
 simp only [List.getD_eq_getElem?_getD, List.getElem?_replicate]
 split <;> rfl
theorem vx_zero (a : Nat) : vx (Ar.zero 14) a = 0 := by
 unfold vx Ar.zero
 simp only [List.getD_eq_getElem?_getD, List.getElem?_replicate]
 split <;> rfl
def bits (p : Nat → Bool) : Nat → Nat
 | 0 => 0
 | k + 1 => bits p k ||| (if p k then 2 ^ k else 0)
theorem bits_test (p : Nat → Bool) : ∀ (k i : Nat), (bits p k).testBit i = (decide (i < k) && p i)
 | 0, i => by simp [bits]
 | k + 1, i => by
   simp only [bits, Nat.testBit_or, bits_test p k i]
   by_cases h : p k
   · rw [if_pos h, Nat.testBit_two_pow]
     by_cases e : k = i
     · subst e; simp [h]
     · have : (decide (k = i)) = false := by simp [e]
       rw [this, Bool.or_false]
       congr 1
       simp only [decide_eq_decide]; omega
   · rw [if_neg h]
     simp only [Nat.zero_testBit, Bool.or_false]
     by_cases e : i = k
     · subst e; simp [h]
     · congr 1; simp only [decide_eq_decide]; omega
theorem bits_lt (p : Nat → Bool) : ∀ k, bits p k < 2 ^ k
 | 0 => by simp [bits]
 | k + 1 => by
   simp only [bits]
   refine Nat.or_lt_two_pow (Nat.lt_of_lt_of_le (bits_lt p k) (Nat.pow_le_pow_right (by omega) (by omega))) ?_
   split
   · exact Nat.pow_lt_pow_right (by omega) (by omega)
   · exact Nat.two_pow_pos _

def par (L : Ar 14) (x : Nat) : Nat := (vx L x - 1).toNat
def und (L : Ar 14) : Int := sm 14 fun x => if vx L x = 0 then 1 else 0
theorem und_nn (L : Ar 14) : 0 ≤ und L := sm_nn fun i _ => by split <;> omega
theorem und_see (L : Ar 14) {x : Nat} (hx : x < 14) (h0 : vx L x = 0) {v : Int} (hv : v ≠ 0) : und (L.st1 (x : Int) v) = und L - 1 := by
 unfold und
 have e : sm 14 (fun i => if vx L i = 0 then (1 : Int) else 0) = sm 14 (fun i => (if vx (L.st1 (x : Int) v) i = 0 then (1 : Int) else 0) + if i = x then 1 else 0) := sm_congr fun i hi => by
   rw [vx_st1 L (by omega) v, Int.toNat_natCast]
   by_cases e : i = x
   · subst e; rw [if_pos rfl, if_pos rfl, if_pos h0, if_neg hv]; rfl
   · rw [if_neg e, if_neg e, Int.add_zero]
 rw [e, sm_add, sm_one, if_pos hx]; omega
structure BC (M : Nat → Nat → Int) (s : Nat) (L : Ar 14) (r : Nat → Nat) : Prop where
 nn : ∀ x, x < 14 → 0 ≤ vx L x ∧ vx L x ≤ 14
 src : vx L s = (s : Int) + 1
 pr : ∀ x, x < 14 → x ≠ s → 0 < vx L x → 0 < vx L (par L x) ∧ M (par L x) x ≠ 0 ∧ r (par L x) < r x
 rk : ∀ x, x < 14 → 0 < vx L x → (r x : Int) + und L ≤ 14
theorem BC.par_lt {M : Nat → Nat → Int} {s : Nat} {L : Ar 14} {r : Nat → Nat} (h : BC M s L r) {x : Nat} (hx : x < 14) : par L x < 14 := by
 have := h.nn x hx; unfold par; omega
theorem BC.see {M : Nat → Nat → Int} {s : Nat} {L : Ar 14} {r : Nat → Nat} (h : BC M s L r) (hs : s < 14) {at_ x : Nat} (ha : at_ < 14) (hsa : 0 < vx L at_) (hx : x < 14) (h0 : vx L x = 0) (hm : M at_ x ≠ 0) :
   BC M s (L.st1 (x : Int) ((at_ : Int) + 1)) (fun y => if y = x then r at_ + 1 else r y) := by
 have hv : ∀ y, vx (L.st1 (x : Int) ((at_ : Int) + 1)) y = if y = x then (at_ : Int) + 1 else vx L y := fun y => by rw [vx_st1 L (by omega), Int.toNat_natCast]
 have hne : at_ ≠ x := fun e => by subst e; omega
 have hsx : s ≠ x := fun e => by have := h.src; subst e; omega
 have hu := und_see L hx h0 (v := (at_ : Int) + 1) (by omega)
 refine ⟨fun y hy => ?_, ?_, fun y hy hys hsy => ?_, fun y hy hsy => ?_⟩
 · rw [hv]; split
   · omega
   · exact h.nn y hy
 · rw [hv, if_neg hsx]; exact h.src
 · have hp : par (L.st1 (x : Int) ((at_ : Int) + 1)) y = if y = x then at_ else par L y := by
     unfold par; rw [hv]; split
     · omega
     · rfl
   rw [hv] at hsy
   rw [hp]
   by_cases e : y = x
   · subst e
     simp only [if_true, if_neg hne]
     rw [hv, if_neg hne]
     exact ⟨hsa, hm, by omega⟩
   · rw [if_neg e] at hsy
     obtain ⟨h1, h2, h3⟩ := h.pr y hy hys hsy
     have hpx : par L y ≠ x := fun e2 => by rw [e2] at h1; omega
     simp only [if_neg e, if_neg hpx]
     rw [hv, if_neg hpx]
     exact ⟨h1, h2, h3⟩
 · rw [hv] at hsy
   rw [hu]
   by_cases e : y = x
   · subst e
     have := h.rk at_ ha hsa
     simp only [if_true]; omega
   · simp only [if_neg e] at hsy ⊢
     have := h.rk y hy hsy
     omega
theorem BC.within {M : Nat → Nat → Int} {s : Nat} {L : Ar 14} {r : Nat → Nat} (h : BC M s L r) {S : Nat → Bool} (hS : S s = true) (hc : ∀ a b, a < 14 → b < 14 → S a = true → S b = false → M a b = 0) :
   ∀ (k x : Nat), r x ≤ k → x < 14 → 0 < vx L x → S x = true := by
 intro k
 induction k with
 | zero =>
   intro x hk hx hs
   by_cases e : x = s
   · rw [e]; exact hS
   · have := (h.pr x hx e hs).2.2; omega
 | succ k ih =>
   intro x hk hx hs
   by_cases e : x = s
   · rw [e]; exact hS
   · obtain ⟨h1, h2, h3⟩ := h.pr x hx e hs
     have hp := ih (par L x) (by omega) (h.par_lt hx) h1
     cases hb : S x with
     | true => rfl
     | false => exact absurd (hc _ _ (h.par_lt hx) hx hp hb) h2
theorem b3_ok {t s : Nat} (ht : t < 14) (hs : s < 14) (s1 : Int × Int × (Ar 196)) {at_ : Nat} (ha : at_ < 14) (q0 : List Int) (L0 : Ar 14) (pot : Int) (hpot : pot ≤ 100) {r0 : Nat → Nat} (h0 : BC (mx s1.2.2) s L0 r0) (ht0 : vx L0 t = 0) (hsa : 0 < vx L0 at_)
   (hq0 : ∀ e ∈ q0, (0 ≤ e ∧ e < 14) ∧ 0 < vx L0 e.toNat) (hc0 : ∀ x, x < 14 → 0 < vx L0 x → (x : Int) ∈ q0 ∨ x = at_ ∨ ∀ y, y < 14 → mx s1.2.2 x y ≠ 0 → 0 < vx L0 y) (hp0 : (q0.length : Int) + und L0 = pot) :
   ∃ o, lp (push_b3 (t : Int) (at_ : Int) s1) FU (q0, 0, L0) = some o ∧ match o with
     | .inl (q, _, L) => ∃ r, BC (mx s1.2.2) s L r ∧ vx L t = 0 ∧ (∀ e ∈ q, (0 ≤ e ∧ e < 14) ∧ 0 < vx L e.toNat) ∧ (∀ x, x < 14 → 0 < vx L x → (x : Int) ∈ q ∨ ∀ y, y < 14 → mx s1.2.2 x y ≠ 0 → 0 < vx L y) ∧ (q.length : Int) + und L = pot
     | .inr (_, _, L) => ∃ r, BC (mx s1.2.2) s L r ∧ 0 < vx L t := by
 refine lp_runF (fun z : List Int × Int × Ar 14 => (0 ≤ z.2.1 ∧ z.2.1 ≤ 14) ∧ ∃ r, BC (mx s1.2.2) s z.2.2 r ∧ vx z.2.2 t = 0 ∧ 0 < vx z.2.2 at_ ∧ (∀ e ∈ z.1, (0 ≤ e ∧ e < 14) ∧ 0 < vx z.2.2 e.toNat) ∧
     (∀ x, x < 14 → 0 < vx z.2.2 x → (x : Int) ∈ z.1 ∨ x = at_ ∨ ∀ y, y < 14 → mx s1.2.2 x y ≠ 0 → 0 < vx z.2.2 y) ∧ (∀ y : Nat, (y : Int) < z.2.1 → mx s1.2.2 at_ y ≠ 0 → 0 < vx z.2.2 y) ∧ (z.1.length : Int) + und z.2.2 = pot)
   (fun z => (14 - z.2.1).toNat) _ ?_ (q0, 0, L0) ⟨⟨by simp only; omega, by simp only; omega⟩, r0, h0, ht0, hsa, hq0, hc0, fun y hy => by simp only at hy; omega, hp0⟩ (by simp only; omega)
 rintro ⟨q, nx, L⟩ ⟨⟨hn0, hn1⟩, r, hb, hvt, hva, hq, hc, hy, hp⟩
 simp only at hn0 hn1 hb hvt hva hq hc hy hp ⊢
 have hun := und_nn L
 unfold push_b3
 simp only [cn_dec, jn_d]
 by_cases hlt : nx < 14
 · rw [if_pos hlt, gd_p _ ⟨hn0, hlt⟩]
   obtain ⟨x, rfl⟩ : ∃ x : Nat, nx = (x : Int) := ⟨nx.toNat, by omega⟩
   have hx : x < 14 := by omega
   rw [at1_vx, Int.toNat_natCast]
   have step : ∀ (hseen : 0 < vx L x ∨ mx s1.2.2 at_ x = 0), (∃ s', (some (Ct.nx (q, wr ((x : Int) + 1), L)) : Option (Ct (List Int × Int × Ar 14) (List Int × Int × Ar 14))) = some (.nx s') ∧ ((0 ≤ s'.2.1 ∧ s'.2.1 ≤ 14) ∧ ∃ r, BC (mx s1.2.2) s s'.2.2 r ∧ vx s'.2.2 t = 0 ∧ 0 < vx s'.2.2 at_ ∧ (∀ e ∈ s'.1, (0 ≤ e ∧ e < 14) ∧ 0 < vx s'.2.2 e.toNat) ∧
     (∀ x, x < 14 → 0 < vx s'.2.2 x → (x : Int) ∈ s'.1 ∨ x = at_ ∨ ∀ y, y < 14 → mx s1.2.2 x y ≠ 0 → 0 < vx s'.2.2 y) ∧ (∀ y : Nat, (y : Int) < s'.2.1 → mx s1.2.2 at_ y ≠ 0 → 0 < vx s'.2.2 y) ∧ (s'.1.length : Int) + und s'.2.2 = pot) ∧ (14 - s'.2.1).toNat < (14 - (x : Int)).toNat) := fun hseen => by
     rw [wr_id (by omega) (by omega)]
     refine ⟨_, rfl, ⟨by simp only; omega, r, hb, hvt, hva, hq, hc, fun y hy1 hy2 => ?_, hp⟩, by simp only; omega⟩
     simp only at hy1
     by_cases e : y = x
     · subst e; rcases hseen with h | h
       · exact h
       · exact absurd h hy2
     · exact hy y (by omega) hy2
   by_cases h1 : vx L x > 0
   · rw [if_pos h1, cn_t]
     exact .inl (step (.inl h1))
   · rw [if_neg h1, gd_p _ (by omega), gd_p _ ⟨hn0, hlt⟩, at2_mx, Int.toNat_natCast, Int.toNat_natCast, cn_beq]
     by_cases h2 : mx s1.2.2 at_ x = 0
     · rw [if_pos h2]; exact .inl (step (.inr h2))
     · rw [if_neg h2, gd_p _ ⟨hn0, hlt⟩, wr_id (x := (at_ : Int) + 1) (by omega) (by omega)]
       have hx0 : vx L x = 0 := by have := (hb.nn x hx).1; omega
       have hb' := hb.see hs ha hva hx hx0 h2
       have hv : ∀ y, vx (L.st1 (x : Int) ((at_ : Int) + 1)) y = if y = x then (at_ : Int) + 1 else vx L y := fun y => by rw [vx_st1 L (by omega), Int.toNat_natCast]
       have hmono : ∀ y, 0 < vx L y → 0 < vx (L.st1 (x : Int) ((at_ : Int) + 1)) y := fun y h => by rw [hv]; split <;> omega
       simp only [cn_beq]
       by_cases h3 : (x : Int) = (t : Int)
       · rw [if_pos h3]
         refine .inr (.inr ⟨_, rfl, _, hb', ?_⟩)
         have : x = t := by omega
         subst this
         rw [hv, if_pos rfl]; omega
       · rw [if_neg h3, lt_d, ap_p (by simp; omega), wr_id (by omega) (by omega)]
         have hu := und_see L hx hx0 (v := (at_ : Int) + 1) (by omega)
         refine .inl ⟨_, rfl, ⟨by simp only; omega, _, hb', ?_, hmono _ hva, fun e he => ?_, fun y hy1 hy2 => ?_, fun y hy1 hy2 => ?_, ?_⟩, by simp only; omega⟩
         · rw [hv, if_neg (by omega)]; exact hvt
         · rcases List.mem_append.1 he with he | he
           · exact ⟨(hq e he).1, hmono _ (hq e he).2⟩
           · simp at he; subst he
             refine ⟨⟨hn0, hlt⟩, ?_⟩
             rw [Int.toNat_natCast, hv, if_pos rfl]; omega
         · simp only at hy2
           rw [hv] at hy2
           by_cases e : y = x
           · subst e; exact .inl (by simp)
           · rw [if_neg e] at hy2
             rcases hc y hy1 hy2 with h | h | h
             · exact .inl (by simp [h])
             · exact .inr (.inl h)
             · exact .inr (.inr fun z hz1 hz2 => hmono _ (h z hz1 hz2))
         · simp only at hy1
           by_cases e : y = x
           · subst e; show 0 < vx _ _; rw [hv, if_pos rfl]; omega
           · exact hmono _ (hy y (by omega) hy2)
         · simp only [List.length_append, List.length_singleton]
           rw [hu]; omega
 · rw [if_neg hlt]
   refine .inr (.inl ⟨_, rfl, r, hb, hvt, hq, fun x hx1 hx2 => ?_, hp⟩)
   rcases hc x hx1 hx2 with h | h | h
   · exact .inl h
   · subst h; exact .inr fun y hy1 hy2 => hy y (by omega) hy2
   · exact .inr h
end Go.Proofs.Ytgkmodjcoedonaa
namespace Go.Proofs.Ytgkmodjcoedonaa
open Go Go.Eng
set_option maxRecDepth 100000
theorem sub1_tail {q : List Int} (h : 0 < q.length) : sub q 1 (q.length : Int) = q.tail := by
 cases q with
 | nil => simp at h
 | cons a q => simp [sub]
theorem b2_ok {t s : Nat} (ht : t < 14) (hs : s < 14) (s1 : Int × Int × (Ar 196)) (L0 : Ar 14) {r0 : Nat → Nat} (h0 : BC (mx s1.2.2) s L0 r0) (ht0 : vx L0 t = 0) (q0 : List Int)
   (hq0 : ∀ e ∈ q0, (0 ≤ e ∧ e < 14) ∧ 0 < vx L0 e.toNat) (hc0 : ∀ x, x < 14 → 0 < vx L0 x → (x : Int) ∈ q0 ∨ ∀ y, y < 14 → mx s1.2.2 x y ≠ 0 → 0 < vx L0 y) (hp0 : (q0.length : Int) + und L0 ≤ 100) :
   ∃ q L, lp (push_b2 (t : Int) s1) FU (q0, L0) = some (.inl (q, L)) ∧ ∃ r, BC (mx s1.2.2) s L r ∧ (0 < vx L t ∨ (vx L t = 0 ∧ ∀ x, x < 14 → 0 < vx L x → ∀ y, y < 14 → mx s1.2.2 x y ≠ 0 → 0 < vx L y)) := by
 obtain ⟨o, e, ho⟩ := lp_runF (body := push_b2 (t : Int) s1) (fun z : List Int × Ar 14 => ∃ r, BC (mx s1.2.2) s z.2 r ∧ vx z.2 t = 0 ∧ (∀ e ∈ z.1, (0 ≤ e ∧ e < 14) ∧ 0 < vx z.2 e.toNat) ∧
     (∀ x, x < 14 → 0 < vx z.2 x → (x : Int) ∈ z.1 ∨ ∀ y, y < 14 → mx s1.2.2 x y ≠ 0 → 0 < vx z.2 y) ∧ (z.1.length : Int) + und z.2 ≤ 100)
   (fun z => ((z.1.length : Int) + und z.2).toNat)
   (fun o => match o with
     | .inl (_, L) => ∃ r, BC (mx s1.2.2) s L r ∧ (0 < vx L t ∨ (vx L t = 0 ∧ ∀ x, x < 14 → 0 < vx L x → ∀ y, y < 14 → mx s1.2.2 x y ≠ 0 → 0 < vx L y))
     | .inr _ => False) (fun z hz => by
     obtain ⟨q, L⟩ := z
     obtain ⟨r, hb, hvt, hq, hc, hp⟩ := hz
     simp only at hb hvt hq hc hp ⊢
     unfold push_b2
     simp only [cn_dec]
     by_cases hl : (q.length : Int) > 0
     · rw [if_pos hl, ix_p (by omega) (by simpa using hl)]
       simp only [Int.toNat_zero]
       cases q with
       | nil => simp at hl
       | cons a q =>
         have ha := hq a List.mem_cons_self
         obtain ⟨x, rfl⟩ : ∃ x : Nat, a = (x : Int) := ⟨a.toNat, by omega⟩
         rw [show ((x : Int) :: q).getD 0 default = (x : Int) from rfl, slc_p (by omega) (by omega) (by omega), sub1_tail (by simp), List.tail_cons]
         obtain ⟨o, e, ho⟩ := b3_ok (t := t) ht hs s1 (at_ := x) (by omega) q L ((q.length : Int) + und L) (by simp only [List.length_cons] at hp; omega) hb hvt (by have := ha.2; simpa using this) (fun e he => hq e (List.mem_cons_of_mem _ he))
           (fun y hy1 hy2 => by
             rcases hc y hy1 hy2 with h | h
             · rcases List.mem_cons.1 h with h | h
               · exact .inr (.inl (by omega))
               · exact .inl h
             · exact .inr (.inr h)) rfl
         rw [e, bd_s]
         match o, ho with
         | .inl (q', nx, L'), ⟨r', g1, g2, g3, g4, g5⟩ =>
           rw [smK_l]
           refine .inl ⟨_, rfl, ⟨r', g1, g2, g3, g4, ?_⟩, ?_⟩
           · show (q'.length : Int) + und L' ≤ 100
             simp only [List.length_cons] at hp; omega
           · have := und_nn L; have := und_nn L'; simp only [List.length_cons]; omega
         | .inr (q', nx, L'), ⟨r', g1, g2⟩ =>
           rw [smK_r]
           exact .inr (.inl ⟨_, rfl, r', g1, .inl g2⟩)
     · rw [if_neg hl]
       refine .inr (.inl ⟨_, rfl, r, hb, .inr ⟨hvt, fun x hx1 hx2 => ?_⟩⟩)
       rcases hc x hx1 hx2 with h | h
       · cases q with
         | nil => simp at h
         | cons a q => simp at hl
       · exact h) (q0, L0) ⟨r0, h0, ht0, hq0, hc0, hp0⟩ (by simp only; omega)
 match o, e, ho with
 | .inl (q, L), e, ho => exact ⟨q, L, e, ho⟩
theorem b4_ok (q : List Int) (L : Ar 14) (hn : ∀ x, x < 14 → 0 ≤ vx L x) :
   ∃ i, lp (push_b4 (q, L)) FU (0, 0) = some (.inl (((bits (fun x => decide (0 < vx L x)) 14 : Nat) : Int), i)) := by
 obtain ⟨s', e, h1, h2⟩ := lp_fold (body := push_b4 (q, L)) (fun k z => z.1 = ((bits (fun x => decide (0 < vx L x)) k : Nat) : Int) ∧ z.2 = (k : Int)) 14 (by decide)
   (fun k z hk hz => by
     obtain ⟨v, i⟩ := z
     obtain ⟨rfl, rfl⟩ := hz
     unfold push_b4
     simp only [cn_dec, jn_d]
     rw [if_pos (by omega), gd_p _ (by omega), at1_vx, Int.toNat_natCast]
     have hb := bits_lt (fun x => decide (0 < vx L x)) k
     have hk2 : 2 ^ k ≤ 2 ^ 14 := Nat.pow_le_pow_right (by omega) (by omega)
     have hw : wr ((k : Int) + 1) = ((k + 1 : Nat) : Int) := by rw [wr_id (by omega) (by omega)]; omega
     by_cases h : vx L k > 0
     · rw [if_pos h, gd_p _ (by omega), bshl_one (by omega), show ((2 : Int) ^ k) = ((2 ^ k : Nat) : Int) by simp, bor_nat (by omega) (by omega) (by omega) (by omega), hw]
       refine ⟨_, rfl, ?_, rfl⟩
       simp only [bits, Int.toNat_natCast]
       rw [if_pos (by simpa using h)]
     · rw [if_neg h, hw]
       refine ⟨_, rfl, ?_, rfl⟩
       simp only [bits]
       rw [if_neg (by simpa using h), Nat.or_zero])
   (fun z hz => by
     obtain ⟨v, i⟩ := z
     obtain ⟨rfl, rfl⟩ := hz
     unfold push_b4
     simp only [cn_dec]
     rw [if_neg (by omega)])
   (0, 0) ⟨rfl, rfl⟩
 obtain ⟨v, i⟩ := s'
 simp only at h1
 subst h1
 exact ⟨i, e⟩

theorem room_ok {M1 : Ar 196} {t s : Nat} (ht : t < 14) (_hs : s < 14) (hne : s ≠ t) {L : Ar 14} {r : Nat → Nat} (hb : BC (mx M1) s L r) (hst : 0 < vx L t) (hM : ∀ a b, a < 14 → b < 14 → 0 ≤ mx M1 a b) :
   ∃ room, push_1a_F (t : Int) (s : Int) L 4611686018427387903 M1 = some room ∧ 1 ≤ room ∧ ∃ P : Nat → Prop, P t ∧ ∀ x, P x → x < 14 ∧ x ≠ s ∧ 0 < vx L x ∧ room ≤ mx M1 (par L x) x ∧ (P (par L x) ∨ par L x = s) := by
 obtain ⟨o, e, ho⟩ := lp_runF (body := push_1a_b1 (s : Int) L M1) (fun z : Int × Int => ∃ x : Nat, z.1 = (x : Int) ∧ x < 14 ∧ 0 < vx L x ∧ 1 ≤ z.2 ∧ ∃ P : Nat → Prop, (P t ∨ x = t) ∧ ∀ y, P y → y < 14 ∧ y ≠ s ∧ 0 < vx L y ∧ z.2 ≤ mx M1 (par L y) y ∧ (P (par L y) ∨ par L y = x))
   (fun z => r z.1.toNat)
   (fun o => match o with
     | .inl (_, room) => 1 ≤ room ∧ ∃ P : Nat → Prop, P t ∧ ∀ x, P x → x < 14 ∧ x ≠ s ∧ 0 < vx L x ∧ room ≤ mx M1 (par L x) x ∧ (P (par L x) ∨ par L x = s)
     | .inr _ => False) (fun z hz => by
     obtain ⟨i, room⟩ := z
     obtain ⟨x, rfl, hx, hsx, hr, P, hP, hPs⟩ := hz
     simp only at hr hPs ⊢
     unfold push_1a_b1
     rw [cn_bne]
     by_cases hxs : (x : Int) = (s : Int)
     · rw [if_pos hxs]
       have : x = s := by omega
       subst this
       exact .inr (.inl ⟨_, rfl, hr, P, hP.resolve_right (fun h => hne h), hPs⟩)
     · rw [if_neg hxs]
       have hxs' : x ≠ s := by omega
       obtain ⟨p1, p2, p3⟩ := hb.pr x hx hxs' hsx
       have hp := hb.par_lt hx
       have hvn := hb.nn x hx
       have hpi : wr (vx L x - 1) = ((par L x : Nat) : Int) := by rw [wr_id (by omega) (by omega)]; unfold par; omega
       simp only [at1_vx, Int.toNat_natCast]
       rw [gd_p _ ⟨by omega, by omega⟩, hpi]
       unfold push_2_F
       rw [gd_p _ (by omega), gd_p _ (by omega), bd_s, gd_p _ (by omega), at2_mx, Int.toNat_natCast, Int.toNat_natCast]
       have hm := hM (par L x) x hp hx
       have hle1 : imin room (mx M1 (par L x) x) ≤ room := by unfold imin; split <;> omega
       have hle2 : imin room (mx M1 (par L x) x) ≤ mx M1 (par L x) x := by unfold imin; split <;> omega
       have hge : 1 ≤ imin room (mx M1 (par L x) x) := by unfold imin; split <;> omega
       refine .inl ⟨_, rfl, ⟨par L x, rfl, hp, p1, hge, fun y => P y ∨ y = x, ?_, fun y hy => ?_⟩, by simpa using p3⟩
       · rcases hP with h | h
         · exact .inl (.inl h)
         · exact .inl (.inr h.symm)
       · rcases hy with hy | rfl
         · obtain ⟨k1, k2, k3, k4, k5⟩ := hPs y hy
           exact ⟨k1, k2, k3, by simp only; omega, .inl (by rcases k5 with k5 | k5; exact .inl k5; exact .inr k5)⟩
         · exact ⟨hx, hxs', hsx, hle2, .inr rfl⟩) ((t : Int), 4611686018427387903) ⟨t, rfl, ht, hst, by simp only; omega, fun _ => False, .inr rfl, fun y h => h.elim⟩ (by have := hb.rk t ht hst; have := und_nn L; simp only [Int.toNat_natCast]; omega)
 match o, e, ho with
 | .inl (i, room), e, ⟨g1, P, g2, g3⟩ =>
   refine ⟨room, ?_, g1, P, g2, g3⟩
   unfold push_1a_F
   rw [e, bd_s, smK_l]
theorem take_ok {M1 : Ar 196} {B : Int} (hB : B ≤ 1000000000) {t s : Nat} (ht : t < 14) (_hs : s < 14) {L : Ar 14} {r : Nat → Nat} (hb : BC (mx M1) s L r) (hst : 0 < vx L t) (hM : ∀ a b, a < 14 → b < 14 → 0 ≤ mx M1 a b) (hMB : ∀ a b, a < 14 → b < 14 → mx M1 a b + mx M1 b a ≤ B)
   {room : Int} (hr : 1 ≤ room) {P : Nat → Prop} (hPt : P t) (hP : ∀ x, P x → x < 14 ∧ x ≠ s ∧ 0 < vx L x ∧ room ≤ mx M1 (par L x) x ∧ (P (par L x) ∨ par L x = s)) :
   ∃ M, push_1b_F (t : Int) (s : Int) L room M1 = some M ∧ Eng.Way 14 (mx M1) (mx M) t s room := by
 obtain ⟨o, e, ho⟩ := lp_runF (body := push_1b_b1 (s : Int) L room) (fun z : Int × Ar 196 => ∃ x : Nat, z.1 = (x : Int) ∧ x < 14 ∧ (P x ∨ x = s) ∧ Eng.Way 14 (mx M1) (mx z.2) t x room ∧ ∀ y, P y → r y ≤ r x → room ≤ mx z.2 (par L y) y)
   (fun z => r z.1.toNat)
   (fun o => match o with
     | .inl (_, M) => Eng.Way 14 (mx M1) (mx M) t s room
     | .inr _ => False) (fun z hz => by
     obtain ⟨i, M⟩ := z
     obtain ⟨x, rfl, hx, hPx, hw, hPs⟩ := hz
     simp only at hw hPs ⊢
     unfold push_1b_b1
     rw [cn_bne]
     by_cases hxs : (x : Int) = (s : Int)
     · rw [if_pos hxs]
       have : x = s := by omega
       subst this
       exact .inr (.inl ⟨_, rfl, hw⟩)
     · rw [if_neg hxs]
       have hxs' : x ≠ s := by omega
       have hPx := hPx.resolve_right hxs'
       obtain ⟨_, _, hsx, _, k5⟩ := hP x hPx
       obtain ⟨p1, p2, p3⟩ := hb.pr x hx hxs' hsx
       have hp := hb.par_lt hx
       have hvn := hb.nn x hx
       have hne : par L x ≠ x := fun e => by rw [e] at p3; omega
       have hpi : wr (vx L x - 1) = ((par L x : Nat) : Int) := by rw [wr_id (by omega) (by omega)]; unfold par; omega
       have hroom := hPs x hPx (Nat.le_refl _)
       have hup : ∀ a b, a < 14 → b < 14 → mx M a b ≤ B := fun a b ha hb' => by have h1 := hw.sy a b ha hb'; have h2 := hw.nn b a hb' ha; have h3 := hMB a b ha hb'; omega
       have hlo := hw.nn _ _ hp hx
       have hlo2 := hw.nn _ _ hx hp
       have hu1 := hup _ _ hp hx
       have hu2 := hup _ _ hx hp
       simp only [at1_vx, Int.toNat_natCast]
       rw [gd_p _ ⟨by omega, by omega⟩, hpi]
       unfold push_3_F
       simp only [at2_mx, Int.toNat_natCast]
       rw [gd_p _ (by omega), gd_p _ (by omega), gd_p _ (by omega), gd_p _ (by omega), gd_p _ (by omega), gd_p _ (by omega), gd_p _ (by omega), gd_p _ (by omega), bd_s, gd_p _ (by omega)]
       have e1 : mx (M.st2 14 ((par L x : Nat) : Int) (x : Int) (wr (mx M (par L x) x - room))) x (par L x) = mx M x (par L x) := by
         rw [mx_st2 M (by omega) (by omega) _ hx hp, if_neg (by omega)]
       rw [e1, wr_id (x := mx M (par L x) x - room) (by omega) (by omega), wr_id (x := mx M x (par L x) + room) (by omega) (by omega)]
       have hM' : ∀ a b, a < 14 → b < 14 → mx ((M.st2 14 ((par L x : Nat) : Int) (x : Int) (mx M (par L x) x - room)).st2 14 (x : Int) ((par L x : Nat) : Int) (mx M x (par L x) + room)) a b = aug (mx M) (par L x) x room a b := fun a b ha hb' => by
         rw [mx_st2 _ (by omega) (by omega) _ ha hb', mx_st2 _ (by omega) (by omega) _ ha hb']
         simp only [Int.toNat_natCast]
         unfold aug
         by_cases c1 : a = x ∧ b = par L x
         · obtain ⟨rfl, rfl⟩ := c1
           rw [if_pos ⟨rfl, rfl⟩, if_neg (by omega), if_pos ⟨rfl, rfl⟩]
         · rw [if_neg c1]
           by_cases c2 : a = par L x ∧ b = x
           · obtain ⟨rfl, rfl⟩ := c2
             rw [if_pos ⟨rfl, rfl⟩, if_pos ⟨rfl, rfl⟩]
           · rw [if_neg c2, if_neg c2, if_neg c1]
       have hw' := hw.step hne hp hx (by omega) hroom
       refine .inl ⟨_, rfl, ⟨par L x, rfl, hp, k5, ⟨fun a b ha hb' => by rw [hM' a b ha hb']; exact hw'.nn a b ha hb', fun a b ha hb' => by rw [hM' a b ha hb', hM' b a hb' ha]; exact hw'.sy a b ha hb', fun a ha => by rw [← hw'.row a ha]; exact sm_congr fun b hb' => hM' a b ha hb'⟩, fun y hy hry => ?_⟩, by simpa using p3⟩
       obtain ⟨y1, _, _, _, _⟩ := hP y hy
       have hyp := hb.par_lt y1
       simp only
       rw [hM' _ _ hyp y1]
       have h0 := hPs y hy (by omega)
       unfold aug
       split
       · rename_i c; obtain ⟨c1, rfl⟩ := c; omega
       · split
         · omega
         · exact h0) ((t : Int), M1) ⟨t, rfl, ht, .inl hPt, Eng.Way.start hM, fun y hy _ => (hP y hy).2.2.2.1⟩ (by have := hb.rk t ht hst; have := und_nn L; simp only [Int.toNat_natCast]; omega)
 match o, e, ho with
 | .inl (i, M), e, g =>
   refine ⟨M, ?_, g⟩
   unfold push_1b_F
   rw [e, bd_s, smK_l]
theorem maxflow_ok {M0 : Ar 196} {B : Int} (hB : B ≤ 1000000000) {t s : Nat} (ht : t < 14) (hs : s < 14) (hne : s ≠ t) (hM : ∀ a b, a < 14 → b < 14 → 0 ≤ mx M0 a b) (hMB : ∀ a b, a < 14 → b < 14 → mx M0 a b + mx M0 b a ≤ B) :
   ∃ (v : Int) (R : Nat → Bool) (M : Ar 196), push_F (s : Int) (t : Int) M0 = some (v, ((bits R 14 : Nat) : Int), M) ∧ Flo 14 (mx M0) (mx M) s t v ∧ 0 ≤ v ∧ R s = true ∧ R t = false ∧ (∀ a b, a < 14 → b < 14 → R a = true → R b = false → mx M a b = 0) ∧
     ∀ S : Nat → Bool, S s = true → (∀ a b, a < 14 → b < 14 → S a = true → S b = false → mx M a b = 0) → ∀ x, x < 14 → R x = true → S x = true := by
 have hB0 : 0 ≤ B := by have h1 := hM s t hs ht; have h2 := hM t s ht hs; have h3 := hMB s t hs ht; omega
 have hM0B : ∀ a b, a < 14 → b < 14 → mx M0 a b ≤ B := fun a b ha hb => by have h1 := hM b a hb ha; have h3 := hMB a b ha hb; omega
 have hcut : leav 14 (mx M0) (fun x => x == s) ≤ 14 * (14 * B) := by
   unfold leav
   refine Int.le_trans (sm_le (g := fun _ => 14 * B) fun a ha => ?_) (by simp only [sm]; omega)
   split
   · refine Int.le_trans (sm_le (g := fun _ => B) fun b hb => ?_) (by simp only [sm]; omega)
     simp only
     split
     · exact hB0
     · exact hM0B a b ha hb
   · omega
 obtain ⟨o, e, ho⟩ := lp_runF (body := push_b1 (s : Int) (t : Int)) (fun z : Int × Int × Ar 196 => Flo 14 (mx M0) (mx z.2.2) s t z.1 ∧ 0 ≤ z.1 ∧ z.2.1 = 0)
   (fun z => (leav 14 (mx M0) (fun x => x == s) - z.1).toNat)
   (fun o => match o with
     | .inl _ => False
     | .inr (v, re, M) => ∃ R : Nat → Bool, re = ((bits R 14 : Nat) : Int) ∧ Flo 14 (mx M0) (mx M) s t v ∧ 0 ≤ v ∧ R s = true ∧ R t = false ∧ (∀ a b, a < 14 → b < 14 → R a = true → R b = false → mx M a b = 0) ∧
       ∀ S : Nat → Bool, S s = true → (∀ a b, a < 14 → b < 14 → S a = true → S b = false → mx M a b = 0) → ∀ x, x < 14 → R x = true → S x = true) (fun z hz => by
     obtain ⟨v, re, M⟩ := z
     obtain ⟨hF, hv0, hre⟩ := hz
     simp only at hF hv0 hre
     subst hre
     have hvle : v ≤ leav 14 (mx M0) (fun x => x == s) := hF.le hs (by simp) (by simpa using fun h : t = s => hne h.symm)
     have hup : ∀ a b, a < 14 → b < 14 → mx M a b + mx M b a ≤ B := fun a b ha hb => by rw [hF.sy a b ha hb]; exact hMB a b ha hb
     have hv : ∀ y, vx ((Ar.zero 14).st1 (s : Int) ((s : Int) + 1)) y = if y = s then (s : Int) + 1 else 0 := fun y => by rw [vx_st1 _ (by omega), Int.toNat_natCast, vx_zero]
     have hb0 : BC (mx M) s ((Ar.zero 14).st1 (s : Int) ((s : Int) + 1)) (fun _ => 0) := by
       refine ⟨fun x hx => ?_, ?_, fun x hx h1 h2 => ?_, fun x hx h2 => ?_⟩
       · rw [hv]; split <;> omega
       · rw [hv, if_pos rfl]
       · rw [hv, if_neg h1] at h2; omega
       · have : und ((Ar.zero 14).st1 (s : Int) ((s : Int) + 1)) ≤ sm 14 fun _ => 1 := sm_le fun i _ => by split <;> omega
         simp only [sm] at this ⊢; omega
     have hund : und ((Ar.zero 14).st1 (s : Int) ((s : Int) + 1)) ≤ 14 := by
       have : und ((Ar.zero 14).st1 (s : Int) ((s : Int) + 1)) ≤ sm 14 fun _ => 1 := sm_le fun i _ => by split <;> omega
       simp only [sm] at this ⊢; omega
     obtain ⟨q, L, e2, r, hb, hfin⟩ := b2_ok ht hs (v, 0, M) _ hb0 (by rw [hv, if_neg fun h => hne h.symm]) [(s : Int)] (fun e he => by
         simp at he; subst he
         exact ⟨by omega, by rw [Int.toNat_natCast, hv, if_pos rfl]; omega⟩) (fun x hx h => by
         rw [hv] at h
         by_cases e : x = s
         · subst e; exact .inl (by simp)
         · rw [if_neg e] at h; omega) (by simp only [List.length_singleton]; omega)
     unfold push_b1
     rw [lt_d, gd_p _ (by omega)]
     simp only
     rw [wr_id (x := (s : Int) + 1) (by omega) (by omega), e2, bd_s, smK_l, gd_p _ (by omega), at1_vx, Int.toNat_natCast, cn_beq]
     simp only at hb hfin
     rcases hfin with hfound | ⟨h0, hclosed⟩
     · rw [if_neg (by simp only; omega)]
       obtain ⟨room, e3, hr, P, hPt, hP⟩ := room_ok ht hs hne hb hfound hF.nn
       obtain ⟨M', e4, hw⟩ := take_ok hB ht hs hb hfound hF.nn hup hr hPt hP
       rw [e3, bd_s, e4, bd_s]
       have hmore := hF.more hw hs hne
       have hle2 := hmore.le hs (S := fun x => x == s) (by simp) (by simpa using fun h : t = s => hne h.symm)
       rw [wr_id (by omega) (by omega)]
       exact .inl ⟨_, rfl, ⟨hmore, by simp only; omega, rfl⟩, by simp only; omega⟩
     · rw [if_pos (by simp only; exact h0)]
       obtain ⟨i, e5⟩ := b4_ok q L fun x hx => (hb.nn x hx).1
       rw [e5, bd_s, smK_l]
       refine .inr (.inr ⟨_, rfl, fun x => decide (0 < vx L x), rfl, hF, hv0, ?_, ?_, fun a b ha hb' h1 h2 => ?_, fun S hS hc x hx hR => ?_⟩)
       · have := hb.src; simp only [decide_eq_true_eq]; omega
       · simp only [decide_eq_false_iff_not]; omega
       · simp only [decide_eq_true_eq, decide_eq_false_iff_not] at h1 h2
         cases hd : decide (mx M a b = 0) with
         | true => simpa using hd
         | false => exact absurd (hclosed a ha h1 b hb' (by simpa using hd)) h2
       · exact hb.within hS hc _ x (Nat.le_refl _) hx (by simpa using hR)) (0, 0, M0) ⟨Flo.start hM, Int.le_refl _, rfl⟩ (by simp only; omega)
 match o, e, ho with
 | .inr (v, re, M), e, ⟨R, hre, g⟩ =>
   subst hre
   refine ⟨v, R, M, ?_, g⟩
   unfold push_F
   rw [e, bd_s, smK_r]
end Go.Proofs.Ytgkmodjcoedonaa
namespace Go.Proofs.Ytgkmodjcoedonaa
open Go Go.Eng
set_option maxRecDepth 100000
theorem getD_ltD {α : Type} [Inhabited α] {l : List α} {k : Nat} (h : k < l.length) : l.getD k default = l[k] := by simp [h]
theorem isInF (a b c : Int) : flow_isIn_F a b c = some (decide (b ≤ a) && decide (a ≤ c)) := by
 unfold flow_isIn_F
 simp only [jn_d, cn_dec]
 by_cases h : b ≤ a
 · rw [if_pos h]; simp [h]
 · rw [if_neg h]; simp [h]
structure EV (N : Int) (e : TEdge) : Prop where
 fr : 0 ≤ e.From ∧ e.From < N
 to : 0 ≤ e.To ∧ e.To < N
 ne : e.From ≠ e.To
 cp : 0 ≤ e.Capacity ∧ e.Capacity ≤ 10000
instance (N : Int) (e : TEdge) : Decidable (EV N e) := decidable_of_iff ((0 ≤ e.From ∧ e.From < N) ∧ (0 ≤ e.To ∧ e.To < N) ∧ e.From ≠ e.To ∧ 0 ≤ e.Capacity ∧ e.Capacity ≤ 10000)
 ⟨fun h => ⟨h.1, h.2.1, h.2.2.1, h.2.2.2⟩, fun h => ⟨h.fr, h.to, h.ne, h.cp⟩⟩
structure NV (n : TNet) : Prop where
 nn : 0 ≤ n.N ∧ n.N ≤ 12
 el : n.Edges.length ≤ 40
 ev : ∀ e ∈ n.Edges, EV n.N e
instance (n : TNet) : Decidable (NV n) := decidable_of_iff ((0 ≤ n.N ∧ n.N ≤ 12) ∧ n.Edges.length ≤ 40 ∧ ∀ e ∈ n.Edges, EV n.N e) ⟨fun h => ⟨h.1, h.2.1, h.2.2⟩, fun h => ⟨h.nn, h.el, h.ev⟩⟩
theorem bad_ok {n : TNet} (h0 : 0 ≤ n.N ∧ n.N ≤ 12) (e : TEdge) : flow_Valid_1_F e n = some (!decide (EV n.N e)) := by
 unfold flow_Valid_1_F
 simp only [jn_d, isInF, bd_s, cn_not]
 simp only [cn_if, Bool.and_eq_true, decide_eq_true_eq, beq_iff_eq]
 rw [wr_id (by omega) (by omega)]
 have key : ∀ p : Bool, (p = true ↔ EV n.N e) → (some (!p) : Option Bool) = some (!decide (EV n.N e)) := fun p hp => by
   congr 2
   cases hd : decide (EV n.N e) with
   | true => exact hp.2 (by simpa using hd)
   | false =>
     cases hq : p with
     | false => rfl
     | true => exact absurd (hp.1 hq) (by simpa using hd)
 by_cases h1 : 0 ≤ e.From ∧ e.From ≤ n.N - 1
 · rw [if_pos h1]
   by_cases h2 : 0 ≤ e.To ∧ e.To ≤ n.N - 1
   · rw [if_pos h2]
     by_cases h3 : e.From = e.To
     · rw [if_pos h3]; exact key false ⟨fun h => (Bool.false_ne_true h).elim, fun h => absurd h3 h.ne⟩
     · rw [if_neg h3]
       refine key _ ⟨fun h => ?_, fun h => ?_⟩
       · simp only [Bool.and_eq_true, decide_eq_true_eq] at h
         exact ⟨by omega, by omega, h3, h⟩
       · have := h.cp; simp only [Bool.and_eq_true, decide_eq_true_eq]; omega
   · rw [if_neg h2]; exact key false ⟨fun h => (Bool.false_ne_true h).elim, fun h => by have := h.to; omega⟩
 · rw [if_neg h1]; exact key false ⟨fun h => (Bool.false_ne_true h).elim, fun h => by have := h.fr; omega⟩
theorem any_loop {n : TNet} (h0 : 0 ≤ n.N ∧ n.N ≤ 12) {E : List TEdge} (hl : E.length ≤ 1000) : slices_ContainsFunc_Edge_47_F E n = some (!decide (∀ e ∈ E, EV n.N e)) := by
 obtain ⟨o, e, ho⟩ := lp_runF (body := slices_IndexFunc_Edge_47_b1 E n) (fun i : Int => (0 ≤ i ∧ i ≤ (E.length : Int)) ∧ ∀ j : Nat, (j : Int) < i → EV n.N (E.getD j default)) (fun i => ((E.length : Int) - i).toNat)
   (fun o => match o with
     | .inl _ => ∀ e ∈ E, EV n.N e
     | .inr r => 0 ≤ r ∧ ¬ ∀ e ∈ E, EV n.N e) (fun i hi => by
     obtain ⟨⟨i0, i1⟩, hi⟩ := hi
     unfold slices_IndexFunc_Edge_47_b1
     rw [cn_dec]
     by_cases h : i < (E.length : Int)
     · rw [if_pos h, ix_p i0 h, bad_ok h0, bd_s, cn_not]
       have hlt : i.toNat < E.length := by omega
       by_cases hb : EV n.N (E.getD i.toNat default)
       · rw [decide_eq_true hb, cn_t, wr_id (by omega) (by omega)]
         refine .inl ⟨_, rfl, ⟨by omega, fun j hj => ?_⟩, by omega⟩
         by_cases e : (j : Int) = i
         · rw [show j = i.toNat by omega]; exact hb
         · exact hi j (by omega)
       · rw [decide_eq_false hb, cn_f]
         refine .inr (.inr ⟨_, rfl, i0, fun hall => hb ?_⟩)
         rw [getD_ltD hlt]
         exact hall _ (List.getElem_mem hlt)
     · rw [if_neg h]
       refine .inr (.inl ⟨_, rfl, fun e he => ?_⟩)
       obtain ⟨j, hj, rfl⟩ := List.getElem_of_mem he
       have := hi j (by omega)
       rwa [getD_ltD hj] at this)
   0 ⟨by omega, fun j hj => by omega⟩ (by omega)
 unfold slices_ContainsFunc_Edge_47_F slices_IndexFunc_Edge_47_F
 rw [e, bd_s]
 match o, ho with
 | .inl _, ho => rw [smK_l, bd_s, decide_eq_true ho]; rfl
 | .inr r, ho => rw [smK_r, bd_s, decide_eq_false ho.2]; simp [ho.1]
theorem valid_iff (n : TNet) : flow_Valid_F n = some (decide (NV n)) := by
 unfold flow_Valid_F
 simp only [jn_d, isInF, bd_s, cn_not]
 simp only [cn_if, Bool.and_eq_true, decide_eq_true_eq]
 by_cases h0 : 0 ≤ n.N ∧ n.N ≤ 12
 · rw [if_pos h0]
   by_cases h1 : (n.Edges.length : Int) > 40
   · rw [if_pos h1, decide_eq_false fun h : NV n => by have := h.el; omega]
   · rw [if_neg h1, any_loop h0 (by omega), bd_s, Bool.not_not]
     congr 1
     simp only [decide_eq_decide]
     exact ⟨fun h => ⟨h0, by omega, h⟩, fun h => h.ev⟩
 · rw [if_neg h0]
   simp only [if_true]
   rw [decide_eq_false fun h : NV n => h0 h.nn]
structure EndsV (n : TNet) (s t : Nat) : Prop where
 v : NV n
 hs : (s : Int) < n.N
 ht : (t : Int) < n.N
 ne : s ≠ t
theorem isPair_ok {n : TNet} {s t : Nat} (h : EndsV n s t) : flow_isPair_F n (s : Int) (t : Int) = some true := by
 have hn := h.v.nn; have hs := h.hs; have ht := h.ht
 unfold flow_isPair_F
 simp only [jn_d, valid_iff, isInF, bd_s]
 rw [decide_eq_true h.v, cn_t, wr_id (by omega) (by omega), decide_eq_true (show (0 : Int) ≤ (s : Int) by omega), decide_eq_true (show (s : Int) ≤ n.N - 1 by omega), decide_eq_true (show (0 : Int) ≤ (t : Int) by omega), decide_eq_true (show (t : Int) ≤ n.N - 1 by omega)]
 simp only [Bool.and_self, cn_t]
 have : (s : Int) ≠ (t : Int) := by have := h.ne; omega
 simp [this]
def capM : List TEdge → Nat → Nat → Int
 | [], _, _ => 0
 | e :: E, a, b => (if e.From = (a : Int) ∧ e.To = (b : Int) then e.Capacity else 0) + capM E a b
theorem capM_app : ∀ (E F : List TEdge) (a b : Nat), capM (E ++ F) a b = capM E a b + capM F a b
 | [], F, a, b => by simp [capM]
 | e :: E, F, a, b => by simp only [List.cons_append, capM, capM_app E F a b]; omega
theorem capM_nn : ∀ {E : List TEdge}, (∀ e ∈ E, 0 ≤ e.Capacity) → ∀ a b, 0 ≤ capM E a b
 | [], _, _, _ => Int.le_refl _
 | e :: E, h, a, b => by
   have h1 := h e List.mem_cons_self
   have h2 := capM_nn (E := E) (fun e he => h e (List.mem_cons_of_mem _ he)) a b
   simp only [capM]; split <;> omega
theorem capM_le : ∀ {E : List TEdge}, (∀ e ∈ E, e.Capacity ≤ 10000) → ∀ a b, capM E a b ≤ E.length * 10000
 | [], _, _, _ => by simp [capM]
 | e :: E, h, a, b => by
   have h1 := h e List.mem_cons_self
   have h2 := capM_le (E := E) (fun e he => h e (List.mem_cons_of_mem _ he)) a b
   simp only [capM, List.length_cons]; split <;> omega
theorem capM_out {N : Int} : ∀ {E : List TEdge}, (∀ e ∈ E, EV N e) → ∀ {a b : Nat}, ¬ ((a : Int) < N ∧ (b : Int) < N) → capM E a b = 0
 | [], _, _, _, _ => rfl
 | e :: E, h, a, b, hn => by
   have h1 := h e List.mem_cons_self
   have := h1.fr; have := h1.to
   simp only [capM]
   rw [if_neg (by omega), capM_out (E := E) (fun e he => h e (List.mem_cons_of_mem _ he)) hn]; rfl
theorem open_ok {n : TNet} (h : NV n) : ∃ m, flow_open_F n = some m ∧ ∀ a b, a < 14 → b < 14 → mx m a b = capM n.Edges a b := by
 have hl := h.el
 have hn := h.nn
 obtain ⟨s', e, h1⟩ := lp_fold (body := flow_open_b1 n) (fun k z => z.1 = (k : Int) ∧ ∀ a b, a < 14 → b < 14 → mx z.2 a b = capM (n.Edges.take k) a b) n.Edges.length (by omega)
   (fun k z hk hz => by
     obtain ⟨i, m⟩ := z
     obtain ⟨rfl, hm⟩ := hz
     simp only at hm
     unfold flow_open_b1
     simp only [cn_dec]
     rw [if_pos (by omega), ix_n hk]
     have hmem : n.Edges.getD k default ∈ n.Edges := by rw [getD_ltD hk]; exact List.getElem_mem hk
     have hev := h.ev _ hmem
     generalize he : n.Edges.getD k default = ed at hev hmem ⊢
     have hfr := hev.fr; have hto := hev.to; have hcp := hev.cp
     rw [gd_p _ (by omega), gd_p _ (by omega), gd_p _ (by omega), gd_p _ (by omega), at2_mx, hm _ _ (by omega) (by omega)]
     have c1 := capM_nn (E := n.Edges.take k) (fun e he => (h.ev e (List.mem_of_mem_take he)).cp.1) ed.From.toNat ed.To.toNat
     have c2 := capM_le (E := n.Edges.take k) (fun e he => (h.ev e (List.mem_of_mem_take he)).cp.2) ed.From.toNat ed.To.toNat
     have c3 : (n.Edges.take k).length ≤ 40 := by rw [List.length_take]; omega
     have c4 : (((n.Edges.take k).length : Nat) : Int) * 10000 ≤ 400000 := by omega
     rw [wr_id (x := capM (n.Edges.take k) ed.From.toNat ed.To.toNat + ed.Capacity) (by omega) (by omega), wr_id (x := (k : Int) + 1) (by omega) (by omega)]
     refine ⟨_, rfl, by simp only; omega, fun a b ha hb => ?_⟩
     simp only
     rw [mx_st2 _ (by omega) (by omega) _ ha hb, List.take_succ_eq_append_getElem hk, capM_app, ← getD_ltD hk, he]
     simp only [capM]
     by_cases c : a = ed.From.toNat ∧ b = ed.To.toNat
     · obtain ⟨rfl, rfl⟩ := c
       rw [if_pos ⟨rfl, rfl⟩, if_pos (by omega)]; omega
     · rw [if_neg c, if_neg (by omega), hm a b ha hb]; omega)
   (fun z hz => by
     obtain ⟨i, m⟩ := z
     obtain ⟨rfl, hm⟩ := hz
     unfold flow_open_b1
     simp only [cn_dec]
     rw [if_neg (by omega)])
   (0, Ar.zero 196) ⟨rfl, fun a b _ _ => by simp only [List.take_zero, capM]; exact mx_zero a b⟩
 refine ⟨s'.2, ?_, fun a b ha hb => by rw [h1.2 a b ha hb, List.take_length]⟩
 unfold flow_open_F
 rw [e, bd_s, smK_l]
end Go.Proofs.Ytgkmodjcoedonaa
namespace Go.Proofs.Ytgkmodjcoedonaa
open Go Go.Eng
set_option maxRecDepth 100000
def flM : List TEdge → List Int → Nat → Nat → Int
 | e :: E, x :: l, a, b => (if e.From = (a : Int) ∧ e.To = (b : Int) then x else 0) + flM E l a b
 | _, _, _, _ => 0
theorem flM_app : ∀ (E : List TEdge) (l : List Int), E.length = l.length → ∀ (e : TEdge) (x : Int) (a b : Nat), flM (E ++ [e]) (l ++ [x]) a b = flM E l a b + (if e.From = (a : Int) ∧ e.To = (b : Int) then x else 0)
 | [], [], _, e, x, a, b => by simp [flM]
 | e' :: E, x' :: l, h, e, x, a, b => by
   simp only [List.cons_append, flM, flM_app E l (by simpa using h) e x a b]; omega
 | [], _ :: _, h, _, _, _, _ => by simp at h
 | _ :: _, [], h, _, _, _, _ => by simp at h
def okA (E : List TEdge) (l : List Int) : Prop := l.length = E.length ∧ ∀ i, i < E.length → 0 ≤ l.getD i 0 ∧ l.getD i 0 ≤ (E.getD i default).Capacity
theorem getD_app1 {α : Type} {l : List α} {x d : α} : (l ++ [x]).getD l.length d = x := by simp
theorem getD_appL {α : Type} {l : List α} {x d : α} {i : Nat} (h : i < l.length) : (l ++ [x]).getD i d = l.getD i d := by
 simp only [List.getD_eq_getElem?_getD]
 rw [List.getElem?_append_left h]
theorem used_ok {m0 : Ar 196} (U0 : Ar 196) (hU : ∀ a b, a < 14 → b < 14 → (0 ≤ mx U0 a b ∧ mx U0 a b ≤ 1000000000) ∧ 0 ≤ mx m0 a b ∧ mx m0 a b ≤ 1000000000) :
   ∃ i U, lp (flow_amounts_b1 m0) FU (0, U0) = some (.inl (i, U)) ∧ ∀ a b, a < 14 → b < 14 → mx U a b = imax (mx U0 a b - mx m0 a b) 0 := by
 obtain ⟨s', e, h1⟩ := lp_fold (body := flow_amounts_b1 m0) (fun k z => z.1 = (k : Int) ∧ ∀ a b, a < 14 → b < 14 → mx z.2 a b = if a < k then imax (mx U0 a b - mx m0 a b) 0 else mx U0 a b) 14 (by decide)
   (fun k z hk hz => by
     obtain ⟨i, U⟩ := z
     obtain ⟨rfl, hu⟩ := hz
     simp only at hu
     unfold flow_amounts_b1
     simp only [cn_dec]
     rw [if_pos (by omega)]
     obtain ⟨s2, e2, h2⟩ := lp_fold (body := flow_amounts_b2 m0 ((k : Int), U)) (fun j z => z.1 = (j : Int) ∧ ∀ a b, a < 14 → b < 14 → mx z.2 a b = if a < k ∨ (a = k ∧ b < j) then imax (mx U0 a b - mx m0 a b) 0 else mx U0 a b) 14 (by decide)
       (fun j z hj hz => by
         obtain ⟨i, V⟩ := z
         obtain ⟨rfl, hv⟩ := hz
         simp only at hv
         unfold flow_amounts_b2
         simp only [cn_dec]
         rw [if_pos (by omega), gd_p _ (by omega), gd_p _ (by omega), gd_p _ (by omega), gd_p _ (by omega), gd_p _ (by omega), gd_p _ (by omega)]
         simp only [at2_mx, Int.toNat_natCast]
         rw [hv k j hk hj, if_neg (by omega)]
         have hb := hU k j hk hj
         rw [wr_id (x := mx U0 k j - mx m0 k j) (by omega) (by omega), wr_id (x := (j : Int) + 1) (by omega) (by omega)]
         refine ⟨_, rfl, by simp only; omega, fun a b ha hb => ?_⟩
         simp only
         rw [mx_st2 _ (by omega) (by omega) _ ha hb]
         simp only [Int.toNat_natCast]
         by_cases c : a = k ∧ b = j
         · obtain ⟨rfl, rfl⟩ := c
           rw [if_pos ⟨rfl, rfl⟩, if_pos (.inr ⟨rfl, by omega⟩)]
         · rw [if_neg c, hv a b ha hb]
           by_cases c2 : a < k ∨ (a = k ∧ b < j)
           · rw [if_pos c2, if_pos (by omega)]
           · rw [if_neg c2, if_neg (by omega)])
       (fun z hz => by
         obtain ⟨i, V⟩ := z
         obtain ⟨rfl, hv⟩ := hz
         unfold flow_amounts_b2
         simp only [cn_dec]
         rw [if_neg (by omega)])
       (0, U) ⟨rfl, fun a b ha hb => by
         simp only
         rw [hu a b ha hb]
         by_cases c : a < k
         · rw [if_pos c, if_pos (.inl c)]
         · rw [if_neg c, if_neg (by omega)]⟩
     rw [e2, bd_s, smK_l, wr_id (x := (k : Int) + 1) (by omega) (by omega)]
     refine ⟨_, rfl, by simp only; omega, fun a b ha hb => ?_⟩
     simp only
     rw [h2.2 a b ha hb]
     by_cases c : a < k + 1
     · rw [if_pos c, if_pos (by omega)]
     · rw [if_neg c, if_neg (by omega)])
   (fun z hz => by
     obtain ⟨i, U⟩ := z
     obtain ⟨rfl, hu⟩ := hz
     unfold flow_amounts_b1
     simp only [cn_dec]
     rw [if_neg (by omega)])
   (0, U0) ⟨rfl, fun a b _ _ => by simp only; rw [if_neg (by omega)]⟩
 obtain ⟨i, U⟩ := s'
 exact ⟨i, U, e, fun a b ha hb => by have := h1.2 a b ha hb; rwa [if_pos ha] at this⟩
theorem amounts_ok {n : TNet} (h : NV n) {m0 : Ar 196} (hm : ∀ a b, a < 14 → b < 14 → 0 ≤ mx m0 a b ∧ mx m0 a b ≤ 1000000000) :
   ∃ l, flow_amounts_F n m0 = some l ∧ okA n.Edges l ∧ ∀ a b, a < 14 → b < 14 → flM n.Edges l a b = imax (capM n.Edges a b - mx m0 a b) 0 := by
 have hl := h.el
 have hn := h.nn
 obtain ⟨U0, e0, hU0⟩ := open_ok h
 have hcap : ∀ a b, 0 ≤ capM n.Edges a b ∧ capM n.Edges a b ≤ 400000 := fun a b => by
   have c1 := capM_nn (E := n.Edges) (fun e he => (h.ev e he).cp.1) a b
   have c2 := capM_le (E := n.Edges) (fun e he => (h.ev e he).cp.2) a b
   omega
 obtain ⟨i, U, e1, hU⟩ := used_ok (m0 := m0) U0 fun a b ha hb => by
   rw [hU0 a b ha hb]; have := hcap a b; have := hm a b ha hb; omega
 obtain ⟨s', e2, h1⟩ := lp_fold (body := flow_amounts_b3 n) (fun k z => z.2.1 = (k : Int) ∧ z.1.length = k ∧ (∀ i, i < k → 0 ≤ z.1.getD i 0 ∧ z.1.getD i 0 ≤ (n.Edges.getD i default).Capacity) ∧
     ∀ a b, a < 14 → b < 14 → mx z.2.2 a b = mx U a b - flM (n.Edges.take k) z.1 a b ∧ 0 ≤ mx z.2.2 a b ∧ mx z.2.2 a b ≤ capM (n.Edges.drop k) a b) n.Edges.length (by omega)
   (fun k z hk hz => by
     obtain ⟨l, i, V⟩ := z
     obtain ⟨rfl, hlen, hr, hv⟩ := hz
     simp only at hlen hr hv
     unfold flow_amounts_b3
     simp only [cn_dec]
     rw [if_pos (by omega), ix_n hk]
     have hmem : n.Edges.getD k default ∈ n.Edges := by rw [getD_ltD hk]; exact List.getElem_mem hk
     have hev := h.ev _ hmem
     have hdrop : n.Edges.drop k = n.Edges.getD k default :: n.Edges.drop (k + 1) := by rw [List.drop_eq_getElem_cons hk, getD_ltD hk]
     have htake : n.Edges.take (k + 1) = n.Edges.take k ++ [n.Edges.getD k default] := by rw [List.take_succ_eq_append_getElem hk, getD_ltD hk]
     generalize he : n.Edges.getD k default = ed at hev hmem hdrop htake ⊢
     have hfr := hev.fr; have hto := hev.to; have hcp := hev.cp
     rw [gd_p _ (by omega), gd_p _ (by omega), at2_mx]
     rw [gd_p _ (by omega), gd_p _ (by omega), gd_p _ (by omega), gd_p _ (by omega)]
     obtain ⟨v1, v2, v3⟩ := hv ed.From.toNat ed.To.toNat (by omega) (by omega)
     have hc2 : capM (n.Edges.drop k) ed.From.toNat ed.To.toNat ≤ 400000 := by
       have c2 := capM_le (E := n.Edges.drop k) (fun e he => (h.ev e (List.mem_of_mem_drop he)).cp.2) ed.From.toNat ed.To.toNat
       have : (n.Edges.drop k).length ≤ 40 := by rw [List.length_drop]; omega
       omega
     have hmin1 : imin ed.Capacity (mx V ed.From.toNat ed.To.toNat) ≤ ed.Capacity := by unfold imin; split <;> omega
     have hmin2 : imin ed.Capacity (mx V ed.From.toNat ed.To.toNat) ≤ mx V ed.From.toNat ed.To.toNat := by unfold imin; split <;> omega
     have hmin3 : 0 ≤ imin ed.Capacity (mx V ed.From.toNat ed.To.toNat) := by unfold imin; split <;> omega
     have hmin4 : mx V ed.From.toNat ed.To.toNat - imin ed.Capacity (mx V ed.From.toNat ed.To.toNat) = 0 ∨ imin ed.Capacity (mx V ed.From.toNat ed.To.toNat) = ed.Capacity := by unfold imin; split <;> omega
     generalize imin ed.Capacity (mx V ed.From.toNat ed.To.toNat) = x at hmin1 hmin2 hmin3 hmin4 ⊢
     rw [wr_id (x := mx V ed.From.toNat ed.To.toNat - x) (by omega) (by omega), wr_id (x := (k : Int) + 1) (by omega) (by omega), lt_d, ap_p (by simp; omega)]
     refine ⟨_, rfl, by simp only; omega, by simp [hlen], fun i hi => ?_, fun a b ha hb => ?_⟩
     · simp only
       by_cases c : i = k
       · subst c
         rw [← hlen, getD_app1, hlen, he]; exact ⟨hmin3, hmin1⟩
       · rw [getD_appL (by omega)]; exact hr i (by omega)
     · simp only
       obtain ⟨w1, w2, w3⟩ := hv a b ha hb
       rw [mx_st2 _ (by omega) (by omega) _ ha hb, htake, flM_app _ _ (by rw [List.length_take]; omega)]
       rw [hdrop] at w3 v3
       simp only [capM] at w3 v3
       have hnnc := capM_nn (E := n.Edges.drop (k + 1)) (fun e he => (h.ev e (List.mem_of_mem_drop he)).cp.1) a b
       by_cases c : a = ed.From.toNat ∧ b = ed.To.toNat
       · obtain ⟨rfl, rfl⟩ := c
         rw [if_pos (by omega)] at w3
         rw [if_pos ⟨rfl, rfl⟩, if_pos (by omega)]
         omega
       · rw [if_neg (by omega)] at w3
         rw [if_neg c, if_neg (by omega)]
         omega)
   (fun z hz => by
     obtain ⟨l, i, V⟩ := z
     obtain ⟨rfl, _⟩ := hz
     unfold flow_amounts_b3
     simp only [cn_dec]
     rw [if_neg (by omega)])
   ([], 0, U) ⟨rfl, rfl, fun i hi => by omega, fun a b ha hb => by
     simp only [List.take_zero, List.drop_zero, flM]
     rw [hU a b ha hb, hU0 a b ha hb]
     have c1 := hcap a b; have c2 := hm a b ha hb
     unfold imax; split <;> omega⟩
 obtain ⟨l, i2, V⟩ := s'
 obtain ⟨g1, g2, g3, g4⟩ := h1
 simp only at g1 g2 g3 g4
 refine ⟨l, ?_, ⟨g2, g3⟩, fun a b ha hb => ?_⟩
 · unfold flow_amounts_F
   rw [e0, bd_s, e1, bd_s, smK_l, e2, bd_s, smK_l]
 · obtain ⟨k1, k2, k3⟩ := g4 a b ha hb
   rw [List.take_length] at k1
   rw [List.drop_length] at k3
   simp only [capM] at k3
   rw [← hU0 a b ha hb, ← hU a b ha hb]; omega
def give : List TEdge → List Int → Nat → Int
 | e :: E, x :: l, v => ((if e.From = (v : Int) then x else 0) - (if e.To = (v : Int) then x else 0)) + give E l v
 | _, _, _ => 0
theorem give_app : ∀ (E : List TEdge) (l : List Int), E.length = l.length → ∀ (e : TEdge) (x : Int) (v : Nat), give (E ++ [e]) (l ++ [x]) v = give E l v + ((if e.From = (v : Int) then x else 0) - (if e.To = (v : Int) then x else 0))
 | [], [], _, e, x, v => by simp [give]
 | e' :: E, x' :: l, h, e, x, v => by
   simp only [List.cons_append, give, give_app E l (by simpa using h) e x v]; omega
 | [], _ :: _, h, _, _, _ => by simp at h
 | _ :: _, [], h, _, _, _ => by simp at h
theorem sm_if1 (p : Prop) [Decidable p] (c : Nat) (x : Int) (hc : c < 14) : sm 14 (fun b => if p ∧ (c : Int) = (b : Int) then x else 0) = if p then x else 0 := by
 by_cases h : p
 · rw [if_pos h, show sm 14 (fun b => if p ∧ (c : Int) = (b : Int) then x else 0) = sm 14 (fun b => if b = c then x else 0) from sm_congr fun b _ => by
     by_cases e : b = c
     · subst e; rw [if_pos ⟨h, rfl⟩, if_pos rfl]
     · rw [if_neg (by omega), if_neg e], sm_one, if_pos hc]
 · rw [if_neg h]; exact sm_zero fun b _ => if_neg fun q => h q.1
theorem give_flM {N : Int} (hN : N ≤ 12) : ∀ {E : List TEdge} {l : List Int}, (∀ e ∈ E, EV N e) → ∀ (v : Nat), give E l v = sm 14 (fun b => flM E l v b - flM E l b v)
 | [], _, _, v => by simp only [give, flM]; exact (sm_zero fun _ _ => rfl).symm
 | _ :: _, [], _, v => by simp only [give, flM]; exact (sm_zero fun _ _ => rfl).symm
 | e :: E, x :: l, h, v => by
   have hev := h e List.mem_cons_self
   have hfr := hev.fr; have hto := hev.to
   have ih := give_flM hN (E := E) (l := l) (fun e he => h e (List.mem_cons_of_mem _ he)) v
   have e1 := sm_if1 (e.From = (v : Int)) e.To.toNat x (by omega)
   have e2 := sm_if1 (e.To = (v : Int)) e.From.toNat x (by omega)
   rw [Int.toNat_of_nonneg hto.1] at e1
   rw [Int.toNat_of_nonneg hfr.1] at e2
   have e3 : sm 14 (fun b => flM (e :: E) (x :: l) v b - flM (e :: E) (x :: l) b v) = sm 14 (fun b => ((if e.From = (v : Int) ∧ e.To = (b : Int) then x else 0) - (if e.To = (v : Int) ∧ e.From = (b : Int) then x else 0)) + (flM E l v b - flM E l b v)) := sm_congr fun b _ => by
     simp only [flM]
     have : (if e.From = (b : Int) ∧ e.To = (v : Int) then x else 0) = (if e.To = (v : Int) ∧ e.From = (b : Int) then x else 0) := by
       by_cases c : e.From = (b : Int) ∧ e.To = (v : Int)
       · rw [if_pos c, if_pos ⟨c.2, c.1⟩]
       · rw [if_neg c, if_neg fun q => c ⟨q.2, q.1⟩]
     omega
   rw [e3, sm_add, sm_sub, e1, e2, ← ih]
   simp only [give]
end Go.Proofs.Ytgkmodjcoedonaa
namespace Go.Proofs.Ytgkmodjcoedonaa
open Go Go.Eng
set_option maxRecDepth 100000
theorem st_dd {α β : Type} (l : List α) (i : Int) (x : α) (f : List α → Option β) : st l i x f = f (l.set i.toNat x) := by unfold st; rfl
instance (E : List TEdge) (l : List Int) : Decidable (okA E l) := by unfold okA; infer_instance
theorem give_bd {N : Int} : ∀ {E : List TEdge} {l : List Int}, (∀ e ∈ E, EV N e) → okA E l → ∀ v, -((E.length : Int) * 10000) ≤ give E l v ∧ give E l v ≤ (E.length : Int) * 10000
 | [], _, _, _, v => by simp [give]
 | _ :: _, [], _, ⟨h, _⟩, v => by simp at h
 | e :: E, x :: l, h, ⟨h1, h2⟩, v => by
   have hev := (h e List.mem_cons_self).cp
   have hx := h2 0 (by simp)
   simp only [List.getD_cons_zero] at hx
   have ih := give_bd (E := E) (l := l) (fun e he => h e (List.mem_cons_of_mem _ he)) ⟨by simpa using h1, fun i hi => by have := h2 (i + 1) (by simpa using hi); simpa using this⟩ v
   simp only [give, List.length_cons]
   split <;> split <;> omega
theorem okA_take {E : List TEdge} {l : List Int} {k : Nat} (hl : l.length = E.length) (hk : k ≤ E.length) (h : ∀ i, i < k → 0 ≤ l.getD i 0 ∧ l.getD i 0 ≤ (E.getD i default).Capacity) : okA (E.take k) (l.take k) := by
 refine ⟨by simp only [List.length_take]; omega, fun i hi => ?_⟩
 rw [List.length_take] at hi
 have := h i (by omega)
 have e1 : (l.take k).getD i 0 = l.getD i 0 := by simp only [List.getD_eq_getElem?_getD]; rw [List.getElem?_take_of_lt (by omega)]
 have e2 : (E.take k).getD i default = E.getD i default := by simp only [List.getD_eq_getElem?_getD]; rw [List.getElem?_take_of_lt (by omega)]
 rw [e1, e2]; exact this
theorem getD_setD {l : List Int} {k j : Nat} {v : Int} (hk : k < l.length) : (l.set k v).getD j default = if j = k then v else l.getD j default := getD_set hk
theorem given_ok {n : TNet} (h : NV n) (l : List Int) : ∃ G : List Int, flow_given_F n l = some (if okA n.Edges l then (G, true) else ([], false)) ∧ (okA n.Edges l → G.length = n.N.toNat ∧ ∀ v, v < n.N.toNat → G.getD v default = give n.Edges l v) := by
 have hel := h.el
 have hn := h.nn
 by_cases hlen : l.length = n.Edges.length
 · obtain ⟨o, e, ho⟩ := lp_runF (body := flow_given_b1 n l) (fun z : Int × List Int => ∃ k : Nat, z.1 = (k : Int) ∧ k ≤ n.Edges.length ∧ (∀ i, i < k → 0 ≤ l.getD i 0 ∧ l.getD i 0 ≤ (n.Edges.getD i default).Capacity) ∧ z.2.length = n.N.toNat ∧ ∀ v, v < n.N.toNat → z.2.getD v default = give (n.Edges.take k) (l.take k) v)
     (fun z => (n.Edges.length - z.1).toNat)
     (fun o => match o with
       | .inl (_, G) => okA n.Edges l ∧ G.length = n.N.toNat ∧ ∀ v, v < n.N.toNat → G.getD v default = give n.Edges l v
       | .inr r => ¬ okA n.Edges l ∧ r = ([], false)) (fun z hz => by
       obtain ⟨i, G⟩ := z
       obtain ⟨k, rfl, hk, hr, hGl, hG⟩ := hz
       simp only at hGl hG ⊢
       unfold flow_given_b1
       simp only [cn_dec]
       by_cases hlt : (k : Int) < (n.Edges.length : Int)
       · have hk' : k < n.Edges.length := by omega
         rw [if_pos hlt, ix_n hk', ix_n (by omega), isInF, bd_s, cn_not, cn_if]
         have hmem : n.Edges.getD k default ∈ n.Edges := by rw [getD_ltD hk']; exact List.getElem_mem hk'
         have hev := h.ev _ hmem
         have hfr := hev.fr; have hto := hev.to; have hcp := hev.cp; have hne := hev.ne
         have htake : n.Edges.take (k + 1) = n.Edges.take k ++ [n.Edges.getD k default] := by rw [List.take_succ_eq_append_getElem hk', getD_ltD hk']
         have htakeL : l.take (k + 1) = l.take k ++ [l.getD k default] := by rw [List.take_succ_eq_append_getElem (by omega), getD_ltD (by omega)]
         have hgd : l.getD k default = l.getD k 0 := rfl
         by_cases hin : 0 ≤ l.getD k 0 ∧ l.getD k 0 ≤ (n.Edges.getD k default).Capacity
         · rw [if_pos (by rw [hgd]; simp only [Bool.and_eq_true, decide_eq_true_eq]; exact hin)]
           have hbd := fun v => give_bd (N := n.N) (fun e he => h.ev e (List.mem_of_mem_take he)) (okA_take hlen (by omega) hr) v
           have hlt40 : (((n.Edges.take k).length : Nat) : Int) ≤ 40 := by rw [List.length_take]; omega
           have b1 := hbd (n.Edges.getD k default).From.toNat
           have b2 := hbd (n.Edges.getD k default).To.toNat
           rw [gd_p _ (by omega), ix_n (by omega), gd_p _ (by omega), st_dd, hG _ (by omega), wr_id (x := give (n.Edges.take k) (l.take k) (n.Edges.getD k default).From.toNat + l.getD k default) (by rw [hgd]; omega) (by rw [hgd]; omega)]
           rw [gd_p _ (by rw [List.length_set]; omega), ix_n (by omega), gd_p _ (by rw [List.length_set]; omega), st_dd, getD_setD (by omega), if_neg (by omega), hG _ (by omega), wr_id (x := give (n.Edges.take k) (l.take k) (n.Edges.getD k default).To.toNat - l.getD k default) (by rw [hgd]; omega) (by rw [hgd]; omega), wr_id (x := (k : Int) + 1) (by omega) (by omega)]
           refine .inl ⟨_, rfl, ⟨k + 1, by simp only; omega, by omega, fun i hi => ?_, by simp only [List.length_set]; exact hGl, fun v hv => ?_⟩, by simp only; omega⟩
           · by_cases c : i = k
             · subst c; exact hin
             · exact hr i (by omega)
           · simp only
             rw [getD_setD (by rw [List.length_set]; omega), getD_setD (by omega), htake, htakeL, give_app _ _ (by simp only [List.length_take]; omega)]
             by_cases c1 : v = (n.Edges.getD k default).To.toNat
             · rw [if_pos c1, if_neg (show ¬ (n.Edges.getD k default).From = (v : Int) by omega), if_pos (show (n.Edges.getD k default).To = (v : Int) by omega), c1]; omega
             · rw [if_neg c1, if_neg (show ¬ (n.Edges.getD k default).To = (v : Int) by omega)]
               by_cases c2 : v = (n.Edges.getD k default).From.toNat
               · rw [if_pos c2, if_pos (show (n.Edges.getD k default).From = (v : Int) by omega), c2]; omega
               · rw [if_neg c2, if_neg (show ¬ (n.Edges.getD k default).From = (v : Int) by omega), hG v hv]; omega
         · rw [if_neg (by rw [hgd]; simp only [Bool.and_eq_true, decide_eq_true_eq]; exact hin)]
           exact .inr (.inr ⟨_, rfl, fun hok => hin (hok.2 k hk'), rfl⟩)
       · rw [if_neg hlt]
         have hke : k = n.Edges.length := by omega
         subst hke
         refine .inr (.inl ⟨_, rfl, ⟨hlen, hr⟩, hGl, fun v hv => ?_⟩)
         have := hG v hv
         rwa [List.take_length, ← hlen, List.take_length] at this)
     (0, List.replicate n.N.toNat 0) ⟨0, rfl, by omega, fun i hi => by omega, by simp, fun v hv => by
       simp only [List.take_zero, give]
       simp only [List.getD_eq_getElem?_getD, List.getElem?_replicate]
       rw [if_pos hv]; rfl⟩ (by simp only; omega)
   unfold flow_given_F
   rw [cn_bne, if_pos (by omega), gd_p _ (by omega), lt_d, e, bd_s]
   match o, ho with
   | .inl (_, G), ⟨g1, g2, g3⟩ => exact ⟨G, by rw [smK_l, if_pos g1], fun _ => ⟨g2, g3⟩⟩
   | .inr r, ⟨g1, g2⟩ => exact ⟨[], by rw [smK_r, if_neg g1, g2], fun q => absurd q g1⟩
 · refine ⟨[], ?_, fun q => absurd q.1 hlen⟩
   unfold flow_given_F
   rw [cn_bne, if_neg (by omega), if_neg fun q : okA n.Edges l => hlen q.1]
structure IsFlow (n : TNet) (s t : Nat) (l : List Int) : Prop where
 ok : okA n.Edges l
 nn : 0 ≤ give n.Edges l s
 co : ∀ v, v < n.N.toNat → v ≠ s → v ≠ t → give n.Edges l v = 0
end Go.Proofs.Ytgkmodjcoedonaa
namespace Go.Proofs.Ytgkmodjcoedonaa
open Go Go.Eng
set_option maxRecDepth 100000
def cutE : List TEdge → (Nat → Bool) → Int
 | [], _ => 0
 | e :: E, p => (if (p e.From.toNat && !p e.To.toNat) = true then e.Capacity else 0) + cutE E p
theorem cutE_app : ∀ (E F : List TEdge) (p : Nat → Bool), cutE (E ++ F) p = cutE E p + cutE F p
 | [], F, p => by simp [cutE]
 | e :: E, F, p => by simp only [List.cons_append, cutE, cutE_app E F p]; omega
theorem cutE_nn : ∀ {E : List TEdge}, (∀ e ∈ E, 0 ≤ e.Capacity) → ∀ p, 0 ≤ cutE E p
 | [], _, _ => Int.le_refl _
 | e :: E, h, p => by
   have h1 := h e List.mem_cons_self
   have h2 := cutE_nn (E := E) (fun e he => h e (List.mem_cons_of_mem _ he)) p
   simp only [cutE]; split <;> omega
theorem cutE_bd : ∀ {E : List TEdge} {B : Int}, 0 ≤ B → (∀ e ∈ E, e.Capacity ≤ B) → ∀ p, cutE E p ≤ E.length * B
 | [], _, _, _, _ => by simp [cutE]
 | e :: E, B, hB, h, p => by
   have h1 := h e List.mem_cons_self
   have h2 := cutE_bd (E := E) hB (fun e he => h e (List.mem_cons_of_mem _ he)) p
   simp only [cutE, List.length_cons]
   rw [show ((E.length + 1 : Nat) : Int) * B = E.length * B + B by rw [Int.natCast_add, Int.add_mul]; simp]
   split <;> omega
theorem leav_one {a0 b0 : Nat} (ha : a0 < 14) (hb : b0 < 14) (c : Int) (p : Nat → Bool) : leav 14 (fun a b => if (a0 : Int) = (a : Int) ∧ (b0 : Int) = (b : Int) then c else 0) p = if (p a0 && !p b0) = true then c else 0 := by
 have inner : ∀ a : Nat, sm 14 (fun b => if p b then 0 else if (a0 : Int) = (a : Int) ∧ (b0 : Int) = (b : Int) then c else 0) = if a = a0 then (if p b0 then 0 else c) else 0 := fun a => by
   by_cases e : a = a0
   · subst e
     rw [if_pos rfl, show sm 14 (fun b => if p b then 0 else if (a : Int) = (a : Int) ∧ (b0 : Int) = (b : Int) then c else 0) = sm 14 (fun b => if b = b0 then (if p b0 then 0 else c) else 0) from sm_congr fun b _ => by
       by_cases e : b = b0
       · subst e; rw [if_pos rfl]; split <;> simp
       · rw [if_neg e]; split
         · rfl
         · rw [if_neg (by omega)], sm_one, if_pos hb]
   · rw [if_neg e]; exact sm_zero fun b _ => by
       split
       · rfl
       · rw [if_neg (by omega)]
 unfold leav
 rw [show sm 14 (fun a => if p a then sm 14 (fun b => if p b then 0 else if (a0 : Int) = (a : Int) ∧ (b0 : Int) = (b : Int) then c else 0) else 0) = sm 14 (fun a => if a = a0 then (if (p a0 && !p b0) = true then c else 0) else 0) from sm_congr fun a _ => by
   rw [inner a]
   by_cases e : a = a0
   · subst e; simp only [if_true]; cases p a <;> cases p b0 <;> simp
   · simp only [if_neg e]; split <;> rfl, sm_one, if_pos ha]
theorem cut_leav {N : Int} (hN : N ≤ 12) : ∀ {E : List TEdge}, (∀ e ∈ E, EV N e) → ∀ p, cutE E p = leav 14 (capM E) p
 | [], _, p => (leav_zero' fun _ _ _ _ _ _ => rfl).symm
 | e :: E, h, p => by
   have hev := h e List.mem_cons_self
   have hfr := hev.fr; have hto := hev.to
   have h2 := cut_leav hN (E := E) (fun e he => h e (List.mem_cons_of_mem _ he)) p
   have h1 := leav_one (a0 := e.From.toNat) (b0 := e.To.toNat) (by omega) (by omega) e.Capacity p
   rw [Int.toNat_of_nonneg hfr.1, Int.toNat_of_nonneg hto.1] at h1
   simp only [cutE]
   rw [h2, ← h1, ← leav_add]
   rfl
theorem leaving_ok {n : TNet} (h : NV n) {S : Nat} (hS : S < 4611686018427387904) {σ : Type} (f : Int → σ → Option σ) (g : Nat → σ → σ) (I : Nat → σ → Prop) (h0 : ∀ s, I 0 s → True)
   (step : ∀ k s, k < n.Edges.length → I k s → (((S.testBit (n.Edges.getD k default).From.toNat && !S.testBit (n.Edges.getD k default).To.toNat) = true → f (k : Int) s = some (g k s) ∧ I (k + 1) (g k s)) ∧ ((S.testBit (n.Edges.getD k default).From.toNat && !S.testBit (n.Edges.getD k default).To.toNat) = false → I (k + 1) s))) (s0 : σ) (hI : I 0 s0) :
   ∃ s, flow_leaving_1_F n (S : Int) σ f s0 = some s ∧ I n.Edges.length s := by
 have hel := h.el
 have hn := h.nn
 obtain ⟨s', e, h1⟩ := lp_fold (body := flow_leaving_1_b1 σ n (S : Int) f) (fun k z => z.1 = (k : Int) ∧ I k z.2) n.Edges.length (by omega)
   (fun k z hk hz => by
     obtain ⟨i, s⟩ := z
     obtain ⟨rfl, hs⟩ := hz
     simp only at hs
     unfold flow_leaving_1_b1
     simp only [cn_dec, jn_d]
     have hev := h.ev _ (by rw [getD_ltD hk]; exact List.getElem_mem hk : n.Edges.getD k default ∈ n.Edges)
     have hfr := hev.fr; have hto := hev.to
     rw [if_pos (by omega), ix_n hk, gd_p _ hfr.1]
     obtain ⟨a, ha⟩ : ∃ a : Nat, (n.Edges.getD k default).From = (a : Int) := ⟨_, (Int.toNat_of_nonneg hfr.1).symm⟩
     obtain ⟨b, hb⟩ : ∃ b : Nat, (n.Edges.getD k default).To = (b : Int) := ⟨_, (Int.toNat_of_nonneg hto.1).symm⟩
     obtain ⟨st1, st2⟩ := step k s hk hs
     rw [ha, hb] at st1 st2
     rw [ha, hb, bit1 (by omega) (by omega) (by omega), gd_p _ (by omega : (0 : Int) ≤ (b : Int)), bit0 (by omega) (by omega) (by omega)]
     simp only [Int.toNat_natCast] at st1 st2 ⊢
     rw [wr_id (x := (k : Int) + 1) (by omega) (by omega)]
     cases c1 : S.testBit a with
     | false =>
       rw [cn_f]
       exact ⟨_, rfl, by simp only; omega, st2 (by rw [c1]; rfl)⟩
     | true =>
       rw [cn_t]
       cases c2 : S.testBit b with
       | true =>
         simp only [Bool.not_true, cn_f]
         exact ⟨_, rfl, by simp only; omega, st2 (by rw [c1, c2]; rfl)⟩
       | false =>
         obtain ⟨e1, e2⟩ := st1 (by rw [c1, c2]; rfl)
         simp only [Bool.not_false, cn_t]
         rw [e1, bd_s]
         exact ⟨_, rfl, by simp only; omega, e2⟩)
   (fun z hz => by
     obtain ⟨i, s⟩ := z
     obtain ⟨rfl, _⟩ := hz
     unfold flow_leaving_1_b1
     simp only [cn_dec]
     rw [if_neg (by omega)])
   (0, s0) ⟨rfl, hI⟩
 refine ⟨s'.2, ?_, h1.2⟩
 unfold flow_leaving_1_F
 rw [e, bd_s, smK_l]
theorem capacityF_ok {n : TNet} (h : NV n) {S : Nat} (hS : S < 4611686018427387904) : flow_capacity_F n (S : Int) = some (cutE n.Edges S.testBit) := by
 have hel := h.el
 obtain ⟨s, e, hs⟩ := leaving_ok h hS (flow_capacity_b1 n) (fun k s => s + (n.Edges.getD k default).Capacity) (fun k s => s = cutE (n.Edges.take k) S.testBit) (fun _ _ => trivial)
   (fun k s hk hs => by
     have hev := h.ev _ (by rw [getD_ltD hk]; exact List.getElem_mem hk : n.Edges.getD k default ∈ n.Edges)
     have hcp := hev.cp
     have htake : n.Edges.take (k + 1) = n.Edges.take k ++ [n.Edges.getD k default] := by rw [List.take_succ_eq_append_getElem hk, getD_ltD hk]
     have c1 := cutE_nn (E := n.Edges.take k) (fun e he => (h.ev e (List.mem_of_mem_take he)).cp.1) S.testBit
     have c2 := cutE_bd (E := n.Edges.take k) (B := 10000) (by omega) (fun e he => (h.ev e (List.mem_of_mem_take he)).cp.2) S.testBit
     have c3 : (n.Edges.take k).length ≤ 40 := by rw [List.length_take]; omega
     refine ⟨fun hb => ⟨?_, ?_⟩, fun hb => ?_⟩
     · unfold flow_capacity_b1
       rw [ix_n hk, wr_id (by omega) (by omega)]
     · rw [htake, cutE_app, hs]; simp only [cutE]; rw [if_pos hb]; omega
     · rw [htake, cutE_app, hs]; simp only [cutE]; rw [if_neg (by rw [hb]; exact Bool.false_ne_true)]; omega)
   0 rfl
 unfold flow_capacity_F
 rw [e, bd_s, hs, List.take_length]
theorem checkCut_ok {n : TNet} {s t : Nat} (h : EndsV n s t) (a : Int) : flow_CheckCut_F n (s : Int) (t : Int) a = some (if 0 ≤ a ∧ a < 2 ^ n.N.toNat ∧ a.toNat.testBit s = true ∧ a.toNat.testBit t = false then (cutE n.Edges a.toNat.testBit, true) else (0, false)) := by
 have hn := h.v.nn; have hs := h.hs; have ht := h.ht
 have hp : (2 : Int) ^ n.N.toNat ≤ 2 ^ 12 := two_pow_le (by omega)
 have hp0 := two_pow_pos n.N.toNat
 unfold flow_CheckCut_F
 simp only [isPair_ok h, bd_s, Bool.not_true, cn_f, jn_d]
 rw [gd_p _ hn.1, isInF, bd_s, cn_not, cn_if]
 have hsh : bshl .i64 1 n.N = 2 ^ n.N.toNat := by
   conv => lhs; rw [show n.N = ((n.N.toNat : Nat) : Int) by omega]
   exact bshl_one (by omega)
 rw [hsh, wr_id (by omega) (by omega)]
 by_cases h1 : 0 ≤ a ∧ a ≤ 2 ^ n.N.toNat - 1
 · rw [if_pos (by simp only [Bool.and_eq_true, decide_eq_true_eq]; exact h1), gd_p _ (by omega), bit0 h1.1 (by omega) (by omega), cn_not]
   cases c1 : a.toNat.testBit s with
   | false =>
     rw [cn_f, cn_t, if_neg (by simp)]
   | true =>
     rw [cn_t, gd_p _ (by omega), bit1 h1.1 (by omega) (by omega)]
     cases c2 : a.toNat.testBit t with
     | true => rw [cn_t, if_neg (by simp)]
     | false =>
       have e := capacityF_ok h.v (S := a.toNat) (by omega)
       rw [Int.toNat_of_nonneg h1.1] at e
       rw [cn_f, e, bd_s, if_pos ⟨h1.1, by omega, rfl, rfl⟩]
 · rw [if_neg (by simp only [Bool.and_eq_true, decide_eq_true_eq]; exact h1), cn_t, if_neg (by omega)]
structure MaxV (n : TNet) (s t : Nat) (v : Int) (C : Nat) : Prop where
 lt : C < 2 ^ n.N.toNat
 cs : C.testBit s = true
 ct : C.testBit t = false
 eq : v = cutE n.Edges C.testBit
 le : ∀ S : Nat → Bool, S s = true → S t = false → v ≤ cutE n.Edges S
 mn : ∀ S : Nat → Bool, S s = true → S t = false → cutE n.Edges S = v → ∀ x, C.testBit x = true → S x = true
 nn : 0 ≤ v
theorem max_ok {n : TNet} {s t : Nat} (h : EndsV n s t) : ∃ (l : List Int) (v : Int) (C : Nat), flow_Max_F n (s : Int) (t : Int) = some (l, (C : Int), 0) ∧ MaxV n s t v C ∧ IsFlow n s t l ∧ give n.Edges l s = v := by
 have hn := h.v.nn; have hs := h.hs; have ht := h.ht; have hel := h.v.el
 obtain ⟨m, em, hm⟩ := open_ok h.v
 have hcap : ∀ a b, 0 ≤ capM n.Edges a b ∧ capM n.Edges a b ≤ 400000 := fun a b => by
   have c1 := capM_nn (E := n.Edges) (fun e he => (h.v.ev e he).cp.1) a b
   have c2 := capM_le (E := n.Edges) (fun e he => (h.v.ev e he).cp.2) a b
   omega
 obtain ⟨v, R, M, ep, hF, hv0, Rs, Rt, hcl, hmin⟩ := maxflow_ok (M0 := m) (B := 800000) (by omega) (t := t) (s := s) (by omega) (by omega) h.ne (fun a b ha hb => by rw [hm a b ha hb]; exact (hcap a b).1)
   (fun a b ha hb => by rw [hm a b ha hb, hm b a hb ha]; have := hcap a b; have := hcap b a; omega)
 have hF' : Flo 14 (capM n.Edges) (mx M) s t v := ⟨hF.nn, fun a b ha hb => by rw [hF.sy a b ha hb, hm a b ha hb, hm b a hb ha], fun a ha h1 h2 => by rw [← hF.co a ha h1 h2]; exact sm_congr fun b hb => by rw [hm a b ha hb],
   by rw [← hF.va]; exact sm_congr fun b hb => by rw [hm s b (by omega) hb]⟩
 have hMb : ∀ a b, a < 14 → b < 14 → 0 ≤ mx M a b ∧ mx M a b ≤ 1000000000 := fun a b ha hb => ⟨hF.nn a b ha hb, by have := hF'.up ha hb; have := hcap a b; have := hcap b a; omega⟩
 obtain ⟨l, el, hok, hfl⟩ := amounts_ok h.v hMb
 have hcut : ∀ S : Nat → Bool, cutE n.Edges S = leav 14 (capM n.Edges) S := fun S => cut_leav hn.2 h.v.ev S
 have hout : ∀ x, x < 14 → R x = true → (x : Int) < n.N := fun x hx hR => by
   have := hmin (fun y => decide ((y : Int) < n.N)) (by simpa using hs) (fun a b ha hb h1 h2 => by
     simp only [decide_eq_true_eq, decide_eq_false_iff_not] at h1 h2
     have h3 := hF'.sy a b ha hb
     rw [capM_out h.v.ev (by omega), capM_out h.v.ev (by omega)] at h3
     have h4 := hF.nn a b ha hb; have h5 := hF.nn b a hb ha
     omega) x hx hR
   simpa using this
 have hbit : ∀ x, (bits R 14).testBit x = (decide (x < 14) && R x) := bits_test R 14
 have hRb : ∀ x, x < 14 → (bits R 14).testBit x = R x := fun x hx => by rw [hbit, decide_eq_true hx, Bool.true_and]
 have heq : v = cutE n.Edges (bits R 14).testBit := by
   rw [hcut, ← leav_congr (M := capM n.Edges) (fun _ _ _ _ => rfl) fun a ha => (hRb a ha).symm]
   exact hF'.eq (by omega) Rs Rt hcl
 have hgive : ∀ a, a < 14 → give n.Edges l a = sm 14 fun b => capM n.Edges a b - mx M a b := fun a ha => by
   rw [give_flM hn.2 h.v.ev]
   refine sm_congr fun b hb => ?_
   rw [hfl a b ha hb, hfl b a hb ha]
   have := hF'.sy a b ha hb
   unfold imax
   split <;> split <;> omega
 refine ⟨l, v, bits R 14, ?_, ⟨?_, by rw [hRb s (by omega)]; exact Rs, by rw [hRb t (by omega)]; exact Rt, heq, fun S h1 h2 => ?_, fun S h1 h2 h3 x hx => ?_, hv0⟩, ⟨hok, ?_, fun x hx h1 h2 => ?_⟩, ?_⟩
 · unfold flow_Max_F
   simp only [isPair_ok h, bd_s, Bool.not_true, cn_f]
   rw [em, bd_s, ep, bd_s, el, bd_s]
 · refine Nat.lt_pow_two_of_testBit _ fun i hi => ?_
   rw [hbit]
   cases c : R i with
   | false => simp
   | true =>
     by_cases c2 : i < 14
     · have := hout i c2 c; omega
     · simp [c2]
 · rw [hcut]; exact hF'.le (by omega) h1 h2
 · rw [hbit] at hx
   simp only [Bool.and_eq_true, decide_eq_true_eq] at hx
   exact hmin S h1 (fun a b ha hb sa sb => hF'.tight (by omega) h1 h2 (by rw [← hcut]; exact h3.symm) ha hb sa sb) x hx.1 hx.2
 · rw [hgive s (by omega), hF'.va]; exact hv0
 · rw [hgive x (by omega)]; exact hF'.co x (by omega) h1 h2
 · rw [hgive s (by omega), hF'.va]
end Go.Proofs.Ytgkmodjcoedonaa
namespace Go.Proofs.Ytgkmodjcoedonaa
open Go Go.Eng
theorem sane_ok : law27_sane_F = some true := by kernel_rfl
end Go.Proofs.Ytgkmodjcoedonaa
namespace Go.Proofs.Ytgkmodjcoedonaa
open Go Go.Eng
set_option maxRecDepth 100000
theorem pick_law (c n : Int) (hc : okI c) (hn : 0 < n) : law27_pick_F c n = some (pickZ c n) := by
 unfold law27_pick_F
 simp only [jn_d, cn_if, decide_eq_true_eq]
 rw [gd_p _ (by simpa using Int.ne_of_gt hn), gd_p _ (by simpa using Int.ne_of_gt hn)]
 rw [← pickZ_eq c n hc.1 hc.2 hn]
 split <;> rfl
theorem pick_r27 (c n : Int) (hc : okI c) (hn : 0 < n) : ref27_pick_F c n = some (pickZ c n) := pick_law c n hc hn
theorem okL_get {α : Type} [Inhabited α] {ok : α → Prop} {l : List α} (h : okL ok l) {k : Nat} (hk : k < l.length) : ok (l.getD k default) := h.1 _ (by rw [getD_ltD hk]; exact List.getElem_mem hk)
structure MN (n : TNet) : Prop where
 v : NV n
 nn : 2 ≤ n.N ∧ n.N ≤ 7
 el : n.Edges.length ≤ 16
 cp : ∀ e ∈ n.Edges, e.Capacity ≤ 19
theorem turn_ne {a b n : Int} (ha : 0 ≤ a ∧ a < n) (hb : 0 ≤ b ∧ b < n - 1) : let t := Int.tmod (a + 1 + b) n; (0 ≤ t ∧ t < n) ∧ a ≠ t := by
 have hn : 0 < n := by omega
 simp only
 rw [Int.tmod_eq_emod_of_nonneg (by omega)]
 by_cases q : a + 1 + b < n
 · rw [Int.emod_eq_of_lt (by omega) q]; omega
 · have : (a + 1 + b) % n = a + 1 + b - n := by
     rw [← Int.sub_emod_right, Int.emod_eq_of_lt (by omega) (by omega)]
   rw [this]; omega
theorem made_ok (a0 : Int) (es : List (Int × Int × Int)) (o0 : okI a0) (o1 : okL okA23 es) : ∃ n, ref27_Made_F a0 es = some n ∧ MN n := by
 unfold ref27_Made_F
 obtain ⟨p1, p2⟩ := pickZ_lt a0 (n := 6) (by omega)
 rw [pick_r27 a0 6 o0 (by omega), bd_s, wr_id (by omega) (by omega)]
 generalize pickZ a0 6 = b0 at p1 p2 ⊢
 obtain ⟨s, e, h1, h2, h3, h4⟩ := lp_fold (body := ref27_Made_b1 es) (fun k s => s.1 = (k : Int) ∧ s.2.N = 2 + b0 ∧ s.2.Edges.length = k ∧ ∀ e ∈ s.2.Edges, EV (2 + b0) e ∧ e.Capacity ≤ 19) (min es.length 16) (by omega) (fun k s hk ⟨h1, h2, h3, h4⟩ => by
   obtain ⟨i, N, E⟩ := s
   simp only at h1 h2 h3 h4
   subst h1 h2
   have hkl : k < es.length := by omega
   obtain ⟨o1, o2, o3⟩ := okL_get o1 hkl
   obtain ⟨p1, p2⟩ := pickZ_lt (es.getD k default).1 (n := 2 + b0) (by omega)
   obtain ⟨q1, q2⟩ := pickZ_lt (es.getD k default).2.1 (n := 2 + b0 - 1) (by omega)
   obtain ⟨r1, r2⟩ := pickZ_lt (es.getD k default).2.2 (n := 20) (by omega)
   unfold ref27_Made_b1
   simp only [jn_d, cn_dec]
   rw [if_pos (by omega), if_pos (by omega)]
   simp only [ix_n hkl]
   rw [pick_r27 _ _ o1 (by omega), bd_s, wr_id (by omega) (by omega), pick_r27 _ _ o2 (by omega), bd_s, gd_p _ (by omega), pick_r27 _ _ o3 (by omega), bd_s, lt_d, ap_p (by simp; omega), wr_id (by omega) (by omega)]
   generalize pickZ (es.getD k default).1 (2 + b0) = u at *
   generalize pickZ (es.getD k default).2.1 (2 + b0 - 1) = v at *
   generalize pickZ (es.getD k default).2.2 20 = w at *
   obtain ⟨t1, t2⟩ := turn_ne (a := u) (b := v) (n := 2 + b0) ⟨p1, p2⟩ ⟨q1, q2⟩
   rw [wr_id (x := u + 1) (by omega) (by omega), wr_id (x := u + 1 + v) (by omega) (by omega)]
   refine ⟨_, rfl, by simp only; omega, rfl, by simp [h3], fun e he => ?_⟩
   simp only at he
   rcases List.mem_append.1 he with he | he
   · exact h4 e he
   · rw [List.mem_singleton.1 he]
     exact ⟨⟨⟨p1, p2⟩, t1, t2, r1, by simp only; omega⟩, by simp only; omega⟩) (fun s ⟨h1, _⟩ => by
   unfold ref27_Made_b1
   simp only [jn_d, cn_dec]
   by_cases c : s.1 < (es.length : Int)
   · rw [if_pos c, if_neg (by omega)]
   · rw [if_neg c, cn_f]) (0, ⟨2 + b0, []⟩) ⟨rfl, rfl, rfl, by simp⟩
 rw [e, bd_s, smK_l]
 exact ⟨_, rfl, ⟨⟨by omega, by omega⟩, by omega, fun e he => by rw [h2]; exact (h4 e he).1⟩, by omega, by omega, fun e he => (h4 e he).2⟩
theorem ends_ok {n : TNet} (h : MN n) {a b : Int} (oa : okI a) (ob : okI b) : ∃ s t : Nat, law27_ends_F n a b = some ((s : Int), (t : Int)) ∧ EndsV n s t := by
 have hn := h.nn
 obtain ⟨p1, p2⟩ := pickZ_lt a (n := n.N) (by omega)
 obtain ⟨q1, q2⟩ := pickZ_lt b (n := n.N - 1) (by omega)
 obtain ⟨t1, t2⟩ := turn_ne ⟨p1, p2⟩ ⟨q1, q2⟩
 unfold law27_ends_F
 rw [pick_law _ _ oa (by omega), bd_s, wr_id (by omega) (by omega), pick_law _ _ ob (by omega), bd_s, gd_p _ (by omega)]
 simp only
 rw [wr_id (x := pickZ a n.N + 1) (by omega) (by omega), wr_id (x := pickZ a n.N + 1 + pickZ b (n.N - 1)) (by omega) (by omega)]
 generalize pickZ a n.N = u at *
 generalize Int.tmod (u + 1 + pickZ b (n.N - 1)) n.N = v at *
 refine ⟨u.toNat, v.toNat, by rw [Int.toNat_of_nonneg p1, Int.toNat_of_nonneg t1.1], h.v, by omega, by omega, by omega⟩
end Go.Proofs.Ytgkmodjcoedonaa
namespace Go.Proofs.Ytgkmodjcoedonaa
open Go Go.Eng
set_option maxRecDepth 100000
def wo (n : TNet) (F : Nat) : TNet := ⟨n.N, (List.range n.Edges.length).map fun i => if F.testBit i then ⟨(n.Edges.getD i default).From, (n.Edges.getD i default).To, 0⟩ else n.Edges.getD i default⟩
def woK (n : TNet) (F k : Nat) : List TEdge := (List.range n.Edges.length).map fun i => if i < k ∧ F.testBit i = true then ⟨(n.Edges.getD i default).From, (n.Edges.getD i default).To, 0⟩ else n.Edges.getD i default
theorem woK_len (n : TNet) (F k : Nat) : (woK n F k).length = n.Edges.length := by simp [woK]
theorem woK_get {n : TNet} {F k i : Nat} (h : i < n.Edges.length) : (woK n F k).getD i default = if i < k ∧ F.testBit i = true then ⟨(n.Edges.getD i default).From, (n.Edges.getD i default).To, 0⟩ else n.Edges.getD i default := by
 rw [getD_ltD (by rw [woK_len]; exact h)]
 simp [woK]
theorem wo_len (n : TNet) (F : Nat) : (wo n F).Edges.length = n.Edges.length := by simp [wo]
theorem without_ok {n : TNet} {F : Nat} (hl : n.Edges.length ≤ 40) (hF : F < 4611686018427387904) : flow_without_F n (F : Int) = some (wo n F) := by
 unfold flow_without_F
 rw [gd_p _ (by omega), lt_d]
 obtain ⟨s, e, h1, h2⟩ := lp_fold (body := flow_without_b1 (F : Int) n.Edges) (fun k s => s.1 = (k : Int) ∧ s.2 = (⟨n.N, woK n F k⟩ : TNet)) n.Edges.length (by omega) (fun k s hk ⟨h1, h2⟩ => by
   obtain ⟨i, R⟩ := s
   simp only at h1 h2
   subst h1 h2
   unfold flow_without_b1
   simp only [cn_dec, jn_d]
   rw [if_pos (by omega), gd_p _ (by omega), bit1 (by omega) (by omega) (by omega), Int.toNat_natCast, wr_id (by omega) (by omega)]
   cases hb : F.testBit k
   · rw [cn_f]
     refine ⟨_, rfl, rfl, ?_⟩
     simp only [TNet.mk.injEq, true_and]
     refine List.map_congr_left fun i hi => ?_
     have : (i < k ∧ F.testBit i = true) ↔ (i < k + 1 ∧ F.testBit i = true) := by
       constructor
       · rintro ⟨a, b⟩; exact ⟨by omega, b⟩
       · rintro ⟨a, b⟩
         refine ⟨?_, b⟩
         by_cases q : i = k
         · subst q; rw [hb] at b; simp at b
         · omega
     simp only [this]
   · rw [cn_t, gd_p _ (by rw [woK_len]; omega), st_dd, Int.toNat_natCast]
     refine ⟨_, rfl, rfl, ?_⟩
     simp only [TNet.mk.injEq, true_and]
     refine List.ext_getElem (by rw [List.length_set, woK_len, woK_len]) fun i hi1 hi2 => ?_
     rw [woK_len] at hi2
     rw [List.getElem_set]
     split
     · rename_i q; subst q
       rw [← getD_ltD, woK_get hk, woK_get hk, if_neg (by omega), if_pos ⟨by omega, hb⟩]
     · rename_i q
       rw [← getD_ltD, ← getD_ltD, woK_get hi2, woK_get hi2]
       have : (i < k ∧ F.testBit i = true) ↔ (i < k + 1 ∧ F.testBit i = true) := by
         constructor
         · rintro ⟨a, b⟩; exact ⟨by omega, b⟩
         · rintro ⟨a, b⟩; exact ⟨by omega, b⟩
       simp only [this]) (fun s ⟨h1, h2⟩ => by
   unfold flow_without_b1
   simp only [cn_dec]
   rw [if_neg (by omega)]) (0, ⟨n.N, n.Edges⟩) ⟨rfl, by
     simp only [TNet.mk.injEq, true_and]
     refine List.ext_getElem (by rw [woK_len]) fun i hi1 hi2 => ?_
     rw [← getD_ltD, ← getD_ltD, woK_get hi1, if_neg (by omega)]⟩
 rw [e, bd_s, smK_l, h2]
 show some (⟨n.N, woK n F n.Edges.length⟩ : TNet) = some (wo n F)
 unfold wo woK
 simp only [Option.some.injEq, TNet.mk.injEq, true_and]
 refine List.map_congr_left fun i hi => ?_
 have := List.mem_range.1 hi
 simp only [this, true_and]
theorem wo_mem {n : TNet} {F : Nat} {e : TEdge} (h : e ∈ (wo n F).Edges) : ∃ e' ∈ n.Edges, e.From = e'.From ∧ e.To = e'.To ∧ (e.Capacity = 0 ∨ e.Capacity = e'.Capacity) := by
 simp only [wo, List.mem_map, List.mem_range] at h
 obtain ⟨i, hi, rfl⟩ := h
 refine ⟨n.Edges.getD i default, by rw [getD_ltD hi]; exact List.getElem_mem hi, ?_⟩
 split
 · exact ⟨rfl, rfl, .inl rfl⟩
 · exact ⟨rfl, rfl, .inr rfl⟩
theorem NV.wo {n : TNet} (h : NV n) (F : Nat) : NV (wo n F) := by
 refine ⟨h.nn, by rw [wo_len]; exact h.el, fun e he => ?_⟩
 obtain ⟨e', he', h1, h2, h3⟩ := wo_mem he
 have := h.ev e' he'
 exact ⟨by rw [h1]; exact this.fr, by rw [h2]; exact this.to, by rw [h1, h2]; exact this.ne, by rcases h3 with h3 | h3 <;> rw [h3] <;> first | exact this.cp | exact ⟨Int.le_refl _, by decide⟩⟩
theorem Without_ok {n : TNet} (h : NV n) {F : Nat} (hF : (F : Int) < 2 ^ n.Edges.length) : flow_Without_F n (F : Int) = some (wo n F, 0) := by
 have hel := h.el
 have hp : (2 : Int) ^ n.Edges.length ≤ 2 ^ 40 := two_pow_le hel
 have hp0 := two_pow_pos n.Edges.length
 unfold flow_Without_F
 simp only [jn_d, valid_iff, bd_s]
 rw [decide_eq_true h, Bool.not_true, cn_f, gd_p _ (by omega), bshl_one (by omega), wr_id (by omega) (by omega), isInF, bd_s, decide_eq_true (show (0 : Int) ≤ (F : Int) by omega), decide_eq_true (show (F : Int) ≤ 2 ^ n.Edges.length - 1 by omega)]
 simp only [Bool.and_self, Bool.not_true, cn_f]
 rw [without_ok hel (by omega), bd_s]
theorem give_set {N : Int} (hN : N ≤ 12) : ∀ {E : List TEdge} {l : List Int}, (∀ e ∈ E, EV N e) → okA E l → ∀ (S : Nat → Bool), sm 14 (fun v => if S v then give E l v else 0) ≤ cutE E S
 | [], _, _, _, S => by
   rw [sm_zero fun v _ => by simp only [give]; split <;> rfl]; exact Int.le_refl _
 | _ :: _, [], _, ⟨h, _⟩, S => by simp at h
 | e :: E, x :: l, h, ⟨h1, h2⟩, S => by
   have hev := h e List.mem_cons_self
   have hfr := hev.fr; have hto := hev.to
   have hx := h2 0 (by simp)
   simp only [List.getD_cons_zero] at hx
   have ih := give_set hN (E := E) (l := l) (fun e he => h e (List.mem_cons_of_mem _ he)) ⟨by simpa using h1, fun i hi => by have := h2 (i + 1) (by simpa using hi); simpa using this⟩ S
   have key : sm 14 (fun v => if S v then give (e :: E) (x :: l) v else 0) = sm 14 (fun v => ((if v = e.From.toNat then (if S e.From.toNat then x else 0) else 0) - (if v = e.To.toNat then (if S e.To.toNat then x else 0) else 0)) + (if S v then give E l v else 0)) := sm_congr fun v _ => by
     simp only [give]
     by_cases c1 : v = e.From.toNat
     · rw [if_pos c1, if_pos (show e.From = (v : Int) by omega), ← c1]
       by_cases c2 : v = e.To.toNat
       · rw [if_pos c2, if_pos (show e.To = (v : Int) by omega), ← c2]; split <;> omega
       · rw [if_neg c2, if_neg (show ¬ e.To = (v : Int) by omega)]; split <;> omega
     · rw [if_neg c1, if_neg (show ¬ e.From = (v : Int) by omega)]
       by_cases c2 : v = e.To.toNat
       · rw [if_pos c2, if_pos (show e.To = (v : Int) by omega), ← c2]; split <;> omega
       · rw [if_neg c2, if_neg (show ¬ e.To = (v : Int) by omega)]; split <;> omega
   rw [key, sm_add, sm_sub, sm_one, sm_one, if_pos (show e.From.toNat < 14 by omega), if_pos (show e.To.toNat < 14 by omega)]
   simp only [cutE]
   cases S e.From.toNat <;> cases S e.To.toNat <;> simp only [Bool.not_true, Bool.not_false, Bool.and_true, Bool.and_false, Bool.and_self, if_true, Bool.false_eq_true, if_false] <;> omega
theorem give_out {N : Int} : ∀ {E : List TEdge} {l : List Int}, (∀ e ∈ E, EV N e) → ∀ {v : Nat}, N ≤ (v : Int) → give E l v = 0
 | [], _, _, _, _ => rfl
 | _ :: _, [], _, _, _ => rfl
 | e :: E, x :: l, h, v, hv => by
   have hev := h e List.mem_cons_self
   have hfr := hev.fr; have hto := hev.to
   simp only [give]
   rw [if_neg (by omega), if_neg (by omega), give_out (E := E) (l := l) (fun e he => h e (List.mem_cons_of_mem _ he)) hv]; rfl
end Go.Proofs.Ytgkmodjcoedonaa
namespace Go.Proofs.Ytgkmodjcoedonaa
open Go Go.Eng
set_option maxRecDepth 100000
structure EndsI (n : TNet) (a b : Int) : Prop where
 v : NV n
 ha : 0 ≤ a ∧ a < n.N
 hb : 0 ≤ b ∧ b < n.N
 ne : a ≠ b
instance (n : TNet) (a b : Int) : Decidable (EndsI n a b) := decidable_of_iff (NV n ∧ (0 ≤ a ∧ a < n.N) ∧ (0 ≤ b ∧ b < n.N) ∧ a ≠ b) ⟨fun h => ⟨h.1, h.2.1, h.2.2.1, h.2.2.2⟩, fun h => ⟨h.v, h.ha, h.hb, h.ne⟩⟩
theorem EndsI.nat {n : TNet} {a b : Int} (h : EndsI n a b) : ∃ s t : Nat, a = (s : Int) ∧ b = (t : Int) ∧ EndsV n s t := by
 obtain ⟨h1, h2, h3, h4⟩ := h
 obtain ⟨s, rfl⟩ : ∃ s : Nat, a = (s : Int) := ⟨_, (Int.toNat_of_nonneg h2.1).symm⟩
 obtain ⟨t, rfl⟩ : ∃ t : Nat, b = (t : Int) := ⟨_, (Int.toNat_of_nonneg h3.1).symm⟩
 exact ⟨s, t, rfl, rfl, h1, h2.2, h3.2, by omega⟩
theorem EndsV.int {n : TNet} {s t : Nat} (h : EndsV n s t) : EndsI n (s : Int) (t : Int) := ⟨h.v, ⟨by omega, h.hs⟩, ⟨by omega, h.ht⟩, by have := h.ne; omega⟩
theorem isPair_iff (n : TNet) (a b : Int) : flow_isPair_F n a b = some (decide (EndsI n a b)) := by
 unfold flow_isPair_F
 simp only [jn_d, valid_iff, isInF, bd_s, cn_if, decide_eq_true_eq, Bool.and_eq_true]
 by_cases h0 : NV n
 · have hn := h0.nn
   rw [if_pos h0, wr_id (by omega) (by omega)]
   by_cases h1 : 0 ≤ a ∧ a ≤ n.N - 1
   · rw [if_pos h1]
     by_cases h2 : 0 ≤ b ∧ b ≤ n.N - 1
     · rw [if_pos h2]
       congr 1
       rw [Bool.eq_iff_iff]
       simp only [bne_iff_ne, ne_eq, decide_eq_true_eq]
       exact ⟨fun q => ⟨h0, by omega, by omega, q⟩, fun q => q.ne⟩
     · rw [if_neg h2, decide_eq_false fun q : EndsI n a b => by have := q.hb; omega]
   · rw [if_neg h1, decide_eq_false fun q : EndsI n a b => by have := q.ha; omega]
 · rw [if_neg h0, decide_eq_false fun q : EndsI n a b => h0 q.v]
theorem refIn (a b c : Int) : ref27_in_F a b c = some (decide (b ≤ a) && decide (a ≤ c)) := by
 unfold ref27_in_F
 simp only [jn_d, cn_dec]
 by_cases h : a ≥ b
 · rw [if_pos h]; simp [show b ≤ a from h]
 · rw [if_neg h]; simp [show ¬ b ≤ a from h]
theorem refValid (n : TNet) : ref27_Valid_F n = some (decide (NV n)) := by
 unfold ref27_Valid_F
 simp only [jn_d, refIn, bd_s, cn_not]
 simp only [cn_if, Bool.and_eq_true, decide_eq_true_eq]
 by_cases h0 : 0 ≤ n.N ∧ n.N ≤ 12
 · rw [if_pos h0]
   by_cases h1 : (n.Edges.length : Int) > 40
   · rw [if_pos h1, decide_eq_false fun h : NV n => by have := h.el; omega]
   · rw [if_neg h1]
     obtain ⟨o, e, ho⟩ := lp_runF (body := ref27_Valid_b1 n) (fun i : Int => ∃ k : Nat, i = (k : Int) ∧ k ≤ n.Edges.length ∧ ∀ j, j < k → EV n.N (n.Edges.getD j default)) (fun i => ((n.Edges.length : Int) - i).toNat)
       (fun o => match o with
         | .inl _ => NV n
         | .inr r => r = false ∧ ¬ NV n) (fun i hi => by
         obtain ⟨k, rfl, hk, hj⟩ := hi
         unfold ref27_Valid_b1
         simp only [cn_dec, jn_d]
         by_cases hlt : (k : Int) < (n.Edges.length : Int)
         · have hk2 : k < n.Edges.length := by omega
           rw [if_pos hlt, ix_n hk2]
           have hmem : n.Edges.getD k default ∈ n.Edges := by rw [getD_ltD hk2]; exact List.getElem_mem hk2
           generalize he : n.Edges.getD k default = ed at hmem
           simp only [refIn, bd_s, cn_not]
           simp only [cn_if, Bool.and_eq_true, decide_eq_true_eq, beq_iff_eq]
           rw [wr_id (x := n.N - 1) (by omega) (by omega)]
           have good : EV n.N ed → (∃ s', (some (Ct.nx (wr ((k : Int) + 1))) : Option (Ct Int Bool)) = some (.nx s') ∧ (∃ m : Nat, s' = (m : Int) ∧ m ≤ n.Edges.length ∧ ∀ j, j < m → EV n.N (n.Edges.getD j default)) ∧ ((n.Edges.length : Int) - s').toNat < ((n.Edges.length : Int) - (k : Int)).toNat) := fun hev => by
             rw [wr_id (by omega) (by omega)]
             refine ⟨_, rfl, ⟨k + 1, by omega, by omega, fun j hj2 => ?_⟩, by omega⟩
             by_cases c : j = k
             · subst c; rw [he]; exact hev
             · exact hj j (by omega)
           have bad : ¬ EV n.N ed → ∃ r, (some (Ct.rt false) : Option (Ct Int Bool)) = some (.rt r) ∧ r = false ∧ ¬ NV n := fun hev => ⟨_, rfl, rfl, fun q => hev (q.ev ed hmem)⟩
           by_cases c1 : 0 ≤ ed.From ∧ ed.From ≤ n.N - 1
           · rw [if_pos c1]
             by_cases c2 : 0 ≤ ed.To ∧ ed.To ≤ n.N - 1
             · rw [if_pos c2]
               by_cases c3 : ed.From = ed.To
               · rw [if_pos c3]
                 exact .inr (.inr (bad fun q => q.ne c3))
               · rw [if_neg c3]
                 by_cases c4 : 0 ≤ ed.Capacity ∧ ed.Capacity ≤ 10000
                 · rw [if_pos c4]
                   exact .inl (good ⟨by omega, by omega, c3, c4⟩)
                 · rw [if_neg c4]
                   exact .inr (.inr (bad fun q => c4 q.cp))
             · rw [if_neg c2]
               exact .inr (.inr (bad fun q => by have := q.to; omega))
           · rw [if_neg c1]
             exact .inr (.inr (bad fun q => by have := q.fr; omega))
         · rw [if_neg hlt]
           refine .inr (.inl ⟨_, rfl, h0, by omega, fun e he => ?_⟩)
           obtain ⟨j, hj2, rfl⟩ := List.getElem_of_mem he
           have := hj j (by omega)
           rwa [getD_ltD hj2] at this)
       0 ⟨0, rfl, by omega, fun j hj => by omega⟩ (by omega)
     rw [e, bd_s]
     match o, ho with
     | .inl _, ho => rw [smK_l, decide_eq_true ho]
     | .inr r, ⟨hr, ho⟩ => subst hr; rw [smK_r, decide_eq_false ho]
 · rw [if_neg h0]
   simp only [if_true]
   rw [decide_eq_false fun h : NV n => h0 h.nn]
theorem refEnds (n : TNet) (a b : Int) : ref27_Ends_F n a b = some (decide (EndsI n a b)) := by
 unfold ref27_Ends_F
 simp only [jn_d, refValid, refIn, bd_s, cn_if, decide_eq_true_eq, Bool.and_eq_true]
 by_cases h0 : NV n
 · have hn := h0.nn
   rw [if_pos h0, wr_id (by omega) (by omega)]
   by_cases h1 : 0 ≤ a ∧ a ≤ n.N - 1
   · rw [if_pos h1]
     by_cases h2 : 0 ≤ b ∧ b ≤ n.N - 1
     · rw [if_pos h2]
       congr 1
       rw [Bool.eq_iff_iff]
       simp only [bne_iff_ne, ne_eq, decide_eq_true_eq]
       exact ⟨fun q => ⟨h0, by omega, by omega, q⟩, fun q => q.ne⟩
     · rw [if_neg h2, decide_eq_false fun q : EndsI n a b => by have := q.hb; omega]
   · rw [if_neg h1, decide_eq_false fun q : EndsI n a b => by have := q.ha; omega]
 · rw [if_neg h0, decide_eq_false fun q : EndsI n a b => h0 q.v]
theorem refAmounts {n : TNet} (h : NV n) (l : List Int) : ref27_amounts_F n l = some (decide (okA n.Edges l)) := by
 have hel := h.el
 unfold ref27_amounts_F
 rw [cn_bne]
 by_cases hlen : (l.length : Int) = (n.Edges.length : Int)
 · rw [if_pos hlen]
   obtain ⟨o, e, ho⟩ := lp_runF (body := ref27_amounts_b1 n l) (fun i : Int => ∃ k : Nat, i = (k : Int) ∧ k ≤ n.Edges.length ∧ ∀ j, j < k → 0 ≤ l.getD j 0 ∧ l.getD j 0 ≤ (n.Edges.getD j default).Capacity) (fun i => ((n.Edges.length : Int) - i).toNat)
     (fun o => match o with
       | .inl _ => okA n.Edges l
       | .inr r => r = false ∧ ¬ okA n.Edges l) (fun i hi => by
       obtain ⟨k, rfl, hk, hj⟩ := hi
       unfold ref27_amounts_b1
       simp only [cn_dec]
       by_cases hlt : (k : Int) < (l.length : Int)
       · rw [if_pos hlt, ix_n (by omega), ix_n (by omega), refIn, bd_s, cn_not, cn_if]
         have hgd : l.getD k default = l.getD k 0 := rfl
         by_cases c : 0 ≤ l.getD k 0 ∧ l.getD k 0 ≤ (n.Edges.getD k default).Capacity
         · rw [if_pos (by rw [hgd]; simp only [Bool.and_eq_true, decide_eq_true_eq]; exact c), wr_id (by omega) (by omega)]
           refine .inl ⟨_, rfl, ⟨k + 1, by omega, by omega, fun j hj2 => ?_⟩, by omega⟩
           by_cases q : j = k
           · subst q; exact c
           · exact hj j (by omega)
         · rw [if_neg (by rw [hgd]; simp only [Bool.and_eq_true, decide_eq_true_eq]; exact c)]
           exact .inr (.inr ⟨_, rfl, rfl, fun q => c (q.2 k (by omega))⟩)
       · rw [if_neg hlt]
         exact .inr (.inl ⟨_, rfl, by omega, fun j hj2 => hj j (by omega)⟩))
     0 ⟨0, rfl, by omega, fun j hj => by omega⟩ (by omega)
   rw [e, bd_s]
   match o, ho with
   | .inl _, ho => rw [smK_l, decide_eq_true ho]
   | .inr r, ⟨hr, ho⟩ => subst hr; rw [smK_r, decide_eq_false ho]
 · rw [if_neg hlen, decide_eq_false fun q : okA n.Edges l => by have := q.1; omega]
theorem refGives {n : TNet} (h : NV n) {l : List Int} (hok : okA n.Edges l) (v : Nat) : ref27_gives_F n l (v : Int) = some (give n.Edges l v) := by
 have hel := h.el
 have hlen := hok.1
 obtain ⟨s', e, h1, h2⟩ := lp_fold (body := ref27_gives_b1 n l (v : Int)) (fun k z => z.2 = (k : Int) ∧ z.1 = give (n.Edges.take k) (l.take k) v) n.Edges.length (by omega) (fun k z hk hz => by
   obtain ⟨g, i⟩ := z
   obtain ⟨rfl, rfl⟩ := hz
   have hx := hok.2 k hk
   have hcp := (h.ev (n.Edges.getD k default) (by rw [getD_ltD hk]; exact List.getElem_mem hk)).cp
   have hbd := give_bd (N := n.N) (fun e he => h.ev e (List.mem_of_mem_take he)) (okA_take hlen (Nat.le_of_lt hk) fun i hi => hok.2 i (by omega)) v
   have hlt40 : (((n.Edges.take k).length : Nat) : Int) ≤ 40 := by rw [List.length_take]; omega
   have htake : n.Edges.take (k + 1) = n.Edges.take k ++ [n.Edges.getD k default] := by rw [List.take_succ_eq_append_getElem hk, getD_ltD hk]
   have htakeL : l.take (k + 1) = l.take k ++ [l.getD k default] := by rw [List.take_succ_eq_append_getElem (by omega), getD_ltD (by omega)]
   have hgd : l.getD k default = l.getD k 0 := rfl
   have hg := give_app (n.Edges.take k) (l.take k) (by simp only [List.length_take]; omega) (n.Edges.getD k default) (l.getD k default) v
   rw [← htake, ← htakeL] at hg
   unfold ref27_gives_b1
   simp only [cn_dec, jn_d]
   rw [if_pos (by omega), ix_n hk]
   simp only [ix_n hk, ix_n (show k < l.length by omega), cn_beq]
   rw [wr_id (x := (k : Int) + 1) (by omega) (by omega)]
   generalize give (n.Edges.take k) (l.take k) v = G at *
   rw [hgd] at hg ⊢
   generalize l.getD k 0 = x at *
   by_cases c1 : (n.Edges.getD k default).From = (v : Int)
   · rw [if_pos c1] at hg ⊢
     by_cases c2 : (n.Edges.getD k default).To = (v : Int)
     · rw [if_pos c2] at hg ⊢
       rw [wr_id (x := G + x) (by omega) (by omega), wr_id (x := G + x - x) (by omega) (by omega)]
       exact ⟨_, rfl, by simp only; omega, by simp only; rw [hg]; omega⟩
     · rw [if_neg c2] at hg ⊢
       rw [wr_id (x := G + x) (by omega) (by omega)]
       exact ⟨_, rfl, by simp only; omega, by simp only; rw [hg]; omega⟩
   · rw [if_neg c1] at hg ⊢
     by_cases c2 : (n.Edges.getD k default).To = (v : Int)
     · rw [if_pos c2] at hg ⊢
       rw [wr_id (x := G - x) (by omega) (by omega)]
       exact ⟨_, rfl, by simp only; omega, by simp only; rw [hg]; omega⟩
     · rw [if_neg c2] at hg ⊢
       exact ⟨_, rfl, by simp only; omega, by simp only; rw [hg]; omega⟩) (fun z hz => by
   obtain ⟨g, i⟩ := z
   obtain ⟨rfl, _⟩ := hz
   unfold ref27_gives_b1
   simp only [cn_dec]
   rw [if_neg (by omega)]) (0, 0) ⟨rfl, rfl⟩
 unfold ref27_gives_F
 rw [e, bd_s, smK_l, h2, List.take_length, ← hlen, List.take_length]
end Go.Proofs.Ytgkmodjcoedonaa
namespace Go.Proofs.Ytgkmodjcoedonaa
open Go Go.Eng
set_option maxRecDepth 100000
theorem nat_bitR (a i : Nat) : ((a >>> i) % 2 == 1) = a.testBit i := by
 rw [Nat.testBit_eq_decide_div_mod_eq, Nat.shiftRight_eq_div_pow]
 rfl
theorem refHas {a i : Nat} (hi : i ≤ 60) : ref27_has_F (a : Int) (i : Int) = some (a.testBit i) := by
 unfold ref27_has_F
 rw [gd_p _ (by omega), bshr_nat (by omega) hi, Int.toNat_natCast, Int.tmod_eq_emod_of_nonneg (Int.natCast_nonneg _), show (2 : Int) = ((2 : Nat) : Int) from rfl, ← Int.natCast_emod, ← nat_bitR]
 refine congrArg some ?_
 rw [Bool.eq_iff_iff]; simp only [beq_iff_eq]; omega
theorem refLeaves {n : TNet} (h : NV n) (S : Nat) : ref27_Leaves_F n (S : Int) = some (cutE n.Edges S.testBit) := by
 have hel := h.el; have hn := h.nn
 obtain ⟨s', e, h1, h2⟩ := lp_fold (body := ref27_Leaves_b1 n (S : Int)) (fun k z => z.2 = (k : Int) ∧ z.1 = cutE (n.Edges.take k) S.testBit) n.Edges.length (by omega) (fun k z hk hz => by
   obtain ⟨g, i⟩ := z
   obtain ⟨rfl, rfl⟩ := hz
   have hev := h.ev (n.Edges.getD k default) (by rw [getD_ltD hk]; exact List.getElem_mem hk)
   have hfr := hev.fr; have hto := hev.to; have hcp := hev.cp
   have htake : n.Edges.take (k + 1) = n.Edges.take k ++ [n.Edges.getD k default] := by rw [List.take_succ_eq_append_getElem hk, getD_ltD hk]
   have c1 := cutE_nn (E := n.Edges.take k) (fun e he => (h.ev e (List.mem_of_mem_take he)).cp.1) S.testBit
   have c2 := cutE_bd (E := n.Edges.take k) (B := 10000) (by omega) (fun e he => (h.ev e (List.mem_of_mem_take he)).cp.2) S.testBit
   have c3 : (n.Edges.take k).length ≤ 40 := by rw [List.length_take]; omega
   obtain ⟨a, ha⟩ : ∃ a : Nat, (n.Edges.getD k default).From = (a : Int) := ⟨_, (Int.toNat_of_nonneg hfr.1).symm⟩
   obtain ⟨b, hb⟩ : ∃ b : Nat, (n.Edges.getD k default).To = (b : Int) := ⟨_, (Int.toNat_of_nonneg hto.1).symm⟩
   have hnew : cutE (n.Edges.take (k + 1)) S.testBit = cutE (n.Edges.take k) S.testBit + if (S.testBit a && !S.testBit b) = true then (n.Edges.getD k default).Capacity else 0 := by
     rw [htake, cutE_app]
     simp only [cutE]
     rw [ha, hb]
     simp
   unfold ref27_Leaves_b1
   simp only [cn_dec, jn_d]
   rw [if_pos (by omega), ix_n hk]
   simp only [ix_n hk]
   rw [ha, hb, refHas (by omega), bd_s, refHas (by omega), bd_s, wr_id (x := (k : Int) + 1) (by omega) (by omega), wr_id (x := cutE (n.Edges.take k) S.testBit + (n.Edges.getD k default).Capacity) (by omega) (by omega)]
   cases x1 : S.testBit a with
   | false =>
     rw [x1] at hnew
     rw [cn_f, cn_f]
     exact ⟨_, rfl, by simp only; omega, by simp only; rw [hnew]; simp⟩
   | true =>
     rw [cn_t]
     cases x2 : S.testBit b with
     | false =>
       rw [x1, x2] at hnew
       simp only [Bool.not_false, cn_t]
       exact ⟨_, rfl, by simp only; omega, by simp only; rw [hnew]; simp⟩
     | true =>
       rw [x1, x2] at hnew
       simp only [Bool.not_true, cn_f]
       exact ⟨_, rfl, by simp only; omega, by simp only; rw [hnew]; simp⟩) (fun z hz => by
   obtain ⟨g, i⟩ := z
   obtain ⟨rfl, _⟩ := hz
   unfold ref27_Leaves_b1
   simp only [cn_dec]
   rw [if_neg (by omega)]) (0, 0) ⟨rfl, rfl⟩
 unfold ref27_Leaves_F
 rw [e, bd_s, smK_l, h2, List.take_length]
theorem shl_n {n : TNet} (h : NV n) : bshl .i64 1 n.N = 2 ^ n.N.toNat := by
 have hN := h.nn
 conv => lhs; rw [show n.N = ((n.N.toNat : Nat) : Int) by omega]
 exact bshl_one (by omega)
theorem CheckCut_no {n : TNet} {a b : Int} (h : ¬ EndsI n a b) (S : Int) : flow_CheckCut_F n a b S = some (0, false) := by
 unfold flow_CheckCut_F
 simp only [jn_d]
 rw [isPair_iff, bd_s, decide_eq_false h, Bool.not_false, cn_t, cn_t]
theorem refCheckCut (n : TNet) (a b S : Int) : ref27_CheckCut_F n a b S = flow_CheckCut_F n a b S := by
 by_cases he : EndsI n a b
 · obtain ⟨s, t, rfl, rfl, hv⟩ := he.nat
   have hn := hv.v.nn; have hs := hv.hs; have ht := hv.ht
   have hp : (2 : Int) ^ n.N.toNat ≤ 2 ^ 12 := two_pow_le (by omega)
   have hp0 := two_pow_pos n.N.toNat
   rw [checkCut_ok hv]
   unfold ref27_CheckCut_F
   simp only [jn_d]
   rw [refEnds, bd_s, decide_eq_true he, Bool.not_true, cn_f, gd_p _ hn.1, shl_n hv.v, wr_id (by omega) (by omega), refIn, bd_s, cn_not, cn_if]
   by_cases h1 : 0 ≤ S ∧ S ≤ 2 ^ n.N.toNat - 1
   · rw [if_pos (by simp only [Bool.and_eq_true, decide_eq_true_eq]; exact h1)]
     obtain ⟨T, rfl⟩ : ∃ T : Nat, S = (T : Int) := ⟨_, (Int.toNat_of_nonneg h1.1).symm⟩
     rw [refHas (by omega), bd_s, refHas (by omega), bd_s, refLeaves hv.v, bd_s, Int.toNat_natCast]
     cases x1 : T.testBit s with
     | false =>
       simp only [Bool.not_false, cn_t, cn_f]
       rw [if_neg (by simp)]
     | true =>
       cases x2 : T.testBit t with
       | true =>
         simp only [Bool.not_true, cn_t, cn_f]
         rw [if_neg (by simp)]
       | false =>
         simp only [Bool.not_true, cn_f]
         rw [if_pos ⟨h1.1, by omega, by first | trivial | rfl, by first | trivial | rfl⟩]
   · rw [if_neg (by simp only [Bool.and_eq_true, decide_eq_true_eq]; exact h1), if_neg (by omega)]
 · rw [CheckCut_no he]
   unfold ref27_CheckCut_F
   simp only [jn_d]
   rw [refEnds, bd_s, decide_eq_false he, Bool.not_false, cn_t, cn_t]
def GoodR (n : TNet) (s t nd : Nat) : Prop := nd < 2 ^ n.N.toNat ∧ nd.testBit s = true ∧ nd.testBit t = false
theorem Without_no {n : TNet} {F : Int} (h : ¬ (NV n ∧ 0 ≤ F ∧ F < 2 ^ n.Edges.length)) : flow_Without_F n F = some (⟨0, []⟩, 270) := by
 unfold flow_Without_F
 simp only [jn_d, valid_iff, bd_s]
 by_cases h0 : NV n
 · have hel := h0.el
   have hp : (2 : Int) ^ n.Edges.length ≤ 2 ^ 40 := two_pow_le hel
   have hp0 := two_pow_pos n.Edges.length
   rw [decide_eq_true h0, Bool.not_true, cn_f, gd_p _ (by omega), bshl_one (by omega), wr_id (by omega) (by omega), isInF, bd_s, cn_not, cn_if, if_neg]
   simp only [Bool.and_eq_true, decide_eq_true_eq]
   intro q
   exact h ⟨h0, q.1, by omega⟩
 · rw [decide_eq_false h0, Bool.not_false, cn_t, cn_t]
theorem refWithout (n : TNet) (F : Int) : ref27_Without_F n F = flow_Without_F n F := by
 by_cases h : NV n ∧ 0 ≤ F ∧ F < 2 ^ n.Edges.length
 · obtain ⟨h0, h1, h2⟩ := h
   have hel := h0.el
   have hp : (2 : Int) ^ n.Edges.length ≤ 2 ^ 40 := two_pow_le hel
   have hp0 := two_pow_pos n.Edges.length
   obtain ⟨G, rfl⟩ : ∃ G : Nat, F = (G : Int) := ⟨_, (Int.toNat_of_nonneg h1).symm⟩
   rw [Without_ok h0 h2]
   unfold ref27_Without_F
   simp only [jn_d, refValid, bd_s]
   rw [decide_eq_true h0, Bool.not_true, cn_f, gd_p _ (by omega), bshl_one (by omega), wr_id (by omega) (by omega), refIn, bd_s, decide_eq_true h1, decide_eq_true (show (G : Int) ≤ 2 ^ n.Edges.length - 1 by omega)]
   simp only [Bool.and_self, Bool.not_true, cn_f]
   obtain ⟨s', e, g1, g2⟩ := lp_fold (body := ref27_Without_b1 n (G : Int)) (fun k z => z.1 = (k : Int) ∧ z.2 = ⟨n.N, (List.range k).map fun i => if G.testBit i then ⟨(n.Edges.getD i default).From, (n.Edges.getD i default).To, 0⟩ else n.Edges.getD i default⟩) n.Edges.length (by omega) (fun k z hk hz => by
     obtain ⟨i, m⟩ := z
     obtain ⟨rfl, rfl⟩ := hz
     unfold ref27_Without_b1
     simp only [cn_dec, jn_d, lt_d]
     rw [if_pos (by omega), ix_n hk, refHas (by omega), bd_s, ap_p (by simp; omega), ap_p (by simp; omega), wr_id (by omega) (by omega)]
     cases hb : G.testBit k with
     | false =>
       rw [cn_f]
       exact ⟨_, rfl, by simp only; omega, by simp [List.range_succ, hb]⟩
     | true =>
       rw [cn_t]
       exact ⟨_, rfl, by simp only; omega, by simp [List.range_succ, hb]⟩) (fun z hz => by
     obtain ⟨i, m⟩ := z
     obtain ⟨rfl, _⟩ := hz
     unfold ref27_Without_b1
     simp only [cn_dec]
     rw [if_neg (by omega)]) (0, ⟨n.N, []⟩) ⟨rfl, rfl⟩
   rw [e, bd_s, smK_l, g2]
   rfl
 · rw [Without_no h]
   unfold ref27_Without_F
   simp only [jn_d, refValid, bd_s]
   by_cases h0 : NV n
   · have hel := h0.el
     have hp : (2 : Int) ^ n.Edges.length ≤ 2 ^ 40 := two_pow_le hel
     have hp0 := two_pow_pos n.Edges.length
     rw [decide_eq_true h0, Bool.not_true, cn_f, gd_p _ (by omega), bshl_one (by omega), wr_id (by omega) (by omega), refIn, bd_s, cn_not, cn_if, if_neg]
     simp only [Bool.and_eq_true, decide_eq_true_eq]
     intro q
     exact h ⟨h0, q.1, by omega⟩
   · rw [decide_eq_false h0, Bool.not_false, cn_t, cn_t]
end Go.Proofs.Ytgkmodjcoedonaa
namespace Go.Proofs.Ytgkmodjcoedonaa
open Go Go.Eng
set_option maxRecDepth 100000
def loP (es : List TEdge) (nd i : Nat) : Bool := nd.testBit (es.getD i default).From.toNat && !nd.testBit (es.getD i default).To.toNat
def loI (es : List TEdge) (nd : Nat) : List Nat := (List.range es.length).filter (loP es nd)
def lcI (es : List TEdge) (i : Nat) : Int := (es.getD i default).Capacity
def loR : List Int → Nat
 | [] => 0
 | e :: l => 2 ^ e.toNat ||| loR l
theorem loR_app : ∀ (l l' : List Int), loR (l ++ l') = loR l ||| loR l'
 | [], l' => by simp [loR]
 | e :: l, l' => by rw [List.cons_append, loR, loR, loR_app l l', Nat.or_assoc]
theorem loR_bit (l : List Int) (h : ∀ e ∈ l, 0 ≤ e) (i : Nat) : (loR l).testBit i = decide ((i : Int) ∈ l) := by
 induction l with
 | nil => simp [loR]
 | cons e l ih =>
   have := h e List.mem_cons_self
   rw [loR, Nat.testBit_or, ih fun e he => h e (List.mem_cons_of_mem _ he), Nat.testBit_two_pow]
   rw [Bool.eq_iff_iff]
   simp only [Bool.or_eq_true, decide_eq_true_eq, List.mem_cons]
   constructor
   · rintro (q | q)
     · left; omega
     · exact .inr q
   · rintro (q | q)
     · left; omega
     · exact .inr q
theorem loR_lt {l : List Int} {B : Nat} (h : ∀ e ∈ l, 0 ≤ e ∧ e < (B : Int)) : loR l < 2 ^ B := by
 induction l with
 | nil => exact Nat.two_pow_pos B
 | cons e l ih =>
   have := h e List.mem_cons_self
   exact Nat.or_lt_two_pow (Nat.pow_lt_pow_right (by omega) (by omega)) (ih fun e he => h e (List.mem_cons_of_mem _ he))
def loS (n : TNet) (nd : Nat) : List Int := sortN n ((loI n.Edges nd).map fun i : Nat => (i : Int))
theorem getD_memD {α : Type} [Inhabited α] {l : List α} {k : Nat} (h : k < l.length) : l.getD k default ∈ l := by rw [getD_ltD h]; exact List.getElem_mem h
theorem nv_get {n : TNet} (h : NV n) {i : Nat} (hi : i < n.Edges.length) : EV n.N (n.Edges.getD i default) := h.ev _ (getD_memD hi)
theorem collect_ok {n : TNet} (h : NV n) {nd : Nat} (hnd : nd < 4611686018427387904) : slices_Collect_int_F n (nd : Int) = some ((loI n.Edges nd).map fun i : Nat => (i : Int)) := by
 have hel := h.el
 obtain ⟨s, e, hs⟩ := leaving_ok h hnd col_b (fun k s => s ++ [(k : Int)]) (fun k s => s = ((List.range k).filter (loP n.Edges nd)).map fun i : Nat => (i : Int)) (fun _ _ => trivial)
   (fun k s hk hs => by
     have hlen : ((List.range k).filter (loP n.Edges nd)).length ≤ k := Nat.le_trans (List.length_filter_le _ _) (by simp)
     have hp : loP n.Edges nd k = (nd.testBit (n.Edges.getD k default).From.toNat && !nd.testBit (n.Edges.getD k default).To.toNat) := rfl
     refine ⟨fun hb => ⟨?_, ?_⟩, fun hb => ?_⟩
     · unfold col_b
       rw [ap_p (by rw [hs]; simp; omega)]
     · rw [List.range_succ, List.filter_append, List.filter_cons, List.filter_nil, hp, hb, hs]; simp
     · rw [List.range_succ, List.filter_append, List.filter_cons, List.filter_nil, hp, hb, hs]; simp)
   [] (by simp)
 unfold slices_Collect_int_F
 rw [e, hs]; rfl
section
variable {n : TNet} (h : NV n)
include h
theorem loS_ok (nd : Nat) : sortG n ((loI n.Edges nd).map fun i : Nat => (i : Int)) = true := by
 have hel := h.el
 refine sortG_iff.2 ⟨fun e he => ?_, fun i hi => ?_, ?_⟩
 · have := (h.ev e he).cp; omega
 · obtain ⟨j, hj, rfl⟩ := List.mem_map.1 hi
   have := List.mem_range.1 (List.mem_filter.1 hj).1
   omega
 · rw [List.length_map]
   have : (loI n.Edges nd).length ≤ n.Edges.length := Nat.le_trans (List.length_filter_le _ _) (by simp)
   omega
theorem loS_mem {nd : Nat} {i : Int} (hi : i ∈ loS n nd) : ∃ j : Nat, i = (j : Int) ∧ j < n.Edges.length ∧ loP n.Edges nd j = true := by
 have := ((sortN_perm (loS_ok h nd)).1.mem_iff).1 hi
 obtain ⟨j, hj, rfl⟩ := List.mem_map.1 this
 obtain ⟨h1, h2⟩ := List.mem_filter.1 hj
 exact ⟨j, rfl, List.mem_range.1 h1, h2⟩
theorem loS_len (nd : Nat) : (loS n nd).length = (loI n.Edges nd).length := by
 unfold loS; rw [sortN_len, List.length_map]
theorem loS_len_le (nd : Nat) : (loS n nd).length ≤ 40 := by
 have hel := h.el
 rw [loS_len h]
 exact Nat.le_trans (Nat.le_trans (List.length_filter_le _ _) (by simp)) hel
theorem lcap_bd {nd : Nat} {x : Int} (hx : x ∈ (loS n nd).map (capAt n)) : 0 ≤ x ∧ x ≤ 10000 := by
 obtain ⟨i, hi, rfl⟩ := List.mem_map.1 hx
 obtain ⟨j, rfl, hj, _⟩ := loS_mem h hi
 have := (nv_get h hj).cp
 unfold capAt; rw [Int.toNat_natCast]; exact this
theorem rest_loS (f nd : Nat) : rest 0 (((loS n nd).drop f).map (capAt n)) = rest f ((loI n.Edges nd).map (lcI n.Edges)) := by
 obtain ⟨h1, h2⟩ := sortN_perm (loS_ok h nd)
 have h3 : ((loS n nd).map (capAt n)).Pairwise (fun x y => y ≤ x) := by rw [List.pairwise_map]; exact h2
 rw [List.map_drop, ← rest_sorted f h3 fun x hx => (lcap_bd h hx).1]
 have h4 := h1.map (capAt n)
 rw [List.map_map] at h4
 exact rest_perm h4 f
theorem lrest_bd {f nd : Nat} {L : List Int} (hL : ∀ x ∈ L, x ∈ loS n nd) : 0 ≤ rest 0 ((L.drop f).map (capAt n)) ∧ rest 0 ((L.drop f).map (capAt n)) ≤ L.length * 10000 := by
 have h1 : ∀ x ∈ (L.drop f).map (capAt n), 0 ≤ x ∧ x ≤ 10000 := fun x hx => by
   obtain ⟨i, hi, rfl⟩ := List.mem_map.1 hx
   exact lcap_bd h (List.mem_map.2 ⟨i, hL i (List.mem_of_mem_drop hi), rfl⟩)
 refine ⟨rest_nn 0 fun x hx => (h1 x hx).1, ?_⟩
 have := rest0_le (B := 10000) fun x hx => (h1 x hx).2
 rw [List.length_map, List.length_drop] at this
 omega
theorem fails_b2 {f nd : Nat} : ∃ x, lp (flow_Worst_b2 n (f : Int) (loS n nd) ((loI n.Edges nd).map fun i : Nat => (i : Int))) FU (0, (⟨0, 0, (nd : Int)⟩ : TFailure)) = some (.inl (x, (⟨((loR ((loS n nd).take f) : Nat) : Int), rest f ((loI n.Edges nd).map (lcI n.Edges)), (nd : Int)⟩ : TFailure))) := by
 have hel := h.el
 have hlen := loS_len h nd
 have hlen2 := loS_len_le h nd
 generalize hm : loS n nd = m at hlen hlen2
 have hmem : ∀ {i : Int}, i ∈ m → ∃ j : Nat, i = (j : Int) ∧ j < n.Edges.length ∧ loP n.Edges nd j = true := fun hi => loS_mem h (by rw [hm]; exact hi)
 obtain ⟨s', e, h1, h2⟩ := lp_fold (body := flow_Worst_b2 n (f : Int) m ((loI n.Edges nd).map fun i : Nat => (i : Int))) (fun k x => x.1 = (k : Int) ∧ x.2 = (⟨((loR ((m.take k).take f) : Nat) : Int), rest 0 (((m.take k).drop f).map (capAt n)), (nd : Int)⟩ : TFailure)) m.length (by omega) (fun k x hk ⟨h1, h2⟩ => by
   obtain ⟨i, c⟩ := x
   simp only at h1 h2
   subst h1 h2
   obtain ⟨j, hj, hj2, _⟩ := hmem (getD_memD hk)
   have hcap := (nv_get h hj2).cp
   have hTl : (m.take k).length = k := by rw [List.length_take]; omega
   have hor : loR ((m.take k).take f) < 2 ^ 40 := loR_lt fun e he => by
     obtain ⟨a, rfl, ha, _⟩ := hmem (List.mem_of_mem_take (List.mem_of_mem_take he)); omega
   have hrb := lrest_bd h (f := f) (nd := nd) (L := m.take k) (fun x hx => by rw [hm]; exact List.mem_of_mem_take hx)
   rw [hTl] at hrb
   unfold flow_Worst_b2
   simp only [cn_dec, jn_d, List.length_map]
   rw [if_pos (by omega), gd_p _ (by omega), wr_id (x := (k : Int) + 1) (by omega) (by omega), Int.toNat_natCast, hj, List.take_succ_eq_append_getElem hk, ← getD_ltD hk, hj]
   by_cases q : k < f
   · rw [if_pos (by omega), gd_p _ (by omega), bshl_one (by omega)]
     refine ⟨_, rfl, rfl, ?_⟩
     generalize m.take k = T at hTl hor
     have e1 : (T ++ [(j : Int)]).take f = T.take f ++ [(j : Int)] := by
       rw [List.take_of_length_le (l := T ++ [(j : Int)]) (by simp; omega), List.take_of_length_le (l := T) (by omega)]
     have e2 : (T ++ [(j : Int)]).drop f = [] := List.drop_of_length_le (by simp; omega)
     have e3 : T.drop f = [] := List.drop_of_length_le (by omega)
     have hj3 : 2 ^ j < 2 ^ 40 := Nat.pow_lt_pow_right (by omega) (by omega)
     obtain ⟨z, hz⟩ : ∃ z : Nat, z = 2 ^ j := ⟨_, rfl⟩
     have h2j : (2 : Int) ^ j = (z : Int) := by rw [hz]; norm_cast
     rw [e1, e2, e3, loR_app, h2j, bor_nat (by omega) (by omega) (by omega) (by omega)]
     rw [Int.toNat_natCast, Int.toNat_natCast]
     simp [loR, ← hz, rest]
   · rw [if_neg (by omega), ix_n hj2]
     have e1 : (m.take k ++ [(j : Int)]).take f = (m.take k).take f := List.take_append_of_le_length (by omega)
     have e2 : (m.take k ++ [(j : Int)]).drop f = (m.take k).drop f ++ [(j : Int)] := List.drop_append_of_le_length (by omega)
     rw [e1, e2, List.map_append, rest_app0, wr_id (by omega) (by omega)]
     refine ⟨_, rfl, rfl, ?_⟩
     simp [rest, capAt]) (fun x ⟨h1, h2⟩ => by
   unfold flow_Worst_b2
   simp only [cn_dec, List.length_map]
   rw [if_neg (by omega)]) (0, ⟨0, 0, (nd : Int)⟩) ⟨rfl, by simp [loR, rest]⟩
 subst hm
 rw [List.take_length, rest_loS h] at h2
 exact ⟨s'.1, by rw [e, ← h2]⟩
end
def Good (n : TNet) (s t nd : Nat) : Prop := nd < 2 ^ n.N.toNat ∧ nd.testBit s = true ∧ nd.testBit t = false
def wV (n : TNet) (f nd : Nat) : Int := rest f ((loI n.Edges nd).map (lcI n.Edges))
def wF (n : TNet) (f nd : Nat) : TFailure := ⟨((loR ((loS n nd).take f) : Nat) : Int), wV n f nd, (nd : Int)⟩
theorem wV_bd {n : TNet} (h : NV n) (f nd : Nat) : 0 ≤ wV n f nd ∧ wV n f nd ≤ 400000 := by
 unfold wV
 rw [← rest_loS h]
 have := lrest_bd h (f := f) (nd := nd) (L := loS n nd) (fun _ hx => hx)
 have := loS_len_le h nd
 omega
theorem Worst_ok {n : TNet} {s t f : Nat} (h : EndsV n s t) (hf : f ≤ 3) : ∃ nd, Good n s t nd ∧ flow_Worst_F n (s : Int) (t : Int) (f : Int) = some (wF n f nd, 0) ∧ ∀ nd', Good n s t nd' → wV n f nd ≤ wV n f nd' := by
 have hn := h.v.nn; have hs := h.hs; have ht := h.ht; have hne := h.ne
 have hp : (2 : Int) ^ n.N.toNat = ((2 ^ n.N.toNat : Nat) : Int) := by norm_cast
 have hp2 : 2 ^ n.N.toNat ≤ 2 ^ 12 := Nat.pow_le_pow_right (by omega) (by omega)
 have hsh : bshl .i64 1 n.N = ((2 ^ n.N.toNat : Nat) : Int) := by
   rw [← hp]
   conv => lhs; rw [show n.N = ((n.N.toNat : Nat) : Int) by omega]
   exact bshl_one (by omega)
 obtain ⟨s', e, h1, h2⟩ := lp_fold (body := flow_Worst_b1 n (s : Int) (t : Int) (f : Int)) (fun k x => x.1 = (k : Int) ∧ ((x.2 = (⟨0, -1, 0⟩ : TFailure) ∧ ∀ nd, nd < k → ¬ Good n s t nd) ∨ ∃ nd, nd < k ∧ Good n s t nd ∧ x.2 = wF n f nd ∧ ∀ nd', nd' < k → Good n s t nd' → wV n f nd ≤ wV n f nd')) (2 ^ n.N.toNat) (by omega) (fun k x hk ⟨h1, h2⟩ => by
   obtain ⟨i, c⟩ := x
   simp only at h1 h2
   subst h1
   have skip : ¬ Good n s t k → ∃ s', (some (Ct.nx ((wr ((k : Int) + 1)), c)) : Option (Ct (Int × TFailure) (TFailure × Int))) = some (.nx s') ∧ s'.1 = ((k + 1 : Nat) : Int) ∧ ((s'.2 = (⟨0, -1, 0⟩ : TFailure) ∧ ∀ nd, nd < k + 1 → ¬ Good n s t nd) ∨ ∃ nd, nd < k + 1 ∧ Good n s t nd ∧ s'.2 = wF n f nd ∧ ∀ nd', nd' < k + 1 → Good n s t nd' → wV n f nd ≤ wV n f nd') := fun hg => by
     rw [wr_id (by omega) (by omega)]
     refine ⟨_, rfl, by simp only; omega, ?_⟩
     rcases h2 with ⟨rfl, h2⟩ | ⟨nd, a1, a2, a3, a4⟩
     · exact .inl ⟨rfl, fun nd hnd => by
         by_cases q : nd = k
         · subst q; exact hg
         · exact h2 nd (by omega)⟩
     · exact .inr ⟨nd, by omega, a2, a3, fun nd' b1 b2 => by
         by_cases q : nd' = k
         · subst q; exact absurd b2 hg
         · exact a4 nd' (by omega) b2⟩
   unfold flow_Worst_b1
   simp only [cn_dec, jn_d]
   rw [hsh, if_pos (by omega), gd_p _ (by omega), bit0 (by omega) (by omega) (by omega), Int.toNat_natCast]
   cases b1 : k.testBit s with
   | false =>
     simp only [Bool.not_false, cn_t]
     exact skip fun hg => by rw [hg.2.1] at b1; cases b1
   | true =>
     simp only [Bool.not_true, cn_f]
     rw [gd_p _ (by omega), bit1 (by omega) (by omega) (by omega), Int.toNat_natCast]
     cases b2 : k.testBit t with
     | true =>
       simp only [cn_t]
       exact skip fun hg => by rw [hg.2.2] at b2; cases b2
     | false =>
       simp only [cn_f]
       have hg : Good n s t k := ⟨hk, b1, b2⟩
       have hsl : sortN n ((loI n.Edges k).map fun i : Nat => (i : Int)) = loS n k := rfl
       obtain ⟨x2, e2⟩ := fails_b2 h.v (f := f) (nd := k)
       rw [collect_ok h.v (by omega), bd_s, gd_p _ (loS_ok h.v k)]
       simp only [lt_d, hsl]
       rw [e2, bd_s, smK_l]
       simp only
       have hcut : (⟨((loR ((loS n k).take f) : Nat) : Int), rest f ((loI n.Edges k).map (lcI n.Edges)), (k : Int)⟩ : TFailure) = wF n f k := rfl
       have hval : (rest f ((loI n.Edges k).map (lcI n.Edges))) = wV n f k := rfl
       rw [hcut, hval, wr_id (x := (k : Int) + 1) (by omega) (by omega)]
       have hb := wV_bd h.v f k
       rcases h2 with ⟨rfl, h2⟩ | ⟨nd, a1, a2, rfl, a4⟩
       · rw [if_pos (by decide), cn_t]
         refine ⟨_, rfl, by simp only; omega, .inr ⟨k, by omega, hg, rfl, fun nd' b1 b2 => ?_⟩⟩
         by_cases q : nd' = k
         · subst q; exact Int.le_refl _
         · exact absurd b2 (h2 nd' (by omega))
       · have hb2 := wV_bd h.v f nd
         have hv : (wF n f nd).Value = wV n f nd := rfl
         rw [hv, if_neg (by omega)]
         by_cases q : wV n f k < wV n f nd
         · rw [if_pos q]
           refine ⟨_, rfl, by simp only; omega, .inr ⟨k, by omega, hg, rfl, fun nd' b1 b2 => ?_⟩⟩
           by_cases q2 : nd' = k
           · subst q2; exact Int.le_refl _
           · have := a4 nd' (by omega) b2; omega
         · rw [if_neg q]
           refine ⟨_, rfl, by simp only; omega, .inr ⟨nd, by omega, a2, rfl, fun nd' b1 b2 => ?_⟩⟩
           by_cases q2 : nd' = k
           · subst q2; omega
           · exact a4 nd' (by omega) b2) (fun x ⟨h1, _⟩ => by
   unfold flow_Worst_b1
   simp only [cn_dec]
   rw [hsh, if_neg (by omega)]) (0, ⟨0, -1, 0⟩) ⟨rfl, .inl ⟨rfl, fun nd hnd => by omega⟩⟩
 have hex : Good n s t (2 ^ s) := ⟨Nat.pow_lt_pow_right (by omega) (by omega), by rw [Nat.testBit_two_pow]; simp, by rw [Nat.testBit_two_pow]; simp; omega⟩
 rcases h2 with ⟨_, h2⟩ | ⟨nd, a1, a2, a3, a4⟩
 · exact absurd hex (h2 _ hex.1)
 · refine ⟨nd, a2, ?_, fun nd' b => a4 nd' b.1 b⟩
   unfold flow_Worst_F
   simp only [jn_d, isPair_ok h, bd_s, Bool.not_true, cn_f, isInF]
   rw [decide_eq_true (show (0 : Int) ≤ (f : Int) by omega), decide_eq_true (show (f : Int) ≤ 3 by omega)]
   simp only [Bool.and_self, Bool.not_true, cn_f]
   rw [gd_p _ (by omega), e, bd_s, smK_l, a3]
def lpop (F : Nat) : Nat := (List.range 32).countP F.testBit
theorem rest_out {α : Type} {c : α → Int} {p : α → Bool} : ∀ {l : List α} {k : Nat}, (∀ x ∈ l, 0 ≤ c x) → l.countP p ≤ k → rest k (l.map c) ≤ rest 0 (l.map fun x => if p x then 0 else c x)
 | [], k, _, _ => by simp [rest_nil]
 | a :: l, k, h, hk => by
   have h' := fun x hx => h x (List.mem_cons_of_mem a hx)
   have h0 := h a List.mem_cons_self
   rw [List.countP_cons] at hk
   rw [List.map_cons, List.map_cons, rest_z]
   cases hp : p a
   · rw [hp] at hk
     have ih := rest_out (l := l) (k := k) h' (by simpa using hk)
     cases k with
     | zero => rw [rest_z]; simp only [Bool.false_eq_true, if_false]; omega
     | succ k => rw [rest_s]; simp only [Bool.false_eq_true, if_false]; omega
   · rw [hp] at hk
     simp only [if_true] at hk ⊢
     cases k with
     | zero => omega
     | succ k =>
       have ih := rest_out (p := p) (l := l) (k := k) h' (by omega)
       rw [rest_s]; omega
theorem loR_pop (l : List Int) : lpop (loR l) ≤ l.length := by
 have key : ∀ (x : Nat) (y : Nat) (n : Nat), (List.range n).countP (2 ^ x ||| y).testBit ≤ 1 + (List.range n).countP y.testBit := fun x y n => by
   have h1 : ∀ m, (List.range m).countP (2 ^ x ||| y).testBit ≤ (List.range m).countP (fun i => decide (i = x)) + (List.range m).countP y.testBit := fun m => by
     induction m with
     | zero => simp
     | succ m ih =>
       rw [List.range_succ, List.countP_append, List.countP_append, List.countP_append]
       simp only [List.countP_cons, List.countP_nil, Nat.testBit_or, Nat.testBit_two_pow]
       by_cases q : m = x
       · subst q; simp; split <;> omega
       · have : decide (x = m) = false := by simp; omega
         rw [this]
         simp only [Bool.false_or, q]
         simp
         omega
   have h2 : ∀ m, (List.range m).countP (fun i => decide (i = x)) ≤ 1 := fun m => by
     have h3 : ∀ m, (List.range m).countP (fun i => decide (i = x)) = if x < m then 1 else 0 := fun m => by
       induction m with
       | zero => simp
       | succ m ih =>
         rw [List.range_succ, List.countP_append, ih]
         simp only [List.countP_cons, List.countP_nil]
         by_cases q : m = x
         · subst q; simp
         · simp only [q, decide_false, Bool.false_eq_true, if_false]
           by_cases q2 : x < m
           · rw [if_pos q2, if_pos (show x < m + 1 by omega)]
           · rw [if_neg q2, if_neg (show ¬ x < m + 1 by omega)]
     rw [h3]; split <;> omega
   have := h1 n
   have := h2 n
   omega
 induction l with
 | nil => simp [loR, lpop, List.countP_eq_zero]
 | cons e l ih =>
   have := key e.toNat (loR l) 32
   unfold lpop at *
   rw [loR, List.length_cons]
   omega
theorem cutE_map {α : Type} (g : α → TEdge) (p : Nat → Bool) : ∀ L : List α, cutE (L.map g) p = rest 0 ((L.filter fun i => p (g i).From.toNat && !p (g i).To.toNat).map fun i => (g i).Capacity)
 | [] => rfl
 | a :: L => by
   have ih := cutE_map g p L
   simp only [List.map_cons, cutE, List.filter_cons]
   split
   · rw [List.map_cons, rest_z, ih]
   · rw [ih]; omega
theorem cutE_self (n : TNet) (nd : Nat) : cutE n.Edges nd.testBit = wV n 0 nd := by
 have e : n.Edges = (List.range n.Edges.length).map fun i => n.Edges.getD i default := List.ext_getElem (by simp) fun i h1 h2 => by
   simp only [List.getElem_map, List.getElem_range]; exact (getD_ltD h1).symm
 conv => lhs; rw [e]
 rw [cutE_map]; rfl
theorem cutE_wo (n : TNet) (F nd : Nat) : cutE (wo n F).Edges nd.testBit = rest 0 ((loI n.Edges nd).map fun i => if F.testBit i then 0 else lcI n.Edges i) := by
 unfold wo
 simp only
 rw [cutE_map]
 have e1 : ((List.range n.Edges.length).filter fun i => nd.testBit (if F.testBit i then (⟨(n.Edges.getD i default).From, (n.Edges.getD i default).To, 0⟩ : TEdge) else n.Edges.getD i default).From.toNat && !nd.testBit (if F.testBit i then (⟨(n.Edges.getD i default).From, (n.Edges.getD i default).To, 0⟩ : TEdge) else n.Edges.getD i default).To.toNat) = loI n.Edges nd := by
   unfold loI
   refine List.filter_congr fun i _ => ?_
   unfold loP
   split <;> rfl
 rw [e1]
 congr 1
 refine List.map_congr_left fun i _ => ?_
 split <;> rfl
theorem lo_count {es : List TEdge} (hl : es.length ≤ 32) (F S : Nat) : (loI es S).countP F.testBit ≤ lpop F := by
 unfold loI lpop
 refine Nat.le_trans (List.filter_sublist.countP_le) ?_
 exact (List.range_sublist.2 hl).countP_le
theorem wo_ge {n : TNet} (h : NV n) (hl : n.Edges.length ≤ 32) {f F : Nat} (hF : lpop F ≤ f) (nd : Nat) : wV n f nd ≤ cutE (wo n F).Edges nd.testBit := by
 rw [cutE_wo]
 exact rest_out (fun i hi => (nv_get h (List.mem_range.1 (List.mem_filter.1 hi).1)).cp.1) (Nat.le_trans (lo_count hl F nd) hF)
theorem loR_pop' {l : List Int} {k : Nat} (h : l.length ≤ k) : lpop (loR l) ≤ k := Nat.le_trans (loR_pop l) h
theorem fail_eq {n : TNet} (h : NV n) (hl : n.Edges.length ≤ 32) (f nd : Nat) : cutE (wo n (loR ((loS n nd).take f))).Edges nd.testBit = wV n f nd := by
 refine Int.le_antisymm ?_ (wo_ge h hl (loR_pop' (by rw [List.length_take]; omega)) nd)
 rw [cutE_wo]
 have hp := (sortN_perm (loS_ok h nd)).1
 have hbit : ∀ i : Nat, (i : Int) ∈ (loS n nd).take f → (loR ((loS n nd).take f)).testBit i = true := fun i hi => by
   rw [loR_bit _ (fun e he => by obtain ⟨j, rfl, _⟩ := loS_mem h (List.mem_of_mem_take he); omega)]
   simpa using hi
 unfold wV
 rw [← rest_loS h]
 generalize loR ((loS n nd).take f) = F at hbit
 have e1 : rest 0 ((loI n.Edges nd).map fun i => if F.testBit i then 0 else lcI n.Edges i) = rest 0 ((loS n nd).map fun i : Int => if F.testBit i.toNat then 0 else capAt n i) := by
   have := hp.map (fun i : Int => if F.testBit i.toNat then 0 else capAt n i)
   rw [List.map_map] at this
   exact (rest_perm this 0).symm
 rw [e1]
 have e2 : rest 0 ((loS n nd).map fun i : Int => if F.testBit i.toNat then 0 else capAt n i) = rest 0 (((loS n nd).take f).map fun i : Int => if F.testBit i.toNat then 0 else capAt n i) + rest 0 (((loS n nd).drop f).map fun i : Int => if F.testBit i.toNat then 0 else capAt n i) := by
   rw [← rest_app0, ← List.map_append, List.take_append_drop]
 have e3 : rest 0 (((loS n nd).take f).map fun i : Int => if F.testBit i.toNat then 0 else capAt n i) ≤ 0 := by
   have : ((loS n nd).take f).map (fun i : Int => if F.testBit i.toNat then 0 else capAt n i) = ((loS n nd).take f).map fun _ => 0 := List.map_congr_left fun i hi => by
     obtain ⟨j, rfl, _⟩ := loS_mem h (List.mem_of_mem_take hi)
     rw [Int.toNat_natCast, hbit j hi]; rfl
   rw [this]
   have := rest0_le (B := 0) (l := ((loS n nd).take f).map fun _ => (0 : Int)) (fun x hx => by obtain ⟨_, _, rfl⟩ := List.mem_map.1 hx; omega)
   omega
 have e4 : rest 0 (((loS n nd).drop f).map fun i : Int => if F.testBit i.toNat then 0 else capAt n i) ≤ rest 0 (((loS n nd).drop f).map (capAt n)) := rest_mono 0 fun i hi => by
   have := (lcap_bd h (List.mem_map.2 ⟨i, List.mem_of_mem_drop hi, rfl⟩)).1
   split <;> omega
 omega
structure WorstV (n : TNet) (s t f nd : Nat) : Prop where
 good : Good n s t nd
 le : ∀ nd', Good n s t nd' → wV n f nd ≤ wV n f nd'
theorem MaxV.good {n : TNet} {F s t C : Nat} {v : Int} (h : MaxV (wo n F) s t v C) : Good n s t C := ⟨h.lt, h.cs, h.ct⟩
theorem WorstV.least {n : TNet} {s t f nd : Nat} (w : WorstV n s t f nd) (h : NV n) (hl : n.Edges.length ≤ 32) {F : Nat} (hF : lpop F ≤ f) {nd' : Nat} (g : Good n s t nd') : wV n f nd ≤ cutE (wo n F).Edges nd'.testBit :=
 Int.le_trans (w.le nd' g) (wo_ge h hl hF nd')
theorem WorstV.low {n : TNet} {s t f nd : Nat} (w : WorstV n s t f nd) (h : NV n) (hl : n.Edges.length ≤ 32) {F C : Nat} {v : Int} (hF : lpop F ≤ f) (hM : MaxV (wo n F) s t v C) : wV n f nd ≤ v := by
 rw [hM.eq]; exact w.least h hl hF hM.good
theorem WorstV.eq {n : TNet} {s t f nd : Nat} (w : WorstV n s t f nd) (h : NV n) (hl : n.Edges.length ≤ 32) {C : Nat} {v : Int} (hM : MaxV (wo n (loR ((loS n nd).take f))) s t v C) : v = wV n f nd := by
 refine Int.le_antisymm ?_ (w.low h hl (loR_pop' (by rw [List.length_take]; omega)) hM)
 rw [← fail_eq h hl]
 exact hM.le _ w.good.2.1 w.good.2.2
end Go.Proofs.Ytgkmodjcoedonaa
namespace Go.Proofs.Ytgkmodjcoedonaa
open Go Go.Eng
set_option maxRecDepth 100000
def sp (l : List Int) (i : Nat) : Int := l.getD i default
def spP (l : List Int) (i : Nat) : Int := if sp l i > 0 then sp l i else 0
def spN (l : List Int) (i : Nat) : Int := if sp l i > 0 then 0 else - sp l i
theorem sp_out {l : List Int} {i : Nat} (h : l.length ≤ i) : sp l i = 0 := by
 unfold sp; rw [List.getD_eq_getElem?_getD, List.getElem?_eq_none h]; rfl
theorem sp_pn (l : List Int) (i : Nat) : spP l i - spN l i = sp l i := by unfold spP spN; split <;> omega
theorem spP_nn (l : List Int) (i : Nat) : 0 ≤ spP l i := by unfold spP; split <;> omega
theorem spN_nn (l : List Int) (i : Nat) : 0 ≤ spN l i := by unfold spN; split <;> omega
theorem spP_out {l : List Int} {i : Nat} (h : l.length ≤ i) : spP l i = 0 := by unfold spP; rw [sp_out h]; rfl
theorem spN_out {l : List Int} {i : Nat} (h : l.length ≤ i) : spN l i = 0 := by unfold spN; rw [sp_out h]; rfl
theorem sm_ext {f : Nat → Int} {n : Nat} : ∀ {m : Nat}, n ≤ m → (∀ i, n ≤ i → i < m → f i = 0) → sm m f = sm n f
 | 0, h, _ => by have : n = 0 := by omega
                 subst this; rfl
 | m + 1, h, hz => by
   by_cases q : n = m + 1
   · subst q; rfl
   · have ih := sm_ext (f := f) (n := n) (m := m) (by omega) fun i h1 h2 => hz i h1 (by omega)
     have := hz m (by omega) (by omega)
     show sm m f + f m = sm n f
     omega
theorem sm_abs {f : Nat → Int} {B : Int} : ∀ {k : Nat}, (∀ i, i < k → -B ≤ f i ∧ f i ≤ B) → -(k * B) ≤ sm k f ∧ sm k f ≤ k * B
 | 0, _ => by simp [sm]
 | k + 1, h => by
   have h1 := sm_abs (f := f) (B := B) (k := k) fun i hi => h i (by omega)
   have h2 := h k (by omega)
   have e : ((k + 1 : Nat) : Int) * B = k * B + B := by rw [Int.natCast_add, Int.add_mul]; simp
   show -(((k + 1 : Nat) : Int) * B) ≤ sm k f + f k ∧ sm k f + f k ≤ ((k + 1 : Nat) : Int) * B
   omega
structure SupV (n : TNet) (l : List Int) : Prop where
 v : NV n
 ll : (l.length : Int) = n.N
 lv : ∀ i, i < l.length → -100000 ≤ sp l i ∧ sp l i ≤ 100000
 z : sm l.length (sp l) = 0
instance (n : TNet) (l : List Int) : Decidable (SupV n l) := decidable_of_iff (NV n ∧ (l.length : Int) = n.N ∧ (∀ i, i < l.length → -100000 ≤ sp l i ∧ sp l i ≤ 100000) ∧ sm l.length (sp l) = 0) ⟨fun h => ⟨h.1, h.2.1, h.2.2.1, h.2.2.2⟩, fun h => ⟨h.v, h.ll, h.lv, h.z⟩⟩
theorem isSupply_iff (n : TNet) (l : List Int) : flow_isSupply_F n l = some (decide (SupV n l)) := by
 unfold flow_isSupply_F
 simp only [jn_d, valid_iff, bd_s]
 by_cases h0 : NV n
 · rw [decide_eq_true h0, Bool.not_true, cn_f]
   by_cases h1 : (l.length : Int) = n.N
   · have hn := h0.nn
     rw [show ((l.length : Int) != n.N) = false by rw [h1]; simp, cn_f]
     obtain ⟨o, e, ho⟩ := lp_runF (body := flow_isSupply_b1 l) (fun z : Int × Int => ∃ k : Nat, z.2 = (k : Int) ∧ k ≤ l.length ∧ (∀ i, i < k → -100000 ≤ sp l i ∧ sp l i ≤ 100000) ∧ z.1 = sm k (sp l)) (fun z => ((l.length : Int) - z.2).toNat)
       (fun o => match o with
         | .inl z => (∀ i, i < l.length → -100000 ≤ sp l i ∧ sp l i ≤ 100000) ∧ z.1 = sm l.length (sp l)
         | .inr r => r = false ∧ ¬ ∀ i, i < l.length → -100000 ≤ sp l i ∧ sp l i ≤ 100000) (fun z hz => by
         obtain ⟨g, i⟩ := z
         obtain ⟨k, rfl, hk, hr, rfl⟩ := hz
         unfold flow_isSupply_b1
         simp only [cn_dec]
         by_cases hlt : (k : Int) < (l.length : Int)
         · rw [if_pos hlt, ix_n (by omega), isInF, bd_s, cn_not, cn_if]
           have hb := sm_abs (f := sp l) (B := 100000) (k := k) hr
           by_cases hin : -100000 ≤ sp l k ∧ sp l k ≤ 100000
           · rw [if_pos (by simp only [Bool.and_eq_true, decide_eq_true_eq]; exact hin)]
             have hsp : l.getD k default = sp l k := rfl
             rw [hsp, wr_id (x := sm k (sp l) + sp l k) (by omega) (by omega), wr_id (x := (k : Int) + 1) (by omega) (by omega)]
             refine .inl ⟨_, rfl, ⟨k + 1, by simp only; omega, by omega, fun i hi => ?_, rfl⟩, by simp only; omega⟩
             by_cases c : i = k
             · subst c; exact hin
             · exact hr i (by omega)
           · rw [if_neg (by simp only [Bool.and_eq_true, decide_eq_true_eq]; exact hin)]
             exact .inr (.inr ⟨_, rfl, rfl, fun q => hin (q k (by omega))⟩)
         · rw [if_neg hlt]
           have hke : k = l.length := by omega
           subst hke
           exact .inr (.inl ⟨_, rfl, hr, rfl⟩))
       (0, 0) ⟨0, rfl, by omega, fun i hi => by omega, rfl⟩ (by simp only; omega)
     rw [e, bd_s]
     match o, ho with
     | .inl z, ⟨g1, g2⟩ =>
       rw [smK_l, g2]
       congr 1
       rw [Bool.eq_iff_iff]
       simp only [beq_iff_eq, decide_eq_true_eq]
       exact ⟨fun q => ⟨h0, h1, g1, q⟩, fun q => q.z⟩
     | .inr r, ⟨hr, g2⟩ =>
       subst hr
       rw [smK_r, decide_eq_false fun q : SupV n l => g2 q.lv]
   · rw [show ((l.length : Int) != n.N) = true by simp [h1], cn_t, decide_eq_false fun q : SupV n l => h1 q.ll]
 · rw [decide_eq_false h0, Bool.not_false, cn_t, cn_t, decide_eq_false fun q : SupV n l => h0 q.v]
def M0 (E : List TEdge) (l : List Int) (a b : Nat) : Int := (capM E a b + if a = 12 then spP l b else 0) + if b = 13 then spN l a else 0
def ssum (l : List Int) (S : Nat → Bool) : Int := sm 14 fun a => if S a then sp l a else 0
theorem leav_M0 {N : Int} (hN : N ≤ 12) {E : List TEdge} (h : ∀ e ∈ E, EV N e) (l : List Int) {S : Nat → Bool} (h1 : S 12 = true) (h2 : S 13 = false) : leav 14 (M0 E l) S = cutE E S + sm 14 (spP l) - ssum l S := by
 have e1 : leav 14 (fun a b => if a = 12 then spP l b else 0) S = sm 14 fun b => if S b then 0 else spP l b := by
   unfold leav
   rw [show sm 14 (fun a => if S a then sm 14 (fun b => if S b then 0 else if a = 12 then spP l b else 0) else 0) = sm 14 (fun a => if a = 12 then sm 14 (fun b => if S b then 0 else spP l b) else 0) from sm_congr fun a _ => by
     by_cases q : a = 12
     · subst q; rw [h1]; simp
     · rw [if_neg q]
       have : sm 14 (fun b => if S b then 0 else if a = 12 then spP l b else 0) = 0 := sm_zero fun b _ => by rw [if_neg q]; split <;> rfl
       rw [this]; split <;> rfl, sm_one, if_pos (by decide)]
 have e2 : leav 14 (fun a b => if b = 13 then spN l a else 0) S = sm 14 fun a => if S a then spN l a else 0 := by
   unfold leav
   refine sm_congr fun a _ => ?_
   have : sm 14 (fun b => if S b then 0 else if b = 13 then spN l a else 0) = spN l a := by
     rw [show sm 14 (fun b => if S b then 0 else if b = 13 then spN l a else 0) = sm 14 (fun b => if b = 13 then spN l a else 0) from sm_congr fun b _ => by
       by_cases q : b = 13
       · subst q; rw [h2]; simp
       · rw [if_neg q]; split <;> rfl, sm_one, if_pos (by decide)]
   rw [this]
 have e3 : sm 14 (fun b => if S b then 0 else spP l b) + sm 14 (fun a => if S a then spN l a else 0) + ssum l S = sm 14 (spP l) := by
   unfold ssum
   rw [← sm_add, ← sm_add]
   refine sm_congr fun b _ => ?_
   have := sp_pn l b
   split <;> omega
 have e4 : leav 14 (M0 E l) S = leav 14 (capM E) S + leav 14 (fun a b => if a = 12 then spP l b else 0) S + leav 14 (fun a b => if b = 13 then spN l a else 0) S := by
   rw [← leav_add, ← leav_add]; rfl
 rw [e4, e1, e2, ← cut_leav hN h]
 omega
theorem cutE_congr {N : Int} : ∀ {E : List TEdge}, (∀ e ∈ E, EV N e) → ∀ {p q : Nat → Bool}, (∀ x : Nat, (x : Int) < N → p x = q x) → cutE E p = cutE E q
 | [], _, _, _, _ => rfl
 | e :: E, h, p, q, hpq => by
   have hev := h e List.mem_cons_self
   have hfr := hev.fr; have hto := hev.to
   simp only [cutE]
   rw [cutE_congr (E := E) (fun e he => h e (List.mem_cons_of_mem _ he)) hpq, hpq _ (by omega), hpq _ (by omega)]
theorem cutE_all {N : Int} : ∀ {E : List TEdge}, (∀ e ∈ E, EV N e) → ∀ {p : Nat → Bool} (b : Bool), (∀ x : Nat, (x : Int) < N → p x = b) → cutE E p = 0
 | [], _, _, _, _ => rfl
 | e :: E, h, p, b, hpq => by
   have hev := h e List.mem_cons_self
   have hfr := hev.fr; have hto := hev.to
   simp only [cutE]
   rw [cutE_all (E := E) (fun e he => h e (List.mem_cons_of_mem _ he)) b hpq, hpq _ (by omega), hpq _ (by omega)]
   cases b <;> rfl
structure IsMet (n : TNet) (l A : List Int) : Prop where
 ok : okA n.Edges A
 eq : ∀ v, v < n.N.toNat → give n.Edges A v = sp l v
theorem IsMet.cut {n : TNet} {l A : List Int} (hs : SupV n l) (h : IsMet n l A) (S : Nat → Bool) : ssum l S ≤ cutE n.Edges S := by
 have hn := hs.v.nn; have hll := hs.ll
 refine Int.le_trans (Int.le_of_eq ?_) (give_set hn.2 hs.v.ev h.ok S)
 unfold ssum
 refine sm_congr fun v hv => ?_
 by_cases q : v < n.N.toNat
 · rw [h.eq v q]
 · rw [give_out hs.v.ev (by omega), sp_out (by omega)]
end Go.Proofs.Ytgkmodjcoedonaa
namespace Go.Proofs.Ytgkmodjcoedonaa
open Go Go.Eng
set_option maxRecDepth 100000
theorem supply_loop {n : TNet} {l : List Int} (h : SupV n l) {m : Ar 196} (hm : ∀ a b, a < 14 → b < 14 → mx m a b = capM n.Edges a b) :
   ∃ i M, lp (flow_Meet_b1 l) FU (0, 0, m) = some (.inl (sm 14 (spP l), i, M)) ∧ ∀ a b, a < 14 → b < 14 → mx M a b = M0 n.Edges l a b := by
 have hn := h.v.nn; have hll := h.ll
 obtain ⟨s', e, h1⟩ := lp_fold (body := flow_Meet_b1 l) (fun k z => z.2.1 = (k : Int) ∧ z.1 = sm k (spP l) ∧ ∀ a b, a < 14 → b < 14 → mx z.2.2 a b = (capM n.Edges a b + if a = 12 ∧ b < k then spP l b else 0) + if b = 13 ∧ a < k then spN l a else 0) l.length (by omega)
   (fun k z hk hz => by
     obtain ⟨g, i, M⟩ := z
     obtain ⟨rfl, rfl, hM⟩ := hz
     simp only at hM
     have hb := h.lv k hk
     have hsb := sm_abs (f := spP l) (B := 100000) (k := k) fun i hi => by have := h.lv i (by omega); unfold spP; split <;> omega
     have hcap12 : capM n.Edges 12 k = 0 := capM_out h.v.ev (by omega)
     have hcap13 : capM n.Edges k 13 = 0 := capM_out h.v.ev (by omega)
     unfold flow_Meet_b1
     simp only [cn_dec, jn_d]
     have hsp : l.getD k default = sp l k := rfl
     rw [if_pos (by omega), ix_n hk, hsp, gd_p _ (by omega), gd_p _ (by omega), wr_id (x := (k : Int) + 1) (by omega) (by omega)]
     by_cases c : sp l k > 0
     · have hp : spP l k = sp l k := by unfold spP; rw [if_pos c]
       have hq : spN l k = 0 := by unfold spN; rw [if_pos c]
       rw [if_pos c, wr_id (x := sm k (spP l) + sp l k) (by omega) (by omega)]
       refine ⟨_, rfl, by simp only; omega, by show _ = sm k (spP l) + spP l k; rw [hp], fun a b ha hb => ?_⟩
       simp only
       rw [mx_st2 _ (by omega) (by omega) _ ha hb]
       simp only [Int.toNat_natCast]
       by_cases q : a = 12 ∧ b = k
       · obtain ⟨rfl, rfl⟩ := q
         rw [if_pos ⟨rfl, rfl⟩, if_pos (by omega), if_neg (by omega), hcap12, hp]; omega
       · have q' : ¬ (a = (12 : Int).toNat ∧ b = k) := q
         rw [if_neg q', hM a b ha hb]
         by_cases r : a = 12 ∧ b < k
         · rw [if_pos r, if_pos (show a = 12 ∧ b < k + 1 by omega), if_neg (show ¬ (b = 13 ∧ a < k) by omega), if_neg (show ¬ (b = 13 ∧ a < k + 1) by omega)]
         · rw [if_neg r, if_neg (show ¬ (a = 12 ∧ b < k + 1) by omega)]
           by_cases r2 : b = 13 ∧ a < k
           · rw [if_pos r2, if_pos (by omega)]
           · rw [if_neg r2]
             by_cases r3 : b = 13 ∧ a < k + 1
             · have : a = k := by omega
               subst this
               rw [if_pos r3, hq]
             · rw [if_neg r3]
     · have hp : spP l k = 0 := by unfold spP; rw [if_neg c]
       have hq : spN l k = - sp l k := by unfold spN; rw [if_neg c]
       rw [if_neg c, wr_id (x := 0 - sp l k) (by omega) (by omega)]
       refine ⟨_, rfl, by simp only; omega, by show _ = sm k (spP l) + spP l k; rw [hp]; simp, fun a b ha hb => ?_⟩
       simp only
       rw [mx_st2 _ (by omega) (by omega) _ ha hb]
       simp only [Int.toNat_natCast]
       by_cases q : a = k ∧ b = 13
       · obtain ⟨rfl, rfl⟩ := q
         rw [if_pos ⟨rfl, rfl⟩, if_neg (by omega), if_pos (by omega), hcap13, hq]; omega
       · have q' : ¬ (a = k ∧ b = (13 : Int).toNat) := q
         rw [if_neg q', hM a b ha hb]
         by_cases r : b = 13 ∧ a < k
         · rw [if_pos r, if_pos (show b = 13 ∧ a < k + 1 by omega), if_neg (by omega), if_neg (by omega)]
         · rw [if_neg r, if_neg (show ¬ (b = 13 ∧ a < k + 1) by omega)]
           by_cases r2 : a = 12 ∧ b < k
           · rw [if_pos r2, if_pos (by omega)]
           · rw [if_neg r2]
             by_cases r3 : a = 12 ∧ b < k + 1
             · have : b = k := by omega
               subst this
               rw [if_pos r3, hp]
             · rw [if_neg r3])
   (fun z hz => by
     obtain ⟨g, i, M⟩ := z
     obtain ⟨rfl, _⟩ := hz
     unfold flow_Meet_b1
     simp only [cn_dec]
     rw [if_neg (by omega)])
   (0, 0, m) ⟨rfl, rfl, fun a b ha hb => by simp only; rw [if_neg (by omega), if_neg (by omega), hm a b ha hb]; omega⟩
 obtain ⟨g, i, M⟩ := s'
 obtain ⟨-, rfl, h2⟩ := h1
 simp only at h2
 refine ⟨i, M, ?_, fun a b ha hb => ?_⟩
 · rw [e, sm_ext (f := spP l) (n := l.length) (m := 14) (by omega) fun i h1 _ => spP_out h1]
 · rw [h2 a b ha hb]
   unfold M0
   by_cases r : a = 12
   · by_cases r2 : b < l.length
     · rw [if_pos ⟨r, r2⟩, if_pos r]
       by_cases r3 : b = 13
       · omega
       · rw [if_neg (by omega), if_neg r3]
     · rw [if_neg (by omega), if_pos r, spP_out (by omega)]
       by_cases r3 : b = 13
       · rw [if_pos r3, if_neg (by omega), spN_out (by omega)]
       · rw [if_neg (by omega), if_neg r3]
   · rw [if_neg (by omega), if_neg r]
     by_cases r3 : b = 13
     · rw [if_pos r3]
       by_cases r4 : a < l.length
       · rw [if_pos ⟨r3, r4⟩]
       · rw [if_neg (by omega), spN_out (by omega)]
     · rw [if_neg (by omega), if_neg r3]
theorem Meet_no {n : TNet} {l : List Int} (h : ¬ SupV n l) : flow_Meet_F n l = some (⟨false, [], 0⟩, 270) := by
 unfold flow_Meet_F
 rw [isSupply_iff, bd_s, decide_eq_false h, Bool.not_false, cn_t]
theorem Meet_ok {n : TNet} {l : List Int} (h : SupV n l) : (∃ A, flow_Meet_F n l = some (⟨true, A, 0⟩, 0) ∧ IsMet n l A) ∨ (∃ S : Nat, flow_Meet_F n l = some (⟨false, [], (S : Int)⟩, 0) ∧ S < 2 ^ n.N.toNat ∧ ssum l S.testBit > cutE n.Edges S.testBit) := by
 have hn := h.v.nn; have hll := h.ll; have hel := h.v.el
 obtain ⟨m, em, hm⟩ := open_ok h.v
 obtain ⟨i, M1, el, hM1⟩ := supply_loop h hm
 have hcap : ∀ a b, 0 ≤ capM n.Edges a b ∧ capM n.Edges a b ≤ 400000 := fun a b => by
   have c1 := capM_nn (E := n.Edges) (fun e he => (h.v.ev e he).cp.1) a b
   have c2 := capM_le (E := n.Edges) (fun e he => (h.v.ev e he).cp.2) a b
   omega
 have hsp : ∀ i, -100000 ≤ sp l i ∧ sp l i ≤ 100000 := fun i => by
   by_cases q : i < l.length
   · exact h.lv i q
   · rw [sp_out (by omega)]; decide
 have hpp : ∀ i, spP l i ≤ 100000 := fun i => by have := hsp i; unfold spP; split <;> omega
 have hpn : ∀ i, spN l i ≤ 100000 := fun i => by have := hsp i; unfold spN; split <;> omega
 have hM0 : ∀ a b, 0 ≤ M0 n.Edges l a b ∧ M0 n.Edges l a b ≤ 600000 := fun a b => by
   have := hcap a b; have := spP_nn l b; have := spN_nn l a; have := hpp b; have := hpn a
   unfold M0; split <;> split <;> omega
 obtain ⟨v, R, M, ep, hF, hv0, Rs, Rt, hcl, hmin⟩ := maxflow_ok (M0 := M1) (B := 1000000000) (by omega) (t := 13) (s := 12) (by omega) (by omega) (by omega) (fun a b ha hb => by rw [hM1 a b ha hb]; exact (hM0 a b).1)
   (fun a b ha hb => by rw [hM1 a b ha hb, hM1 b a hb ha]; have := hM0 a b; have := hM0 b a; omega)
 have hF' : Flo 14 (M0 n.Edges l) (mx M) 12 13 v := ⟨hF.nn, fun a b ha hb => by rw [hF.sy a b ha hb, hM1 a b ha hb, hM1 b a hb ha], fun a ha h1 h2 => by rw [← hF.co a ha h1 h2]; exact sm_congr fun b hb => by rw [hM1 a b ha hb],
   by rw [← hF.va]; exact sm_congr fun b hb => by rw [hM1 12 b (by omega) hb]⟩
 have hleav := fun (S : Nat → Bool) h1 h2 => leav_M0 hn.2 h.v.ev l (S := S) h1 h2
 have heq := hF'.eq (by omega) Rs Rt hcl
 rw [hleav R Rs Rt] at heq
 have hbit : ∀ x, (bits R 14).testBit x = (decide (x < 14) && R x) := bits_test R 14
 have hblt : bits R 14 < 2 ^ 14 := Nat.lt_pow_two_of_testBit _ fun i hi => by rw [hbit, decide_eq_false (by omega)]; rfl
 have hW : sm 14 (spP l) ≤ 14 * 100000 := by
   have := (sm_abs (f := spP l) (B := 100000) (k := 14) fun i _ => ⟨by have := spP_nn l i; omega, hpp i⟩).2
   simpa using this
 have hp0 := two_pow_pos n.N.toNat
 have hp1 : (2 : Int) ^ n.N.toNat ≤ 2 ^ 12 := two_pow_le (by omega)
 have hsh : bshl .i64 1 n.N = 2 ^ n.N.toNat := by
   conv => lhs; rw [show n.N = ((n.N.toNat : Nat) : Int) by omega]
   exact bshl_one (by omega)
 by_cases hlt : v < sm 14 (spP l)
 · right
   refine ⟨bits R 14 &&& (2 ^ n.N.toNat - 1), ?_, ?_, ?_⟩
   · unfold flow_Meet_F
     rw [isSupply_iff, bd_s, decide_eq_true h, Bool.not_true, cn_f, em, bd_s, el, bd_s, smK_l]
     simp only
     have ep' : push_F 12 13 M1 = some (v, ((bits R 14 : Nat) : Int), M) := ep
     rw [ep', bd_s, cn_dec]
     simp only
     rw [if_pos hlt, gd_p _ hn.1, hsh, wr_id (by omega) (by omega), band_nat (by omega) (by omega) (by omega) (by omega), Int.toNat_natCast]
     have : ((2 : Int) ^ n.N.toNat - 1).toNat = 2 ^ n.N.toNat - 1 := by
       have e : (2 : Int) ^ n.N.toNat = ((2 ^ n.N.toNat : Nat) : Int) := by norm_cast
       omega
     rw [this]
   · have := Nat.two_pow_pos n.N.toNat
     exact Nat.lt_of_le_of_lt Nat.and_le_right (by omega)
   · have hx : ∀ x : Nat, (x : Int) < n.N → (bits R 14 &&& (2 ^ n.N.toNat - 1)).testBit x = R x := fun x hx => by
       rw [Nat.testBit_and, hbit, Nat.testBit_two_pow_sub_one, decide_eq_true (show x < 14 by omega), decide_eq_true (show x < n.N.toNat by omega)]; simp
     have e1 : cutE n.Edges (bits R 14 &&& (2 ^ n.N.toNat - 1)).testBit = cutE n.Edges R := cutE_congr h.v.ev hx
     have e2 : ssum l (bits R 14 &&& (2 ^ n.N.toNat - 1)).testBit = ssum l R := by
       unfold ssum
       refine sm_congr fun x _ => ?_
       by_cases q : (x : Int) < n.N
       · rw [hx x q]
       · rw [sp_out (by omega)]; split <;> split <;> rfl
     rw [e1, e2]; omega
 · left
   have hs12 := hleav (fun x => decide (x = 12)) (by decide) (by decide)
   have hs13 := hleav (fun x => decide (x ≠ 13)) (by decide) (by decide)
   rw [cutE_all h.v.ev false (fun x hx => by simp; omega)] at hs12
   rw [cutE_all h.v.ev true (fun x hx => by simp; omega)] at hs13
   have z12 : ssum l (fun x => decide (x = 12)) = 0 := sm_zero fun x _ => by
     by_cases q : x = 12
     · rw [sp_out (by omega)]; split <;> rfl
     · rw [if_neg (by simpa using q)]
   have z13 : ssum l (fun x => decide (x ≠ 13)) = 0 := by
     rw [← h.z, ← sm_ext (f := sp l) (n := l.length) (m := 14) (by omega) fun i h1 _ => sp_out h1]
     refine sm_congr fun x _ => ?_
     by_cases q : x = 13
     · rw [sp_out (by omega)]; split <;> rfl
     · rw [if_pos (by simpa using q)]
   rw [z12] at hs12
   rw [z13] at hs13
   have hle := hF'.le (by omega) (S := fun x => decide (x = 12)) (by decide) (by decide)
   have hv : v = sm 14 (spP l) := by omega
   have t12 : ∀ b, b < 14 → b ≠ 12 → mx M 12 b = 0 := fun b hb q => hF'.tight (by omega) (S := fun x => decide (x = 12)) (by decide) (by decide) (by omega) (by omega) hb (by decide) (by simpa using q)
   have t13 : ∀ a, a < 14 → a ≠ 13 → mx M a 13 = 0 := fun a ha q => hF'.tight (by omega) (S := fun x => decide (x ≠ 13)) (by decide) (by decide) (by omega) ha (by omega) (by simpa using q) (by decide)
   have hMb : ∀ a b, a < 14 → b < 14 → 0 ≤ mx M a b ∧ mx M a b ≤ 1000000000 := fun a b ha hb => ⟨hF.nn a b ha hb, by have := hF'.up ha hb; have := hM0 a b; have := hM0 b a; omega⟩
   obtain ⟨A, eA, hok, hfl⟩ := amounts_ok h.v hMb
   refine ⟨A, ?_, hok, fun x hx => ?_⟩
   · unfold flow_Meet_F
     rw [isSupply_iff, bd_s, decide_eq_true h, Bool.not_true, cn_f, em, bd_s, el, bd_s, smK_l]
     simp only
     have ep' : push_F 12 13 M1 = some (v, ((bits R 14 : Nat) : Int), M) := ep
     rw [ep', bd_s, cn_dec]
     simp only
     rw [if_neg hlt, eA, bd_s]
   · have hx12 : x < 12 := by omega
     rw [give_flM hn.2 h.v.ev]
     have hco := hF'.co x (by omega) (by omega) (by omega)
     have key : sm 14 (fun b => flM n.Edges A x b - flM n.Edges A b x) = sm 14 (fun b => (M0 n.Edges l x b - mx M x b) + ((if b = 12 then spP l x else 0) - (if b = 13 then spN l x else 0))) := sm_congr fun b hb => by
       rw [hfl x b (by omega) hb, hfl b x hb (by omega)]
       have sy := hF'.sy x b (by omega) hb
       have nn1 := hF.nn x b (by omega) hb
       have nn2 := hF.nn b x hb (by omega)
       have m1 : M0 n.Edges l x b = capM n.Edges x b + if b = 13 then spN l x else 0 := by unfold M0; rw [if_neg (show ¬ x = 12 by omega)]; omega
       have m2 : M0 n.Edges l b x = capM n.Edges b x + if b = 12 then spP l x else 0 := by unfold M0; rw [if_neg (show ¬ x = 13 by omega)]; omega
       rw [m1, m2] at sy
       rw [m1]
       by_cases q : b = 12
       · subst q
         have c1 : capM n.Edges x 12 = 0 := capM_out h.v.ev (by omega)
         have c2 : capM n.Edges 12 x = 0 := capM_out h.v.ev (by omega)
         have c3 := t12 x (by omega) (by omega)
         simp only [if_true] at sy ⊢
         rw [if_neg (show ¬ (12 : Nat) = 13 by decide)] at sy ⊢
         unfold imax; split <;> split <;> omega
       · by_cases q2 : b = 13
         · subst q2
           have c1 : capM n.Edges x 13 = 0 := capM_out h.v.ev (by omega)
           have c2 : capM n.Edges 13 x = 0 := capM_out h.v.ev (by omega)
           have c3 := t13 x (by omega) (by omega)
           simp only [if_true] at sy ⊢
           rw [if_neg (show ¬ (13 : Nat) = 12 by decide)] at sy ⊢
           unfold imax; split <;> split <;> omega
         · rw [if_neg q, if_neg q2] at sy ⊢
           unfold imax; split <;> split <;> omega
     rw [key, sm_add, hco, sm_sub, sm_one, sm_one, if_pos (by decide), if_pos (by decide)]
     have := sp_pn l x
     omega
theorem eq_ok {a b : List Int} (hl : a.length ≤ 100000) : slices_Equal_int_F a b = some (decide (a = b)) := by
 unfold slices_Equal_int_F
 rw [cn_bne]
 by_cases h : (a.length : Int) = (b.length : Int)
 · rw [if_pos h]
   obtain ⟨o, e, ho⟩ := lp_runF (body := slices_Equal_int_b1 a b) (fun i : Int => ∃ k : Nat, i = (k : Int) ∧ k ≤ a.length ∧ ∀ j, j < k → a.getD j default = b.getD j default) (fun i => ((a.length : Int) - i).toNat)
     (fun o => match o with
       | .inl _ => ∀ j, j < a.length → a.getD j default = b.getD j default
       | .inr r => r = false ∧ a ≠ b) (fun i hi => by
       obtain ⟨k, rfl, hk, hj⟩ := hi
       unfold slices_Equal_int_b1
       simp only [cn_dec]
       by_cases hlt : (k : Int) < (a.length : Int)
       · rw [if_pos hlt, ix_n (by omega), ix_n (by omega), cn_bne]
         by_cases q : a.getD k default = b.getD k default
         · rw [if_pos q, wr_id (by omega) (by omega)]
           refine .inl ⟨_, rfl, ⟨k + 1, by omega, by omega, fun j hj2 => ?_⟩, by omega⟩
           by_cases c : j = k
           · subst c; exact q
           · exact hj j (by omega)
         · rw [if_neg q]
           exact .inr (.inr ⟨_, rfl, rfl, fun e => q (by rw [e])⟩)
       · rw [if_neg hlt]
         exact .inr (.inl ⟨_, rfl, fun j hj2 => hj j (by omega)⟩))
     0 ⟨0, rfl, by omega, fun j hj => by omega⟩ (by omega)
   rw [e, bd_s]
   match o, ho with
   | .inl _, ho =>
     rw [smK_l, decide_eq_true]
     refine List.ext_getElem (by omega) fun j h1 h2 => ?_
     have := ho j h1
     rwa [getD_ltD h1, getD_ltD h2] at this
   | .inr r, ⟨hr, g⟩ =>
     subst hr
     rw [smK_r, decide_eq_false g]
 · rw [if_neg h, decide_eq_false fun e => h (by rw [e])]
def MeetC (n : TNet) (l : List Int) (u : TSupply) : Prop := SupV n l ∧ (if u.Met = true then IsMet n l u.Amounts ∧ u.Set = 0 else u.Amounts = [] ∧ 0 ≤ u.Set ∧ u.Set < 2 ^ n.N.toNat ∧ ssum l u.Set.toNat.testBit > cutE n.Edges u.Set.toNat.testBit)
theorem some_dec {b : Bool} {P : Prop} (h : b = true ↔ P) : ∃ c, (some b : Option Bool) = some c ∧ (c = true ↔ P) := ⟨b, rfl, h⟩
theorem checkMeet_iff (n : TNet) (l : List Int) (u : TSupply) (hA : u.Amounts.length ≤ 100000) : ∃ c, flow_CheckMeet_F n l u = some c ∧ (c = true ↔ MeetC n l u) := by
 obtain ⟨met, A, S⟩ := u
 unfold flow_CheckMeet_F
 rw [isSupply_iff, bd_s]
 by_cases h : SupV n l
 · have hn := h.v.nn; have hll := h.ll
   rw [decide_eq_true h, Bool.not_true, cn_f]
   simp only [jn_d]
   cases met with
   | true =>
     rw [cn_t]
     obtain ⟨G, eG, hG⟩ := given_ok h.v A
     rw [eG, bd_s]
     by_cases hok : okA n.Edges A
     · obtain ⟨g1, g2⟩ := hG hok
       rw [if_pos hok]
       simp only [cn_t]
       have hiff : G = l ↔ IsMet n l A := by
         constructor
         · rintro rfl
           exact ⟨hok, fun v hv => (g2 v hv).symm⟩
         · intro q
           refine List.ext_getElem (by omega) fun j h1 h2 => ?_
           have e1 := g2 j (by omega)
           have e2 := q.eq j (by omega)
           unfold sp at e2
           rw [getD_ltD h1] at e1
           rw [getD_ltD h2] at e2
           omega
       rw [cn_beq]
       by_cases q : S = 0
       · rw [if_pos q, eq_ok (by omega), bd_s]
         refine some_dec ?_
         rw [decide_eq_true_iff, hiff]
         unfold MeetC
         simp only [if_true]
         exact ⟨fun z => ⟨h, z, q⟩, fun z => z.2.1⟩
       · rw [if_neg q]
         refine some_dec ⟨fun z => (Bool.false_ne_true z).elim, fun z => ?_⟩
         unfold MeetC at z
         simp only [if_true] at z
         exact absurd z.2.2 q
     · rw [if_neg hok]
       simp only [cn_f]
       refine some_dec ⟨fun z => (Bool.false_ne_true z).elim, fun z => ?_⟩
       unfold MeetC at z
       simp only [if_true] at z
       exact absurd z.2.1.ok hok
   | false =>
     have hp0 := two_pow_pos n.N.toNat
     have hp1 : (2 : Int) ^ n.N.toNat ≤ 2 ^ 12 := two_pow_le (by omega)
     have hsh : bshl .i64 1 n.N = 2 ^ n.N.toNat := by
       conv => lhs; rw [show n.N = ((n.N.toNat : Nat) : Int) by omega]
       exact bshl_one (by omega)
     have hno : ∀ P : Prop, ¬ P → (MeetC n l ⟨false, A, S⟩ → P) → ∃ c, (some false : Option Bool) = some c ∧ (c = true ↔ MeetC n l ⟨false, A, S⟩) := fun P hP hz =>
       some_dec ⟨fun z => (Bool.false_ne_true z).elim, fun z => absurd (hz z) hP⟩
     have hM : MeetC n l ⟨false, A, S⟩ ↔ A = [] ∧ 0 ≤ S ∧ S < 2 ^ n.N.toNat ∧ ssum l S.toNat.testBit > cutE n.Edges S.toNat.testBit := by
       unfold MeetC
       simp only [Bool.false_eq_true, if_false]
       exact ⟨fun z => z.2, fun z => ⟨h, z⟩⟩
     rw [cn_f, cn_dec]
     by_cases c1 : (A.length : Int) > 0
     · rw [if_pos c1, cn_t]
       exact hno (A = []) (fun e => by rw [e] at c1; simp at c1) fun z => (hM.1 z).1
     · rw [if_neg c1, gd_p _ hn.1, hsh, wr_id (by omega) (by omega), isInF, bd_s, cn_not, cn_if]
       have hA0 : A = [] := List.length_eq_zero_iff.1 (by omega)
       by_cases c2 : 0 ≤ S ∧ S ≤ 2 ^ n.N.toNat - 1
       · rw [if_pos (by simp only [Bool.and_eq_true, decide_eq_true_eq]; exact c2)]
         obtain ⟨T, rfl⟩ : ∃ T : Nat, S = (T : Int) := ⟨_, (Int.toNat_of_nonneg c2.1).symm⟩
         have hsp : ∀ i, i < l.length → -100000 ≤ (if T.testBit i then sp l i else 0) ∧ (if T.testBit i then sp l i else 0) ≤ 100000 := fun i hi => by
           have := h.lv i hi; split <;> omega
         obtain ⟨s, e, h1, h2⟩ := lp_fold (body := flow_CheckMeet_b1 l ⟨false, A, (T : Int)⟩) (fun k s => s.2 = (k : Int) ∧ s.1 = sm k fun i => if T.testBit i then sp l i else 0) l.length (by omega) (fun k s hk hs => by
           obtain ⟨g, i⟩ := s
           obtain ⟨rfl, rfl⟩ := hs
           have hb := sm_abs (B := 100000) (k := k) fun i hi => hsp i (by omega)
           have hv := h.lv k hk
           have hspk : l.getD k default = sp l k := rfl
           unfold flow_CheckMeet_b1
           simp only [cn_dec, jn_d]
           rw [if_pos (by omega), ix_n hk, hspk, gd_p _ (by omega), bit1 (by omega) (by omega) (by omega), Int.toNat_natCast, wr_id (x := (k : Int) + 1) (by omega) (by omega), wr_id (x := _ + sp l k) (by omega) (by omega)]
           cases hbit : T.testBit k
           · rw [cn_f]
             exact ⟨_, rfl, by simp only; omega, by show (sm k fun i => if T.testBit i then sp l i else 0) = sm k (fun i => if T.testBit i then sp l i else 0) + (if T.testBit k then sp l k else 0); rw [hbit]; simp⟩
           · rw [cn_t]
             exact ⟨_, rfl, by simp only; omega, by show (sm k fun i => if T.testBit i then sp l i else 0) + sp l k = sm k (fun i => if T.testBit i then sp l i else 0) + (if T.testBit k then sp l k else 0); rw [hbit]; simp⟩) (fun s hs => by
           obtain ⟨h1, _⟩ := hs
           unfold flow_CheckMeet_b1
           simp only [cn_dec]
           rw [if_neg (by omega)]) (0, 0) ⟨rfl, rfl⟩
         have hsum : s.1 = ssum l T.testBit := by
           rw [h2]
           unfold ssum
           exact (sm_ext (n := l.length) (m := 14) (by omega) fun i q _ => by rw [sp_out q]; split <;> rfl).symm
         rw [e, bd_s, smK_l, capacityF_ok h.v (by omega), bd_s, hsum]
         refine some_dec ?_
         rw [decide_eq_true_iff, hM, Int.toNat_natCast]
         exact ⟨fun z => ⟨hA0, c2.1, by omega, z⟩, fun z => z.2.2.2⟩
       · rw [if_neg (by simp only [Bool.and_eq_true, decide_eq_true_eq]; exact c2)]
         exact hno _ c2 fun z => by have := hM.1 z; omega
 · rw [decide_eq_false h, Bool.not_false, cn_t]
   exact some_dec ⟨fun z => (Bool.false_ne_true z).elim, fun z => absurd z.1 h⟩
end Go.Proofs.Ytgkmodjcoedonaa
