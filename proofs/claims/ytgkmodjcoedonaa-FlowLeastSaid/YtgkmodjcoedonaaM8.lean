import Derived.Test.YtgkmodjcoedonaaM7
set_option linter.unusedVariables false
set_option linter.unusedSimpArgs false
set_option linter.unusedSectionVars false
namespace Go.Proofs.Ytgkmodjcoedonaa
open Go Go.Eng
set_option maxHeartbeats 0
set_option maxRecDepth 100000
def law27_FlowLeast_F (a0 : Int) (a1 : List (Int × Int × Int)) (a2 : Int) (a3 : Int) (a4 : Int) (a5 : Int) : Option Bool := bd (law27_sane_F ) fun y1 =>
    cn (!y1) (some false) (bd (ref27_Made_F a0 a1) fun y2 => bd (law27_ends_F y2 a2 a3) fun y3 => bd (law27_greatest_F y2 y3.1 y3.2) fun y4 =>
    gd (0 ≤ y2.N) (bd (law27_pick_F a4 (bshl .i64 1 y2.N)) fun y5 => bd (flow_CheckCut_F y2 y3.1 y3.2 y5) fun y6 => jn (fun p7 : Bool =>
    cn p7 (some false) (cn ((y2.Edges.length : Int) == 0) (some (y4.1 == 0)) (bd (law27_pick_F a5 (y2.Edges.length : Int)) fun y9 => lt ([] : List TEdge) fun l10 =>
    gd (y2.Edges.length ≤ 1048576) (lt y2.Edges fun l11 =>
    gd ((0 : Int) ≤ y9 ∧ y9 < (l11.length : Int)) (gd ((0 : Int) ≤ y9 ∧ y9 < (l11.length : Int)) (st l11 (y9) (⟨(l11.getD (y9).toNat default).From, (l11.getD (y9).toNat default).To, (wr (((l11.getD (y9).toNat default).Capacity) + 1))⟩ : TEdge) fun l12 =>
    bd (law27_greatest_F (⟨y2.N, l12⟩ : TNet) y3.1 y3.2) fun y13 => jn (fun p14 : Bool => jn (fun p19 : Bool => some p19) fun k20 =>
    cn y13.2.2 (cn (decide (y13.1 ≥ y4.1)) (cn (decide (y13.1 ≤ (wr (y4.1 + 1)))) (cn p14 (k20 true) (k20 (y13.1 == y4.1))) (k20 false)) (k20 false)) (k20 false)) fun k15 =>
    ix y2.Edges default y9 fun e16 => gd (0 ≤ e16.From) (cn ((Int.tmod (bshr .i64 y4.2.1 e16.From) 2) == 1) (ix y2.Edges default y9 fun e17 =>
    gd (0 ≤ e17.To) (let v18 := ((Int.tmod (bshr .i64 y4.2.1 e17.To) 2) == 0); k15 v18)) (k15 false)))))))) fun k8 => cn (!y4.2.2) (k8 true) (cn y6.2 (cn (y6.1 ==
    y4.1) (k8 ((band .i64 y5 y4.2.1) != y4.2.1)) (k8 false)) (k8 false))))
def law27_FlowLeast_S : List AV → AV → Prop := fun args r => ∃ a0 a1 a2 a3 a4 a5, args = [eI a0, (eL 3 eA23 default) a1, eI a2, eI a3, eI a4, eI a5] ∧ W (law27_FlowLeast_F a0 a1 a2 a3 a4 a5) fun y => r = (eB y)
theorem law27_FlowLeast_ok {T : Tbl} (hT : TOk Try.prog T) (hpf : PfOk T PF) (h14 : T 14 = pureR law27_sane_S) (h15 : T 15 = pureR ref27_Made_S) (h16 : T 16 = pureR law27_ends_S) (h27 : T 27 = pureR law27_pick_S) (h28 : T 28 = pureR flow_CheckCut_S) (h43 : T 43 = pureR law27_greatest_S) : FOk Try.prog 6 (pureR law27_FlowLeast_S) := by
  refine FOk_pure hT hpf Try.func6 rfl Try.ntmps6 Try.results6 (by decide) ?_
  rintro args r ⟨a0, a1, a2, a3, a4, a5, rfl, h⟩
  refine ⟨nle rfl, ?_, ?_⟩
  · exact (loose_cons (loose_int _ _) (loose_cons (loose_lst fun _ => (lo_A23 _)) (loose_cons (loose_int _ _) (loose_cons (loose_int _ _) (loose_cons (loose_int _ _) (loose_cons (loose_int _ _) loose_nil))))))
  rw [law27_FlowLeast_F.eq_1] at h
  refine HT_fr DC_ok rfl fun K hK => ?_; (conv => whnf)
  refine hK _ _ _ ?_; clear hK K
  refine HT_seq ?_
  refine HT_fr DC_ok rfl fun K hK => ?_; (conv => whnf)
  replace h := W_bd h
  refine law27_sane_call h14 h (WkL.refl _) (fun _ h => ?_); (conv => whnf)
  refine hK _ _ _ ?_; clear hK K
  refine HT_if fun K1 K2 hK1 hK2 => ?_; (conv => whnf)
  refine cond_lk h (fun _ h => ?_) (fun _ h => ?_)
  · refine hK1 ?_; clear hK1 hK2 K1 K2
    refine HT_fr DC_ok rfl fun K hK => ?_; (conv => whnf)
    refine hK _ _ _ ?_; clear hK K
    refine HT_ret ?_
    refine Then_r ?_
    replace h := W_some h
    refine PostP_r DC_ok fun K hK => ?_; (conv => whnf)
    refine hK _ ?_; clear hK K
    cases h
    exact Wk.refl _
  refine hK2 ?_; clear hK1 hK2 K1 K2
  refine HT_skip ?_
  refine Then_n ?_
  refine HT_fr DC_ok rfl fun K hK => ?_; (conv => whnf)
  replace h := W_bd h
  refine ref27_Made_call h15 h (WkL.refl _) (fun _ h => ?_); (conv => whnf)
  refine blkK_of rfl ?_; (conv => whnf)
  refine And.intro rfl (And.intro (nle rfl) (And.intro rfl ?_)); (conv => whnf)
  refine hK _ _ _ ?_; clear hK K
  refine HT_fr DC_ok rfl fun K hK => ?_; (conv => whnf)
  refine nlA rfl ?_; (conv => whnf)
  refine blkK_of rfl ?_; (conv => whnf)
  refine nlA rfl ?_; (conv => whnf)
  replace h := W_bd h
  refine law27_ends_call h16 h (WkL.refl _) (fun _ h => ?_); (conv => whnf)
  refine hK _ _ _ ?_; clear hK K
  refine HT_fr DC_ok rfl fun K hK => ?_; (conv => whnf)
  refine nlA rfl ?_; (conv => whnf)
  refine blkK_of rfl ?_; (conv => whnf)
  refine nlA rfl ?_; (conv => whnf)
  replace h := W_bd h
  refine law27_greatest_call h43 h (WkL.refl _) (fun _ h => ?_); (conv => whnf)
  refine hK _ _ _ ?_; clear hK K
  refine HT_fr DC_ok rfl fun K hK => ?_; (conv => whnf)
  refine nlA rfl ?_; (conv => whnf)
  refine blkK_of rfl ?_; (conv => whnf)
  refine getK_of rfl ?_; (conv => whnf)
  refine gd_lk h fun _ h => ?_; (conv => whnf)
  replace h := W_bd h
  refine law27_pick_call h27 h (WkL.refl _) (fun _ h => ?_); (conv => whnf)
  refine hK _ _ _ ?_; clear hK K
  refine HT_fr DC_ok rfl fun K hK => ?_; (conv => whnf)
  refine nlA rfl ?_; (conv => whnf)
  refine blkK_of rfl ?_; (conv => whnf)
  refine nlA rfl ?_; (conv => whnf)
  replace h := W_bd h
  refine flow_CheckCut_call h28 h (WkL.refl _) (fun _ h => ?_); (conv => whnf)
  refine hK _ _ _ ?_; clear hK K
  refine HT_seq ?_
  refine HT_fr DC_ok rfl fun K hK => ?_; (conv => whnf)
  replace h := W_jn h
  refine cond_lk h (fun _ h => ?_) (fun _ h => ?_) <;> (conv => whnf)
  · refine hK _ _ _ ?_; clear hK K
    refine HT_if fun K1 K2 hK1 hK2 => ?_; (conv => whnf)
    refine hK1 ?_; clear hK1 hK2 K1 K2
    replace h := W_cnT h
    refine HT_fr DC_ok rfl fun K hK => ?_; (conv => whnf)
    refine hK _ _ _ ?_; clear hK K
    refine HT_ret ?_
    refine Then_r ?_
    replace h := W_some h
    refine PostP_r DC_ok fun K hK => ?_; (conv => whnf)
    refine hK _ ?_; clear hK K
    cases h
    exact Wk.refl _
  refine cond_lk h (fun _ h => ?_) (fun _ h => ?_) <;> (conv => whnf)
  · refine cond_lk h (fun _ h => ?_) (fun _ h => ?_) <;> (conv => whnf)
    · refine hK _ _ _ ?_; clear hK K
      refine HT_if fun K1 K2 hK1 hK2 => ?_; (conv => whnf)
      refine cond_lk h (fun _ h => ?_) (fun _ h => ?_)
      · refine hK1 ?_; clear hK1 hK2 K1 K2
        refine HT_fr DC_ok rfl fun K hK => ?_; (conv => whnf)
        refine hK _ _ _ ?_; clear hK K
        refine HT_ret ?_
        refine Then_r ?_
        replace h := W_some h
        refine PostP_r DC_ok fun K hK => ?_; (conv => whnf)
        refine hK _ ?_; clear hK K
        cases h
        exact Wk.refl _
      refine hK2 ?_; clear hK1 hK2 K1 K2
      refine HT_skip ?_
      refine Then_n ?_
      refine HT_seq ?_
      refine HT_fr DC_ok rfl fun K hK => ?_; (conv => whnf)
      refine nlA rfl ?_; (conv => whnf)
      refine blkK_of rfl ?_; (conv => whnf)
      refine getK_of rfl ?_; (conv => whnf)
      refine hK _ _ _ ?_; clear hK K
      refine HT_if fun K1 K2 hK1 hK2 => ?_; (conv => whnf)
      refine cond_lk h (fun _ h => ?_) (fun _ h => ?_)
      · refine hK1 ?_; clear hK1 hK2 K1 K2
        refine HT_fr DC_ok rfl fun K hK => ?_; (conv => whnf)
        refine hK _ _ _ ?_; clear hK K
        refine HT_ret ?_
        refine Then_r ?_
        replace h := W_some h
        refine PostP_r DC_ok fun K hK => ?_; (conv => whnf)
        refine hK _ ?_; clear hK K
        cases h
        exact Wk.refl _
      refine hK2 ?_; clear hK1 hK2 K1 K2
      refine HT_skip ?_
      refine Then_n ?_
      refine HT_fr DC_ok rfl fun K hK => ?_; (conv => whnf)
      refine nlA rfl ?_; (conv => whnf)
      refine blkK_of rfl ?_; (conv => whnf)
      refine getK_of rfl ?_; (conv => whnf)
      replace h := W_bd h
      refine law27_pick_call h27 h (WkL.refl _) (fun _ h => ?_); (conv => whnf)
      refine hK _ _ _ ?_; clear hK K
      refine HT_fd DC_ok mix_ok rfl (by kernel_rfl) fun K hK => ?_; (conv => whnf)
      refine nlA rfl ?_; (conv => whnf)
      refine blkK_of rfl ?_; (conv => whnf)
      refine getK_of rfl ?_; (conv => whnf)
      refine lt_lk (enc := eTEdge) (d := default) DC_ok h rfl rfl rfl ⟨nle rfl, nle rfl, rfl⟩ rfl trivial (fun h => ?_); (conv => whnf)
      refine nlA rfl ?_; (conv => whnf)
      refine blkK_of rfl ?_; (conv => whnf)
      refine getK_of rfl ?_; (conv => whnf)
      refine gd_lk_u h fun hg h => ?_
      replace h := W_lt h
      refine apcf_lk (enc := eTEdge) (d := default) DC_ok rfl rfl rfl ⟨rfl, nle rfl, nle rfl, nle rfl, rfl⟩ (fun _ => rfl) (fun _ => nofun) hg ?_; (conv => whnf)
      refine blkK_of rfl ?_; (conv => whnf)
      refine And.intro rfl (And.intro (nle rfl) (And.intro rfl ?_)); (conv => whnf)
      refine hK _ _ _ ?_; clear hK K
      refine HT_fr DC_ok rfl fun K hK => ?_; (conv => whnf)
      refine nlA rfl ?_; (conv => whnf)
      refine blkK_of rfl ?_; (conv => whnf)
      refine getK_of rfl ?_; (conv => whnf)
      refine gd_lkN h (rfl) fun hx3 h => ?_; (conv => whnf)
      refine nlA rfl ?_; (conv => whnf)
      refine blkK_of rfl ?_; (conv => whnf)
      refine get_flN (enc := eTEdge) (d := default) (q := 2) (fun _ => rfl) (rfl) hx3 (nle rfl) rfl ?_; (conv => whnf)
      refine gd_lkN h (rfl) fun hx4 h => ?_; (conv => whnf)
      refine blkK_of rfl ?_; (conv => whnf)
      refine st_lk (enc := eTEdge) (d := default) (q := 2) h (fun _ => rfl) (rfl) hx4 rfl (nle rfl) rfl rfl (fun h => ?_); (conv => whnf)
      refine hK _ _ _ ?_; clear hK K
      refine HT_frzBK 23 1 (enc := eTEdge) (e := 72) default (ElOk_agg DC_ok rfl rfl (fun _ => rfl) (fun _ => rfl)) ?_; (conv => whnf); refine ⟨_, _, _, (Nat.ne_of_beq_eq_false rfl), rfl, rfl, (lenset rfl).symm, rfl, ?_⟩; (conv => whnf)
      refine HT_fr DC_ok rfl fun K hK => ?_; (conv => whnf)
      refine nlA rfl ?_; (conv => whnf)
      refine blkK_of rfl ?_; (conv => whnf)
      refine nlA rfl ?_; (conv => whnf)
      replace h := W_bd h
      refine law27_greatest_call h43 h (WkL.refl _) (fun _ h => ?_); (conv => whnf)
      refine hK _ _ _ ?_; clear hK K
      refine HT_fr DC_ok rfl fun K hK => ?_; (conv => whnf)
      replace h := W_jn h
      refine nlA rfl ?_; (conv => whnf)
      refine blkK_of rfl ?_; (conv => whnf)
      refine getK_of rfl ?_; (conv => whnf)
      refine ix_lk h fun _ h => ?_; (conv => whnf)
      refine getK_of rfl ?_; (conv => whnf)
      refine gd_lk h fun _ h => ?_; (conv => whnf)
      refine And.intro (by decide) ?_; (conv => whnf)
      refine cond_lk h (fun _ h => ?_) (fun _ h => ?_) <;> (conv => whnf)
      · refine nlA rfl ?_; (conv => whnf)
        refine blkK_of rfl ?_; (conv => whnf)
        refine getK_of rfl ?_; (conv => whnf)
        refine ix_lk h fun _ h => ?_; (conv => whnf)
        refine getK_of rfl ?_; (conv => whnf)
        refine gd_lk h fun _ h => ?_; (conv => whnf)
        refine And.intro (by decide) ?_; (conv => whnf)
        refine hK _ _ _ ?_; clear hK K
        refine HT_fr DC_ok rfl fun K hK => ?_; (conv => whnf)
        replace h := W_jn h
        refine cond_lk h (fun _ h => ?_) (fun _ h => ?_) <;> (conv => whnf)
        · refine cond_lk h (fun _ h => ?_) (fun _ h => ?_) <;> (conv => whnf)
          · refine cond_lk h (fun _ h => ?_) (fun _ h => ?_) <;> (conv => whnf)
            · refine cond_lk h (fun _ h => ?_) (fun _ h => ?_) <;> (conv => whnf)
              · refine hK _ _ _ ?_; clear hK K
                refine HT_ret ?_
                replace h := W_some h
                refine PostP_r DC_ok fun K hK => ?_; (conv => whnf)
                refine hK _ ?_; clear hK K
                cases h
                exact Wk.refl _
              refine hK _ _ _ ?_; clear hK K
              refine HT_ret ?_
              replace h := W_some h
              refine PostP_r DC_ok fun K hK => ?_; (conv => whnf)
              refine hK _ ?_; clear hK K
              cases h
              exact Wk.refl _
            refine hK _ _ _ ?_; clear hK K
            refine HT_ret ?_
            replace h := W_some h
            refine PostP_r DC_ok fun K hK => ?_; (conv => whnf)
            refine hK _ ?_; clear hK K
            cases h
            exact Wk.refl _
          refine hK _ _ _ ?_; clear hK K
          refine HT_ret ?_
          replace h := W_some h
          refine PostP_r DC_ok fun K hK => ?_; (conv => whnf)
          refine hK _ ?_; clear hK K
          cases h
          exact Wk.refl _
        refine hK _ _ _ ?_; clear hK K
        refine HT_ret ?_
        replace h := W_some h
        refine PostP_r DC_ok fun K hK => ?_; (conv => whnf)
        refine hK _ ?_; clear hK K
        cases h
        exact Wk.refl _
      refine hK _ _ _ ?_; clear hK K
      refine HT_fr DC_ok rfl fun K hK => ?_; (conv => whnf)
      replace h := W_jn h
      refine cond_lk h (fun _ h => ?_) (fun _ h => ?_) <;> (conv => whnf)
      · refine cond_lk h (fun _ h => ?_) (fun _ h => ?_) <;> (conv => whnf)
        · refine cond_lk h (fun _ h => ?_) (fun _ h => ?_) <;> (conv => whnf)
          · replace h := W_cnF h
            refine hK _ _ _ ?_; clear hK K
            refine HT_ret ?_
            replace h := W_some h
            refine PostP_r DC_ok fun K hK => ?_; (conv => whnf)
            refine hK _ ?_; clear hK K
            cases h
            exact Wk.refl _
          refine hK _ _ _ ?_; clear hK K
          refine HT_ret ?_
          replace h := W_some h
          refine PostP_r DC_ok fun K hK => ?_; (conv => whnf)
          refine hK _ ?_; clear hK K
          cases h
          exact Wk.refl _
        refine hK _ _ _ ?_; clear hK K
        refine HT_ret ?_
        replace h := W_some h
        refine PostP_r DC_ok fun K hK => ?_; (conv => whnf)
        refine hK _ ?_; clear hK K
        cases h
        exact Wk.refl _
      refine hK _ _ _ ?_; clear hK K
      refine HT_ret ?_
      replace h := W_some h
      refine PostP_r DC_ok fun K hK => ?_; (conv => whnf)
      refine hK _ ?_; clear hK K
      cases h
      exact Wk.refl _
    refine hK _ _ _ ?_; clear hK K
    refine HT_if fun K1 K2 hK1 hK2 => ?_; (conv => whnf)
    refine hK2 ?_; clear hK1 hK2 K1 K2
    replace h := W_cnF h
    refine HT_skip ?_
    refine Then_n ?_
    refine HT_seq ?_
    refine HT_fr DC_ok rfl fun K hK => ?_; (conv => whnf)
    refine nlA rfl ?_; (conv => whnf)
    refine blkK_of rfl ?_; (conv => whnf)
    refine getK_of rfl ?_; (conv => whnf)
    refine hK _ _ _ ?_; clear hK K
    refine HT_if fun K1 K2 hK1 hK2 => ?_; (conv => whnf)
    refine cond_lk h (fun _ h => ?_) (fun _ h => ?_)
    · refine hK1 ?_; clear hK1 hK2 K1 K2
      refine HT_fr DC_ok rfl fun K hK => ?_; (conv => whnf)
      refine hK _ _ _ ?_; clear hK K
      refine HT_ret ?_
      refine Then_r ?_
      replace h := W_some h
      refine PostP_r DC_ok fun K hK => ?_; (conv => whnf)
      refine hK _ ?_; clear hK K
      cases h
      exact Wk.refl _
    refine hK2 ?_; clear hK1 hK2 K1 K2
    refine HT_skip ?_
    refine Then_n ?_
    refine HT_fr DC_ok rfl fun K hK => ?_; (conv => whnf)
    refine nlA rfl ?_; (conv => whnf)
    refine blkK_of rfl ?_; (conv => whnf)
    refine getK_of rfl ?_; (conv => whnf)
    replace h := W_bd h
    refine law27_pick_call h27 h (WkL.refl _) (fun _ h => ?_); (conv => whnf)
    refine hK _ _ _ ?_; clear hK K
    refine HT_fd DC_ok mix_ok rfl (by kernel_rfl) fun K hK => ?_; (conv => whnf)
    refine nlA rfl ?_; (conv => whnf)
    refine blkK_of rfl ?_; (conv => whnf)
    refine getK_of rfl ?_; (conv => whnf)
    refine lt_lk (enc := eTEdge) (d := default) DC_ok h rfl rfl rfl ⟨nle rfl, nle rfl, rfl⟩ rfl trivial (fun h => ?_); (conv => whnf)
    refine nlA rfl ?_; (conv => whnf)
    refine blkK_of rfl ?_; (conv => whnf)
    refine getK_of rfl ?_; (conv => whnf)
    refine gd_lk_u h fun hg h => ?_
    replace h := W_lt h
    refine apcf_lk (enc := eTEdge) (d := default) DC_ok rfl rfl rfl ⟨rfl, nle rfl, nle rfl, nle rfl, rfl⟩ (fun _ => rfl) (fun _ => nofun) hg ?_; (conv => whnf)
    refine blkK_of rfl ?_; (conv => whnf)
    refine And.intro rfl (And.intro (nle rfl) (And.intro rfl ?_)); (conv => whnf)
    refine hK _ _ _ ?_; clear hK K
    refine HT_fr DC_ok rfl fun K hK => ?_; (conv => whnf)
    refine nlA rfl ?_; (conv => whnf)
    refine blkK_of rfl ?_; (conv => whnf)
    refine getK_of rfl ?_; (conv => whnf)
    refine gd_lkN h (rfl) fun hx5 h => ?_; (conv => whnf)
    refine nlA rfl ?_; (conv => whnf)
    refine blkK_of rfl ?_; (conv => whnf)
    refine get_flN (enc := eTEdge) (d := default) (q := 2) (fun _ => rfl) (rfl) hx5 (nle rfl) rfl ?_; (conv => whnf)
    refine gd_lkN h (rfl) fun hx6 h => ?_; (conv => whnf)
    refine blkK_of rfl ?_; (conv => whnf)
    refine st_lk (enc := eTEdge) (d := default) (q := 2) h (fun _ => rfl) (rfl) hx6 rfl (nle rfl) rfl rfl (fun h => ?_); (conv => whnf)
    refine hK _ _ _ ?_; clear hK K
    refine HT_frzBK 23 1 (enc := eTEdge) (e := 72) default (ElOk_agg DC_ok rfl rfl (fun _ => rfl) (fun _ => rfl)) ?_; (conv => whnf); refine ⟨_, _, _, (Nat.ne_of_beq_eq_false rfl), rfl, rfl, (lenset rfl).symm, rfl, ?_⟩; (conv => whnf)
    refine HT_fr DC_ok rfl fun K hK => ?_; (conv => whnf)
    refine nlA rfl ?_; (conv => whnf)
    refine blkK_of rfl ?_; (conv => whnf)
    refine nlA rfl ?_; (conv => whnf)
    replace h := W_bd h
    refine law27_greatest_call h43 h (WkL.refl _) (fun _ h => ?_); (conv => whnf)
    refine hK _ _ _ ?_; clear hK K
    refine HT_fr DC_ok rfl fun K hK => ?_; (conv => whnf)
    replace h := W_jn h
    refine nlA rfl ?_; (conv => whnf)
    refine blkK_of rfl ?_; (conv => whnf)
    refine getK_of rfl ?_; (conv => whnf)
    refine ix_lk h fun _ h => ?_; (conv => whnf)
    refine getK_of rfl ?_; (conv => whnf)
    refine gd_lk h fun _ h => ?_; (conv => whnf)
    refine And.intro (by decide) ?_; (conv => whnf)
    refine cond_lk h (fun _ h => ?_) (fun _ h => ?_) <;> (conv => whnf)
    · refine nlA rfl ?_; (conv => whnf)
      refine blkK_of rfl ?_; (conv => whnf)
      refine getK_of rfl ?_; (conv => whnf)
      refine ix_lk h fun _ h => ?_; (conv => whnf)
      refine getK_of rfl ?_; (conv => whnf)
      refine gd_lk h fun _ h => ?_; (conv => whnf)
      refine And.intro (by decide) ?_; (conv => whnf)
      refine hK _ _ _ ?_; clear hK K
      refine HT_fr DC_ok rfl fun K hK => ?_; (conv => whnf)
      replace h := W_jn h
      refine cond_lk h (fun _ h => ?_) (fun _ h => ?_) <;> (conv => whnf)
      · refine cond_lk h (fun _ h => ?_) (fun _ h => ?_) <;> (conv => whnf)
        · refine cond_lk h (fun _ h => ?_) (fun _ h => ?_) <;> (conv => whnf)
          · refine cond_lk h (fun _ h => ?_) (fun _ h => ?_) <;> (conv => whnf)
            · refine hK _ _ _ ?_; clear hK K
              refine HT_ret ?_
              replace h := W_some h
              refine PostP_r DC_ok fun K hK => ?_; (conv => whnf)
              refine hK _ ?_; clear hK K
              cases h
              exact Wk.refl _
            refine hK _ _ _ ?_; clear hK K
            refine HT_ret ?_
            replace h := W_some h
            refine PostP_r DC_ok fun K hK => ?_; (conv => whnf)
            refine hK _ ?_; clear hK K
            cases h
            exact Wk.refl _
          refine hK _ _ _ ?_; clear hK K
          refine HT_ret ?_
          replace h := W_some h
          refine PostP_r DC_ok fun K hK => ?_; (conv => whnf)
          refine hK _ ?_; clear hK K
          cases h
          exact Wk.refl _
        refine hK _ _ _ ?_; clear hK K
        refine HT_ret ?_
        replace h := W_some h
        refine PostP_r DC_ok fun K hK => ?_; (conv => whnf)
        refine hK _ ?_; clear hK K
        cases h
        exact Wk.refl _
      refine hK _ _ _ ?_; clear hK K
      refine HT_ret ?_
      replace h := W_some h
      refine PostP_r DC_ok fun K hK => ?_; (conv => whnf)
      refine hK _ ?_; clear hK K
      cases h
      exact Wk.refl _
    refine hK _ _ _ ?_; clear hK K
    refine HT_fr DC_ok rfl fun K hK => ?_; (conv => whnf)
    replace h := W_jn h
    refine cond_lk h (fun _ h => ?_) (fun _ h => ?_) <;> (conv => whnf)
    · refine cond_lk h (fun _ h => ?_) (fun _ h => ?_) <;> (conv => whnf)
      · refine cond_lk h (fun _ h => ?_) (fun _ h => ?_) <;> (conv => whnf)
        · replace h := W_cnF h
          refine hK _ _ _ ?_; clear hK K
          refine HT_ret ?_
          replace h := W_some h
          refine PostP_r DC_ok fun K hK => ?_; (conv => whnf)
          refine hK _ ?_; clear hK K
          cases h
          exact Wk.refl _
        refine hK _ _ _ ?_; clear hK K
        refine HT_ret ?_
        replace h := W_some h
        refine PostP_r DC_ok fun K hK => ?_; (conv => whnf)
        refine hK _ ?_; clear hK K
        cases h
        exact Wk.refl _
      refine hK _ _ _ ?_; clear hK K
      refine HT_ret ?_
      replace h := W_some h
      refine PostP_r DC_ok fun K hK => ?_; (conv => whnf)
      refine hK _ ?_; clear hK K
      cases h
      exact Wk.refl _
    refine hK _ _ _ ?_; clear hK K
    refine HT_ret ?_
    replace h := W_some h
    refine PostP_r DC_ok fun K hK => ?_; (conv => whnf)
    refine hK _ ?_; clear hK K
    cases h
    exact Wk.refl _
  refine hK _ _ _ ?_; clear hK K
  refine HT_if fun K1 K2 hK1 hK2 => ?_; (conv => whnf)
  refine hK2 ?_; clear hK1 hK2 K1 K2
  replace h := W_cnF h
  refine HT_skip ?_
  refine Then_n ?_
  refine HT_seq ?_
  refine HT_fr DC_ok rfl fun K hK => ?_; (conv => whnf)
  refine nlA rfl ?_; (conv => whnf)
  refine blkK_of rfl ?_; (conv => whnf)
  refine getK_of rfl ?_; (conv => whnf)
  refine hK _ _ _ ?_; clear hK K
  refine HT_if fun K1 K2 hK1 hK2 => ?_; (conv => whnf)
  refine cond_lk h (fun _ h => ?_) (fun _ h => ?_)
  · refine hK1 ?_; clear hK1 hK2 K1 K2
    refine HT_fr DC_ok rfl fun K hK => ?_; (conv => whnf)
    refine hK _ _ _ ?_; clear hK K
    refine HT_ret ?_
    refine Then_r ?_
    replace h := W_some h
    refine PostP_r DC_ok fun K hK => ?_; (conv => whnf)
    refine hK _ ?_; clear hK K
    cases h
    exact Wk.refl _
  refine hK2 ?_; clear hK1 hK2 K1 K2
  refine HT_skip ?_
  refine Then_n ?_
  refine HT_fr DC_ok rfl fun K hK => ?_; (conv => whnf)
  refine nlA rfl ?_; (conv => whnf)
  refine blkK_of rfl ?_; (conv => whnf)
  refine getK_of rfl ?_; (conv => whnf)
  replace h := W_bd h
  refine law27_pick_call h27 h (WkL.refl _) (fun _ h => ?_); (conv => whnf)
  refine hK _ _ _ ?_; clear hK K
  refine HT_fd DC_ok mix_ok rfl (by kernel_rfl) fun K hK => ?_; (conv => whnf)
  refine nlA rfl ?_; (conv => whnf)
  refine blkK_of rfl ?_; (conv => whnf)
  refine getK_of rfl ?_; (conv => whnf)
  refine lt_lk (enc := eTEdge) (d := default) DC_ok h rfl rfl rfl ⟨nle rfl, nle rfl, rfl⟩ rfl trivial (fun h => ?_); (conv => whnf)
  refine nlA rfl ?_; (conv => whnf)
  refine blkK_of rfl ?_; (conv => whnf)
  refine getK_of rfl ?_; (conv => whnf)
  refine gd_lk_u h fun hg h => ?_
  replace h := W_lt h
  refine apcf_lk (enc := eTEdge) (d := default) DC_ok rfl rfl rfl ⟨rfl, nle rfl, nle rfl, nle rfl, rfl⟩ (fun _ => rfl) (fun _ => nofun) hg ?_; (conv => whnf)
  refine blkK_of rfl ?_; (conv => whnf)
  refine And.intro rfl (And.intro (nle rfl) (And.intro rfl ?_)); (conv => whnf)
  refine hK _ _ _ ?_; clear hK K
  refine HT_fr DC_ok rfl fun K hK => ?_; (conv => whnf)
  refine nlA rfl ?_; (conv => whnf)
  refine blkK_of rfl ?_; (conv => whnf)
  refine getK_of rfl ?_; (conv => whnf)
  refine gd_lkN h (rfl) fun hx7 h => ?_; (conv => whnf)
  refine nlA rfl ?_; (conv => whnf)
  refine blkK_of rfl ?_; (conv => whnf)
  refine get_flN (enc := eTEdge) (d := default) (q := 2) (fun _ => rfl) (rfl) hx7 (nle rfl) rfl ?_; (conv => whnf)
  refine gd_lkN h (rfl) fun hx8 h => ?_; (conv => whnf)
  refine blkK_of rfl ?_; (conv => whnf)
  refine st_lk (enc := eTEdge) (d := default) (q := 2) h (fun _ => rfl) (rfl) hx8 rfl (nle rfl) rfl rfl (fun h => ?_); (conv => whnf)
  refine hK _ _ _ ?_; clear hK K
  refine HT_frzBK 23 1 (enc := eTEdge) (e := 72) default (ElOk_agg DC_ok rfl rfl (fun _ => rfl) (fun _ => rfl)) ?_; (conv => whnf); refine ⟨_, _, _, (Nat.ne_of_beq_eq_false rfl), rfl, rfl, (lenset rfl).symm, rfl, ?_⟩; (conv => whnf)
  refine HT_fr DC_ok rfl fun K hK => ?_; (conv => whnf)
  refine nlA rfl ?_; (conv => whnf)
  refine blkK_of rfl ?_; (conv => whnf)
  refine nlA rfl ?_; (conv => whnf)
  replace h := W_bd h
  refine law27_greatest_call h43 h (WkL.refl _) (fun _ h => ?_); (conv => whnf)
  refine hK _ _ _ ?_; clear hK K
  refine HT_fr DC_ok rfl fun K hK => ?_; (conv => whnf)
  replace h := W_jn h
  refine nlA rfl ?_; (conv => whnf)
  refine blkK_of rfl ?_; (conv => whnf)
  refine getK_of rfl ?_; (conv => whnf)
  refine ix_lk h fun _ h => ?_; (conv => whnf)
  refine getK_of rfl ?_; (conv => whnf)
  refine gd_lk h fun _ h => ?_; (conv => whnf)
  refine And.intro (by decide) ?_; (conv => whnf)
  refine cond_lk h (fun _ h => ?_) (fun _ h => ?_) <;> (conv => whnf)
  · refine nlA rfl ?_; (conv => whnf)
    refine blkK_of rfl ?_; (conv => whnf)
    refine getK_of rfl ?_; (conv => whnf)
    refine ix_lk h fun _ h => ?_; (conv => whnf)
    refine getK_of rfl ?_; (conv => whnf)
    refine gd_lk h fun _ h => ?_; (conv => whnf)
    refine And.intro (by decide) ?_; (conv => whnf)
    refine hK _ _ _ ?_; clear hK K
    refine HT_fr DC_ok rfl fun K hK => ?_; (conv => whnf)
    replace h := W_jn h
    refine cond_lk h (fun _ h => ?_) (fun _ h => ?_) <;> (conv => whnf)
    · refine cond_lk h (fun _ h => ?_) (fun _ h => ?_) <;> (conv => whnf)
      · refine cond_lk h (fun _ h => ?_) (fun _ h => ?_) <;> (conv => whnf)
        · refine cond_lk h (fun _ h => ?_) (fun _ h => ?_) <;> (conv => whnf)
          · refine hK _ _ _ ?_; clear hK K
            refine HT_ret ?_
            replace h := W_some h
            refine PostP_r DC_ok fun K hK => ?_; (conv => whnf)
            refine hK _ ?_; clear hK K
            cases h
            exact Wk.refl _
          refine hK _ _ _ ?_; clear hK K
          refine HT_ret ?_
          replace h := W_some h
          refine PostP_r DC_ok fun K hK => ?_; (conv => whnf)
          refine hK _ ?_; clear hK K
          cases h
          exact Wk.refl _
        refine hK _ _ _ ?_; clear hK K
        refine HT_ret ?_
        replace h := W_some h
        refine PostP_r DC_ok fun K hK => ?_; (conv => whnf)
        refine hK _ ?_; clear hK K
        cases h
        exact Wk.refl _
      refine hK _ _ _ ?_; clear hK K
      refine HT_ret ?_
      replace h := W_some h
      refine PostP_r DC_ok fun K hK => ?_; (conv => whnf)
      refine hK _ ?_; clear hK K
      cases h
      exact Wk.refl _
    refine hK _ _ _ ?_; clear hK K
    refine HT_ret ?_
    replace h := W_some h
    refine PostP_r DC_ok fun K hK => ?_; (conv => whnf)
    refine hK _ ?_; clear hK K
    cases h
    exact Wk.refl _
  refine hK _ _ _ ?_; clear hK K
  refine HT_fr DC_ok rfl fun K hK => ?_; (conv => whnf)
  replace h := W_jn h
  refine cond_lk h (fun _ h => ?_) (fun _ h => ?_) <;> (conv => whnf)
  · refine cond_lk h (fun _ h => ?_) (fun _ h => ?_) <;> (conv => whnf)
    · refine cond_lk h (fun _ h => ?_) (fun _ h => ?_) <;> (conv => whnf)
      · replace h := W_cnF h
        refine hK _ _ _ ?_; clear hK K
        refine HT_ret ?_
        replace h := W_some h
        refine PostP_r DC_ok fun K hK => ?_; (conv => whnf)
        refine hK _ ?_; clear hK K
        cases h
        exact Wk.refl _
      refine hK _ _ _ ?_; clear hK K
      refine HT_ret ?_
      replace h := W_some h
      refine PostP_r DC_ok fun K hK => ?_; (conv => whnf)
      refine hK _ ?_; clear hK K
      cases h
      exact Wk.refl _
    refine hK _ _ _ ?_; clear hK K
    refine HT_ret ?_
    replace h := W_some h
    refine PostP_r DC_ok fun K hK => ?_; (conv => whnf)
    refine hK _ ?_; clear hK K
    cases h
    exact Wk.refl _
  refine hK _ _ _ ?_; clear hK K
  refine HT_ret ?_
  replace h := W_some h
  refine PostP_r DC_ok fun K hK => ?_; (conv => whnf)
  refine hK _ ?_; clear hK K
  cases h
  exact Wk.refl _
end Go.Proofs.Ytgkmodjcoedonaa
namespace Go.Proofs.Ytgkmodjcoedonaa
open Go Go.Eng
set_option maxRecDepth 100000
def tmE (e : TEdge) (p : Nat → Bool) : Int := if (p e.From.toNat && !p e.To.toNat) = true then e.Capacity else 0
theorem cutE_set : ∀ {E : List TEdge} {k : Nat} (e : TEdge) (p : Nat → Bool), k < E.length → cutE (E.set k e) p = cutE E p + (tmE e p - tmE (E.getD k default) p)
  | [], k, _, _, h => by simp at h
  | a :: E, 0, e, p, _ => by simp only [List.set_cons_zero, cutE, List.getD_cons_zero, tmE]; omega
  | a :: E, k + 1, e, p, h => by
    simp only [List.set_cons_succ, cutE, List.getD_cons_succ, cutE_set (E := E) e p (by simpa using h)]; omega
theorem nat_bit (a i : Nat) : ((a >>> i) % 2 == 1) = a.testBit i := by
  rw [Nat.testBit_eq_decide_div_mod_eq, Nat.shiftRight_eq_div_pow]
  rfl
theorem tmod_bit {a i : Nat} (hi : i ≤ 60) : (Int.tmod (bshr .i64 (a : Int) (i : Int)) 2 == 1) = a.testBit i := by
  rw [bshr_nat (by omega) hi, Int.toNat_natCast, Int.tmod_eq_emod_of_nonneg (Int.natCast_nonneg _), show (2 : Int) = ((2 : Nat) : Int) from rfl, ← Int.natCast_emod, ← nat_bit]
  rw [Bool.eq_iff_iff]; simp only [beq_iff_eq]; omega
theorem tmod_bit0 {a i : Nat} (hi : i ≤ 60) : (Int.tmod (bshr .i64 (a : Int) (i : Int)) 2 == 0) = !a.testBit i := by
  rw [bshr_nat (by omega) hi, Int.toNat_natCast, Int.tmod_eq_emod_of_nonneg (Int.natCast_nonneg _), show (2 : Int) = ((2 : Nat) : Int) from rfl, ← Int.natCast_emod, ← nat_bit]
  rw [Bool.eq_iff_iff]; simp only [beq_iff_eq, Bool.not_eq_true', beq_eq_false_iff_ne]; omega
theorem shl_N {n : TNet} (hn : MN n) : bshl .i64 1 n.N = 2 ^ n.N.toNat := by
  have hN := hn.nn
  conv => lhs; rw [show n.N = ((n.N.toNat : Nat) : Int) by omega]
  exact bshl_one (by omega)
theorem plain6 (a0 : Int) (a1 : List (Int × Int × Int)) (a2 a3 a4 a5 : Int) (o0 : okI a0) (o1 : okL okA23 a1) (o2 : okI a2) (o3 : okI a3) (o4 : okI a4) (o5 : okI a5) : law27_FlowLeast_F a0 a1 a2 a3 a4 a5 = some true := by
  obtain ⟨n, en, hn⟩ := made_ok a0 a1 o0 o1
  obtain ⟨s, t, ee, he⟩ := ends_ok hn o2 o3
  obtain ⟨v, C, eg, hv⟩ := greatest_ok he
  have hN := hn.nn; have hel := hn.el; have hs := he.hs; have ht := he.ht
  have hp0 := two_pow_pos n.N.toNat
  have hp1 : (2 : Int) ^ n.N.toNat ≤ 2 ^ 12 := two_pow_le (by omega)
  obtain ⟨p1, p2⟩ := pickZ_lt a4 (n := 2 ^ n.N.toNat) hp0
  have hC : (C : Int) < 2 ^ n.N.toNat := by have := hv.lt; exact_mod_cast this
  have hv0 := hv.nn
  have hvb : v ≤ 160000 := by
    have := cutE_bd (E := n.Edges) (B := 10000) (by omega) (fun e he => (hn.v.ev e he).cp.2) C.testBit
    rw [← hv.eq] at this; omega
  unfold law27_FlowLeast_F
  rw [sane_ok, bd_s, Bool.not_true, cn_f, en, bd_s, ee, bd_s]
  simp only
  rw [eg, bd_s, gd_p _ (by omega), shl_N hn, pick_law _ _ o4 hp0, bd_s]
  generalize pickZ a4 (2 ^ n.N.toNat) = S at p1 p2 ⊢
  rw [checkCut_ok he, bd_s]
  simp only [jn_d, Bool.not_true, cn_f]
  have rest : (cn ((n.Edges.length : Int) == 0) (some (v == 0)) (bd (law27_pick_F a5 (n.Edges.length : Int)) fun y9 => lt ([] : List TEdge) fun l10 =>
    gd (n.Edges.length ≤ 1048576) (lt n.Edges fun l11 =>
    gd ((0 : Int) ≤ y9 ∧ y9 < (l11.length : Int)) (gd ((0 : Int) ≤ y9 ∧ y9 < (l11.length : Int)) (st l11 (y9) (⟨(l11.getD (y9).toNat default).From, (l11.getD (y9).toNat default).To, (wr (((l11.getD (y9).toNat default).Capacity) + 1))⟩ : TEdge) fun l12 =>
    bd (law27_greatest_F (⟨n.N, l12⟩ : TNet) (s : Int) (t : Int)) fun y13 => ix n.Edges default y9 fun e16 => gd (0 ≤ e16.From) (cn ((Int.tmod (bshr .i64 (C : Int) e16.From) 2) == 1) (ix n.Edges default y9 fun e17 =>
    gd (0 ≤ e17.To) (cn y13.2.2 (cn (decide (y13.1 ≥ v)) (cn (decide (y13.1 ≤ (wr (v + 1)))) (cn ((Int.tmod (bshr .i64 (C : Int) e17.To) 2) == 0) (some true) (some (y13.1 == v))) (some false)) (some false)) (some false)))
    (cn y13.2.2 (cn (decide (y13.1 ≥ v)) (cn (decide (y13.1 ≤ (wr (v + 1)))) (some (y13.1 == v)) (some false)) (some false)) (some false)))))))) = some true := by
    by_cases c : n.Edges.length = 0
    · have hE : n.Edges = [] := List.length_eq_zero_iff.1 c
      have : v = 0 := by rw [hv.eq, hE]; rfl
      rw [this, c]; simp [cn_t]
    · rw [cn_beq, if_neg (by omega)]
      obtain ⟨q1, q2⟩ := pickZ_lt a5 (n := (n.Edges.length : Int)) (by omega)
      rw [pick_law _ _ o5 (by omega), bd_s]
      obtain ⟨k, hk⟩ : ∃ k : Nat, pickZ a5 (n.Edges.length : Int) = (k : Int) := ⟨_, (Int.toNat_of_nonneg q1).symm⟩
      rw [hk] at q1 q2 ⊢
      have hkl : k < n.Edges.length := by omega
      have hmem : n.Edges.getD k default ∈ n.Edges := by rw [getD_ltD hkl]; exact List.getElem_mem hkl
      have hev := hn.v.ev _ hmem
      have hcp2 := hn.cp _ hmem
      have hfr := hev.fr; have hto := hev.to; have hcp := hev.cp
      rw [lt_d, gd_p _ (by omega), lt_d, gd_p _ (by omega), gd_p _ (by omega), st_dd, Int.toNat_natCast, wr_id (x := (n.Edges.getD k default).Capacity + 1) (by omega) (by omega)]
      have nv : NV ⟨n.N, n.Edges.set k ⟨(n.Edges.getD k default).From, (n.Edges.getD k default).To, (n.Edges.getD k default).Capacity + 1⟩⟩ := ⟨hn.v.nn, by simp only [List.length_set]; omega, fun e he => by
        rcases List.mem_or_eq_of_mem_set he with h | h
        · exact hn.v.ev e h
        · subst h; exact ⟨hfr, hto, hev.ne, by simp only; omega⟩⟩
      obtain ⟨v', C', eg', hv'⟩ := greatest_ok (s := s) (t := t) ⟨nv, hs, ht, he.ne⟩
      rw [eg', bd_s, ix_n hkl, gd_p _ hfr.1]
      have hcs : ∀ p, cutE (n.Edges.set k ⟨(n.Edges.getD k default).From, (n.Edges.getD k default).To, (n.Edges.getD k default).Capacity + 1⟩) p = cutE n.Edges p + if (p (n.Edges.getD k default).From.toNat && !p (n.Edges.getD k default).To.toNat) = true then 1 else 0 := fun p => by
        rw [cutE_set _ _ hkl]; unfold tmE; simp only
        split <;> omega
      have h1 : v ≤ v' := by
        have h2 := hv.le _ hv'.cs hv'.ct
        have h3 := hv'.eq
        simp only at h3
        rw [hcs] at h3
        split at h3 <;> omega
      have h2 : v' ≤ v + if (C.testBit (n.Edges.getD k default).From.toNat && !C.testBit (n.Edges.getD k default).To.toNat) = true then 1 else 0 := by
        have h2 := hv'.le _ hv.cs hv.ct
        simp only at h2
        rw [hcs, ← hv.eq] at h2
        exact h2
      have h3 : v' ≤ v + 1 := by split at h2 <;> omega
      obtain ⟨f, hf⟩ : ∃ f : Nat, (n.Edges.getD k default).From = (f : Int) := ⟨_, (Int.toNat_of_nonneg hfr.1).symm⟩
      obtain ⟨g, hg⟩ : ∃ g : Nat, (n.Edges.getD k default).To = (g : Int) := ⟨_, (Int.toNat_of_nonneg hto.1).symm⟩
      rw [hf, hg] at h2
      rw [hf, tmod_bit (by omega), ix_n hkl, hg, gd_p _ (by omega), tmod_bit0 (by omega), wr_id (x := v + 1) (by omega) (by omega)]
      simp only [Int.toNat_natCast, cn_t] at h2 ⊢
      rw [decide_eq_true (show v' ≥ v from h1), decide_eq_true h3]
      simp only [cn_t, cn_f]
      cases c1 : C.testBit f with
      | false =>
        simp [c1] at h2
        have : v' = v := by omega
        rw [cn_f, this]; simp
      | true =>
        rw [cn_t]
        cases c2 : C.testBit g with
        | true =>
          simp [c1, c2] at h2
          have : v' = v := by omega
          simp [cn_f, this]
        | false => simp [cn_t]
  by_cases hcond : 0 ≤ S ∧ S < 2 ^ n.N.toNat ∧ S.toNat.testBit s = true ∧ S.toNat.testBit t = false
  · rw [if_pos hcond]
    simp only [cn_t]
    rw [cn_beq]
    by_cases hc : cutE n.Edges S.toNat.testBit = v
    · rw [if_pos hc]
      have hand : band .i64 S (C : Int) = (C : Int) := by
        rw [band_nat (by omega) (by omega) (by omega) (by omega), Int.toNat_natCast]
        congr 1
        refine Nat.eq_of_testBit_eq fun x => ?_
        rw [Nat.testBit_and]
        have := hv.mn _ hcond.2.2.1 hcond.2.2.2 hc x
        cases cx : C.testBit x with
        | false => simp
        | true => rw [this cx]; rfl
      rw [hand]
      simp only [bne_self_eq_false, cn_f]
      exact rest
    · rw [if_neg hc]
      exact rest
  · rw [if_neg hcond]
    simp only [cn_f]
    exact rest
end Go.Proofs.Ytgkmodjcoedonaa
