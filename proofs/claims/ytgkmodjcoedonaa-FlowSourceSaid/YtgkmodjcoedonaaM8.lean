import Derived.Test.YtgkmodjcoedonaaM7
set_option linter.unusedVariables false
set_option linter.unusedSimpArgs false
set_option linter.unusedSectionVars false
namespace Go.Proofs.Ytgkmodjcoedonaa
open Go Go.Eng
set_option maxHeartbeats 0
set_option maxRecDepth 100000

    def law27_FlowSource_b1 (l6 : List Int) (y2 : TNet) (y3 : Int × Int) (y4 : Int × Int × Bool) (s7 : Int) : Option (Ct Int Bool) := cn (decide (s7 < (l6.length : Int))) (ix l6 default s7 fun e8 =>
    gd ((0 : Int) ≤ y2.N ∧ y2.N ≤ (1048576 : Int)) (lt (List.replicate (y2.N).toNat (0 : Int)) fun l9 => gd ((0 : Int) ≤ y3.1 ∧ y3.1 < (l9.length : Int)) (st l9 (y3.1) e8 fun l10 =>
    gd ((0 : Int) ≤ y3.2 ∧ y3.2 < (l10.length : Int)) (st l10 (y3.2) (wr (0 - e8)) fun l11 => bd (flow_Meet_F y2 l11) fun y12 => jn (fun p13 : Bool =>
    cn p13 (some (.rt false)) (jn (fun p15 : Unit => some (.nx (wr (s7 + 1)))) fun k16 => cn y12.1.Met (bd (flow_CheckFlow_F y2 y3.1 y3.2 y12.1.Amounts) fun y17 =>
    jn (fun p18 : Bool => cn p18 (some (.rt false)) (k16 ())) fun k19 => cn (!y17.2) (k19 true) (k19 (y17.1 != e8))) (k16 ()))) fun k14 => cn (y12.2 !=
    0) (k14 true) (k14 (!(y12.1.Met == (decide (e8 ≤ y4.1))))))))) (some (.bk s7))
theorem W_blaw27_FlowSource_b1 {l6 : List Int} {y2 : TNet} {y3 : Int × Int} {y4 : Int × Int × Bool} {s7 : Int} {Φ : Ct Int Bool → Prop} (h : W (law27_FlowSource_b1 l6 y2 y3 y4 s7) Φ) : W (cn (decide (s7 < (l6.length : Int))) (ix l6 default s7 fun e8 => gd ((0 : Int) ≤ y2.N ∧ y2.N ≤ (1048576 : Int)) (lt (List.replicate (y2.N).toNat (0 : Int)) fun l9 =>
    gd ((0 : Int) ≤ y3.1 ∧ y3.1 < (l9.length : Int)) (st l9 (y3.1) e8 fun l10 => gd ((0 : Int) ≤ y3.2 ∧ y3.2 < (l10.length : Int)) (st l10 (y3.2) (wr (0 - e8)) fun l11 =>
    bd (flow_Meet_F y2 l11) fun y12 => jn (fun p13 : Bool => cn p13 (some (.rt false)) (jn (fun p15 : Unit => some (.nx (wr (s7 + 1)))) fun k16 =>
    cn y12.1.Met (bd (flow_CheckFlow_F y2 y3.1 y3.2 y12.1.Amounts) fun y17 => jn (fun p18 : Bool => cn p18 (some (.rt false)) (k16 ())) fun k19 =>
    cn (!y17.2) (k19 true) (k19 (y17.1 != e8))) (k16 ()))) fun k14 => cn (y12.2 != 0) (k14 true) (k14 (!(y12.1.Met == (decide (e8 ≤ y4.1))))))))) (some (.bk s7))) Φ := h
def law27_FlowSource_F (a0 : Int) (a1 : List (Int × Int × Int)) (a2 : Int) (a3 : Int) (a4 : Int) : Option Bool := bd (law27_sane_F ) fun y1 =>
    cn (!y1) (some false) (bd (ref27_Made_F a0 a1) fun y2 => bd (law27_ends_F y2 a2 a3) fun y3 => bd (law27_greatest_F y2 y3.1 y3.2) fun y4 => bd (law27_pick_F a4 60) fun y5 =>
    lt ([y5, y4.1, (wr (y4.1 + 1))] : List Int) fun l6 => bd (lp (law27_FlowSource_b1 l6 y2 y3 y4) FU 0) fun c20 => smK c20 (fun s21 => some y4.2.2) (fun r22 => some r22))
def law27_FlowSource_S : List AV → AV → Prop := fun args r => ∃ a0 a1 a2 a3 a4, args = [eI a0, (eL 3 eA23 default) a1, eI a2, eI a3, eI a4] ∧ W (law27_FlowSource_F a0 a1 a2 a3 a4) fun y => r = (eB y)
theorem law27_FlowSource_ok {T : Tbl} (hT : TOk Try.prog T) (hpf : PfOk T PF) (h14 : T 14 = pureR law27_sane_S) (h15 : T 15 = pureR ref27_Made_S) (h16 : T 16 = pureR law27_ends_S) (h26 : T 26 = pureR flow_CheckFlow_S) (h27 : T 27 = pureR law27_pick_S) (h38 : T 38 = pureR flow_Meet_S) (h43 : T 43 = pureR law27_greatest_S) : FOk Try.prog 10 (pureR law27_FlowSource_S) := by
  refine FOk_pure hT hpf Try.func10 rfl Try.ntmps10 Try.results10 (by decide) ?_
  rintro args r ⟨a0, a1, a2, a3, a4, rfl, h⟩
  refine ⟨nle rfl, ?_, ?_⟩
  · exact (loose_cons (loose_int _ _) (loose_cons (loose_lst fun _ => (lo_A23 _)) (loose_cons (loose_int _ _) (loose_cons (loose_int _ _) (loose_cons (loose_int _ _) loose_nil)))))
  rw [law27_FlowSource_F.eq_1] at h
  refine HT_fr DC_ok rfl fun K hK => ?_; (conv => whnf)
  refine hK _ _ _ ?_; clear hK K
  refine HT_seq ?_
  refine HT_fr DC_ok rfl fun K hK => ?_; (conv => whnf)
  replace h := W_bd h
  refine law27_sane_call h14 h (WkL.refl _) (fun _ h => ?_); (conv => whnf)
  refine hK _ _ _ ?_; clear hK K
  refine HT_if fun K1 K2 hK1 hK2 => ?_; (conv => whnf)
  refine cond_lk h (fun _ h => ?_) (fun _ h => ?_)
  · refine hK1 ?_; clear hK1 hK2 K1 K2
    refine HT_fr DC_ok rfl fun K hK => ?_; (conv => whnf)
    refine hK _ _ _ ?_; clear hK K
    refine HT_ret ?_
    refine Then_r ?_
    replace h := W_some h
    refine PostP_r DC_ok fun K hK => ?_; (conv => whnf)
    refine hK _ ?_; clear hK K
    cases h
    exact Wk.refl _
  refine hK2 ?_; clear hK1 hK2 K1 K2
  refine HT_skip ?_
  refine Then_n ?_
  refine HT_fr DC_ok rfl fun K hK => ?_; (conv => whnf)
  replace h := W_bd h
  refine ref27_Made_call h15 h (WkL.refl _) (fun _ h => ?_); (conv => whnf)
  refine blkK_of rfl ?_; (conv => whnf)
  refine And.intro rfl (And.intro (nle rfl) (And.intro rfl ?_)); (conv => whnf)
  refine hK _ _ _ ?_; clear hK K
  refine HT_fr DC_ok rfl fun K hK => ?_; (conv => whnf)
  refine nlA rfl ?_; (conv => whnf)
  refine blkK_of rfl ?_; (conv => whnf)
  refine nlA rfl ?_; (conv => whnf)
  replace h := W_bd h
  refine law27_ends_call h16 h (WkL.refl _) (fun _ h => ?_); (conv => whnf)
  refine hK _ _ _ ?_; clear hK K
  refine HT_fr DC_ok rfl fun K hK => ?_; (conv => whnf)
  refine nlA rfl ?_; (conv => whnf)
  refine blkK_of rfl ?_; (conv => whnf)
  refine nlA rfl ?_; (conv => whnf)
  replace h := W_bd h
  refine law27_greatest_call h43 h (WkL.refl _) (fun _ h => ?_); (conv => whnf)
  refine hK _ _ _ ?_; clear hK K
  refine HT_seq ?_
  refine HT_fr DC_ok rfl fun K hK => ?_; (conv => whnf)
  replace h := W_bd h
  refine law27_pick_call h27 h (WkL.refl _) (fun _ h => ?_); (conv => whnf)
  refine lt_lk (enc := eI) (d := default) DC_ok h rfl rfl rfl ⟨nle rfl, nle rfl, rfl⟩ rfl ⟨⟨rfl, rfl, rfl⟩, ⟨⟨rfl, rfl, rfl⟩, ⟨⟨rfl, rfl, rfl⟩, trivial⟩⟩⟩ (fun h => ?_); (conv => whnf)
  refine hK _ _ _ ?_; clear hK K
  refine HT_block ?_
  replace h := W_bd h
  refine HT_lpK (body := law27_FlowSource_b1 _ _ _ _) rfl h [11, 12, 13, 14, 16, 49, 50] [11] [] (fun kl kh ids b s => ⟨ofL ([(51, eI s)] ++ kl), ofH ([] ++ kh), b + 64⟩) ?_; (conv => whnf); refine And.intro ?_ (fun s m h => HT_st ?_)
  · refine weak_k ?_; (conv => whnf)
    exact And.intro rfl (And.intro (allL_c wkI (allL_c (WkR.ptr (fun _ => rfl)) (allL_c wkI (allL_c wkI (allL_c wkI (allL_c (wkr (loose_bool _)) (allL_c (wkr (loose_lstc fun _ => (loose_int _ _))) (allL_c wkI allL_n)))))))) (allL_c ⟨some _, rfl, BkR_c rfl (CkR_cons wkI (CkR_cons (wkr (loose_lst fun _ => (lo_TEdge _))) CkR_nil))⟩ allL_n))
  replace h := W_blaw27_FlowSource_b1 (W_bd h)
  refine HT_fr DC_ok rfl fun K hK => ?_; (conv => whnf)
  refine hK _ _ _ ?_; clear hK K
  refine HT_seq ?_
  refine HT_if fun K1 K2 hK1 hK2 => ?_; (conv => whnf)
  refine cond_lk h (fun _ h => ?_) (fun _ h => ?_)
  · refine hK1 ?_; clear hK1 hK2 K1 K2
    refine HT_skip ?_
    refine Then_n ?_
    refine HT_seq ?_
    refine HT_block ?_
    refine HT_fr DC_ok rfl fun K hK => ?_; (conv => whnf)
    refine ix_lk h fun _ h => ?_; (conv => whnf)
    refine getK_of rfl ?_; (conv => whnf)
    refine hK _ _ _ ?_; clear hK K
    refine HT_fr DC_ok rfl fun K hK => ?_; (conv => whnf)
    refine nlA rfl ?_; (conv => whnf)
    refine blkK_of rfl ?_; (conv => whnf)
    refine getK_of rfl ?_; (conv => whnf)
    refine mks_lk (enc := eI) DC_ok (0 : Int) h rfl rfl ⟨nle rfl, nle rfl, rfl⟩ rfl (fun h => ?_); (conv => whnf)
    refine hK _ _ _ ?_; clear hK K
    refine HT_fr DC_ok rfl fun K hK => ?_; (conv => whnf)
    refine gd_lkN h (rfl) fun hx27 h => ?_; (conv => whnf)
    refine blkK_of rfl ?_; (conv => whnf)
    refine st_lk (enc := eI) (d := default) (q := 0) h (fun _ => rfl) (rfl) hx27 rfl (nle rfl) rfl rfl (fun h => ?_); (conv => whnf)
    refine hK _ _ _ ?_; clear hK K
    refine HT_fr DC_ok rfl fun K hK => ?_; (conv => whnf)
    refine gd_lkN h (lenset rfl) fun hx28 h => ?_; (conv => whnf)
    refine blkK_of rfl ?_; (conv => whnf)
    refine st_lk (enc := eI) (d := default) (q := 0) h (fun _ => rfl) (lenset rfl) hx28 rfl (nle rfl) rfl rfl (fun h => ?_); (conv => whnf)
    refine hK _ _ _ ?_; clear hK K
    refine HT_frzSK 19 (enc := eI) (e := 3) default (ElOk_one DC_ok rfl rfl rfl (fun _ => ⟨rfl, rfl⟩)) ?_; (conv => whnf); refine ⟨_, _, rfl, (lenset (lenset rfl)).symm, rfl, ?_⟩
    refine HT_fr DC_ok rfl fun K hK => ?_; (conv => whnf)
    refine nlA rfl ?_; (conv => whnf)
    refine blkK_of rfl ?_; (conv => whnf)
    refine nlA rfl ?_; (conv => whnf)
    replace h := W_bd h
    refine flow_Meet_call h38 h (WkL.refl _) (fun _ h => ?_); (conv => whnf)
    refine blkK_of rfl ?_; (conv => whnf)
    refine And.intro rfl (And.intro (nle rfl) (And.intro rfl ?_)); (conv => whnf)
    refine hK _ _ _ ?_; clear hK K
    refine HT_seq ?_
    refine HT_fr DC_ok rfl fun K hK => ?_; (conv => whnf)
    replace h := W_jn h
    refine cond_lk h (fun _ h => ?_) (fun _ h => ?_) <;> (conv => whnf)
    · refine hK _ _ _ ?_; clear hK K
      refine HT_if fun K1 K2 hK1 hK2 => ?_; (conv => whnf)
      refine hK1 ?_; clear hK1 hK2 K1 K2
      replace h := W_cnT h
      refine HT_fr DC_ok rfl fun K hK => ?_; (conv => whnf)
      refine hK _ _ _ ?_; clear hK K
      refine HT_ret ?_
      refine Then_r ?_
      refine InBlock_r ?_
      refine Then_r ?_
      refine Then_r ?_
      refine InBlock_r ?_
      refine Then_r ?_
      replace h := W_xrt h
      replace h := W_inr h
      replace h := W_some h
      refine PostP_r DC_ok fun K hK => ?_; (conv => whnf)
      refine hK _ ?_; clear hK K
      cases h
      exact Wk.refl _
    refine nlA rfl ?_; (conv => whnf)
    refine blkK_of rfl ?_; (conv => whnf)
    refine getK_of rfl ?_; (conv => whnf)
    refine eqK_n (eqv_bool DC_ok rfl _ _) ?_; (conv => whnf)
    refine hK _ _ _ ?_; clear hK K
    refine HT_if fun K1 K2 hK1 hK2 => ?_; (conv => whnf)
    refine cond_lk h (fun _ h => ?_) (fun _ h => ?_)
    · refine hK1 ?_; clear hK1 hK2 K1 K2
      refine HT_fr DC_ok rfl fun K hK => ?_; (conv => whnf)
      refine hK _ _ _ ?_; clear hK K
      refine HT_ret ?_
      refine Then_r ?_
      refine InBlock_r ?_
      refine Then_r ?_
      refine Then_r ?_
      refine InBlock_r ?_
      refine Then_r ?_
      replace h := W_xrt h
      replace h := W_inr h
      replace h := W_some h
      refine PostP_r DC_ok fun K hK => ?_; (conv => whnf)
      refine hK _ ?_; clear hK K
      cases h
      exact Wk.refl _
    refine hK2 ?_; clear hK1 hK2 K1 K2
    refine HT_skip ?_
    refine Then_n ?_
    refine HT_fr DC_ok rfl fun K hK => ?_; (conv => whnf)
    refine nlA rfl ?_; (conv => whnf)
    refine blkK_of rfl ?_; (conv => whnf)
    refine getK_of rfl ?_; (conv => whnf)
    refine hK _ _ _ ?_; clear hK K
    replace h := W_jn h
    refine HT_if fun K1 K2 hK1 hK2 => ?_; (conv => whnf)
    refine cond_lk h (fun _ h => ?_) (fun _ h => ?_)
    · refine hK1 ?_; clear hK1 hK2 K1 K2
      refine HT_fr DC_ok rfl fun K hK => ?_; (conv => whnf)
      refine nlA rfl ?_; (conv => whnf)
      refine blkK_of rfl ?_; (conv => whnf)
      refine nlA rfl ?_; (conv => whnf)
      refine nlA rfl ?_; (conv => whnf)
      refine blkK_of rfl ?_; (conv => whnf)
      refine getK_of rfl ?_; (conv => whnf)
      replace h := W_bd h
      refine flow_CheckFlow_call h26 h (WkL.refl _) (fun _ h => ?_); (conv => whnf)
      refine hK _ _ _ ?_; clear hK K
      refine HT_fr DC_ok rfl fun K hK => ?_; (conv => whnf)
      replace h := W_jn h
      refine cond_lk h (fun _ h => ?_) (fun _ h => ?_) <;> (conv => whnf)
      · refine hK _ _ _ ?_; clear hK K
        refine HT_if fun K1 K2 hK1 hK2 => ?_; (conv => whnf)
        refine hK1 ?_; clear hK1 hK2 K1 K2
        replace h := W_cnT h
        refine HT_fr DC_ok rfl fun K hK => ?_; (conv => whnf)
        refine hK _ _ _ ?_; clear hK K
        refine HT_ret ?_
        refine InBlock_r ?_
        refine Then_r ?_
        refine Then_r ?_
        refine InBlock_r ?_
        refine Then_r ?_
        replace h := W_xrt h
        replace h := W_inr h
        replace h := W_some h
        refine PostP_r DC_ok fun K hK => ?_; (conv => whnf)
        refine hK _ ?_; clear hK K
        cases h
        exact Wk.refl _
      refine hK _ _ _ ?_; clear hK K
      refine HT_if fun K1 K2 hK1 hK2 => ?_; (conv => whnf)
      refine cond_lk h (fun _ h => ?_) (fun _ h => ?_)
      · refine hK1 ?_; clear hK1 hK2 K1 K2
        refine HT_fr DC_ok rfl fun K hK => ?_; (conv => whnf)
        refine hK _ _ _ ?_; clear hK K
        refine HT_ret ?_
        refine InBlock_r ?_
        refine Then_r ?_
        refine Then_r ?_
        refine InBlock_r ?_
        refine Then_r ?_
        replace h := W_xrt h
        replace h := W_inr h
        replace h := W_some h
        refine PostP_r DC_ok fun K hK => ?_; (conv => whnf)
        refine hK _ ?_; clear hK K
        cases h
        exact Wk.refl _
      refine hK2 ?_; clear hK1 hK2 K1 K2
      refine HT_skip ?_
      refine InBlock_n ?_
      refine Then_n ?_
      refine HT_f DC_ok rfl fun K hK => ?_; (conv => whnf)
      refine hK _ _ _ ?_; clear hK K
      refine Then_n ?_
      replace h := W_xnx h
      refine ⟨_, h, ?_⟩
      refine weak_k ?_; (conv => whnf)
      exact And.intro rfl (And.intro (allL_c wkI (allL_c (WkR.ptr (fun _ => rfl)) (allL_c wkI (allL_c wkI (allL_c wkI (allL_c (wkr (loose_bool _)) (allL_c (wkr (loose_lstc fun _ => (loose_int _ _))) (allL_c wkI allL_n)))))))) (allL_c ⟨some _, rfl, BkR_c rfl (CkR_cons wkI (CkR_cons (wkr (loose_lst fun _ => (lo_TEdge _))) CkR_nil))⟩ allL_n))
    refine hK2 ?_; clear hK1 hK2 K1 K2
    refine HT_skip ?_
    refine InBlock_n ?_
    refine Then_n ?_
    refine HT_f DC_ok rfl fun K hK => ?_; (conv => whnf)
    refine hK _ _ _ ?_; clear hK K
    refine Then_n ?_
    replace h := W_xnx h
    refine ⟨_, h, ?_⟩
    refine weak_k ?_; (conv => whnf)
    exact And.intro rfl (And.intro (allL_c wkI (allL_c (WkR.ptr (fun _ => rfl)) (allL_c wkI (allL_c wkI (allL_c wkI (allL_c (wkr (loose_bool _)) (allL_c (wkr (loose_lstc fun _ => (loose_int _ _))) (allL_c wkI allL_n)))))))) (allL_c ⟨some _, rfl, BkR_c rfl (CkR_cons wkI (CkR_cons (wkr (loose_lst fun _ => (lo_TEdge _))) CkR_nil))⟩ allL_n))
  refine hK2 ?_; clear hK1 hK2 K1 K2
  refine HT_exit ?_
  refine Then_e ?_
  refine Then_e ?_
  refine InBlock_e ?_
  replace h := W_xbk h
  replace h := W_inl h
  refine Then_n ?_
  refine HT_fr DC_ok rfl fun K hK => ?_; (conv => whnf)
  refine hK _ _ _ ?_; clear hK K
  refine HT_ret ?_
  replace h := W_some h
  refine PostP_r DC_ok fun K hK => ?_; (conv => whnf)
  refine hK _ ?_; clear hK K
  cases h
  exact Wk.refl _
end Go.Proofs.Ytgkmodjcoedonaa
namespace Go.Proofs.Ytgkmodjcoedonaa
open Go Go.Eng
set_option maxRecDepth 100000
def two (N : Nat) (s t : Nat) (x : Int) : List Int := ((List.replicate N 0).set s x).set t (0 - x)
theorem two_get {N s t : Nat} {x : Int} (hs : s < N) (ht : t < N) (hne : s ≠ t) (i : Nat) : sp (two N s t x) i = (if i = s then x else 0) - (if i = t then x else 0) := by
  unfold sp two
  rw [getD_setD (by rw [List.length_set, List.length_replicate]; exact ht), getD_setD (by rw [List.length_replicate]; exact hs)]
  have h0 : (List.replicate N (0 : Int)).getD i default = 0 := by
    simp only [List.getD_eq_getElem?_getD, List.getElem?_replicate]
    split <;> rfl
  rw [h0]
  by_cases c1 : i = t
  · rw [if_pos c1, if_pos c1, if_neg (by omega)]
  · rw [if_neg c1, if_neg c1]; split <;> omega
theorem two_ssum {N s t : Nat} {x : Int} (hs : s < N) (ht : t < N) (hN : N ≤ 12) (hne : s ≠ t) (S : Nat → Bool) : ssum (two N s t x) S = (if S s then x else 0) - (if S t then x else 0) := by
  unfold ssum
  rw [show sm 14 (fun a => if S a then sp (two N s t x) a else 0) = sm 14 (fun a => (if a = s then (if S s then x else 0) else 0) - (if a = t then (if S t then x else 0) else 0)) from sm_congr fun a _ => by
    rw [two_get hs ht hne]
    by_cases c1 : a = s
    · subst c1
      rw [if_pos rfl, if_pos rfl, if_neg hne, if_neg hne]; split <;> omega
    · rw [if_neg c1, if_neg c1]
      by_cases c2 : a = t
      · subst c2; rw [if_pos rfl, if_pos rfl]; split <;> omega
      · rw [if_neg c2, if_neg c2]; split <;> omega, sm_sub, sm_one, sm_one, if_pos (show s < 14 by omega), if_pos (show t < 14 by omega)]
theorem two_sup {n : TNet} {s t : Nat} (h : EndsV n s t) {x : Int} (hx : 0 ≤ x ∧ x ≤ 100000) : SupV n (two n.N.toNat s t x) := by
  have hn := h.v.nn; have hs := h.hs; have ht := h.ht
  have hl : (two n.N.toNat s t x).length = n.N.toNat := by unfold two; simp
  refine ⟨h.v, by omega, fun i _ => ?_, ?_⟩
  · rw [two_get (by omega) (by omega) h.ne]
    split <;> split <;> omega
  · rw [hl, show sm n.N.toNat (sp (two n.N.toNat s t x)) = sm n.N.toNat (fun i => (if i = s then x else 0) - (if i = t then x else 0)) from sm_congr fun i _ => two_get (by omega) (by omega) h.ne i, sm_sub, sm_one, sm_one, if_pos (by omega), if_pos (by omega)]; omega
theorem source_one {n : TNet} {s t : Nat} {v : Int} {C : Nat} (h : EndsV n s t) (hv : MaxV n s t v C) {x : Int} (hx : 0 ≤ x ∧ x ≤ 100000) : ∃ u, flow_Meet_F n (two n.N.toNat s t x) = some (u, 0) ∧ (u.Met = decide (x ≤ v)) ∧ (u.Met = true → flow_CheckFlow_F n (s : Int) (t : Int) u.Amounts = some (x, true)) := by
  have hn := h.v.nn; have hs := h.hs; have ht := h.ht; have hne := h.ne
  have hsup := two_sup h hx
  have hss := fun S => two_ssum (x := x) (N := n.N.toNat) (s := s) (t := t) (by omega) (by omega) (by omega) hne S
  rcases Meet_ok hsup with ⟨A, e, hA⟩ | ⟨S, e, h1, h2⟩
  · refine ⟨_, e, ?_, fun _ => ?_⟩
    · have := hA.cut hsup C.testBit
      rw [hss, hv.cs, hv.ct, ← hv.eq] at this
      simp only [if_true, Bool.false_eq_true, if_false] at this
      rw [decide_eq_true (by omega)]
    · have hg : give n.Edges A s = x := by
        rw [hA.eq s (by omega), two_get (by omega) (by omega) hne, if_pos rfl, if_neg hne]; omega
      have hf : IsFlow n s t A := ⟨hA.ok, by omega, fun w hw q1 q2 => by rw [hA.eq w hw, two_get (by omega) (by omega) hne, if_neg q1, if_neg q2]; rfl⟩
      simp only
      rw [(checkFlow_ok h A).1 hf, hg]
  · refine ⟨_, e, ?_, fun q => (Bool.false_ne_true q).elim⟩
    rw [hss] at h2
    have hc := cutE_nn (E := n.Edges) (fun e he => (h.v.ev e he).cp.1) S.testBit
    cases b1 : S.testBit s with
    | false => rw [b1] at h2; simp only [Bool.false_eq_true, if_false] at h2; exfalso; split at h2 <;> omega
    | true =>
      cases b2 : S.testBit t with
      | true => rw [b1, b2] at h2; simp only [if_true] at h2; exfalso; omega
      | false =>
        rw [b1, b2] at h2
        simp only [if_true, Bool.false_eq_true, if_false] at h2
        have := hv.le _ b1 b2
        rw [decide_eq_false (by omega)]
theorem plain10 (a0 : Int) (a1 : List (Int × Int × Int)) (a2 a3 a4 : Int) (o0 : okI a0) (o1 : okL okA23 a1) (o2 : okI a2) (o3 : okI a3) (o4 : okI a4) : law27_FlowSource_F a0 a1 a2 a3 a4 = some true := by
  obtain ⟨n, en, hn⟩ := made_ok a0 a1 o0 o1
  obtain ⟨s, t, ee, he⟩ := ends_ok hn o2 o3
  obtain ⟨v, C, eg, hv⟩ := greatest_ok he
  have hN := hn.nn; have hel := hn.el; have hs := he.hs; have ht := he.ht; have hne := he.ne
  have hv0 := hv.nn
  have hvb : v ≤ 10000 := by
    have := cutE_bd (E := n.Edges) (B := 19) (by omega) hn.cp C.testBit
    rw [← hv.eq] at this; omega
  obtain ⟨p1, p2⟩ := pickZ_lt a4 (n := 60) (by omega)
  unfold law27_FlowSource_F
  rw [sane_ok, bd_s, Bool.not_true, cn_f, en, bd_s, ee, bd_s]
  simp only
  rw [eg, bd_s, pick_law _ _ o4 (by omega), bd_s, lt_d, wr_id (x := v + 1) (by omega) (by omega)]
  have hall : ∀ k, k < 3 → 0 ≤ ([pickZ a4 60, v, v + 1] : List Int).getD k default ∧ ([pickZ a4 60, v, v + 1] : List Int).getD k default ≤ 100000 := fun k hk => by
    match k, hk with
    | 0, _ => exact ⟨p1, by show pickZ a4 60 ≤ 100000; omega⟩
    | 1, _ => exact ⟨hv0, by show v ≤ 100000; omega⟩
    | 2, _ => exact ⟨by show 0 ≤ v + 1; omega, by show v + 1 ≤ 100000; omega⟩
  have hlen : ([pickZ a4 60, v, v + 1] : List Int).length = 3 := rfl
  generalize ([pickZ a4 60, v, v + 1] : List Int) = L at hall hlen
  obtain ⟨s', e, -⟩ := lp_fold (body := law27_FlowSource_b1 L n ((s : Int), (t : Int)) (v, (C : Int), true)) (fun k x => x = (k : Int)) 3 (by omega) (fun k x hk hx => by
    subst hx
    obtain ⟨u, eu, hm, hf⟩ := source_one he hv (hall k hk)
    unfold law27_FlowSource_b1
    simp only [cn_dec, jn_d]
    rw [if_pos (by omega), ix_n (by omega), gd_p _ (by omega), lt_d, gd_p _ (by simp; omega), st_dd, gd_p _ (by simp; omega), st_dd, Int.toNat_natCast, Int.toNat_natCast]
    have hx := hall k hk
    generalize L.getD k default = x at *
    have etwo : ((List.replicate n.N.toNat (0 : Int)).set s x).set t (wr (0 - x)) = two n.N.toNat s t x := by
      unfold two; rw [wr_id (by omega) (by omega)]
    rw [etwo, eu, bd_s]
    simp only [bne_self_eq_false, cn_f]
    rw [hm]
    simp only [BEq.rfl, Bool.not_true, cn_f]
    rw [wr_id (x := (k : Int) + 1) (by omega) (by omega)]
    refine ⟨((k + 1 : Nat) : Int), ?_, rfl⟩
    by_cases q : x ≤ v
    · rw [decide_eq_true q] at hm ⊢
      rw [cn_t, hf hm, bd_s]
      simp only [Bool.not_true, cn_f, bne_self_eq_false]
      rfl
    · rw [decide_eq_false q, cn_f]; rfl) (fun x hx => by
    subst hx
    unfold law27_FlowSource_b1
    simp only [cn_dec]
    rw [if_neg (by omega)]) 0 rfl
  rw [e, bd_s, smK_l]
end Go.Proofs.Ytgkmodjcoedonaa
