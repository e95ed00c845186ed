import Derived.Test.YtgkmodjcoedonaaM7
import Derived.Test.YtgkmodjcoedonaaM8
set_option linter.unusedVariables false
set_option linter.unusedSimpArgs false
set_option linter.unusedSectionVars false
namespace Go.Proofs.Ytgkmodjcoedonaa
open Go Go.Eng
set_option maxHeartbeats 0
set_option maxRecDepth 100000
def law27_FlowMatchesReference_b5 (e8 : TNet) (l51 : List Int) (s52 : Int) : Option (Ct Int Bool) := cn (decide (s52 < (l51.length : Int))) (ix l51 default s52 fun e53 =>
    bd (flow_Without_F e8 e53) fun y54 => bd (ref27_Without_F e8 e53) fun y55 => jn (fun p56 : Bool => cn p56 (some (.rt false)) (some (.nx (wr (s52 + 1))))) fun k57 => cn (y54.2 !=
    y55.2) (k57 true) (bd (ref27_Same_F y54.1 y55.1) fun y58 => k57 (!y58))) (some (.bk s52))
theorem W_blaw27_FlowMatchesReference_b5 {e8 : TNet} {l51 : List Int} {s52 : Int} {Φ : Ct Int Bool → Prop} (h : W (law27_FlowMatchesReference_b5 e8 l51 s52) Φ) : W (cn (decide (s52 < (l51.length : Int))) (ix l51 default s52 fun e53 => bd (flow_Without_F e8 e53) fun y54 => bd (ref27_Without_F e8 e53) fun y55 => jn (fun p56 : Bool =>
    cn p56 (some (.rt false)) (some (.nx (wr (s52 + 1))))) fun k57 => cn (y54.2 != y55.2) (k57 true) (bd (ref27_Same_F y54.1 y55.1) fun y58 => k57 (!y58))) (some (.bk s52))) Φ := h

    def law27_FlowMatchesReference_b4 (e8 : TNet) (e13 : Int × Int) (l37 : List Int) (s38 : Int) : Option (Ct Int Bool) := cn (decide (s38 < (l37.length : Int))) (ix l37 default s38 fun e39 =>
    bd (flow_CheckCut_F e8 e13.1 e13.2 e39) fun y40 => bd (ref27_CheckCut_F e8 e13.1 e13.2 e39) fun y41 => jn (fun p42 : Bool =>
    cn p42 (some (.rt false)) (some (.nx (wr (s38 + 1))))) fun k43 => cn (y40.1 != y41.1) (k43 true) (k43 (!(y40.2 == y41.2)))) (some (.bk s38))
theorem W_blaw27_FlowMatchesReference_b4 {e8 : TNet} {e13 : Int × Int} {l37 : List Int} {s38 : Int} {Φ : Ct Int Bool → Prop} (h : W (law27_FlowMatchesReference_b4 e8 e13 l37 s38) Φ) : W (cn (decide (s38 < (l37.length : Int))) (ix l37 default s38 fun e39 => bd (flow_CheckCut_F e8 e13.1 e13.2 e39) fun y40 => bd (ref27_CheckCut_F e8 e13.1 e13.2 e39) fun y41 =>
    jn (fun p42 : Bool => cn p42 (some (.rt false)) (some (.nx (wr (s38 + 1))))) fun k43 => cn (y40.1 != y41.1) (k43 true) (k43 (!(y40.2 == y41.2)))) (some (.bk s38))) Φ := h

    def law27_FlowMatchesReference_b3 (e8 : TNet) (e13 : Int × Int) (l26 : List (List Int)) (s27 : Int) : Option (Ct Int Bool) := cn (decide (s27 < (l26.length : Int))) (ix l26 default s27 fun e28 =>
    bd (flow_CheckFlow_F e8 e13.1 e13.2 e28) fun y29 => bd (ref27_CheckFlow_F e8 e13.1 e13.2 e28) fun y30 => jn (fun p31 : Bool =>
    cn p31 (some (.rt false)) (some (.nx (wr (s27 + 1))))) fun k32 => cn (y29.1 != y30.1) (k32 true) (k32 (!(y29.2 == y30.2)))) (some (.bk s27))
theorem W_blaw27_FlowMatchesReference_b3 {e8 : TNet} {e13 : Int × Int} {l26 : List (List Int)} {s27 : Int} {Φ : Ct Int Bool → Prop} (h : W (law27_FlowMatchesReference_b3 e8 e13 l26 s27) Φ) : W (cn (decide (s27 < (l26.length : Int))) (ix l26 default s27 fun e28 => bd (flow_CheckFlow_F e8 e13.1 e13.2 e28) fun y29 => bd (ref27_CheckFlow_F e8 e13.1 e13.2 e28) fun y30 =>
    jn (fun p31 : Bool => cn p31 (some (.rt false)) (some (.nx (wr (s27 + 1))))) fun k32 => cn (y29.1 != y30.1) (k32 true) (k32 (!(y29.2 == y30.2)))) (some (.bk s27))) Φ := h

    def law27_FlowMatchesReference_b2 (a2 : Int × Int × Int) (a6 : List Int) (a7 : Int) (e8 : TNet) (l11 : List (Int × Int)) (y2 : TNet) (s12 : Int) : Option (Ct Int Bool) := cn (decide (s12 < (l11.length : Int))) (ix l11 default s12 fun e13 =>
    bd (flow_Max_F e8 e13.1 e13.2) fun y14 => jn (fun p15 : Bool => cn p15 (some (.rt false)) (jn (fun p18 : Unit => bd (ref27_BentList_F y14.1 a2.1 a2.2.1 a2.2.2) fun y24 =>
    slc a6 0 (imin (a6.length : Int) 41) fun l25 => lt ([y14.1, y24, l25] : List (List Int)) fun l26 => bd (lp (law27_FlowMatchesReference_b3 e8 e13 l26) FU 0) fun c33 =>
    smK c33 (fun s34 => gd (0 ≤ y2.N) (bd (law27_pick_F a7 (bshl .i64 1 y2.N)) fun y36 => lt ([a7, y36] : List Int) fun l37 =>
    bd (lp (law27_FlowMatchesReference_b4 e8 e13 l37) FU 0) fun c44 => smK c44 (fun s45 => some (.nx (wr (s12 + 1)))) (fun r46 => some (.rt r46)))) (fun r35 =>
    some (.rt r35))) fun k19 => cn (y14.2.2 == 0) (bd (ref27_CheckFlow_F e8 e13.1 e13.2 y14.1) fun y20 => bd (ref27_Least_F e8 e13.1 e13.2) fun y21 => jn (fun p22 : Bool =>
    cn p22 (some (.rt false)) (k19 ())) fun k23 => cn (!y20.2) (k23 true) (cn (y20.1 != y21.1) (k23 true) (k23 (y14.2.1 != y21.2)))) (k19 ()))) fun k16 =>
    bd (ref27_Ends_F e8 e13.1 e13.2) fun y17 => cn (!((y14.2.2 == 0) == y17)) (k16 true) (cn (y14.2.2 != 0) (cn (y14.2.2 != 270) (k16 true) (cn (decide ((y14.1.length : Int) >
    0)) (k16 true) (k16 (y14.2.1 != 0)))) (k16 false))) (some (.bk s12))
theorem W_blaw27_FlowMatchesReference_b2 {a2 : Int × Int × Int} {a6 : List Int} {a7 : Int} {e8 : TNet} {l11 : List (Int × Int)} {y2 : TNet} {s12 : Int} {Φ : Ct Int Bool → Prop} (h : W (law27_FlowMatchesReference_b2 a2 a6 a7 e8 l11 y2 s12) Φ) : W (cn (decide (s12 < (l11.length : Int))) (ix l11 default s12 fun e13 => bd (flow_Max_F e8 e13.1 e13.2) fun y14 => jn (fun p15 : Bool =>
    cn p15 (some (.rt false)) (jn (fun p18 : Unit => bd (ref27_BentList_F y14.1 a2.1 a2.2.1 a2.2.2) fun y24 => slc a6 0 (imin (a6.length : Int) 41) fun l25 =>
    lt ([y14.1, y24, l25] : List (List Int)) fun l26 => bd (lp (law27_FlowMatchesReference_b3 e8 e13 l26) FU 0) fun c33 => smK c33 (fun s34 =>
    gd (0 ≤ y2.N) (bd (law27_pick_F a7 (bshl .i64 1 y2.N)) fun y36 => lt ([a7, y36] : List Int) fun l37 => bd (lp (law27_FlowMatchesReference_b4 e8 e13 l37) FU 0) fun c44 =>
    smK c44 (fun s45 => some (.nx (wr (s12 + 1)))) (fun r46 => some (.rt r46)))) (fun r35 => some (.rt r35))) fun k19 => cn (y14.2.2 ==
    0) (bd (ref27_CheckFlow_F e8 e13.1 e13.2 y14.1) fun y20 => bd (ref27_Least_F e8 e13.1 e13.2) fun y21 => jn (fun p22 : Bool => cn p22 (some (.rt false)) (k19 ())) fun k23 =>
    cn (!y20.2) (k23 true) (cn (y20.1 != y21.1) (k23 true) (k23 (y14.2.1 != y21.2)))) (k19 ()))) fun k16 => bd (ref27_Ends_F e8 e13.1 e13.2) fun y17 => cn (!((y14.2.2 == 0) ==
    y17)) (k16 true) (cn (y14.2.2 != 0) (cn (y14.2.2 != 270) (k16 true) (cn (decide ((y14.1.length : Int) > 0)) (k16 true) (k16 (y14.2.1 != 0)))) (k16 false))) (some (.bk s12))) Φ := h

    def law27_FlowMatchesReference_b1 (a2 : Int × Int × Int) (a4 : Int) (a5 : Int) (a6 : List Int) (a7 : Int) (l6 : List TNet) (y2 : TNet) (y3 : Int × Int) (s7 : Int) : Option (Ct Int Bool) := cn (decide (s7 < (l6.length : Int))) (ix l6 default s7 fun e8 =>
    bd (flow_Valid_F e8) fun y9 => bd (ref27_Valid_F e8) fun y10 => cn (!(y9 == y10)) (some (.rt false)) (lt ([(y3.1, y3.2), (a4, a5)] : List (Int × Int)) fun l11 =>
    bd (lp (law27_FlowMatchesReference_b2 a2 a6 a7 e8 l11 y2) FU 0) fun c47 => smK c47 (fun s48 =>
    gd (0 ≤ (y2.Edges.length : Int)) (bd (law27_pick_F a7 (bshl .i64 1 (y2.Edges.length : Int))) fun y50 => lt ([a7, y50] : List Int) fun l51 =>
    bd (lp (law27_FlowMatchesReference_b5 e8 l51) FU 0) fun c59 => smK c59 (fun s60 => some (.nx (wr (s7 + 1)))) (fun r61 => some (.rt r61)))) (fun r49 =>
    some (.rt r49)))) (some (.bk s7))
theorem W_blaw27_FlowMatchesReference_b1 {a2 : Int × Int × Int} {a4 : Int} {a5 : Int} {a6 : List Int} {a7 : Int} {l6 : List TNet} {y2 : TNet} {y3 : Int × Int} {s7 : Int} {Φ : Ct Int Bool → Prop} (h : W (law27_FlowMatchesReference_b1 a2 a4 a5 a6 a7 l6 y2 y3 s7) Φ) : W (cn (decide (s7 < (l6.length : Int))) (ix l6 default s7 fun e8 => bd (flow_Valid_F e8) fun y9 => bd (ref27_Valid_F e8) fun y10 => cn (!(y9 ==
    y10)) (some (.rt false)) (lt ([(y3.1, y3.2), (a4, a5)] : List (Int × Int)) fun l11 => bd (lp (law27_FlowMatchesReference_b2 a2 a6 a7 e8 l11 y2) FU 0) fun c47 =>
    smK c47 (fun s48 => gd (0 ≤ (y2.Edges.length : Int)) (bd (law27_pick_F a7 (bshl .i64 1 (y2.Edges.length : Int))) fun y50 => lt ([a7, y50] : List Int) fun l51 =>
    bd (lp (law27_FlowMatchesReference_b5 e8 l51) FU 0) fun c59 => smK c59 (fun s60 => some (.nx (wr (s7 + 1)))) (fun r61 => some (.rt r61)))) (fun r49 =>
    some (.rt r49)))) (some (.bk s7))) Φ := h

    def law27_FlowMatchesReference_F (a0 : Int) (a1 : List (Int × Int × Int)) (a2 : Int × Int × Int) (a3 : TNet) (a4 : Int) (a5 : Int) (a6 : List Int) (a7 : Int) : Option Bool := bd (law27_sane_F ) fun y1 =>
    cn (!y1) (some false) (bd (ref27_Made_F a0 a1) fun y2 => bd (law27_ends_F y2 a4 a5) fun y3 => bd (ref27_Bent_F y2 a2.1 a2.2.1 a2.2.2) fun y4 => bd (law27_few_F a3) fun y5 =>
    lt ([y2, y4, y5] : List TNet) fun l6 => bd (lp (law27_FlowMatchesReference_b1 a2 a4 a5 a6 a7 l6 y2 y3) FU 0) fun c62 => smK c62 (fun s63 => some true) (fun r64 => some r64))
def law27_FlowMatchesReference_S : List AV → AV → Prop := fun args r => ∃ a0 a1 a2 a3 a4 a5 a6 a7, args = [eI a0, (eL 3 eA23 default) a1, eA23 a2, eTNet a3, eI a4, eI a5, (eL 1 eI default) a6, eI a7] ∧ W (law27_FlowMatchesReference_F a0 a1 a2 a3 a4 a5 a6 a7) fun y => r = (eB y)
theorem law27_FlowMatchesReference_ok {T : Tbl} (hT : TOk Try.prog T) (hpf : PfOk T PF) (h14 : T 14 = pureR law27_sane_S) (h15 : T 15 = pureR ref27_Made_S) (h16 : T 16 = pureR law27_ends_S) (h17 : T 17 = pureR ref27_Bent_S) (h18 : T 18 = pureR law27_few_S) (h19 : T 19 = pureR flow_Valid_S) (h20 : T 20 = pureR ref27_Valid_S) (h21 : T 21 = pureR flow_Max_S) (h22 : T 22 = pureR ref27_Ends_S) (h23 : T 23 = pureR ref27_CheckFlow_S) (h24 : T 24 = pureR ref27_Least_S) (h25 : T 25 = pureR ref27_BentList_S) (h26 : T 26 = pureR flow_CheckFlow_S) (h27 : T 27 = pureR law27_pick_S) (h28 : T 28 = pureR flow_CheckCut_S) (h29 : T 29 = pureR ref27_CheckCut_S) (h30 : T 30 = pureR flow_Without_S) (h31 : T 31 = pureR ref27_Without_S) (h32 : T 32 = pureR ref27_Same_S) : FOk Try.prog 3 (pureR law27_FlowMatchesReference_S) := by
  refine FOk_pure hT hpf Try.func3 rfl Try.ntmps3 Try.results3 (by decide) ?_
  rintro args r ⟨a0, a1, a2, a3, a4, a5, a6, a7, rfl, h⟩
  refine ⟨nle rfl, ?_, ?_⟩
  · exact (loose_cons (loose_int _ _) (loose_cons (loose_lst fun _ => (lo_A23 _)) (loose_cons (lo_A23 _) (loose_cons (lo_TNet _) (loose_cons (loose_int _ _) (loose_cons (loose_int _ _) (loose_cons (loose_lst fun _ => (loose_int _ _)) (loose_cons (loose_int _ _) loose_nil))))))))
  rw [law27_FlowMatchesReference_F.eq_1] at h
  refine HT_fr DC_ok rfl fun K hK => ?_; (conv => whnf)
  refine hK _ _ _ ?_; clear hK K
  refine HT_seq ?_
  refine HT_fr DC_ok rfl fun K hK => ?_; (conv => whnf)
  replace h := W_bd h
  refine law27_sane_call h14 h (WkL.refl _) (fun _ h => ?_); (conv => whnf)
  refine hK _ _ _ ?_; clear hK K
  refine HT_if fun K1 K2 hK1 hK2 => ?_; (conv => whnf)
  refine cond_lk h (fun _ h => ?_) (fun _ h => ?_)
  · refine hK1 ?_; clear hK1 hK2 K1 K2
    refine HT_fr DC_ok rfl fun K hK => ?_; (conv => whnf)
    refine hK _ _ _ ?_; clear hK K
    refine HT_ret ?_
    refine Then_r ?_
    replace h := W_some h
    refine PostP_r DC_ok fun K hK => ?_; (conv => whnf)
    refine hK _ ?_; clear hK K
    cases h
    exact Wk.refl _
  refine hK2 ?_; clear hK1 hK2 K1 K2
  refine HT_skip ?_
  refine Then_n ?_
  refine HT_fr DC_ok rfl fun K hK => ?_; (conv => whnf)
  replace h := W_bd h
  refine ref27_Made_call h15 h (WkL.refl _) (fun _ h => ?_); (conv => whnf)
  refine blkK_of rfl ?_; (conv => whnf)
  refine And.intro rfl (And.intro (nle rfl) (And.intro rfl ?_)); (conv => whnf)
  refine hK _ _ _ ?_; clear hK K
  refine HT_fr DC_ok rfl fun K hK => ?_; (conv => whnf)
  refine nlA rfl ?_; (conv => whnf)
  refine blkK_of rfl ?_; (conv => whnf)
  refine nlA rfl ?_; (conv => whnf)
  replace h := W_bd h
  refine law27_ends_call h16 h (WkL.refl _) (fun _ h => ?_); (conv => whnf)
  refine hK _ _ _ ?_; clear hK K
  refine HT_seq ?_
  refine HT_fd DC_ok mix_ok rfl (by kernel_rfl) fun K hK => ?_; (conv => whnf)
  refine nlA rfl ?_; (conv => whnf)
  refine blkK_of rfl ?_; (conv => whnf)
  refine nlA rfl ?_; (conv => whnf)
  refine nlA rfl ?_; (conv => whnf)
  refine blkK_of rfl ?_; (conv => whnf)
  refine nlA rfl ?_; (conv => whnf)
  refine And.intro (by decide) ?_; (conv => whnf)
  refine nlA rfl ?_; (conv => whnf)
  refine blkK_of rfl ?_; (conv => whnf)
  refine getK_of rfl ?_; (conv => whnf)
  refine And.intro (by decide) ?_; (conv => whnf)
  refine nlA rfl ?_; (conv => whnf)
  refine blkK_of rfl ?_; (conv => whnf)
  refine getK_of rfl ?_; (conv => whnf)
  refine And.intro (by decide) ?_; (conv => whnf)
  refine nlA rfl ?_; (conv => whnf)
  refine blkK_of rfl ?_; (conv => whnf)
  refine getK_of rfl ?_; (conv => whnf)
  replace h := W_bd h
  refine ref27_Bent_call h17 h (WkL.refl _) (fun _ h => ?_); (conv => whnf)
  refine nlA rfl ?_; (conv => whnf)
  refine blkK_of rfl ?_; (conv => whnf)
  refine nlA rfl ?_; (conv => whnf)
  replace h := W_bd h
  refine law27_few_call h18 h (WkL.refl _) (fun _ h => ?_); (conv => whnf)
  refine lt_lk (enc := eTNet) (d := default) DC_ok h rfl rfl rfl ⟨nle rfl, nle rfl, rfl⟩ rfl ⟨⟨rfl, nle rfl⟩, ⟨⟨rfl, nle rfl⟩, ⟨⟨rfl, nle rfl⟩, trivial⟩⟩⟩ (fun h => ?_); (conv => whnf)
  refine hK _ _ _ ?_; clear hK K
  refine HT_block ?_
  replace h := W_bd h
  refine HT_lpK (body := law27_FlowMatchesReference_b1 _ _ _ _ _ _ _ _) rfl h [4, 5, 6, 7, 10, 17, 18, 19, 72, 73] [10, 17] [] (fun kl kh ids b s => ⟨ofL ([(74, eI s)] ++ kl), ofH ([] ++ kh), b + 64⟩) ?_; (conv => whnf); refine And.intro ?_ (fun s m h => HT_st ?_)
  · refine weak_k ?_; (conv => whnf)
    exact And.intro rfl (And.intro (allL_c wkI (allL_c wkI (allL_c wkI (allL_c (wkr (loose_lst fun _ => (loose_int _ _))) (allL_c wkI (allL_c (WkR.ptr (fun _ => rfl)) (allL_c (WkR.ptr (fun _ => rfl)) (allL_c wkI (allL_c wkI (allL_c (wkr (loose_lstc fun _ => (lo_TNet _))) (allL_c wkI allL_n))))))))))) (allL_c ⟨some _, rfl, BkR_c rfl (CkR_cons wkI (CkR_cons wkI (CkR_cons wkI CkR_nil)))⟩ (allL_c ⟨some _, rfl, BkR_c rfl (CkR_cons wkI (CkR_cons (wkr (loose_lst fun _ => (lo_TEdge _))) CkR_nil))⟩ allL_n)))
  replace h := W_blaw27_FlowMatchesReference_b1 (W_bd h)
  refine HT_fr DC_ok rfl fun K hK => ?_; (conv => whnf)
  refine hK _ _ _ ?_; clear hK K
  refine HT_seq ?_
  refine HT_if fun K1 K2 hK1 hK2 => ?_; (conv => whnf)
  refine cond_lk h (fun _ h => ?_) (fun _ h => ?_)
  · refine hK1 ?_; clear hK1 hK2 K1 K2
    refine HT_skip ?_
    refine Then_n ?_
    refine HT_seq ?_
    refine HT_block ?_
    refine HT_fr DC_ok rfl fun K hK => ?_; (conv => whnf)
    refine ix_lk h fun _ h => ?_; (conv => whnf)
    refine nlA rfl ?_; (conv => whnf)
    refine blkK_of rfl ?_; (conv => whnf)
    refine And.intro rfl (And.intro (nle rfl) (And.intro rfl ?_)); (conv => whnf)
    refine hK _ _ _ ?_; clear hK K
    refine HT_seq ?_
    refine HT_fd DC_ok mix_ok rfl (by kernel_rfl) fun K hK => ?_; (conv => whnf)
    refine nlA rfl ?_; (conv => whnf)
    refine blkK_of rfl ?_; (conv => whnf)
    refine nlA rfl ?_; (conv => whnf)
    replace h := W_bd h
    refine flow_Valid_call h19 h (WkL.refl _) (fun _ h => ?_); (conv => whnf)
    refine nlA rfl ?_; (conv => whnf)
    refine blkK_of rfl ?_; (conv => whnf)
    refine nlA rfl ?_; (conv => whnf)
    replace h := W_bd h
    refine ref27_Valid_call h20 h (WkL.refl _) (fun _ h => ?_); (conv => whnf)
    refine eqK_n (eqv_bool DC_ok rfl _ _) ?_; (conv => whnf)
    refine hK _ _ _ ?_; clear hK K
    refine HT_if fun K1 K2 hK1 hK2 => ?_; (conv => whnf)
    refine cond_lk h (fun _ h => ?_) (fun _ h => ?_)
    · refine hK1 ?_; clear hK1 hK2 K1 K2
      refine HT_fr DC_ok rfl fun K hK => ?_; (conv => whnf)
      refine hK _ _ _ ?_; clear hK K
      refine HT_ret ?_
      refine Then_r ?_
      refine InBlock_r ?_
      refine Then_r ?_
      refine Then_r ?_
      refine InBlock_r ?_
      refine Then_r ?_
      replace h := W_xrt h
      replace h := W_inr h
      replace h := W_some h
      refine PostP_r DC_ok fun K hK => ?_; (conv => whnf)
      refine hK _ ?_; clear hK K
      cases h
      exact Wk.refl _
    refine hK2 ?_; clear hK1 hK2 K1 K2
    refine HT_skip ?_
    refine Then_n ?_
    refine HT_seq ?_
    refine HT_fr DC_ok rfl fun K hK => ?_; (conv => whnf)
    refine lt_lk (enc := eA36) (d := default) DC_ok h rfl rfl rfl ⟨nle rfl, nle rfl, rfl⟩ rfl ⟨⟨rfl, nle rfl⟩, ⟨⟨rfl, nle rfl⟩, trivial⟩⟩ (fun h => ?_); (conv => whnf)
    refine hK _ _ _ ?_; clear hK K
    refine HT_block ?_
    replace h := W_bd h
    refine HT_lpK (body := law27_FlowMatchesReference_b2 _ _ _ _ _ _) rfl h [4, 5, 6, 7, 10, 17, 18, 19, 21, 72, 73, 74, 89, 90] [10, 17, 21] [] (fun kl kh ids b s => ⟨ofL ([(91, eI s)] ++ kl), ofH ([] ++ kh), b + 64⟩) ?_; (conv => whnf); refine And.intro ?_ (fun s m h => HT_st ?_)
    · refine weak_k ?_; (conv => whnf)
      exact And.intro rfl (And.intro (allL_c wkI (allL_c wkI (allL_c wkI (allL_c (wkr (loose_lst fun _ => (loose_int _ _))) (allL_c wkI (allL_c (WkR.ptr (fun _ => rfl)) (allL_c (WkR.ptr (fun _ => rfl)) (allL_c wkI (allL_c wkI (allL_c (WkR.ptr (fun _ => rfl)) (allL_c (wkr (loose_lstc fun _ => (lo_TNet _))) (allL_c wkI (allL_c wkI (allL_c (wkr (loose_lstc fun _ => (lo_A36 _))) (allL_c wkI allL_n))))))))))))))) (allL_c ⟨some _, rfl, BkR_c rfl (CkR_cons wkI (CkR_cons wkI (CkR_cons wkI CkR_nil)))⟩ (allL_c ⟨some _, rfl, BkR_c rfl (CkR_cons wkI (CkR_cons (wkr (loose_lst fun _ => (lo_TEdge _))) CkR_nil))⟩ (allL_c ⟨some _, rfl, BkR_c rfl (CkR_cons wkI (CkR_cons (wkr (loose_lst fun _ => (lo_TEdge _))) CkR_nil))⟩ allL_n))))
    replace h := W_blaw27_FlowMatchesReference_b2 (W_bd h)
    refine HT_fr DC_ok rfl fun K hK => ?_; (conv => whnf)
    refine hK _ _ _ ?_; clear hK K
    refine HT_seq ?_
    refine HT_if fun K1 K2 hK1 hK2 => ?_; (conv => whnf)
    refine cond_lk h (fun _ h => ?_) (fun _ h => ?_)
    · refine hK1 ?_; clear hK1 hK2 K1 K2
      refine HT_skip ?_
      refine Then_n ?_
      refine HT_seq ?_
      refine HT_block ?_
      refine HT_fr DC_ok rfl fun K hK => ?_; (conv => whnf)
      refine ix_lk h fun _ h => ?_; (conv => whnf)
      refine nlA rfl ?_; (conv => whnf)
      refine blkK_of rfl ?_; (conv => whnf)
      refine And.intro rfl (And.intro (nle rfl) (And.intro rfl ?_)); (conv => whnf)
      refine hK _ _ _ ?_; clear hK K
      refine HT_fr DC_ok rfl fun K hK => ?_; (conv => whnf)
      refine nlA rfl ?_; (conv => whnf)
      refine blkK_of rfl ?_; (conv => whnf)
      refine nlA rfl ?_; (conv => whnf)
      refine And.intro (by decide) ?_; (conv => whnf)
      refine nlA rfl ?_; (conv => whnf)
      refine blkK_of rfl ?_; (conv => whnf)
      refine getK_of rfl ?_; (conv => whnf)
      refine And.intro (by decide) ?_; (conv => whnf)
      refine nlA rfl ?_; (conv => whnf)
      refine blkK_of rfl ?_; (conv => whnf)
      refine getK_of rfl ?_; (conv => whnf)
      replace h := W_bd h
      refine flow_Max_call h21 h (WkL.refl _) (fun _ h => ?_); (conv => whnf)
      refine hK _ _ _ ?_; clear hK K
      refine HT_seq ?_
      refine HT_jnK rfl h [4, 5, 6, 7, 10, 17, 18, 19, 21, 23, 24, 25, 26, 72, 73, 74, 89, 90, 91] [10, 17, 21, 23] [] (fun kl kh ids b s => ⟨ofL ([(130, eB s)] ++ kl), ofH ([] ++ kh), b + 64⟩) ?_; (conv => whnf); refine And.intro (fun s h => HT_st ?_) (fun k h => ?_)
      · refine HT_if fun K1 K2 hK1 hK2 => ?_; (conv => whnf)
        refine cond_lk h (fun _ h => ?_) (fun _ h => ?_)
        · refine hK1 ?_; clear hK1 hK2 K1 K2
          refine HT_fr DC_ok rfl fun K hK => ?_; (conv => whnf)
          refine hK _ _ _ ?_; clear hK K
          refine HT_ret ?_
          refine Then_r ?_
          refine InBlock_r ?_
          refine Then_r ?_
          refine Then_r ?_
          refine InBlock_r ?_
          refine Then_r ?_
          refine InBlock_r ?_
          refine Then_r ?_
          refine Then_r ?_
          refine InBlock_r ?_
          refine Then_r ?_
          replace h := W_xrt h
          replace h := W_inr h
          replace h := W_xrt h
          replace h := W_inr h
          replace h := W_some h
          refine PostP_r DC_ok fun K hK => ?_; (conv => whnf)
          refine hK _ ?_; clear hK K
          cases h
          exact Wk.refl _
        refine hK2 ?_; clear hK1 hK2 K1 K2
        refine HT_skip ?_
        refine Then_n ?_
        refine HT_seq ?_
        refine HT_fr DC_ok rfl fun K hK => ?_; (conv => whnf)
        refine hK _ _ _ ?_; clear hK K
        replace h := W_jn h
        refine HT_if fun K1 K2 hK1 hK2 => ?_; (conv => whnf)
        refine cond_lk h (fun _ h => ?_) (fun _ h => ?_)
        · refine hK1 ?_; clear hK1 hK2 K1 K2
          refine HT_fr DC_ok rfl fun K hK => ?_; (conv => whnf)
          refine nlA rfl ?_; (conv => whnf)
          refine blkK_of rfl ?_; (conv => whnf)
          refine nlA rfl ?_; (conv => whnf)
          refine And.intro (by decide) ?_; (conv => whnf)
          refine nlA rfl ?_; (conv => whnf)
          refine blkK_of rfl ?_; (conv => whnf)
          refine getK_of rfl ?_; (conv => whnf)
          refine And.intro (by decide) ?_; (conv => whnf)
          refine nlA rfl ?_; (conv => whnf)
          refine blkK_of rfl ?_; (conv => whnf)
          refine getK_of rfl ?_; (conv => whnf)
          replace h := W_bd h
          refine ref27_CheckFlow_call h23 h (WkL.refl _) (fun _ h => ?_); (conv => whnf)
          refine hK _ _ _ ?_; clear hK K
          refine HT_fr DC_ok rfl fun K hK => ?_; (conv => whnf)
          refine nlA rfl ?_; (conv => whnf)
          refine blkK_of rfl ?_; (conv => whnf)
          refine nlA rfl ?_; (conv => whnf)
          refine And.intro (by decide) ?_; (conv => whnf)
          refine nlA rfl ?_; (conv => whnf)
          refine blkK_of rfl ?_; (conv => whnf)
          refine getK_of rfl ?_; (conv => whnf)
          refine And.intro (by decide) ?_; (conv => whnf)
          refine nlA rfl ?_; (conv => whnf)
          refine blkK_of rfl ?_; (conv => whnf)
          refine getK_of rfl ?_; (conv => whnf)
          replace h := W_bd h
          refine ref27_Least_call h24 h (WkL.refl _) (fun _ h => ?_); (conv => whnf)
          refine hK _ _ _ ?_; clear hK K
          refine HT_fr DC_ok rfl fun K hK => ?_; (conv => whnf)
          replace h := W_jn h
          refine cond_lk h (fun _ h => ?_) (fun _ h => ?_) <;> (conv => whnf)
          · refine hK _ _ _ ?_; clear hK K
            refine HT_if fun K1 K2 hK1 hK2 => ?_; (conv => whnf)
            refine hK1 ?_; clear hK1 hK2 K1 K2
            replace h := W_cnT h
            refine HT_fr DC_ok rfl fun K hK => ?_; (conv => whnf)
            refine hK _ _ _ ?_; clear hK K
            refine HT_ret ?_
            refine Then_r ?_
            refine InBlock_r ?_
            refine Then_r ?_
            refine Then_r ?_
            refine InBlock_r ?_
            refine Then_r ?_
            refine InBlock_r ?_
            refine Then_r ?_
            refine Then_r ?_
            refine InBlock_r ?_
            refine Then_r ?_
            replace h := W_xrt h
            replace h := W_inr h
            replace h := W_xrt h
            replace h := W_inr h
            replace h := W_some h
            refine PostP_r DC_ok fun K hK => ?_; (conv => whnf)
            refine hK _ ?_; clear hK K
            cases h
            exact Wk.refl _
          refine cond_lk h (fun _ h => ?_) (fun _ h => ?_) <;> (conv => whnf)
          · refine hK _ _ _ ?_; clear hK K
            refine HT_if fun K1 K2 hK1 hK2 => ?_; (conv => whnf)
            refine hK1 ?_; clear hK1 hK2 K1 K2
            replace h := W_cnT h
            refine HT_fr DC_ok rfl fun K hK => ?_; (conv => whnf)
            refine hK _ _ _ ?_; clear hK K
            refine HT_ret ?_
            refine Then_r ?_
            refine InBlock_r ?_
            refine Then_r ?_
            refine Then_r ?_
            refine InBlock_r ?_
            refine Then_r ?_
            refine InBlock_r ?_
            refine Then_r ?_
            refine Then_r ?_
            refine InBlock_r ?_
            refine Then_r ?_
            replace h := W_xrt h
            replace h := W_inr h
            replace h := W_xrt h
            replace h := W_inr h
            replace h := W_some h
            refine PostP_r DC_ok fun K hK => ?_; (conv => whnf)
            refine hK _ ?_; clear hK K
            cases h
            exact Wk.refl _
          refine hK _ _ _ ?_; clear hK K
          refine HT_if fun K1 K2 hK1 hK2 => ?_; (conv => whnf)
          refine cond_lk h (fun _ h => ?_) (fun _ h => ?_)
          · refine hK1 ?_; clear hK1 hK2 K1 K2
            refine HT_fr DC_ok rfl fun K hK => ?_; (conv => whnf)
            refine hK _ _ _ ?_; clear hK K
            refine HT_ret ?_
            refine Then_r ?_
            refine InBlock_r ?_
            refine Then_r ?_
            refine Then_r ?_
            refine InBlock_r ?_
            refine Then_r ?_
            refine InBlock_r ?_
            refine Then_r ?_
            refine Then_r ?_
            refine InBlock_r ?_
            refine Then_r ?_
            replace h := W_xrt h
            replace h := W_inr h
            replace h := W_xrt h
            replace h := W_inr h
            replace h := W_some h
            refine PostP_r DC_ok fun K hK => ?_; (conv => whnf)
            refine hK _ ?_; clear hK K
            cases h
            exact Wk.refl _
          refine hK2 ?_; clear hK1 hK2 K1 K2
          refine HT_skip ?_
          refine Then_n ?_
          refine HT_seq ?_
          refine HT_fd DC_ok mix_ok rfl (by kernel_rfl) fun K hK => ?_; (conv => whnf)
          refine And.intro (by decide) ?_; (conv => whnf)
          refine nlA rfl ?_; (conv => whnf)
          refine blkK_of rfl ?_; (conv => whnf)
          refine getK_of rfl ?_; (conv => whnf)
          refine And.intro (by decide) ?_; (conv => whnf)
          refine nlA rfl ?_; (conv => whnf)
          refine blkK_of rfl ?_; (conv => whnf)
          refine getK_of rfl ?_; (conv => whnf)
          refine And.intro (by decide) ?_; (conv => whnf)
          refine nlA rfl ?_; (conv => whnf)
          refine blkK_of rfl ?_; (conv => whnf)
          refine getK_of rfl ?_; (conv => whnf)
          replace h := W_bd h
          refine ref27_BentList_call h25 h (WkL.refl _) (fun _ h => ?_); (conv => whnf)
          refine sl_lk h (.inl ⟨rfl, rfl⟩) (.inr ⟨_, rfl⟩) (fun h => ?_); (conv => whnf)
          refine lt_lk (enc := (eL 1 eI default)) (d := default) DC_ok h rfl rfl rfl ⟨nle rfl, nle rfl, rfl⟩ rfl ⟨⟨rfl, rfl, rfl⟩, ⟨⟨rfl, rfl, rfl⟩, ⟨⟨rfl, rfl, rfl⟩, trivial⟩⟩⟩ (fun h => ?_); (conv => whnf)
          refine hK _ _ _ ?_; clear hK K
          refine HT_block ?_
          replace h := W_bd h
          refine HT_lpK (body := law27_FlowMatchesReference_b3 _ _ _) rfl h [4, 5, 6, 7, 10, 17, 18, 19, 21, 23, 72, 73, 74, 89, 90, 91, 178, 179] [10, 17, 21, 23] [] (fun kl kh ids b s => ⟨ofL ([(180, eI s)] ++ kl), ofH ([] ++ kh), b + 64⟩) ?_; (conv => whnf); refine And.intro ?_ (fun s m h => HT_st ?_)
          · refine weak_k ?_; (conv => whnf)
            exact And.intro rfl (And.intro (allL_c wkI (allL_c wkI (allL_c wkI (allL_c (wkr (loose_lst fun _ => (loose_int _ _))) (allL_c wkI (allL_c (WkR.ptr (fun _ => rfl)) (allL_c (WkR.ptr (fun _ => rfl)) (allL_c wkI (allL_c wkI (allL_c (WkR.ptr (fun _ => rfl)) (allL_c (WkR.ptr (fun _ => rfl)) (allL_c (wkr (loose_lstc fun _ => (lo_TNet _))) (allL_c wkI (allL_c wkI (allL_c (wkr (loose_lstc fun _ => (lo_A36 _))) (allL_c wkI (allL_c wkI (allL_c (wkr (loose_lstc fun _ => (loose_lst fun _ => (loose_int _ _)))) (allL_c wkI allL_n))))))))))))))))))) (allL_c ⟨some _, rfl, BkR_c rfl (CkR_cons wkI (CkR_cons wkI (CkR_cons wkI CkR_nil)))⟩ (allL_c ⟨some _, rfl, BkR_c rfl (CkR_cons wkI (CkR_cons (wkr (loose_lst fun _ => (lo_TEdge _))) CkR_nil))⟩ (allL_c ⟨some _, rfl, BkR_c rfl (CkR_cons wkI (CkR_cons (wkr (loose_lst fun _ => (lo_TEdge _))) CkR_nil))⟩ (allL_c ⟨some _, rfl, BkR_c rfl (CkR_cons wkI (CkR_cons wkI CkR_nil))⟩ allL_n)))))
          replace h := W_blaw27_FlowMatchesReference_b3 (W_bd h)
          refine HT_fr DC_ok rfl fun K hK => ?_; (conv => whnf)
          refine hK _ _ _ ?_; clear hK K
          refine HT_seq ?_
          refine HT_if fun K1 K2 hK1 hK2 => ?_; (conv => whnf)
          refine cond_lk h (fun _ h => ?_) (fun _ h => ?_)
          · refine hK1 ?_; clear hK1 hK2 K1 K2
            refine HT_skip ?_
            refine Then_n ?_
            refine HT_seq ?_
            refine HT_block ?_
            refine HT_fr DC_ok rfl fun K hK => ?_; (conv => whnf)
            refine ix_lk h fun _ h => ?_; (conv => whnf)
            refine getK_of rfl ?_; (conv => whnf)
            refine hK _ _ _ ?_; clear hK K
            refine HT_fr DC_ok rfl fun K hK => ?_; (conv => whnf)
            refine nlA rfl ?_; (conv => whnf)
            refine blkK_of rfl ?_; (conv => whnf)
            refine nlA rfl ?_; (conv => whnf)
            refine And.intro (by decide) ?_; (conv => whnf)
            refine nlA rfl ?_; (conv => whnf)
            refine blkK_of rfl ?_; (conv => whnf)
            refine getK_of rfl ?_; (conv => whnf)
            refine And.intro (by decide) ?_; (conv => whnf)
            refine nlA rfl ?_; (conv => whnf)
            refine blkK_of rfl ?_; (conv => whnf)
            refine getK_of rfl ?_; (conv => whnf)
            replace h := W_bd h
            refine flow_CheckFlow_call h26 h (WkL.refl _) (fun _ h => ?_); (conv => whnf)
            refine hK _ _ _ ?_; clear hK K
            refine HT_fr DC_ok rfl fun K hK => ?_; (conv => whnf)
            refine nlA rfl ?_; (conv => whnf)
            refine blkK_of rfl ?_; (conv => whnf)
            refine nlA rfl ?_; (conv => whnf)
            refine And.intro (by decide) ?_; (conv => whnf)
            refine nlA rfl ?_; (conv => whnf)
            refine blkK_of rfl ?_; (conv => whnf)
            refine getK_of rfl ?_; (conv => whnf)
            refine And.intro (by decide) ?_; (conv => whnf)
            refine nlA rfl ?_; (conv => whnf)
            refine blkK_of rfl ?_; (conv => whnf)
            refine getK_of rfl ?_; (conv => whnf)
            replace h := W_bd h
            refine ref27_CheckFlow_call h23 h (WkL.refl _) (fun _ h => ?_); (conv => whnf)
            refine hK _ _ _ ?_; clear hK K
            refine HT_fr DC_ok rfl fun K hK => ?_; (conv => whnf)
            replace h := W_jn h
            refine cond_lk h (fun _ h => ?_) (fun _ h => ?_) <;> (conv => whnf)
            · refine hK _ _ _ ?_; clear hK K
              refine HT_if fun K1 K2 hK1 hK2 => ?_; (conv => whnf)
              refine hK1 ?_; clear hK1 hK2 K1 K2
              replace h := W_cnT h
              refine HT_fr DC_ok rfl fun K hK => ?_; (conv => whnf)
              refine hK _ _ _ ?_; clear hK K
              refine HT_ret ?_
              refine InBlock_r ?_
              refine Then_r ?_
              refine Then_r ?_
              refine InBlock_r ?_
              refine Then_r ?_
              refine InBlock_r ?_
              refine Then_r ?_
              refine Then_r ?_
              refine InBlock_r ?_
              refine Then_r ?_
              refine InBlock_r ?_
              refine Then_r ?_
              refine Then_r ?_
              refine InBlock_r ?_
              refine Then_r ?_
              replace h := W_xrt h
              replace h := W_inr h
              replace h := W_xrt h
              replace h := W_inr h
              replace h := W_xrt h
              replace h := W_inr h
              replace h := W_some h
              refine PostP_r DC_ok fun K hK => ?_; (conv => whnf)
              refine hK _ ?_; clear hK K
              cases h
              exact Wk.refl _
            refine eqK_n (eqv_bool DC_ok rfl _ _) ?_; (conv => whnf)
            refine hK _ _ _ ?_; clear hK K
            refine HT_if fun K1 K2 hK1 hK2 => ?_; (conv => whnf)
            refine cond_lk h (fun _ h => ?_) (fun _ h => ?_)
            · refine hK1 ?_; clear hK1 hK2 K1 K2
              refine HT_fr DC_ok rfl fun K hK => ?_; (conv => whnf)
              refine hK _ _ _ ?_; clear hK K
              refine HT_ret ?_
              refine InBlock_r ?_
              refine Then_r ?_
              refine Then_r ?_
              refine InBlock_r ?_
              refine Then_r ?_
              refine InBlock_r ?_
              refine Then_r ?_
              refine Then_r ?_
              refine InBlock_r ?_
              refine Then_r ?_
              refine InBlock_r ?_
              refine Then_r ?_
              refine Then_r ?_
              refine InBlock_r ?_
              refine Then_r ?_
              replace h := W_xrt h
              replace h := W_inr h
              replace h := W_xrt h
              replace h := W_inr h
              replace h := W_xrt h
              replace h := W_inr h
              replace h := W_some h
              refine PostP_r DC_ok fun K hK => ?_; (conv => whnf)
              refine hK _ ?_; clear hK K
              cases h
              exact Wk.refl _
            refine hK2 ?_; clear hK1 hK2 K1 K2
            refine HT_skip ?_
            refine InBlock_n ?_
            refine Then_n ?_
            refine HT_f DC_ok rfl fun K hK => ?_; (conv => whnf)
            refine hK _ _ _ ?_; clear hK K
            refine Then_n ?_
            replace h := W_xnx h
            refine ⟨_, h, ?_⟩
            refine weak_k ?_; (conv => whnf)
            exact And.intro rfl (And.intro (allL_c wkI (allL_c wkI (allL_c wkI (allL_c (wkr (loose_lst fun _ => (loose_int _ _))) (allL_c wkI (allL_c (WkR.ptr (fun _ => rfl)) (allL_c (WkR.ptr (fun _ => rfl)) (allL_c wkI (allL_c wkI (allL_c (WkR.ptr (fun _ => rfl)) (allL_c (WkR.ptr (fun _ => rfl)) (allL_c (wkr (loose_lstc fun _ => (lo_TNet _))) (allL_c wkI (allL_c wkI (allL_c (wkr (loose_lstc fun _ => (lo_A36 _))) (allL_c wkI (allL_c wkI (allL_c (wkr (loose_lstc fun _ => (loose_lst fun _ => (loose_int _ _)))) (allL_c wkI allL_n))))))))))))))))))) (allL_c ⟨some _, rfl, BkR_c rfl (CkR_cons wkI (CkR_cons wkI (CkR_cons wkI CkR_nil)))⟩ (allL_c ⟨some _, rfl, BkR_c rfl (CkR_cons wkI (CkR_cons (wkr (loose_lst fun _ => (lo_TEdge _))) CkR_nil))⟩ (allL_c ⟨some _, rfl, BkR_c rfl (CkR_cons wkI (CkR_cons (wkr (loose_lst fun _ => (lo_TEdge _))) CkR_nil))⟩ (allL_c ⟨some _, rfl, BkR_c rfl (CkR_cons wkI (CkR_cons wkI CkR_nil))⟩ allL_n)))))
          refine hK2 ?_; clear hK1 hK2 K1 K2
          refine HT_exit ?_
          refine Then_e ?_
          refine Then_e ?_
          refine InBlock_e ?_
          replace h := W_xbk h
          replace h := W_inl h
          refine Then_n ?_
          refine HT_fr DC_ok rfl fun K hK => ?_; (conv => whnf)
          refine nlA rfl ?_; (conv => whnf)
          refine blkK_of rfl ?_; (conv => whnf)
          refine getK_of rfl ?_; (conv => whnf)
          refine gd_lk h fun _ h => ?_; (conv => whnf)
          replace h := W_bd h
          refine law27_pick_call h27 h (WkL.refl _) (fun _ h => ?_); (conv => whnf)
          refine lt_lk (enc := eI) (d := default) DC_ok h rfl rfl rfl ⟨nle rfl, nle rfl, rfl⟩ rfl ⟨⟨rfl, rfl, rfl⟩, ⟨⟨rfl, rfl, rfl⟩, trivial⟩⟩ (fun h => ?_); (conv => whnf)
          refine hK _ _ _ ?_; clear hK K
          refine HT_block ?_
          replace h := W_bd h
          refine HT_lpK (body := law27_FlowMatchesReference_b4 _ _ _) rfl h [4, 5, 6, 7, 10, 17, 18, 19, 21, 23, 72, 73, 74, 89, 90, 91, 219, 220] [10, 17, 21, 23] [] (fun kl kh ids b s => ⟨ofL ([(221, eI s)] ++ kl), ofH ([] ++ kh), b + 64⟩) ?_; (conv => whnf); refine And.intro ?_ (fun s m h => HT_st ?_)
          · refine weak_k ?_; (conv => whnf)
            exact And.intro rfl (And.intro (allL_c wkI (allL_c wkI (allL_c wkI (allL_c (wkr (loose_lst fun _ => (loose_int _ _))) (allL_c wkI (allL_c (WkR.ptr (fun _ => rfl)) (allL_c (WkR.ptr (fun _ => rfl)) (allL_c wkI (allL_c wkI (allL_c (WkR.ptr (fun _ => rfl)) (allL_c (WkR.ptr (fun _ => rfl)) (allL_c (wkr (loose_lstc fun _ => (lo_TNet _))) (allL_c wkI (allL_c wkI (allL_c (wkr (loose_lstc fun _ => (lo_A36 _))) (allL_c wkI (allL_c wkI (allL_c (wkr (loose_lstc fun _ => (loose_int _ _))) (allL_c wkI allL_n))))))))))))))))))) (allL_c ⟨some _, rfl, BkR_c rfl (CkR_cons wkI (CkR_cons wkI (CkR_cons wkI CkR_nil)))⟩ (allL_c ⟨some _, rfl, BkR_c rfl (CkR_cons wkI (CkR_cons (wkr (loose_lst fun _ => (lo_TEdge _))) CkR_nil))⟩ (allL_c ⟨some _, rfl, BkR_c rfl (CkR_cons wkI (CkR_cons (wkr (loose_lst fun _ => (lo_TEdge _))) CkR_nil))⟩ (allL_c ⟨some _, rfl, BkR_c rfl (CkR_cons wkI (CkR_cons wkI CkR_nil))⟩ allL_n)))))
          replace h := W_blaw27_FlowMatchesReference_b4 (W_bd h)
          refine HT_fr DC_ok rfl fun K hK => ?_; (conv => whnf)
          refine hK _ _ _ ?_; clear hK K
          refine HT_seq ?_
          refine HT_if fun K1 K2 hK1 hK2 => ?_; (conv => whnf)
          refine cond_lk h (fun _ h => ?_) (fun _ h => ?_)
          · refine hK1 ?_; clear hK1 hK2 K1 K2
            refine HT_skip ?_
            refine Then_n ?_
            refine HT_seq ?_
            refine HT_block ?_
            refine HT_fr DC_ok rfl fun K hK => ?_; (conv => whnf)
            refine ix_lk h fun _ h => ?_; (conv => whnf)
            refine getK_of rfl ?_; (conv => whnf)
            refine hK _ _ _ ?_; clear hK K
            refine HT_fr DC_ok rfl fun K hK => ?_; (conv => whnf)
            refine nlA rfl ?_; (conv => whnf)
            refine blkK_of rfl ?_; (conv => whnf)
            refine nlA rfl ?_; (conv => whnf)
            refine And.intro (by decide) ?_; (conv => whnf)
            refine nlA rfl ?_; (conv => whnf)
            refine blkK_of rfl ?_; (conv => whnf)
            refine getK_of rfl ?_; (conv => whnf)
            refine And.intro (by decide) ?_; (conv => whnf)
            refine nlA rfl ?_; (conv => whnf)
            refine blkK_of rfl ?_; (conv => whnf)
            refine getK_of rfl ?_; (conv => whnf)
            replace h := W_bd h
            refine flow_CheckCut_call h28 h (WkL.refl _) (fun _ h => ?_); (conv => whnf)
            refine hK _ _ _ ?_; clear hK K
            refine HT_fr DC_ok rfl fun K hK => ?_; (conv => whnf)
            refine nlA rfl ?_; (conv => whnf)
            refine blkK_of rfl ?_; (conv => whnf)
            refine nlA rfl ?_; (conv => whnf)
            refine And.intro (by decide) ?_; (conv => whnf)
            refine nlA rfl ?_; (conv => whnf)
            refine blkK_of rfl ?_; (conv => whnf)
            refine getK_of rfl ?_; (conv => whnf)
            refine And.intro (by decide) ?_; (conv => whnf)
            refine nlA rfl ?_; (conv => whnf)
            refine blkK_of rfl ?_; (conv => whnf)
            refine getK_of rfl ?_; (conv => whnf)
            replace h := W_bd h
            refine ref27_CheckCut_call h29 h (WkL.refl _) (fun _ h => ?_); (conv => whnf)
            refine hK _ _ _ ?_; clear hK K
            refine HT_fr DC_ok rfl fun K hK => ?_; (conv => whnf)
            replace h := W_jn h
            refine cond_lk h (fun _ h => ?_) (fun _ h => ?_) <;> (conv => whnf)
            · refine hK _ _ _ ?_; clear hK K
              refine HT_if fun K1 K2 hK1 hK2 => ?_; (conv => whnf)
              refine hK1 ?_; clear hK1 hK2 K1 K2
              replace h := W_cnT h
              refine HT_fr DC_ok rfl fun K hK => ?_; (conv => whnf)
              refine hK _ _ _ ?_; clear hK K
              refine HT_ret ?_
              refine InBlock_r ?_
              refine Then_r ?_
              refine Then_r ?_
              refine InBlock_r ?_
              refine InBlock_r ?_
              refine Then_r ?_
              refine Then_r ?_
              refine InBlock_r ?_
              refine Then_r ?_
              refine InBlock_r ?_
              refine Then_r ?_
              refine Then_r ?_
              refine InBlock_r ?_
              refine Then_r ?_
              replace h := W_xrt h
              replace h := W_inr h
              replace h := W_xrt h
              replace h := W_inr h
              replace h := W_xrt h
              replace h := W_inr h
              replace h := W_some h
              refine PostP_r DC_ok fun K hK => ?_; (conv => whnf)
              refine hK _ ?_; clear hK K
              cases h
              exact Wk.refl _
            refine eqK_n (eqv_bool DC_ok rfl _ _) ?_; (conv => whnf)
            refine hK _ _ _ ?_; clear hK K
            refine HT_if fun K1 K2 hK1 hK2 => ?_; (conv => whnf)
            refine cond_lk h (fun _ h => ?_) (fun _ h => ?_)
            · refine hK1 ?_; clear hK1 hK2 K1 K2
              refine HT_fr DC_ok rfl fun K hK => ?_; (conv => whnf)
              refine hK _ _ _ ?_; clear hK K
              refine HT_ret ?_
              refine InBlock_r ?_
              refine Then_r ?_
              refine Then_r ?_
              refine InBlock_r ?_
              refine InBlock_r ?_
              refine Then_r ?_
              refine Then_r ?_
              refine InBlock_r ?_
              refine Then_r ?_
              refine InBlock_r ?_
              refine Then_r ?_
              refine Then_r ?_
              refine InBlock_r ?_
              refine Then_r ?_
              replace h := W_xrt h
              replace h := W_inr h
              replace h := W_xrt h
              replace h := W_inr h
              replace h := W_xrt h
              replace h := W_inr h
              replace h := W_some h
              refine PostP_r DC_ok fun K hK => ?_; (conv => whnf)
              refine hK _ ?_; clear hK K
              cases h
              exact Wk.refl _
            refine hK2 ?_; clear hK1 hK2 K1 K2
            refine HT_skip ?_
            refine InBlock_n ?_
            refine Then_n ?_
            refine HT_f DC_ok rfl fun K hK => ?_; (conv => whnf)
            refine hK _ _ _ ?_; clear hK K
            refine Then_n ?_
            replace h := W_xnx h
            refine ⟨_, h, ?_⟩
            refine weak_k ?_; (conv => whnf)
            exact And.intro rfl (And.intro (allL_c wkI (allL_c wkI (allL_c wkI (allL_c (wkr (loose_lst fun _ => (loose_int _ _))) (allL_c wkI (allL_c (WkR.ptr (fun _ => rfl)) (allL_c (WkR.ptr (fun _ => rfl)) (allL_c wkI (allL_c wkI (allL_c (WkR.ptr (fun _ => rfl)) (allL_c (WkR.ptr (fun _ => rfl)) (allL_c (wkr (loose_lstc fun _ => (lo_TNet _))) (allL_c wkI (allL_c wkI (allL_c (wkr (loose_lstc fun _ => (lo_A36 _))) (allL_c wkI (allL_c wkI (allL_c (wkr (loose_lstc fun _ => (loose_int _ _))) (allL_c wkI allL_n))))))))))))))))))) (allL_c ⟨some _, rfl, BkR_c rfl (CkR_cons wkI (CkR_cons wkI (CkR_cons wkI CkR_nil)))⟩ (allL_c ⟨some _, rfl, BkR_c rfl (CkR_cons wkI (CkR_cons (wkr (loose_lst fun _ => (lo_TEdge _))) CkR_nil))⟩ (allL_c ⟨some _, rfl, BkR_c rfl (CkR_cons wkI (CkR_cons (wkr (loose_lst fun _ => (lo_TEdge _))) CkR_nil))⟩ (allL_c ⟨some _, rfl, BkR_c rfl (CkR_cons wkI (CkR_cons wkI CkR_nil))⟩ allL_n)))))
          refine hK2 ?_; clear hK1 hK2 K1 K2
          refine HT_exit ?_
          refine Then_e ?_
          refine Then_e ?_
          refine InBlock_e ?_
          replace h := W_xbk h
          replace h := W_inl h
          refine InBlock_n ?_
          refine Then_n ?_
          refine HT_f DC_ok rfl fun K hK => ?_; (conv => whnf)
          refine hK _ _ _ ?_; clear hK K
          refine Then_n ?_
          replace h := W_xnx h
          refine ⟨_, h, ?_⟩
          refine weak_k ?_; (conv => whnf)
          exact And.intro rfl (And.intro (allL_c wkI (allL_c wkI (allL_c wkI (allL_c (wkr (loose_lst fun _ => (loose_int _ _))) (allL_c wkI (allL_c (WkR.ptr (fun _ => rfl)) (allL_c (WkR.ptr (fun _ => rfl)) (allL_c wkI (allL_c wkI (allL_c (WkR.ptr (fun _ => rfl)) (allL_c (wkr (loose_lstc fun _ => (lo_TNet _))) (allL_c wkI (allL_c wkI (allL_c (wkr (loose_lstc fun _ => (lo_A36 _))) (allL_c wkI allL_n))))))))))))))) (allL_c ⟨some _, rfl, BkR_c rfl (CkR_cons wkI (CkR_cons wkI (CkR_cons wkI CkR_nil)))⟩ (allL_c ⟨some _, rfl, BkR_c rfl (CkR_cons wkI (CkR_cons (wkr (loose_lst fun _ => (lo_TEdge _))) CkR_nil))⟩ (allL_c ⟨some _, rfl, BkR_c rfl (CkR_cons wkI (CkR_cons (wkr (loose_lst fun _ => (lo_TEdge _))) CkR_nil))⟩ allL_n))))
        refine hK2 ?_; clear hK1 hK2 K1 K2
        refine HT_skip ?_
        refine Then_n ?_
        refine HT_seq ?_
        refine HT_fd DC_ok mix_ok rfl (by kernel_rfl) fun K hK => ?_; (conv => whnf)
        refine And.intro (by decide) ?_; (conv => whnf)
        refine nlA rfl ?_; (conv => whnf)
        refine blkK_of rfl ?_; (conv => whnf)
        refine getK_of rfl ?_; (conv => whnf)
        refine And.intro (by decide) ?_; (conv => whnf)
        refine nlA rfl ?_; (conv => whnf)
        refine blkK_of rfl ?_; (conv => whnf)
        refine getK_of rfl ?_; (conv => whnf)
        refine And.intro (by decide) ?_; (conv => whnf)
        refine nlA rfl ?_; (conv => whnf)
        refine blkK_of rfl ?_; (conv => whnf)
        refine getK_of rfl ?_; (conv => whnf)
        replace h := W_bd h
        refine ref27_BentList_call h25 h (WkL.refl _) (fun _ h => ?_); (conv => whnf)
        refine sl_lk h (.inl ⟨rfl, rfl⟩) (.inr ⟨_, rfl⟩) (fun h => ?_); (conv => whnf)
        refine lt_lk (enc := (eL 1 eI default)) (d := default) DC_ok h rfl rfl rfl ⟨nle rfl, nle rfl, rfl⟩ rfl ⟨⟨rfl, rfl, rfl⟩, ⟨⟨rfl, rfl, rfl⟩, ⟨⟨rfl, rfl, rfl⟩, trivial⟩⟩⟩ (fun h => ?_); (conv => whnf)
        refine hK _ _ _ ?_; clear hK K
        refine HT_block ?_
        replace h := W_bd h
        refine HT_lpK (body := law27_FlowMatchesReference_b3 _ _ _) rfl h [4, 5, 6, 7, 10, 17, 18, 19, 21, 23, 72, 73, 74, 89, 90, 91, 178, 179] [10, 17, 21, 23] [] (fun kl kh ids b s => ⟨ofL ([(180, eI s)] ++ kl), ofH ([] ++ kh), b + 64⟩) ?_; (conv => whnf); refine And.intro ?_ (fun s m h => HT_st ?_)
        · refine weak_k ?_; (conv => whnf)
          exact And.intro rfl (And.intro (allL_c wkI (allL_c wkI (allL_c wkI (allL_c (wkr (loose_lst fun _ => (loose_int _ _))) (allL_c wkI (allL_c (WkR.ptr (fun _ => rfl)) (allL_c (WkR.ptr (fun _ => rfl)) (allL_c wkI (allL_c wkI (allL_c (WkR.ptr (fun _ => rfl)) (allL_c (WkR.ptr (fun _ => rfl)) (allL_c (wkr (loose_lstc fun _ => (lo_TNet _))) (allL_c wkI (allL_c wkI (allL_c (wkr (loose_lstc fun _ => (lo_A36 _))) (allL_c wkI (allL_c wkI (allL_c (wkr (loose_lstc fun _ => (loose_lst fun _ => (loose_int _ _)))) (allL_c wkI allL_n))))))))))))))))))) (allL_c ⟨some _, rfl, BkR_c rfl (CkR_cons wkI (CkR_cons wkI (CkR_cons wkI CkR_nil)))⟩ (allL_c ⟨some _, rfl, BkR_c rfl (CkR_cons wkI (CkR_cons (wkr (loose_lst fun _ => (lo_TEdge _))) CkR_nil))⟩ (allL_c ⟨some _, rfl, BkR_c rfl (CkR_cons wkI (CkR_cons (wkr (loose_lst fun _ => (lo_TEdge _))) CkR_nil))⟩ (allL_c ⟨some _, rfl, BkR_c rfl (CkR_cons wkI (CkR_cons wkI CkR_nil))⟩ allL_n)))))
        replace h := W_blaw27_FlowMatchesReference_b3 (W_bd h)
        refine HT_fr DC_ok rfl fun K hK => ?_; (conv => whnf)
        refine hK _ _ _ ?_; clear hK K
        refine HT_seq ?_
        refine HT_if fun K1 K2 hK1 hK2 => ?_; (conv => whnf)
        refine cond_lk h (fun _ h => ?_) (fun _ h => ?_)
        · refine hK1 ?_; clear hK1 hK2 K1 K2
          refine HT_skip ?_
          refine Then_n ?_
          refine HT_seq ?_
          refine HT_block ?_
          refine HT_fr DC_ok rfl fun K hK => ?_; (conv => whnf)
          refine ix_lk h fun _ h => ?_; (conv => whnf)
          refine getK_of rfl ?_; (conv => whnf)
          refine hK _ _ _ ?_; clear hK K
          refine HT_fr DC_ok rfl fun K hK => ?_; (conv => whnf)
          refine nlA rfl ?_; (conv => whnf)
          refine blkK_of rfl ?_; (conv => whnf)
          refine nlA rfl ?_; (conv => whnf)
          refine And.intro (by decide) ?_; (conv => whnf)
          refine nlA rfl ?_; (conv => whnf)
          refine blkK_of rfl ?_; (conv => whnf)
          refine getK_of rfl ?_; (conv => whnf)
          refine And.intro (by decide) ?_; (conv => whnf)
          refine nlA rfl ?_; (conv => whnf)
          refine blkK_of rfl ?_; (conv => whnf)
          refine getK_of rfl ?_; (conv => whnf)
          replace h := W_bd h
          refine flow_CheckFlow_call h26 h (WkL.refl _) (fun _ h => ?_); (conv => whnf)
          refine hK _ _ _ ?_; clear hK K
          refine HT_fr DC_ok rfl fun K hK => ?_; (conv => whnf)
          refine nlA rfl ?_; (conv => whnf)
          refine blkK_of rfl ?_; (conv => whnf)
          refine nlA rfl ?_; (conv => whnf)
          refine And.intro (by decide) ?_; (conv => whnf)
          refine nlA rfl ?_; (conv => whnf)
          refine blkK_of rfl ?_; (conv => whnf)
          refine getK_of rfl ?_; (conv => whnf)
          refine And.intro (by decide) ?_; (conv => whnf)
          refine nlA rfl ?_; (conv => whnf)
          refine blkK_of rfl ?_; (conv => whnf)
          refine getK_of rfl ?_; (conv => whnf)
          replace h := W_bd h
          refine ref27_CheckFlow_call h23 h (WkL.refl _) (fun _ h => ?_); (conv => whnf)
          refine hK _ _ _ ?_; clear hK K
          refine HT_fr DC_ok rfl fun K hK => ?_; (conv => whnf)
          replace h := W_jn h
          refine cond_lk h (fun _ h => ?_) (fun _ h => ?_) <;> (conv => whnf)
          · refine hK _ _ _ ?_; clear hK K
            refine HT_if fun K1 K2 hK1 hK2 => ?_; (conv => whnf)
            refine hK1 ?_; clear hK1 hK2 K1 K2
            replace h := W_cnT h
            refine HT_fr DC_ok rfl fun K hK => ?_; (conv => whnf)
            refine hK _ _ _ ?_; clear hK K
            refine HT_ret ?_
            refine InBlock_r ?_
            refine Then_r ?_
            refine Then_r ?_
            refine InBlock_r ?_
            refine Then_r ?_
            refine InBlock_r ?_
            refine Then_r ?_
            refine Then_r ?_
            refine InBlock_r ?_
            refine Then_r ?_
            refine InBlock_r ?_
            refine Then_r ?_
            refine Then_r ?_
            refine InBlock_r ?_
            refine Then_r ?_
            replace h := W_xrt h
            replace h := W_inr h
            replace h := W_xrt h
            replace h := W_inr h
            replace h := W_xrt h
            replace h := W_inr h
            replace h := W_some h
            refine PostP_r DC_ok fun K hK => ?_; (conv => whnf)
            refine hK _ ?_; clear hK K
            cases h
            exact Wk.refl _
          refine eqK_n (eqv_bool DC_ok rfl _ _) ?_; (conv => whnf)
          refine hK _ _ _ ?_; clear hK K
          refine HT_if fun K1 K2 hK1 hK2 => ?_; (conv => whnf)
          refine cond_lk h (fun _ h => ?_) (fun _ h => ?_)
          · refine hK1 ?_; clear hK1 hK2 K1 K2
            refine HT_fr DC_ok rfl fun K hK => ?_; (conv => whnf)
            refine hK _ _ _ ?_; clear hK K
            refine HT_ret ?_
            refine InBlock_r ?_
            refine Then_r ?_
            refine Then_r ?_
            refine InBlock_r ?_
            refine Then_r ?_
            refine InBlock_r ?_
            refine Then_r ?_
            refine Then_r ?_
            refine InBlock_r ?_
            refine Then_r ?_
            refine InBlock_r ?_
            refine Then_r ?_
            refine Then_r ?_
            refine InBlock_r ?_
            refine Then_r ?_
            replace h := W_xrt h
            replace h := W_inr h
            replace h := W_xrt h
            replace h := W_inr h
            replace h := W_xrt h
            replace h := W_inr h
            replace h := W_some h
            refine PostP_r DC_ok fun K hK => ?_; (conv => whnf)
            refine hK _ ?_; clear hK K
            cases h
            exact Wk.refl _
          refine hK2 ?_; clear hK1 hK2 K1 K2
          refine HT_skip ?_
          refine InBlock_n ?_
          refine Then_n ?_
          refine HT_f DC_ok rfl fun K hK => ?_; (conv => whnf)
          refine hK _ _ _ ?_; clear hK K
          refine Then_n ?_
          replace h := W_xnx h
          refine ⟨_, h, ?_⟩
          refine weak_k ?_; (conv => whnf)
          exact And.intro rfl (And.intro (allL_c wkI (allL_c wkI (allL_c wkI (allL_c (wkr (loose_lst fun _ => (loose_int _ _))) (allL_c wkI (allL_c (WkR.ptr (fun _ => rfl)) (allL_c (WkR.ptr (fun _ => rfl)) (allL_c wkI (allL_c wkI (allL_c (WkR.ptr (fun _ => rfl)) (allL_c (WkR.ptr (fun _ => rfl)) (allL_c (wkr (loose_lstc fun _ => (lo_TNet _))) (allL_c wkI (allL_c wkI (allL_c (wkr (loose_lstc fun _ => (lo_A36 _))) (allL_c wkI (allL_c wkI (allL_c (wkr (loose_lstc fun _ => (loose_lst fun _ => (loose_int _ _)))) (allL_c wkI allL_n))))))))))))))))))) (allL_c ⟨some _, rfl, BkR_c rfl (CkR_cons wkI (CkR_cons wkI (CkR_cons wkI CkR_nil)))⟩ (allL_c ⟨some _, rfl, BkR_c rfl (CkR_cons wkI (CkR_cons (wkr (loose_lst fun _ => (lo_TEdge _))) CkR_nil))⟩ (allL_c ⟨some _, rfl, BkR_c rfl (CkR_cons wkI (CkR_cons (wkr (loose_lst fun _ => (lo_TEdge _))) CkR_nil))⟩ (allL_c ⟨some _, rfl, BkR_c rfl (CkR_cons wkI (CkR_cons wkI CkR_nil))⟩ allL_n)))))
        refine hK2 ?_; clear hK1 hK2 K1 K2
        refine HT_exit ?_
        refine Then_e ?_
        refine Then_e ?_
        refine InBlock_e ?_
        replace h := W_xbk h
        replace h := W_inl h
        refine Then_n ?_
        refine HT_fr DC_ok rfl fun K hK => ?_; (conv => whnf)
        refine nlA rfl ?_; (conv => whnf)
        refine blkK_of rfl ?_; (conv => whnf)
        refine getK_of rfl ?_; (conv => whnf)
        refine gd_lk h fun _ h => ?_; (conv => whnf)
        replace h := W_bd h
        refine law27_pick_call h27 h (WkL.refl _) (fun _ h => ?_); (conv => whnf)
        refine lt_lk (enc := eI) (d := default) DC_ok h rfl rfl rfl ⟨nle rfl, nle rfl, rfl⟩ rfl ⟨⟨rfl, rfl, rfl⟩, ⟨⟨rfl, rfl, rfl⟩, trivial⟩⟩ (fun h => ?_); (conv => whnf)
        refine hK _ _ _ ?_; clear hK K
        refine HT_block ?_
        replace h := W_bd h
        refine HT_lpK (body := law27_FlowMatchesReference_b4 _ _ _) rfl h [4, 5, 6, 7, 10, 17, 18, 19, 21, 23, 72, 73, 74, 89, 90, 91, 219, 220] [10, 17, 21, 23] [] (fun kl kh ids b s => ⟨ofL ([(221, eI s)] ++ kl), ofH ([] ++ kh), b + 64⟩) ?_; (conv => whnf); refine And.intro ?_ (fun s m h => HT_st ?_)
        · refine weak_k ?_; (conv => whnf)
          exact And.intro rfl (And.intro (allL_c wkI (allL_c wkI (allL_c wkI (allL_c (wkr (loose_lst fun _ => (loose_int _ _))) (allL_c wkI (allL_c (WkR.ptr (fun _ => rfl)) (allL_c (WkR.ptr (fun _ => rfl)) (allL_c wkI (allL_c wkI (allL_c (WkR.ptr (fun _ => rfl)) (allL_c (WkR.ptr (fun _ => rfl)) (allL_c (wkr (loose_lstc fun _ => (lo_TNet _))) (allL_c wkI (allL_c wkI (allL_c (wkr (loose_lstc fun _ => (lo_A36 _))) (allL_c wkI (allL_c wkI (allL_c (wkr (loose_lstc fun _ => (loose_int _ _))) (allL_c wkI allL_n))))))))))))))))))) (allL_c ⟨some _, rfl, BkR_c rfl (CkR_cons wkI (CkR_cons wkI (CkR_cons wkI CkR_nil)))⟩ (allL_c ⟨some _, rfl, BkR_c rfl (CkR_cons wkI (CkR_cons (wkr (loose_lst fun _ => (lo_TEdge _))) CkR_nil))⟩ (allL_c ⟨some _, rfl, BkR_c rfl (CkR_cons wkI (CkR_cons (wkr (loose_lst fun _ => (lo_TEdge _))) CkR_nil))⟩ (allL_c ⟨some _, rfl, BkR_c rfl (CkR_cons wkI (CkR_cons wkI CkR_nil))⟩ allL_n)))))
        replace h := W_blaw27_FlowMatchesReference_b4 (W_bd h)
        refine HT_fr DC_ok rfl fun K hK => ?_; (conv => whnf)
        refine hK _ _ _ ?_; clear hK K
        refine HT_seq ?_
        refine HT_if fun K1 K2 hK1 hK2 => ?_; (conv => whnf)
        refine cond_lk h (fun _ h => ?_) (fun _ h => ?_)
        · refine hK1 ?_; clear hK1 hK2 K1 K2
          refine HT_skip ?_
          refine Then_n ?_
          refine HT_seq ?_
          refine HT_block ?_
          refine HT_fr DC_ok rfl fun K hK => ?_; (conv => whnf)
          refine ix_lk h fun _ h => ?_; (conv => whnf)
          refine getK_of rfl ?_; (conv => whnf)
          refine hK _ _ _ ?_; clear hK K
          refine HT_fr DC_ok rfl fun K hK => ?_; (conv => whnf)
          refine nlA rfl ?_; (conv => whnf)
          refine blkK_of rfl ?_; (conv => whnf)
          refine nlA rfl ?_; (conv => whnf)
          refine And.intro (by decide) ?_; (conv => whnf)
          refine nlA rfl ?_; (conv => whnf)
          refine blkK_of rfl ?_; (conv => whnf)
          refine getK_of rfl ?_; (conv => whnf)
          refine And.intro (by decide) ?_; (conv => whnf)
          refine nlA rfl ?_; (conv => whnf)
          refine blkK_of rfl ?_; (conv => whnf)
          refine getK_of rfl ?_; (conv => whnf)
          replace h := W_bd h
          refine flow_CheckCut_call h28 h (WkL.refl _) (fun _ h => ?_); (conv => whnf)
          refine hK _ _ _ ?_; clear hK K
          refine HT_fr DC_ok rfl fun K hK => ?_; (conv => whnf)
          refine nlA rfl ?_; (conv => whnf)
          refine blkK_of rfl ?_; (conv => whnf)
          refine nlA rfl ?_; (conv => whnf)
          refine And.intro (by decide) ?_; (conv => whnf)
          refine nlA rfl ?_; (conv => whnf)
          refine blkK_of rfl ?_; (conv => whnf)
          refine getK_of rfl ?_; (conv => whnf)
          refine And.intro (by decide) ?_; (conv => whnf)
          refine nlA rfl ?_; (conv => whnf)
          refine blkK_of rfl ?_; (conv => whnf)
          refine getK_of rfl ?_; (conv => whnf)
          replace h := W_bd h
          refine ref27_CheckCut_call h29 h (WkL.refl _) (fun _ h => ?_); (conv => whnf)
          refine hK _ _ _ ?_; clear hK K
          refine HT_fr DC_ok rfl fun K hK => ?_; (conv => whnf)
          replace h := W_jn h
          refine cond_lk h (fun _ h => ?_) (fun _ h => ?_) <;> (conv => whnf)
          · refine hK _ _ _ ?_; clear hK K
            refine HT_if fun K1 K2 hK1 hK2 => ?_; (conv => whnf)
            refine hK1 ?_; clear hK1 hK2 K1 K2
            replace h := W_cnT h
            refine HT_fr DC_ok rfl fun K hK => ?_; (conv => whnf)
            refine hK _ _ _ ?_; clear hK K
            refine HT_ret ?_
            refine InBlock_r ?_
            refine Then_r ?_
            refine Then_r ?_
            refine InBlock_r ?_
            refine InBlock_r ?_
            refine Then_r ?_
            refine Then_r ?_
            refine InBlock_r ?_
            refine Then_r ?_
            refine InBlock_r ?_
            refine Then_r ?_
            refine Then_r ?_
            refine InBlock_r ?_
            refine Then_r ?_
            replace h := W_xrt h
            replace h := W_inr h
            replace h := W_xrt h
            replace h := W_inr h
            replace h := W_xrt h
            replace h := W_inr h
            replace h := W_some h
            refine PostP_r DC_ok fun K hK => ?_; (conv => whnf)
            refine hK _ ?_; clear hK K
            cases h
            exact Wk.refl _
          refine eqK_n (eqv_bool DC_ok rfl _ _) ?_; (conv => whnf)
          refine hK _ _ _ ?_; clear hK K
          refine HT_if fun K1 K2 hK1 hK2 => ?_; (conv => whnf)
          refine cond_lk h (fun _ h => ?_) (fun _ h => ?_)
          · refine hK1 ?_; clear hK1 hK2 K1 K2
            refine HT_fr DC_ok rfl fun K hK => ?_; (conv => whnf)
            refine hK _ _ _ ?_; clear hK K
            refine HT_ret ?_
            refine InBlock_r ?_
            refine Then_r ?_
            refine Then_r ?_
            refine InBlock_r ?_
            refine InBlock_r ?_
            refine Then_r ?_
            refine Then_r ?_
            refine InBlock_r ?_
            refine Then_r ?_
            refine InBlock_r ?_
            refine Then_r ?_
            refine Then_r ?_
            refine InBlock_r ?_
            refine Then_r ?_
            replace h := W_xrt h
            replace h := W_inr h
            replace h := W_xrt h
            replace h := W_inr h
            replace h := W_xrt h
            replace h := W_inr h
            replace h := W_some h
            refine PostP_r DC_ok fun K hK => ?_; (conv => whnf)
            refine hK _ ?_; clear hK K
            cases h
            exact Wk.refl _
          refine hK2 ?_; clear hK1 hK2 K1 K2
          refine HT_skip ?_
          refine InBlock_n ?_
          refine Then_n ?_
          refine HT_f DC_ok rfl fun K hK => ?_; (conv => whnf)
          refine hK _ _ _ ?_; clear hK K
          refine Then_n ?_
          replace h := W_xnx h
          refine ⟨_, h, ?_⟩
          refine weak_k ?_; (conv => whnf)
          exact And.intro rfl (And.intro (allL_c wkI (allL_c wkI (allL_c wkI (allL_c (wkr (loose_lst fun _ => (loose_int _ _))) (allL_c wkI (allL_c (WkR.ptr (fun _ => rfl)) (allL_c (WkR.ptr (fun _ => rfl)) (allL_c wkI (allL_c wkI (allL_c (WkR.ptr (fun _ => rfl)) (allL_c (WkR.ptr (fun _ => rfl)) (allL_c (wkr (loose_lstc fun _ => (lo_TNet _))) (allL_c wkI (allL_c wkI (allL_c (wkr (loose_lstc fun _ => (lo_A36 _))) (allL_c wkI (allL_c wkI (allL_c (wkr (loose_lstc fun _ => (loose_int _ _))) (allL_c wkI allL_n))))))))))))))))))) (allL_c ⟨some _, rfl, BkR_c rfl (CkR_cons wkI (CkR_cons wkI (CkR_cons wkI CkR_nil)))⟩ (allL_c ⟨some _, rfl, BkR_c rfl (CkR_cons wkI (CkR_cons (wkr (loose_lst fun _ => (lo_TEdge _))) CkR_nil))⟩ (allL_c ⟨some _, rfl, BkR_c rfl (CkR_cons wkI (CkR_cons (wkr (loose_lst fun _ => (lo_TEdge _))) CkR_nil))⟩ (allL_c ⟨some _, rfl, BkR_c rfl (CkR_cons wkI (CkR_cons wkI CkR_nil))⟩ allL_n)))))
        refine hK2 ?_; clear hK1 hK2 K1 K2
        refine HT_exit ?_
        refine Then_e ?_
        refine Then_e ?_
        refine InBlock_e ?_
        replace h := W_xbk h
        replace h := W_inl h
        refine InBlock_n ?_
        refine Then_n ?_
        refine HT_f DC_ok rfl fun K hK => ?_; (conv => whnf)
        refine hK _ _ _ ?_; clear hK K
        refine Then_n ?_
        replace h := W_xnx h
        refine ⟨_, h, ?_⟩
        refine weak_k ?_; (conv => whnf)
        exact And.intro rfl (And.intro (allL_c wkI (allL_c wkI (allL_c wkI (allL_c (wkr (loose_lst fun _ => (loose_int _ _))) (allL_c wkI (allL_c (WkR.ptr (fun _ => rfl)) (allL_c (WkR.ptr (fun _ => rfl)) (allL_c wkI (allL_c wkI (allL_c (WkR.ptr (fun _ => rfl)) (allL_c (wkr (loose_lstc fun _ => (lo_TNet _))) (allL_c wkI (allL_c wkI (allL_c (wkr (loose_lstc fun _ => (lo_A36 _))) (allL_c wkI allL_n))))))))))))))) (allL_c ⟨some _, rfl, BkR_c rfl (CkR_cons wkI (CkR_cons wkI (CkR_cons wkI CkR_nil)))⟩ (allL_c ⟨some _, rfl, BkR_c rfl (CkR_cons wkI (CkR_cons (wkr (loose_lst fun _ => (lo_TEdge _))) CkR_nil))⟩ (allL_c ⟨some _, rfl, BkR_c rfl (CkR_cons wkI (CkR_cons (wkr (loose_lst fun _ => (lo_TEdge _))) CkR_nil))⟩ allL_n))))
      refine HT_f DC_ok rfl fun K hK => ?_; (conv => whnf)
      refine nlA rfl ?_; (conv => whnf)
      refine blkK_of rfl ?_; (conv => whnf)
      refine nlA rfl ?_; (conv => whnf)
      refine And.intro (by decide) ?_; (conv => whnf)
      refine nlA rfl ?_; (conv => whnf)
      refine blkK_of rfl ?_; (conv => whnf)
      refine getK_of rfl ?_; (conv => whnf)
      refine And.intro (by decide) ?_; (conv => whnf)
      refine nlA rfl ?_; (conv => whnf)
      refine blkK_of rfl ?_; (conv => whnf)
      refine getK_of rfl ?_; (conv => whnf)
      replace h := W_bd h
      refine ref27_Ends_call h22 h (WkL.refl _) (fun _ h => ?_); (conv => whnf)
      refine eqK_n (eqv_bool DC_ok rfl _ _) ?_; (conv => whnf)
      refine cond_lk h (fun _ h => ?_) (fun _ h => ?_) <;> (conv => whnf)
      · refine hK _ _ _ ?_; clear hK K
        refine Then_n ?_
        refine ⟨_, h, ?_⟩
        refine weak_k ?_; (conv => whnf)
        exact And.intro rfl (And.intro (allL_c (wkr (loose_bool _)) (allL_c wkI (allL_c wkI (allL_c (wkr (loose_lst fun _ => (loose_int _ _))) (allL_c wkI (allL_c (WkR.ptr (fun _ => rfl)) (allL_c (WkR.ptr (fun _ => rfl)) (allL_c wkI (allL_c wkI (allL_c (WkR.ptr (fun _ => rfl)) (allL_c (WkR.ptr (fun _ => rfl)) (allL_c (wkr (loose_lst fun _ => (loose_int _ _))) (allL_c wkI (allL_c wkI (allL_c (wkr (loose_lstc fun _ => (lo_TNet _))) (allL_c wkI (allL_c wkI (allL_c (wkr (loose_lstc fun _ => (lo_A36 _))) (allL_c wkI (allL_c wkI allL_n)))))))))))))))))))) (allL_c ⟨some _, rfl, BkR_c rfl (CkR_cons wkI (CkR_cons wkI (CkR_cons wkI CkR_nil)))⟩ (allL_c ⟨some _, rfl, BkR_c rfl (CkR_cons wkI (CkR_cons (wkr (loose_lst fun _ => (lo_TEdge _))) CkR_nil))⟩ (allL_c ⟨some _, rfl, BkR_c rfl (CkR_cons wkI (CkR_cons (wkr (loose_lst fun _ => (lo_TEdge _))) CkR_nil))⟩ (allL_c ⟨some _, rfl, BkR_c rfl (CkR_cons wkI (CkR_cons wkI CkR_nil))⟩ allL_n)))))
      refine cond_lk h (fun _ h => ?_) (fun _ h => ?_) <;> (conv => whnf)
      · refine cond_lk h (fun _ h => ?_) (fun _ h => ?_) <;> (conv => whnf)
        · refine hK _ _ _ ?_; clear hK K
          refine Then_n ?_
          refine ⟨_, h, ?_⟩
          refine weak_k ?_; (conv => whnf)
          exact And.intro rfl (And.intro (allL_c (wkr (loose_bool _)) (allL_c wkI (allL_c wkI (allL_c (wkr (loose_lst fun _ => (loose_int _ _))) (allL_c wkI (allL_c (WkR.ptr (fun _ => rfl)) (allL_c (WkR.ptr (fun _ => rfl)) (allL_c wkI (allL_c wkI (allL_c (WkR.ptr (fun _ => rfl)) (allL_c (WkR.ptr (fun _ => rfl)) (allL_c (wkr (loose_lst fun _ => (loose_int _ _))) (allL_c wkI (allL_c wkI (allL_c (wkr (loose_lstc fun _ => (lo_TNet _))) (allL_c wkI (allL_c wkI (allL_c (wkr (loose_lstc fun _ => (lo_A36 _))) (allL_c wkI (allL_c wkI allL_n)))))))))))))))))))) (allL_c ⟨some _, rfl, BkR_c rfl (CkR_cons wkI (CkR_cons wkI (CkR_cons wkI CkR_nil)))⟩ (allL_c ⟨some _, rfl, BkR_c rfl (CkR_cons wkI (CkR_cons (wkr (loose_lst fun _ => (lo_TEdge _))) CkR_nil))⟩ (allL_c ⟨some _, rfl, BkR_c rfl (CkR_cons wkI (CkR_cons (wkr (loose_lst fun _ => (lo_TEdge _))) CkR_nil))⟩ (allL_c ⟨some _, rfl, BkR_c rfl (CkR_cons wkI (CkR_cons wkI CkR_nil))⟩ allL_n)))))
        refine cond_lk h (fun _ h => ?_) (fun _ h => ?_) <;> (conv => whnf)
        · refine hK _ _ _ ?_; clear hK K
          refine Then_n ?_
          refine ⟨_, h, ?_⟩
          refine weak_k ?_; (conv => whnf)
          exact And.intro rfl (And.intro (allL_c (wkr (loose_bool _)) (allL_c wkI (allL_c wkI (allL_c (wkr (loose_lst fun _ => (loose_int _ _))) (allL_c wkI (allL_c (WkR.ptr (fun _ => rfl)) (allL_c (WkR.ptr (fun _ => rfl)) (allL_c wkI (allL_c wkI (allL_c (WkR.ptr (fun _ => rfl)) (allL_c (WkR.ptr (fun _ => rfl)) (allL_c (wkr (loose_lst fun _ => (loose_int _ _))) (allL_c wkI (allL_c wkI (allL_c (wkr (loose_lstc fun _ => (lo_TNet _))) (allL_c wkI (allL_c wkI (allL_c (wkr (loose_lstc fun _ => (lo_A36 _))) (allL_c wkI (allL_c wkI allL_n)))))))))))))))))))) (allL_c ⟨some _, rfl, BkR_c rfl (CkR_cons wkI (CkR_cons wkI (CkR_cons wkI CkR_nil)))⟩ (allL_c ⟨some _, rfl, BkR_c rfl (CkR_cons wkI (CkR_cons (wkr (loose_lst fun _ => (lo_TEdge _))) CkR_nil))⟩ (allL_c ⟨some _, rfl, BkR_c rfl (CkR_cons wkI (CkR_cons (wkr (loose_lst fun _ => (lo_TEdge _))) CkR_nil))⟩ (allL_c ⟨some _, rfl, BkR_c rfl (CkR_cons wkI (CkR_cons wkI CkR_nil))⟩ allL_n)))))
        refine hK _ _ _ ?_; clear hK K
        refine Then_n ?_
        refine ⟨_, h, ?_⟩
        refine weak_k ?_; (conv => whnf)
        exact And.intro rfl (And.intro (allL_c (wkr (loose_bool _)) (allL_c wkI (allL_c wkI (allL_c (wkr (loose_lst fun _ => (loose_int _ _))) (allL_c wkI (allL_c (WkR.ptr (fun _ => rfl)) (allL_c (WkR.ptr (fun _ => rfl)) (allL_c wkI (allL_c wkI (allL_c (WkR.ptr (fun _ => rfl)) (allL_c (WkR.ptr (fun _ => rfl)) (allL_c (wkr (loose_lst fun _ => (loose_int _ _))) (allL_c wkI (allL_c wkI (allL_c (wkr (loose_lstc fun _ => (lo_TNet _))) (allL_c wkI (allL_c wkI (allL_c (wkr (loose_lstc fun _ => (lo_A36 _))) (allL_c wkI (allL_c wkI allL_n)))))))))))))))))))) (allL_c ⟨some _, rfl, BkR_c rfl (CkR_cons wkI (CkR_cons wkI (CkR_cons wkI CkR_nil)))⟩ (allL_c ⟨some _, rfl, BkR_c rfl (CkR_cons wkI (CkR_cons (wkr (loose_lst fun _ => (lo_TEdge _))) CkR_nil))⟩ (allL_c ⟨some _, rfl, BkR_c rfl (CkR_cons wkI (CkR_cons (wkr (loose_lst fun _ => (lo_TEdge _))) CkR_nil))⟩ (allL_c ⟨some _, rfl, BkR_c rfl (CkR_cons wkI (CkR_cons wkI CkR_nil))⟩ allL_n)))))
      refine hK _ _ _ ?_; clear hK K
      refine Then_n ?_
      refine ⟨_, h, ?_⟩
      refine weak_k ?_; (conv => whnf)
      exact And.intro rfl (And.intro (allL_c (wkr (loose_bool _)) (allL_c wkI (allL_c wkI (allL_c (wkr (loose_lst fun _ => (loose_int _ _))) (allL_c wkI (allL_c (WkR.ptr (fun _ => rfl)) (allL_c (WkR.ptr (fun _ => rfl)) (allL_c wkI (allL_c wkI (allL_c (WkR.ptr (fun _ => rfl)) (allL_c (WkR.ptr (fun _ => rfl)) (allL_c (wkr (loose_lst fun _ => (loose_int _ _))) (allL_c wkI (allL_c wkI (allL_c (wkr (loose_lstc fun _ => (lo_TNet _))) (allL_c wkI (allL_c wkI (allL_c (wkr (loose_lstc fun _ => (lo_A36 _))) (allL_c wkI (allL_c wkI allL_n)))))))))))))))))))) (allL_c ⟨some _, rfl, BkR_c rfl (CkR_cons wkI (CkR_cons wkI (CkR_cons wkI CkR_nil)))⟩ (allL_c ⟨some _, rfl, BkR_c rfl (CkR_cons wkI (CkR_cons (wkr (loose_lst fun _ => (lo_TEdge _))) CkR_nil))⟩ (allL_c ⟨some _, rfl, BkR_c rfl (CkR_cons wkI (CkR_cons (wkr (loose_lst fun _ => (lo_TEdge _))) CkR_nil))⟩ (allL_c ⟨some _, rfl, BkR_c rfl (CkR_cons wkI (CkR_cons wkI CkR_nil))⟩ allL_n)))))
    refine hK2 ?_; clear hK1 hK2 K1 K2
    refine HT_exit ?_
    refine Then_e ?_
    refine Then_e ?_
    refine InBlock_e ?_
    replace h := W_xbk h
    replace h := W_inl h
    refine Then_n ?_
    refine HT_fr DC_ok rfl fun K hK => ?_; (conv => whnf)
    refine nlA rfl ?_; (conv => whnf)
    refine blkK_of rfl ?_; (conv => whnf)
    refine getK_of rfl ?_; (conv => whnf)
    refine gd_lk h fun _ h => ?_; (conv => whnf)
    replace h := W_bd h
    refine law27_pick_call h27 h (WkL.refl _) (fun _ h => ?_); (conv => whnf)
    refine lt_lk (enc := eI) (d := default) DC_ok h rfl rfl rfl ⟨nle rfl, nle rfl, rfl⟩ rfl ⟨⟨rfl, rfl, rfl⟩, ⟨⟨rfl, rfl, rfl⟩, trivial⟩⟩ (fun h => ?_); (conv => whnf)
    refine hK _ _ _ ?_; clear hK K
    refine HT_block ?_
    replace h := W_bd h
    refine HT_lpK (body := law27_FlowMatchesReference_b5 _ _) rfl h [4, 5, 6, 7, 10, 17, 18, 19, 21, 72, 73, 74, 262, 263] [10, 17, 21] [] (fun kl kh ids b s => ⟨ofL ([(264, eI s)] ++ kl), ofH ([] ++ kh), b + 64⟩) ?_; (conv => whnf); refine And.intro ?_ (fun s m h => HT_st ?_)
    · refine weak_k ?_; (conv => whnf)
      exact And.intro rfl (And.intro (allL_c wkI (allL_c wkI (allL_c wkI (allL_c (wkr (loose_lst fun _ => (loose_int _ _))) (allL_c wkI (allL_c (WkR.ptr (fun _ => rfl)) (allL_c (WkR.ptr (fun _ => rfl)) (allL_c wkI (allL_c wkI (allL_c (WkR.ptr (fun _ => rfl)) (allL_c (wkr (loose_lstc fun _ => (lo_TNet _))) (allL_c wkI (allL_c wkI (allL_c (wkr (loose_lstc fun _ => (loose_int _ _))) (allL_c wkI allL_n))))))))))))))) (allL_c ⟨some _, rfl, BkR_c rfl (CkR_cons wkI (CkR_cons wkI (CkR_cons wkI CkR_nil)))⟩ (allL_c ⟨some _, rfl, BkR_c rfl (CkR_cons wkI (CkR_cons (wkr (loose_lst fun _ => (lo_TEdge _))) CkR_nil))⟩ (allL_c ⟨some _, rfl, BkR_c rfl (CkR_cons wkI (CkR_cons (wkr (loose_lst fun _ => (lo_TEdge _))) CkR_nil))⟩ allL_n))))
    replace h := W_blaw27_FlowMatchesReference_b5 (W_bd h)
    refine HT_fr DC_ok rfl fun K hK => ?_; (conv => whnf)
    refine hK _ _ _ ?_; clear hK K
    refine HT_seq ?_
    refine HT_if fun K1 K2 hK1 hK2 => ?_; (conv => whnf)
    refine cond_lk h (fun _ h => ?_) (fun _ h => ?_)
    · refine hK1 ?_; clear hK1 hK2 K1 K2
      refine HT_skip ?_
      refine Then_n ?_
      refine HT_seq ?_
      refine HT_block ?_
      refine HT_fr DC_ok rfl fun K hK => ?_; (conv => whnf)
      refine ix_lk h fun _ h => ?_; (conv => whnf)
      refine getK_of rfl ?_; (conv => whnf)
      refine hK _ _ _ ?_; clear hK K
      refine HT_fr DC_ok rfl fun K hK => ?_; (conv => whnf)
      refine nlA rfl ?_; (conv => whnf)
      refine blkK_of rfl ?_; (conv => whnf)
      refine nlA rfl ?_; (conv => whnf)
      replace h := W_bd h
      refine flow_Without_call h30 h (WkL.refl _) (fun _ h => ?_); (conv => whnf)
      refine blkK_of rfl ?_; (conv => whnf)
      refine And.intro rfl (And.intro (nle rfl) (And.intro rfl ?_)); (conv => whnf)
      refine hK _ _ _ ?_; clear hK K
      refine HT_fr DC_ok rfl fun K hK => ?_; (conv => whnf)
      refine nlA rfl ?_; (conv => whnf)
      refine blkK_of rfl ?_; (conv => whnf)
      refine nlA rfl ?_; (conv => whnf)
      replace h := W_bd h
      refine ref27_Without_call h31 h (WkL.refl _) (fun _ h => ?_); (conv => whnf)
      refine blkK_of rfl ?_; (conv => whnf)
      refine And.intro rfl (And.intro (nle rfl) (And.intro rfl ?_)); (conv => whnf)
      refine hK _ _ _ ?_; clear hK K
      refine HT_fr DC_ok rfl fun K hK => ?_; (conv => whnf)
      replace h := W_jn h
      refine cond_lk h (fun _ h => ?_) (fun _ h => ?_) <;> (conv => whnf)
      · refine hK _ _ _ ?_; clear hK K
        refine HT_if fun K1 K2 hK1 hK2 => ?_; (conv => whnf)
        refine hK1 ?_; clear hK1 hK2 K1 K2
        replace h := W_cnT h
        refine HT_fr DC_ok rfl fun K hK => ?_; (conv => whnf)
        refine hK _ _ _ ?_; clear hK K
        refine HT_ret ?_
        refine InBlock_r ?_
        refine Then_r ?_
        refine Then_r ?_
        refine InBlock_r ?_
        refine InBlock_r ?_
        refine Then_r ?_
        refine Then_r ?_
        refine InBlock_r ?_
        refine Then_r ?_
        replace h := W_xrt h
        replace h := W_inr h
        replace h := W_xrt h
        replace h := W_inr h
        replace h := W_some h
        refine PostP_r DC_ok fun K hK => ?_; (conv => whnf)
        refine hK _ ?_; clear hK K
        cases h
        exact Wk.refl _
      refine nlA rfl ?_; (conv => whnf)
      refine blkK_of rfl ?_; (conv => whnf)
      refine nlA rfl ?_; (conv => whnf)
      refine nlA rfl ?_; (conv => whnf)
      refine blkK_of rfl ?_; (conv => whnf)
      refine nlA rfl ?_; (conv => whnf)
      replace h := W_bd h
      refine ref27_Same_call h32 h (WkL.refl _) (fun _ h => ?_); (conv => whnf)
      refine hK _ _ _ ?_; clear hK K
      refine HT_if fun K1 K2 hK1 hK2 => ?_; (conv => whnf)
      refine cond_lk h (fun _ h => ?_) (fun _ h => ?_)
      · refine hK1 ?_; clear hK1 hK2 K1 K2
        refine HT_fr DC_ok rfl fun K hK => ?_; (conv => whnf)
        refine hK _ _ _ ?_; clear hK K
        refine HT_ret ?_
        refine InBlock_r ?_
        refine Then_r ?_
        refine Then_r ?_
        refine InBlock_r ?_
        refine InBlock_r ?_
        refine Then_r ?_
        refine Then_r ?_
        refine InBlock_r ?_
        refine Then_r ?_
        replace h := W_xrt h
        replace h := W_inr h
        replace h := W_xrt h
        replace h := W_inr h
        replace h := W_some h
        refine PostP_r DC_ok fun K hK => ?_; (conv => whnf)
        refine hK _ ?_; clear hK K
        cases h
        exact Wk.refl _
      refine hK2 ?_; clear hK1 hK2 K1 K2
      refine HT_skip ?_
      refine InBlock_n ?_
      refine Then_n ?_
      refine HT_f DC_ok rfl fun K hK => ?_; (conv => whnf)
      refine hK _ _ _ ?_; clear hK K
      refine Then_n ?_
      replace h := W_xnx h
      refine ⟨_, h, ?_⟩
      refine weak_k ?_; (conv => whnf)
      exact And.intro rfl (And.intro (allL_c wkI (allL_c wkI (allL_c wkI (allL_c (wkr (loose_lst fun _ => (loose_int _ _))) (allL_c wkI (allL_c (WkR.ptr (fun _ => rfl)) (allL_c (WkR.ptr (fun _ => rfl)) (allL_c wkI (allL_c wkI (allL_c (WkR.ptr (fun _ => rfl)) (allL_c (wkr (loose_lstc fun _ => (lo_TNet _))) (allL_c wkI (allL_c wkI (allL_c (wkr (loose_lstc fun _ => (loose_int _ _))) (allL_c wkI allL_n))))))))))))))) (allL_c ⟨some _, rfl, BkR_c rfl (CkR_cons wkI (CkR_cons wkI (CkR_cons wkI CkR_nil)))⟩ (allL_c ⟨some _, rfl, BkR_c rfl (CkR_cons wkI (CkR_cons (wkr (loose_lst fun _ => (lo_TEdge _))) CkR_nil))⟩ (allL_c ⟨some _, rfl, BkR_c rfl (CkR_cons wkI (CkR_cons (wkr (loose_lst fun _ => (lo_TEdge _))) CkR_nil))⟩ allL_n))))
    refine hK2 ?_; clear hK1 hK2 K1 K2
    refine HT_exit ?_
    refine Then_e ?_
    refine Then_e ?_
    refine InBlock_e ?_
    replace h := W_xbk h
    replace h := W_inl h
    refine InBlock_n ?_
    refine Then_n ?_
    refine HT_f DC_ok rfl fun K hK => ?_; (conv => whnf)
    refine hK _ _ _ ?_; clear hK K
    refine Then_n ?_
    replace h := W_xnx h
    refine ⟨_, h, ?_⟩
    refine weak_k ?_; (conv => whnf)
    exact And.intro rfl (And.intro (allL_c wkI (allL_c wkI (allL_c wkI (allL_c (wkr (loose_lst fun _ => (loose_int _ _))) (allL_c wkI (allL_c (WkR.ptr (fun _ => rfl)) (allL_c (WkR.ptr (fun _ => rfl)) (allL_c wkI (allL_c wkI (allL_c (wkr (loose_lstc fun _ => (lo_TNet _))) (allL_c wkI allL_n))))))))))) (allL_c ⟨some _, rfl, BkR_c rfl (CkR_cons wkI (CkR_cons wkI (CkR_cons wkI CkR_nil)))⟩ (allL_c ⟨some _, rfl, BkR_c rfl (CkR_cons wkI (CkR_cons (wkr (loose_lst fun _ => (lo_TEdge _))) CkR_nil))⟩ allL_n)))
  refine hK2 ?_; clear hK1 hK2 K1 K2
  refine HT_exit ?_
  refine Then_e ?_
  refine Then_e ?_
  refine InBlock_e ?_
  replace h := W_xbk h
  replace h := W_inl h
  refine Then_n ?_
  refine HT_fr DC_ok rfl fun K hK => ?_; (conv => whnf)
  refine hK _ _ _ ?_; clear hK K
  refine HT_ret ?_
  replace h := W_some h
  refine PostP_r DC_ok fun K hK => ?_; (conv => whnf)
  refine hK _ ?_; clear hK K
  cases h
  exact Wk.refl _
end Go.Proofs.Ytgkmodjcoedonaa
namespace Go.Proofs.Ytgkmodjcoedonaa
open Go Go.Eng
set_option maxRecDepth 100000
theorem b3_all (n : TNet) (e : Int × Int) (L : List (List Int)) (hL : L.length ≤ 1000) : lp (law27_FlowMatchesReference_b3 n e L) FU 0 = some (.inl (L.length : Int)) := by
  refine loop_all _ (by omega) (fun k hk => ?_) ?_
  · unfold law27_FlowMatchesReference_b3
    simp only [cn_dec, jn_d]
    rw [if_pos (by omega), ix_n hk, refCheckFlow]
    obtain ⟨y, ey⟩ := CheckFlow_some n e.1 e.2 (L.getD k default)
    rw [ey, bd_s, bd_s, wr_id (by omega) (by omega)]
    simp only [bne_self_eq_false, BEq.rfl, Bool.not_true, cn_f]
    rfl
  · unfold law27_FlowMatchesReference_b3
    simp only [cn_dec]
    rw [if_neg (by omega)]
theorem b4_all (n : TNet) (e : Int × Int) (L : List Int) (hL : L.length ≤ 1000) : lp (law27_FlowMatchesReference_b4 n e L) FU 0 = some (.inl (L.length : Int)) := by
  refine loop_all _ (by omega) (fun k hk => ?_) ?_
  · unfold law27_FlowMatchesReference_b4
    simp only [cn_dec, jn_d]
    rw [if_pos (by omega), ix_n hk, refCheckCut]
    obtain ⟨y, ey⟩ := CheckCut_some n e.1 e.2 (L.getD k default)
    rw [ey, bd_s, bd_s, wr_id (by omega) (by omega)]
    simp only [bne_self_eq_false, BEq.rfl, Bool.not_true, cn_f]
    rfl
  · unfold law27_FlowMatchesReference_b4
    simp only [cn_dec]
    rw [if_neg (by omega)]
theorem b5_all (n : TNet) (L : List Int) (hL : L.length ≤ 1000) : lp (law27_FlowMatchesReference_b5 n L) FU 0 = some (.inl (L.length : Int)) := by
  refine loop_all _ (by omega) (fun k hk => ?_) ?_
  · unfold law27_FlowMatchesReference_b5
    simp only [cn_dec, jn_d]
    rw [if_pos (by omega), ix_n hk, refWithout]
    obtain ⟨y, ey, hy⟩ := Without_some n (L.getD k default)
    rw [ey, bd_s, bd_s, refSame _ (by omega), bd_s, wr_id (by omega) (by omega)]
    simp only [bne_self_eq_false, Bool.not_true, cn_f]
    rfl
  · unfold law27_FlowMatchesReference_b5
    simp only [cn_dec]
    rw [if_neg (by omega)]
theorem b2_all {a2 : Int × Int × Int} (o2 : okA23 a2) (a6 : List Int) {a7 : Int} (o7 : okI a7) (n : TNet) (L : List (Int × Int)) (hL : L.length ≤ 1000) {n0 : TNet} (hn : MN n0) : lp (law27_FlowMatchesReference_b2 a2 a6 a7 n L n0) FU 0 = some (.inl (L.length : Int)) := by
  have hN := hn.nn
  have hp0 := two_pow_pos n0.N.toNat
  refine loop_all _ (by omega) (fun k hk => ?_) ?_
  · unfold law27_FlowMatchesReference_b2
    simp only [cn_dec, jn_d]
    rw [if_pos (by omega), ix_n hk]
    generalize L.getD k default = e
    have rest : ∀ l : List Int, l.length ≤ 40 → (bd (ref27_BentList_F l a2.1 a2.2.1 a2.2.2) fun y24 =>
        slc a6 0 (imin (a6.length : Int) 41) fun l25 => lt ([l, y24, l25] : List (List Int)) fun l26 => bd (lp (law27_FlowMatchesReference_b3 n e l26) FU 0) fun c33 =>
        smK c33 (fun s34 => gd (0 ≤ n0.N) (bd (law27_pick_F a7 (bshl .i64 1 n0.N)) fun y36 => lt ([a7, y36] : List Int) fun l37 =>
        bd (lp (law27_FlowMatchesReference_b4 n e l37) FU 0) fun c44 => smK c44 (fun s45 => (some (.nx (wr ((k : Int) + 1))) : Option (Ct Int Bool))) (fun r46 => some (.rt r46)))) (fun r35 =>
        some (.rt r35))) = some (.nx ((k + 1 : Nat) : Int)) := fun l hl => by
      obtain ⟨b, eb, hb⟩ := bentL_ok1 l (by omega) o2.1 o2.2.1 o2.2.2
      rw [eb, bd_s]
      obtain ⟨m, em, hm⟩ := slc41 a6 fun l25 => lt ([l, b, l25] : List (List Int)) fun l26 => bd (lp (law27_FlowMatchesReference_b3 n e l26) FU 0) fun c33 =>
        smK c33 (fun s34 => gd (0 ≤ n0.N) (bd (law27_pick_F a7 (bshl .i64 1 n0.N)) fun y36 => lt ([a7, y36] : List Int) fun l37 =>
        bd (lp (law27_FlowMatchesReference_b4 n e l37) FU 0) fun c44 => smK c44 (fun s45 => (some (.nx (wr ((k : Int) + 1))) : Option (Ct Int Bool))) (fun r46 => some (.rt r46)))) (fun r35 =>
        some (.rt r35))
      rw [em, lt_d, b3_all _ _ _ (by simp), bd_s, smK_l, gd_p _ (by omega), shl_n hn.v, pick_law _ _ o7 hp0, bd_s, lt_d, b4_all _ _ _ (by simp), bd_s, smK_l, wr_id (by omega) (by omega)]
      rfl
    by_cases he : EndsI n e.1 e.2
    · obtain ⟨s, t, e1, e2, hv⟩ := he.nat
      obtain ⟨l, v, C, em, hM, hfl, hg⟩ := max_ok hv
      have hl : l.length ≤ 40 := by rw [hfl.ok.1]; exact hv.v.el
      rw [refEnds, decide_eq_true he]
      rw [← e1, ← e2] at em
      have ec := (checkFlow_ok hv l).1 hfl
      have el := refLeast hv hM
      rw [← e1, ← e2] at ec el
      rw [em, bd_s, bd_s]
      simp only
      rw [refCheckFlow, ec, bd_s, el, bd_s, hg]
      simp only [bne_self_eq_false, BEq.rfl, Bool.not_true, cn_f, cn_t]
      exact rest l hl
    · rw [Max_no he, bd_s, refEnds, decide_eq_false he, bd_s]
      have h1 : ((270 : Int) == 0) = false := rfl
      have h2 : ((270 : Int) != 0) = true := rfl
      have h3 : decide ((([] : List Int).length : Int) > 0) = false := rfl
      simp only [h1, h2, h3, bne_self_eq_false, BEq.rfl, Bool.not_true, cn_f, cn_t]
      exact rest [] (by simp)
  · unfold law27_FlowMatchesReference_b2
    simp only [cn_dec]
    rw [if_neg (by omega)]
theorem plain3 (a0 : Int) (a1 : List (Int × Int × Int)) (a2 : Int × Int × Int) (a3 : TNet) (a4 a5 : Int) (a6 : List Int) (a7 : Int) (o0 : okI a0) (o1 : okL okA23 a1) (o2 : okA23 a2) (o3 : okTNet a3) (o4 : okI a4) (o5 : okI a5) (o6 : okL okI a6) (o7 : okI a7) : law27_FlowMatchesReference_F a0 a1 a2 a3 a4 a5 a6 a7 = some true := by
  obtain ⟨n, en, hn⟩ := made_ok a0 a1 o0 o1
  obtain ⟨s, t, ee, he⟩ := ends_ok hn o4 o5
  obtain ⟨m, em, hm⟩ := bent_ok hn o2.1 o2.2.1 o2.2.2
  obtain ⟨w, ew, hw⟩ := few_ok a3
  have hel := hn.el
  have hq0 := two_pow_pos n.Edges.length
  unfold law27_FlowMatchesReference_F
  rw [sane_ok, bd_s, Bool.not_true, cn_f, en, bd_s, ee, bd_s, em, bd_s, ew, bd_s, lt_d]
  have hl3 : ([n, m, w] : List TNet).length = 3 := rfl
  generalize ([n, m, w] : List TNet) = L at hl3
  rw [loop_all (body := law27_FlowMatchesReference_b1 a2 a4 a5 a6 a7 L n ((s : Int), (t : Int))) 3 (by omega) (fun k hk => by
    unfold law27_FlowMatchesReference_b1
    simp only [cn_dec]
    rw [if_pos (by omega), ix_n (by omega), valid_iff, refValid, bd_s, bd_s]
    simp only [BEq.rfl, Bool.not_true, cn_f, lt_d]
    rw [b2_all o2 a6 o7 _ _ (by simp) hn, bd_s, smK_l, gd_p _ (by omega), bshl_one (by omega), pick_law _ _ o7 hq0, bd_s, b5_all _ _ (by simp), bd_s, smK_l, wr_id (by omega) (by omega)]
    rfl) (by
    unfold law27_FlowMatchesReference_b1
    simp only [cn_dec]
    rw [if_neg (by omega)]), bd_s, smK_l]
end Go.Proofs.Ytgkmodjcoedonaa
