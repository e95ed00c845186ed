import Derived.Test.YtkjccabdpeldhaaM6
import Derived.Test.YtkjccabdpeldhaaM7
set_option linter.unusedVariables false
set_option linter.unusedSimpArgs false
set_option linter.unusedSectionVars false
namespace Go.Proofs.Ytkjccabdpeldhaa
open Go Go.Eng
set_option maxHeartbeats 0
set_option maxRecDepth 100000

    def law33_ReserveScales_b3 (y3 : Int) (s16 : Int × TReserve) : Option (Ct (Int × TReserve) Bool) := cn (decide (s16.1 < (s16.2.Calls.length : Int))) (gd (0 ≤ s16.1 ∧ s16.1 < (s16.2.Calls.length : Int)) (gd (0 ≤ s16.1 ∧ s16.1 < (s16.2.Calls.length : Int)) (st s16.2.Calls (s16.1) (⟨(s16.2.Calls.getD (s16.1).toNat default).Edges, (wr ((wr (1 + y3)) * ((s16.2.Calls.getD (s16.1).toNat default).Amount)))⟩ : TOrdinary) fun l17 =>
    some (.nx ((wr (s16.1 + 1)), (⟨(⟨s16.2.Net.N, s16.2.Net.Edges⟩ : TNet), s16.2.Urgent, s16.2.Centres, s16.2.Faults, l17⟩ : TReserve)))))) (some (.bk (s16.1, s16.2)))
theorem W_blaw33_ReserveScales_b3 {y3 : Int} {s16 : Int × TReserve} {Φ : Ct (Int × TReserve) Bool → Prop} (h : W (law33_ReserveScales_b3 y3 s16) Φ) : W (
    cn (decide (s16.1 < (s16.2.Calls.length : Int))) (gd (0 ≤ s16.1 ∧ s16.1 < (s16.2.Calls.length : Int)) (gd (0 ≤ s16.1 ∧ s16.1 < (s16.2.Calls.length : Int)) (st s16.2.Calls (s16.1) (⟨(s16.2.Calls.getD (s16.1).toNat default).Edges, (wr ((wr (1 + y3)) * ((s16.2.Calls.getD (s16.1).toNat default).Amount)))⟩ : TOrdinary) fun l17 =>
    some (.nx ((wr (s16.1 + 1)), (⟨(⟨s16.2.Net.N, s16.2.Net.Edges⟩ : TNet), s16.2.Urgent, s16.2.Centres, s16.2.Faults, l17⟩ : TReserve)))))) (some (.bk (s16.1, s16.2)))) Φ := h

    def law33_ReserveScales_b2 (y3 : Int) (s10 : Int × TReserve) : Option (Ct (Int × TReserve) Bool) := cn (decide (s10.1 < (s10.2.Urgent.length : Int))) (gd (0 ≤ s10.1 ∧ s10.1 < (s10.2.Urgent.length : Int)) (gd (0 ≤ s10.1 ∧ s10.1 < (s10.2.Urgent.length : Int)) (st s10.2.Urgent (s10.1) (wr ((wr (1 + y3)) * (s10.2.Urgent.getD (s10.1).toNat default))) fun l11 =>
    gd (0 ≤ s10.1 ∧ s10.1 < (s10.2.Centres.length : Int)) (gd (0 ≤ s10.1 ∧ s10.1 < (s10.2.Centres.length : Int)) (st s10.2.Centres (s10.1) (wr ((wr (1 + y3)) * (s10.2.Centres.getD (s10.1).toNat default))) fun l12 =>
    some (.nx ((wr (s10.1 + 1)), (⟨(⟨s10.2.Net.N, s10.2.Net.Edges⟩ : TNet), l11, l12, s10.2.Faults, s10.2.Calls⟩ : TReserve)))))))) (some (.bk (s10.1, s10.2)))
theorem W_blaw33_ReserveScales_b2 {y3 : Int} {s10 : Int × TReserve} {Φ : Ct (Int × TReserve) Bool → Prop} (h : W (law33_ReserveScales_b2 y3 s10) Φ) : W (
    cn (decide (s10.1 < (s10.2.Urgent.length : Int))) (gd (0 ≤ s10.1 ∧ s10.1 < (s10.2.Urgent.length : Int)) (gd (0 ≤ s10.1 ∧ s10.1 < (s10.2.Urgent.length : Int)) (st s10.2.Urgent (s10.1) (wr ((wr (1 + y3)) * (s10.2.Urgent.getD (s10.1).toNat default))) fun l11 =>
    gd (0 ≤ s10.1 ∧ s10.1 < (s10.2.Centres.length : Int)) (gd (0 ≤ s10.1 ∧ s10.1 < (s10.2.Centres.length : Int)) (st s10.2.Centres (s10.1) (wr ((wr (1 + y3)) * (s10.2.Centres.getD (s10.1).toNat default))) fun l12 =>
    some (.nx ((wr (s10.1 + 1)), (⟨(⟨s10.2.Net.N, s10.2.Net.Edges⟩ : TNet), l11, l12, s10.2.Faults, s10.2.Calls⟩ : TReserve)))))))) (some (.bk (s10.1, s10.2)))) Φ := h

    def law33_ReserveScales_b1 (y3 : Int) (s5 : Int × TReserve) : Option (Ct (Int × TReserve) Bool) := cn (decide (s5.1 < (s5.2.Net.Edges.length : Int))) (gd (0 ≤ s5.1 ∧ s5.1 < (s5.2.Net.Edges.length : Int)) (gd (0 ≤ s5.1 ∧ s5.1 < (s5.2.Net.Edges.length : Int)) (st s5.2.Net.Edges (s5.1) (⟨(s5.2.Net.Edges.getD (s5.1).toNat default).From, (s5.2.Net.Edges.getD (s5.1).toNat default).To, (wr ((wr (1 + y3)) * ((s5.2.Net.Edges.getD (s5.1).toNat default).Capacity)))⟩ : TEdge) fun l6 =>
    some (.nx ((wr (s5.1 + 1)), (⟨(⟨s5.2.Net.N, l6⟩ : TNet), s5.2.Urgent, s5.2.Centres, s5.2.Faults, s5.2.Calls⟩ : TReserve)))))) (some (.bk (s5.1, s5.2)))
theorem W_blaw33_ReserveScales_b1 {y3 : Int} {s5 : Int × TReserve} {Φ : Ct (Int × TReserve) Bool → Prop} (h : W (law33_ReserveScales_b1 y3 s5) Φ) : W (
    cn (decide (s5.1 < (s5.2.Net.Edges.length : Int))) (gd (0 ≤ s5.1 ∧ s5.1 < (s5.2.Net.Edges.length : Int)) (gd (0 ≤ s5.1 ∧ s5.1 < (s5.2.Net.Edges.length : Int)) (st s5.2.Net.Edges (s5.1) (⟨(s5.2.Net.Edges.getD (s5.1).toNat default).From, (s5.2.Net.Edges.getD (s5.1).toNat default).To, (wr ((wr (1 + y3)) * ((s5.2.Net.Edges.getD (s5.1).toNat default).Capacity)))⟩ : TEdge) fun l6 =>
    some (.nx ((wr (s5.1 + 1)), (⟨(⟨s5.2.Net.N, l6⟩ : TNet), s5.2.Urgent, s5.2.Centres, s5.2.Faults, s5.2.Calls⟩ : TReserve)))))) (some (.bk (s5.1, s5.2)))) Φ := h
def law33_ReserveScales_F (a0 : TNumbers) (a1 : Int) : Option Bool := bd (law33_sane_F ) fun y1 => cn (!y1) (some false) (bd (ref33_Made_F a0) fun y2 =>
    bd (law33_pick_F a1 100) fun y3 => bd (ref33_Copy_F y2) fun y4 =>
    bd (lp (law33_ReserveScales_b1 y3) FU (0, (⟨(⟨y4.Net.N, y4.Net.Edges⟩ : TNet), y4.Urgent, y4.Centres, y4.Faults, y4.Calls⟩ : TReserve))) fun c7 => smK c7 (fun s8 =>
    bd (lp (law33_ReserveScales_b2 y3) FU (0, s8.2)) fun c13 => smK c13 (fun s14 => bd (lp (law33_ReserveScales_b3 y3) FU (0, s14.2)) fun c18 => smK c18 (fun s19 =>
    bd (reserve_Admit_F y2) fun y21 => bd (reserve_Admit_F (⟨(⟨s19.2.Net.N, s19.2.Net.Edges⟩ : TNet), s19.2.Urgent, s19.2.Centres, s19.2.Faults, s19.2.Calls⟩ : TReserve)) fun y22 =>
    bd (reserve_Slack_F y2 0) fun y23 =>
    bd (reserve_Slack_F (⟨(⟨s19.2.Net.N, s19.2.Net.Edges⟩ : TNet), s19.2.Urgent, s19.2.Centres, s19.2.Faults, s19.2.Calls⟩ : TReserve) 0) fun y24 => jn (fun p25 : Bool =>
    some p25) fun k26 => cn (y21.2 == y22.2) (cn (y21.1.Admitted == y22.1.Admitted) (cn (y23.2 == 0) (cn (y24.2 == 0) (let v27 := (y24.1 == (wr ((wr (1 + y3)) * y23.1)));
    k26 v27) (k26 false)) (k26 false)) (k26 false)) (k26 false)) (fun r20 => some r20)) (fun r15 => some r15)) (fun r9 => some r9))
def law33_ReserveScales_S : List AV → AV → Prop := fun args r => ∃ a0 a1, args = [eTNumbers a0, eI a1] ∧ W (law33_ReserveScales_F a0 a1) fun y => r = (eB y)
theorem law33_ReserveScales_ok {T : Tbl} (hT : TOk Try.prog T) (hpf : PfOk T PF) (h11 : T 11 = pureR law33_sane_S) (h12 : T 12 = pureR ref33_Made_S) (h13 : T 13 = pureR reserve_Admit_S) (h16 : T 16 = pureR law33_pick_S) (h18 : T 18 = pureR reserve_Slack_S) (h19 : T 19 = ownR ref33_Copy_res ref33_Copy_blk ref33_Copy_S) : FOk Try.prog 7 (pureR law33_ReserveScales_S) := by
  refine FOk_pure hT hpf Try.func7 rfl Try.ntmps7 Try.results7 (by decide) ?_
  rintro args r ⟨a0, a1, rfl, h⟩
  refine ⟨nle rfl, ?_, ?_⟩
  · exact (loose_cons (lo_TNumbers _) (loose_cons (loose_int _ _) loose_nil))
  rw [law33_ReserveScales_F.eq_1] at h
  refine HT_fr DC_ok rfl fun K hK => ?_; (conv => whnf)
  refine hK _ _ _ ?_; clear hK K
  refine HT_seq ?_
  refine HT_fr DC_ok rfl fun K hK => ?_; (conv => whnf)
  replace h := W_bd h
  refine law33_sane_call h11 h (WkL.refl _) (fun _ h => ?_); (conv => whnf)
  refine hK _ _ _ ?_; clear hK K
  refine HT_if fun K1 K2 hK1 hK2 => ?_; (conv => whnf)
  refine cond_lk h (fun _ h => ?_) (fun _ h => ?_)
  · refine hK1 ?_; clear hK1 hK2 K1 K2
    refine HT_fr DC_ok rfl fun K hK => ?_; (conv => whnf)
    refine hK _ _ _ ?_; clear hK K
    refine HT_ret ?_
    refine Then_r ?_
    replace h := W_some h
    refine PostP_r DC_ok fun K hK => ?_; (conv => whnf)
    refine hK _ ?_; clear hK K
    cases h
    exact Wk.refl _
  refine hK2 ?_; clear hK1 hK2 K1 K2
  refine HT_skip ?_
  refine Then_n ?_
  refine HT_fr DC_ok rfl fun K hK => ?_; (conv => whnf)
  refine nlA rfl ?_; (conv => whnf)
  refine blkK_of rfl ?_; (conv => whnf)
  refine nlA rfl ?_; (conv => whnf)
  replace h := W_bd h
  refine ref33_Made_call h12 h (WkL.refl _) (fun _ h => ?_); (conv => whnf)
  refine blkK_of rfl ?_; (conv => whnf)
  refine And.intro rfl (And.intro (nle rfl) (And.intro rfl ?_)); (conv => whnf)
  refine hK _ _ _ ?_; clear hK K
  refine HT_fr DC_ok rfl fun K hK => ?_; (conv => whnf)
  replace h := W_bd h
  refine law33_pick_call h16 h (WkL.refl _) (fun _ h => ?_); (conv => whnf)
  refine hK _ _ _ ?_; clear hK K
  refine HT_fr DC_ok rfl fun K hK => ?_; (conv => whnf)
  refine nlA rfl ?_; (conv => whnf)
  refine blkK_of rfl ?_; (conv => whnf)
  refine nlA rfl ?_; (conv => whnf)
  refine callsK_own h19 h (fun y e => (⟨_, rfl, e⟩ : ref33_Copy_S _ _)) (WkL.refl _) (fun _ h => ?_); (conv => whnf)
  refine blkK_of rfl ?_; (conv => whnf)
  refine And.intro rfl (And.intro (nle rfl) (And.intro rfl ?_)); (conv => whnf)
  refine hK _ _ _ ?_; clear hK K
  refine HT_seq ?_
  refine HT_fr DC_ok rfl fun K hK => ?_; (conv => whnf)
  refine hK _ _ _ ?_; clear hK K
  refine HT_block ?_
  replace h := W_bd h
  refine HT_lpR (body := law33_ReserveScales_b1 _) rfl h [5, 6, 7] [5] [] [7] (fun kl kh kr ids b s => ⟨ofL ([(8, eI s.1)] ++ kl), ofH (([(nthN ids 0, .cells [eI s.2.Net.N, .so (b + 0) 0 s.2.Net.Edges.length 3, .so (b + 64) 0 s.2.Urgent.length 1, .so (b + 128) 0 s.2.Centres.length 1, eI s.2.Faults, .so (b + 192) 0 s.2.Calls.length 2])] ++ kh) ++ ([(b + 0, .cells (flE (ceE eTEdge) s.2.Net.Edges)), (b + 64, .cells (flE (ceE eI) s.2.Urgent)), (b + 128, .cells (flE (ceE eI) s.2.Centres)), (b + 192, .cells (flE (ceE eTOrdinary) s.2.Calls))] ++ kr)), b + 320⟩) ?_; (conv => whnf); refine And.intro ?_ (fun s m h => HT_st ?_)
  · refine weak_r ?_; (conv => whnf)
    exact And.intro rfl (And.intro (allL_c wkI (allL_c (WkR.ptr (fun _ => rfl)) (allL_c wkI (allL_c (WkR.ptr (fun _ => rfl)) allL_n)))) (allL_c ⟨some _, rfl, BkR_c rfl (CkR_cons wkI (CkR_cons (WkR.so (fun _ => rfl)) (CkR_cons (WkR.so (fun _ => rfl)) (CkR_cons (WkR.so (fun _ => rfl)) (CkR_cons wkI (CkR_cons (WkR.so (fun _ => rfl)) CkR_nil))))))⟩ (allL_c ⟨some _, rfl, BkR_c rfl (CkR_cons wkI (CkR_cons (wkr (loose_lst fun _ => (lo_TEdge _))) (CkR_cons (wkr (loose_lst fun _ => (loose_int _ _))) (CkR_cons (wkr (loose_lst fun _ => (loose_int _ _))) (CkR_cons wkI (CkR_cons (wkr (loose_lst fun _ => (lo_TOrdinary _))) CkR_nil))))))⟩ (allL_c ⟨some _, rfl, BkR_r rfl (fun _ => (loose_cons (loose_int _ _) (loose_cons (loose_int _ _) (loose_cons (loose_int _ _) loose_nil))))⟩ (allL_c ⟨some _, rfl, BkR_r rfl (fun _ => (loose_cons (loose_int _ _) loose_nil))⟩ (allL_c ⟨some _, rfl, BkR_r rfl (fun _ => (loose_cons (loose_int _ _) loose_nil))⟩ (allL_c ⟨some _, rfl, BkR_r rfl (fun _ => (loose_cons (loose_lst fun _ => (loose_int _ _)) (loose_cons (loose_int _ _) loose_nil)))⟩ allL_n)))))))
  replace h := W_blaw33_ReserveScales_b1 (W_bd h)
  refine HT_seq ?_
  refine HT_fr DC_ok rfl fun K hK => ?_; (conv => whnf)
  refine nlA rfl ?_; (conv => whnf)
  refine blkK_of rfl ?_; (conv => whnf)
  refine getK_of rfl ?_; (conv => whnf)
  refine hK _ _ _ ?_; clear hK K
  refine HT_if fun K1 K2 hK1 hK2 => ?_; (conv => whnf)
  refine cond_lk h (fun _ h => ?_) (fun _ h => ?_)
  · refine hK1 ?_; clear hK1 hK2 K1 K2
    refine HT_skip ?_
    refine Then_n ?_
    refine HT_seq ?_
    refine HT_block ?_
    refine HT_fD DC_ok mix_ok rfl (by kernel_rfl) fun K hK => ?_; (conv => whnf)
    refine nlA rfl ?_; (conv => whnf)
    refine blkK_of rfl ?_; (conv => whnf)
    refine getK_of rfl ?_; (conv => whnf)
    refine nlA rfl ?_; (conv => whnf)
    refine blkK_of rfl ?_; (conv => whnf)
    refine getK_of rfl ?_; (conv => whnf)
    refine gd_lkN h (rfl) fun hx105 h => ?_; (conv => whnf)
    refine nlA rfl ?_; (conv => whnf)
    refine blkK_of rfl ?_; (conv => whnf)
    refine get_flN (enc := eTEdge) (d := default) (q := 2) (fun _ => rfl) (rfl) hx105 (nle rfl) rfl ?_; (conv => whnf)
    refine gd_lkN h (rfl) fun hx106 h => ?_; (conv => whnf)
    refine blkK_of rfl ?_; (conv => whnf)
    refine st_lk (enc := eTEdge) (d := default) (q := 2) h (fun _ => rfl) (rfl) hx106 rfl (nle rfl) rfl rfl (fun h => ?_); (conv => whnf)
    refine hK _ _ _ ?_; clear hK K
    refine InBlock_n ?_
    refine Then_n ?_
    refine HT_f DC_ok rfl fun K hK => ?_; (conv => whnf)
    refine hK _ _ _ ?_; clear hK K
    refine Then_n ?_
    replace h := W_xnx h
    refine ⟨_, h, ?_⟩
    refine weak_r ?_; (conv => whnf)
    exact And.intro rfl (And.intro (allL_c wkI (allL_c (WkR.ptr (fun _ => rfl)) (allL_c wkI (allL_c (WkR.ptr (fun _ => rfl)) allL_n)))) (allL_c ⟨some _, rfl, BkR_c rfl (CkR_cons wkI (CkR_cons (WkR.soN (fun _ => rfl) (lenset rfl).symm) (CkR_cons (WkR.so (fun _ => rfl)) (CkR_cons (WkR.so (fun _ => rfl)) (CkR_cons wkI (CkR_cons (WkR.so (fun _ => rfl)) CkR_nil))))))⟩ (allL_c ⟨some _, rfl, BkR_c rfl (CkR_cons wkI (CkR_cons (wkr (loose_lst fun _ => (lo_TEdge _))) (CkR_cons (wkr (loose_lst fun _ => (loose_int _ _))) (CkR_cons (wkr (loose_lst fun _ => (loose_int _ _))) (CkR_cons wkI (CkR_cons (wkr (loose_lst fun _ => (lo_TOrdinary _))) CkR_nil))))))⟩ (allL_c ⟨some _, rfl, BkR_r rfl (fun _ => (loose_cons (loose_int _ _) (loose_cons (loose_int _ _) (loose_cons (loose_int _ _) loose_nil))))⟩ (allL_c ⟨some _, rfl, BkR_r rfl (fun _ => (loose_cons (loose_int _ _) loose_nil))⟩ (allL_c ⟨some _, rfl, BkR_r rfl (fun _ => (loose_cons (loose_int _ _) loose_nil))⟩ (allL_c ⟨some _, rfl, BkR_r rfl (fun _ => (loose_cons (loose_lst fun _ => (loose_int _ _)) (loose_cons (loose_int _ _) loose_nil)))⟩ allL_n)))))))
  refine hK2 ?_; clear hK1 hK2 K1 K2
  refine HT_exit ?_
  refine Then_e ?_
  refine Then_e ?_
  refine InBlock_e ?_
  replace h := W_xbk h
  replace h := W_inl h
  refine Then_n ?_
  refine HT_seq ?_
  refine HT_fr DC_ok rfl fun K hK => ?_; (conv => whnf)
  refine hK _ _ _ ?_; clear hK K
  refine HT_block ?_
  replace h := W_bd h
  refine HT_lpR (body := law33_ReserveScales_b2 _) rfl h [5, 6, 7] [5] [] [7] (fun kl kh kr ids b s => ⟨ofL ([(9, eI s.1)] ++ kl), ofH (([(nthN ids 0, .cells [eI s.2.Net.N, .so (b + 0) 0 s.2.Net.Edges.length 3, .so (b + 64) 0 s.2.Urgent.length 1, .so (b + 128) 0 s.2.Centres.length 1, eI s.2.Faults, .so (b + 192) 0 s.2.Calls.length 2])] ++ kh) ++ ([(b + 0, .cells (flE (ceE eTEdge) s.2.Net.Edges)), (b + 64, .cells (flE (ceE eI) s.2.Urgent)), (b + 128, .cells (flE (ceE eI) s.2.Centres)), (b + 192, .cells (flE (ceE eTOrdinary) s.2.Calls))] ++ kr)), b + 320⟩) ?_; (conv => whnf); refine And.intro ?_ (fun s m h => HT_st ?_)
  · refine weak_r ?_; (conv => whnf)
    exact And.intro rfl (And.intro (allL_c wkI (allL_c (WkR.ptr (fun _ => rfl)) (allL_c wkI (allL_c (WkR.ptr (fun _ => rfl)) allL_n)))) (allL_c ⟨some _, rfl, BkR_c rfl (CkR_cons wkI (CkR_cons (WkR.so (fun _ => rfl)) (CkR_cons (WkR.so (fun _ => rfl)) (CkR_cons (WkR.so (fun _ => rfl)) (CkR_cons wkI (CkR_cons (WkR.so (fun _ => rfl)) CkR_nil))))))⟩ (allL_c ⟨some _, rfl, BkR_c rfl (CkR_cons wkI (CkR_cons (wkr (loose_lst fun _ => (lo_TEdge _))) (CkR_cons (wkr (loose_lst fun _ => (loose_int _ _))) (CkR_cons (wkr (loose_lst fun _ => (loose_int _ _))) (CkR_cons wkI (CkR_cons (wkr (loose_lst fun _ => (lo_TOrdinary _))) CkR_nil))))))⟩ (allL_c ⟨some _, rfl, BkR_r rfl (fun _ => (loose_cons (loose_int _ _) (loose_cons (loose_int _ _) (loose_cons (loose_int _ _) loose_nil))))⟩ (allL_c ⟨some _, rfl, BkR_r rfl (fun _ => (loose_cons (loose_int _ _) loose_nil))⟩ (allL_c ⟨some _, rfl, BkR_r rfl (fun _ => (loose_cons (loose_int _ _) loose_nil))⟩ (allL_c ⟨some _, rfl, BkR_r rfl (fun _ => (loose_cons (loose_lst fun _ => (loose_int _ _)) (loose_cons (loose_int _ _) loose_nil)))⟩ allL_n)))))))
  replace h := W_blaw33_ReserveScales_b2 (W_bd h)
  refine HT_seq ?_
  refine HT_fr DC_ok rfl fun K hK => ?_; (conv => whnf)
  refine nlA rfl ?_; (conv => whnf)
  refine blkK_of rfl ?_; (conv => whnf)
  refine getK_of rfl ?_; (conv => whnf)
  refine hK _ _ _ ?_; clear hK K
  refine HT_if fun K1 K2 hK1 hK2 => ?_; (conv => whnf)
  refine cond_lk h (fun _ h => ?_) (fun _ h => ?_)
  · refine hK1 ?_; clear hK1 hK2 K1 K2
    refine HT_skip ?_
    refine Then_n ?_
    refine HT_seq ?_
    refine HT_block ?_
    refine HT_fd DC_ok mix_ok rfl (by kernel_rfl) fun K hK => ?_; (conv => whnf)
    refine nlA rfl ?_; (conv => whnf)
    refine blkK_of rfl ?_; (conv => whnf)
    refine getK_of rfl ?_; (conv => whnf)
    refine nlA rfl ?_; (conv => whnf)
    refine blkK_of rfl ?_; (conv => whnf)
    refine getK_of rfl ?_; (conv => whnf)
    refine gd_lkN h (rfl) fun hx155 h => ?_; (conv => whnf)
    refine nlA rfl ?_; (conv => whnf)
    refine blkK_of rfl ?_; (conv => whnf)
    refine get_flN (enc := eI) (d := default) (q := 0) (fun _ => rfl) (rfl) hx155 (nle rfl) rfl ?_; (conv => whnf)
    refine gd_lkN h (rfl) fun hx156 h => ?_; (conv => whnf)
    refine blkK_of rfl ?_; (conv => whnf)
    refine st_lk (enc := eI) (d := default) (q := 0) h (fun _ => rfl) (rfl) hx156 rfl (nle rfl) rfl rfl (fun h => ?_); (conv => whnf)
    refine hK _ _ _ ?_; clear hK K
    refine HT_fD DC_ok mix_ok rfl (by kernel_rfl) fun K hK => ?_; (conv => whnf)
    refine nlA rfl ?_; (conv => whnf)
    refine blkK_of rfl ?_; (conv => whnf)
    refine getK_of rfl ?_; (conv => whnf)
    refine nlA rfl ?_; (conv => whnf)
    refine blkK_of rfl ?_; (conv => whnf)
    refine getK_of rfl ?_; (conv => whnf)
    refine gd_lkN h (rfl) fun hx157 h => ?_; (conv => whnf)
    refine nlA rfl ?_; (conv => whnf)
    refine blkK_of rfl ?_; (conv => whnf)
    refine get_flN (enc := eI) (d := default) (q := 0) (fun _ => rfl) (rfl) hx157 (nle rfl) rfl ?_; (conv => whnf)
    refine gd_lkN h (rfl) fun hx158 h => ?_; (conv => whnf)
    refine blkK_of rfl ?_; (conv => whnf)
    refine st_lk (enc := eI) (d := default) (q := 0) h (fun _ => rfl) (rfl) hx158 rfl (nle rfl) rfl rfl (fun h => ?_); (conv => whnf)
    refine hK _ _ _ ?_; clear hK K
    refine InBlock_n ?_
    refine Then_n ?_
    refine HT_f DC_ok rfl fun K hK => ?_; (conv => whnf)
    refine hK _ _ _ ?_; clear hK K
    refine Then_n ?_
    replace h := W_xnx h
    refine ⟨_, h, ?_⟩
    refine weak_r ?_; (conv => whnf)
    exact And.intro rfl (And.intro (allL_c wkI (allL_c (WkR.ptr (fun _ => rfl)) (allL_c wkI (allL_c (WkR.ptr (fun _ => rfl)) allL_n)))) (allL_c ⟨some _, rfl, BkR_c rfl (CkR_cons wkI (CkR_cons (WkR.so (fun _ => rfl)) (CkR_cons (WkR.soN (fun _ => rfl) (lenset rfl).symm) (CkR_cons (WkR.soN (fun _ => rfl) (lenset rfl).symm) (CkR_cons wkI (CkR_cons (WkR.so (fun _ => rfl)) CkR_nil))))))⟩ (allL_c ⟨some _, rfl, BkR_c rfl (CkR_cons wkI (CkR_cons (wkr (loose_lst fun _ => (lo_TEdge _))) (CkR_cons (wkr (loose_lst fun _ => (loose_int _ _))) (CkR_cons (wkr (loose_lst fun _ => (loose_int _ _))) (CkR_cons wkI (CkR_cons (wkr (loose_lst fun _ => (lo_TOrdinary _))) CkR_nil))))))⟩ (allL_c ⟨some _, rfl, BkR_r rfl (fun _ => (loose_cons (loose_int _ _) (loose_cons (loose_int _ _) (loose_cons (loose_int _ _) loose_nil))))⟩ (allL_c ⟨some _, rfl, BkR_r rfl (fun _ => (loose_cons (loose_int _ _) loose_nil))⟩ (allL_c ⟨some _, rfl, BkR_r rfl (fun _ => (loose_cons (loose_int _ _) loose_nil))⟩ (allL_c ⟨some _, rfl, BkR_r rfl (fun _ => (loose_cons (loose_lst fun _ => (loose_int _ _)) (loose_cons (loose_int _ _) loose_nil)))⟩ allL_n)))))))
  refine hK2 ?_; clear hK1 hK2 K1 K2
  refine HT_exit ?_
  refine Then_e ?_
  refine Then_e ?_
  refine InBlock_e ?_
  replace h := W_xbk h
  replace h := W_inl h
  refine Then_n ?_
  refine HT_seq ?_
  refine HT_fr DC_ok rfl fun K hK => ?_; (conv => whnf)
  refine hK _ _ _ ?_; clear hK K
  refine HT_block ?_
  replace h := W_bd h
  refine HT_lpR (body := law33_ReserveScales_b3 _) rfl h [5, 6, 7] [5] [] [7] (fun kl kh kr ids b s => ⟨ofL ([(10, eI s.1)] ++ kl), ofH (([(nthN ids 0, .cells [eI s.2.Net.N, .so (b + 0) 0 s.2.Net.Edges.length 3, .so (b + 64) 0 s.2.Urgent.length 1, .so (b + 128) 0 s.2.Centres.length 1, eI s.2.Faults, .so (b + 192) 0 s.2.Calls.length 2])] ++ kh) ++ ([(b + 0, .cells (flE (ceE eTEdge) s.2.Net.Edges)), (b + 64, .cells (flE (ceE eI) s.2.Urgent)), (b + 128, .cells (flE (ceE eI) s.2.Centres)), (b + 192, .cells (flE (ceE eTOrdinary) s.2.Calls))] ++ kr)), b + 320⟩) ?_; (conv => whnf); refine And.intro ?_ (fun s m h => HT_st ?_)
  · refine weak_r ?_; (conv => whnf)
    exact And.intro rfl (And.intro (allL_c wkI (allL_c (WkR.ptr (fun _ => rfl)) (allL_c wkI (allL_c (WkR.ptr (fun _ => rfl)) allL_n)))) (allL_c ⟨some _, rfl, BkR_c rfl (CkR_cons wkI (CkR_cons (WkR.so (fun _ => rfl)) (CkR_cons (WkR.so (fun _ => rfl)) (CkR_cons (WkR.so (fun _ => rfl)) (CkR_cons wkI (CkR_cons (WkR.so (fun _ => rfl)) CkR_nil))))))⟩ (allL_c ⟨some _, rfl, BkR_c rfl (CkR_cons wkI (CkR_cons (wkr (loose_lst fun _ => (lo_TEdge _))) (CkR_cons (wkr (loose_lst fun _ => (loose_int _ _))) (CkR_cons (wkr (loose_lst fun _ => (loose_int _ _))) (CkR_cons wkI (CkR_cons (wkr (loose_lst fun _ => (lo_TOrdinary _))) CkR_nil))))))⟩ (allL_c ⟨some _, rfl, BkR_r rfl (fun _ => (loose_cons (loose_int _ _) (loose_cons (loose_int _ _) (loose_cons (loose_int _ _) loose_nil))))⟩ (allL_c ⟨some _, rfl, BkR_r rfl (fun _ => (loose_cons (loose_int _ _) loose_nil))⟩ (allL_c ⟨some _, rfl, BkR_r rfl (fun _ => (loose_cons (loose_int _ _) loose_nil))⟩ (allL_c ⟨some _, rfl, BkR_r rfl (fun _ => (loose_cons (loose_lst fun _ => (loose_int _ _)) (loose_cons (loose_int _ _) loose_nil)))⟩ allL_n)))))))
  replace h := W_blaw33_ReserveScales_b3 (W_bd h)
  refine HT_seq ?_
  refine HT_fr DC_ok rfl fun K hK => ?_; (conv => whnf)
  refine nlA rfl ?_; (conv => whnf)
  refine blkK_of rfl ?_; (conv => whnf)
  refine getK_of rfl ?_; (conv => whnf)
  refine hK _ _ _ ?_; clear hK K
  refine HT_if fun K1 K2 hK1 hK2 => ?_; (conv => whnf)
  refine cond_lk h (fun _ h => ?_) (fun _ h => ?_)
  · refine hK1 ?_; clear hK1 hK2 K1 K2
    refine HT_skip ?_
    refine Then_n ?_
    refine HT_seq ?_
    refine HT_block ?_
    refine HT_fD DC_ok mix_ok rfl (by kernel_rfl) fun K hK => ?_; (conv => whnf)
    refine nlA rfl ?_; (conv => whnf)
    refine blkK_of rfl ?_; (conv => whnf)
    refine getK_of rfl ?_; (conv => whnf)
    refine nlA rfl ?_; (conv => whnf)
    refine blkK_of rfl ?_; (conv => whnf)
    refine getK_of rfl ?_; (conv => whnf)
    refine gd_lkN h (rfl) fun hx183 h => ?_; (conv => whnf)
    refine nlA rfl ?_; (conv => whnf)
    refine blkK_of rfl ?_; (conv => whnf)
    refine get_flN (enc := eTOrdinary) (d := default) (q := 1) (fun _ => rfl) (rfl) hx183 (nle rfl) rfl ?_; (conv => whnf)
    refine gd_lkN h (rfl) fun hx184 h => ?_; (conv => whnf)
    refine blkK_of rfl ?_; (conv => whnf)
    refine st_lk (enc := eTOrdinary) (d := default) (q := 1) h (fun _ => rfl) (rfl) hx184 rfl (nle rfl) rfl rfl (fun h => ?_); (conv => whnf)
    refine hK _ _ _ ?_; clear hK K
    refine InBlock_n ?_
    refine Then_n ?_
    refine HT_f DC_ok rfl fun K hK => ?_; (conv => whnf)
    refine hK _ _ _ ?_; clear hK K
    refine Then_n ?_
    replace h := W_xnx h
    refine ⟨_, h, ?_⟩
    refine weak_r ?_; (conv => whnf)
    exact And.intro rfl (And.intro (allL_c wkI (allL_c (WkR.ptr (fun _ => rfl)) (allL_c wkI (allL_c (WkR.ptr (fun _ => rfl)) allL_n)))) (allL_c ⟨some _, rfl, BkR_c rfl (CkR_cons wkI (CkR_cons (WkR.so (fun _ => rfl)) (CkR_cons (WkR.so (fun _ => rfl)) (CkR_cons (WkR.so (fun _ => rfl)) (CkR_cons wkI (CkR_cons (WkR.soN (fun _ => rfl) (lenset rfl).symm) CkR_nil))))))⟩ (allL_c ⟨some _, rfl, BkR_c rfl (CkR_cons wkI (CkR_cons (wkr (loose_lst fun _ => (lo_TEdge _))) (CkR_cons (wkr (loose_lst fun _ => (loose_int _ _))) (CkR_cons (wkr (loose_lst fun _ => (loose_int _ _))) (CkR_cons wkI (CkR_cons (wkr (loose_lst fun _ => (lo_TOrdinary _))) CkR_nil))))))⟩ (allL_c ⟨some _, rfl, BkR_r rfl (fun _ => (loose_cons (loose_int _ _) (loose_cons (loose_int _ _) (loose_cons (loose_int _ _) loose_nil))))⟩ (allL_c ⟨some _, rfl, BkR_r rfl (fun _ => (loose_cons (loose_int _ _) loose_nil))⟩ (allL_c ⟨some _, rfl, BkR_r rfl (fun _ => (loose_cons (loose_int _ _) loose_nil))⟩ (allL_c ⟨some _, rfl, BkR_r rfl (fun _ => (loose_cons (loose_lst fun _ => (loose_int _ _)) (loose_cons (loose_int _ _) loose_nil)))⟩ allL_n)))))))
  refine hK2 ?_; clear hK1 hK2 K1 K2
  refine HT_exit ?_
  refine Then_e ?_
  refine Then_e ?_
  refine InBlock_e ?_
  replace h := W_xbk h
  replace h := W_inl h
  refine Then_n ?_
  refine HT_fr DC_ok rfl fun K hK => ?_; (conv => whnf)
  refine nlA rfl ?_; (conv => whnf)
  refine blkK_of rfl ?_; (conv => whnf)
  refine nlA rfl ?_; (conv => whnf)
  replace h := W_bd h
  refine reserve_Admit_call h13 h (WkL.refl _) (fun _ h => ?_); (conv => whnf)
  refine blkK_of rfl ?_; (conv => whnf)
  refine And.intro rfl (And.intro (nle rfl) (And.intro rfl ?_)); (conv => whnf)
  refine hK _ _ _ ?_; clear hK K
  refine HT_frzBK 7 1 (enc := eTEdge) (e := 53) default (ElOk_agg DC_ok rfl rfl (fun _ => rfl) (fun _ => rfl)) ?_; (conv => whnf); refine ⟨_, _, _, (Nat.ne_of_beq_eq_false rfl), rfl, rfl, rfl, rfl, ?_⟩; (conv => whnf)
  refine HT_frzBK 7 2 (enc := eI) (e := 3) default (ElOk_one DC_ok rfl rfl rfl (fun _ => ⟨rfl, rfl⟩)) ?_; (conv => whnf); refine ⟨_, _, _, (Nat.ne_of_beq_eq_false rfl), rfl, rfl, rfl, rfl, ?_⟩; (conv => whnf)
  refine HT_frzBK 7 3 (enc := eI) (e := 3) default (ElOk_one DC_ok rfl rfl rfl (fun _ => ⟨rfl, rfl⟩)) ?_; (conv => whnf); refine ⟨_, _, _, (Nat.ne_of_beq_eq_false rfl), rfl, rfl, rfl, rfl, ?_⟩; (conv => whnf)
  refine HT_frzBK 7 5 (enc := eTOrdinary) (e := 56) default (ElOk_agg DC_ok rfl rfl (fun _ => rfl) (fun _ => rfl)) ?_; (conv => whnf); refine ⟨_, _, _, (Nat.ne_of_beq_eq_false rfl), rfl, rfl, rfl, rfl, ?_⟩; (conv => whnf)
  refine HT_fr DC_ok rfl fun K hK => ?_; (conv => whnf)
  refine nlA rfl ?_; (conv => whnf)
  refine blkK_of rfl ?_; (conv => whnf)
  refine nlA rfl ?_; (conv => whnf)
  replace h := W_bd h
  refine reserve_Admit_call h13 h (WkL.refl _) (fun _ h => ?_); (conv => whnf)
  refine blkK_of rfl ?_; (conv => whnf)
  refine And.intro rfl (And.intro (nle rfl) (And.intro rfl ?_)); (conv => whnf)
  refine hK _ _ _ ?_; clear hK K
  refine HT_fr DC_ok rfl fun K hK => ?_; (conv => whnf)
  refine nlA rfl ?_; (conv => whnf)
  refine blkK_of rfl ?_; (conv => whnf)
  refine nlA rfl ?_; (conv => whnf)
  replace h := W_bd h
  refine reserve_Slack_call h18 h (WkL.refl _) (fun _ h => ?_); (conv => whnf)
  refine hK _ _ _ ?_; clear hK K
  refine HT_fr DC_ok rfl fun K hK => ?_; (conv => whnf)
  refine nlA rfl ?_; (conv => whnf)
  refine blkK_of rfl ?_; (conv => whnf)
  refine nlA rfl ?_; (conv => whnf)
  replace h := W_bd h
  refine reserve_Slack_call h18 h (WkL.refl _) (fun _ h => ?_); (conv => whnf)
  refine hK _ _ _ ?_; clear hK K
  refine HT_fr DC_ok rfl fun K hK => ?_; (conv => whnf)
  replace h := W_jn h
  refine cond_lk h (fun _ h => ?_) (fun _ h => ?_) <;> (conv => whnf)
  · refine nlA rfl ?_; (conv => whnf)
    refine blkK_of rfl ?_; (conv => whnf)
    refine getK_of rfl ?_; (conv => whnf)
    refine nlA rfl ?_; (conv => whnf)
    refine blkK_of rfl ?_; (conv => whnf)
    refine getK_of rfl ?_; (conv => whnf)
    refine cond_lk h (fun _ h => ?_) (fun _ h => ?_) <;> (conv => whnf)
    · refine cond_lk h (fun _ h => ?_) (fun _ h => ?_) <;> (conv => whnf)
      · refine cond_lk h (fun _ h => ?_) (fun _ h => ?_) <;> (conv => whnf)
        · refine hK _ _ _ ?_; clear hK K
          refine HT_ret ?_
          replace h := W_some h
          refine PostP_r DC_ok fun K hK => ?_; (conv => whnf)
          refine hK _ ?_; clear hK K
          cases h
          exact Wk.refl _
        refine hK _ _ _ ?_; clear hK K
        refine HT_ret ?_
        replace h := W_some h
        refine PostP_r DC_ok fun K hK => ?_; (conv => whnf)
        refine hK _ ?_; clear hK K
        cases h
        exact Wk.refl _
      refine hK _ _ _ ?_; clear hK K
      refine HT_ret ?_
      replace h := W_some h
      refine PostP_r DC_ok fun K hK => ?_; (conv => whnf)
      refine hK _ ?_; clear hK K
      cases h
      exact Wk.refl _
    refine hK _ _ _ ?_; clear hK K
    refine HT_ret ?_
    replace h := W_some h
    refine PostP_r DC_ok fun K hK => ?_; (conv => whnf)
    refine hK _ ?_; clear hK K
    cases h
    exact Wk.refl _
  refine hK _ _ _ ?_; clear hK K
  refine HT_ret ?_
  replace h := W_some h
  refine PostP_r DC_ok fun K hK => ?_; (conv => whnf)
  refine hK _ ?_; clear hK K
  cases h
  exact Wk.refl _
end Go.Proofs.Ytkjccabdpeldhaa
namespace Go.Proofs.Ytkjccabdpeldhaa
open Go Go.Eng
set_option maxRecDepth 100000
def upK {α : Type} (f : α → α) (l : List α) (k : Nat) : List α := (l.take k).map f ++ l.drop k
theorem upK_len {α : Type} (f : α → α) (l : List α) (k : Nat) : (upK f l k).length = l.length := by
  simp [upK]; omega
theorem upK_get {α : Type} [Inhabited α] (f : α → α) {l : List α} {k : Nat} (h : k < l.length) : (upK f l k).getD k default = l.getD k default := by
  have hl : ((l.take k).map f).length = k := by simp; omega
  rw [List.getD_eq_getElem?_getD, List.getD_eq_getElem?_getD, upK, List.getElem?_append_right (by omega), hl, Nat.sub_self, List.getElem?_drop, Nat.add_zero]
theorem upK_set {α : Type} [Inhabited α] (f : α → α) {l : List α} {k : Nat} (h : k < l.length) : (upK f l k).set k (f (l.getD k default)) = upK f l (k + 1) := by
  have hl : ((l.take k).map f).length = k := by simp; omega
  unfold upK
  rw [List.set_append_right _ _ (by omega), hl, Nat.sub_self, List.take_succ_eq_append_getElem h, List.map_append, List.map_cons, List.map_nil, ← getD_lt h, List.drop_eq_getElem_cons h, List.set_cons_zero]
  simp
theorem upK_all {α : Type} (f : α → α) (l : List α) : upK f l l.length = l.map f := by simp [upK]
theorem upK_0 {α : Type} (f : α → α) (l : List α) : upK f l 0 = l := by simp [upK]
theorem getD_map' {α β : Type} [Inhabited α] [Inhabited β] {f : α → β} {l : List α} {k : Nat} (h : k < l.length) : (l.map f).getD k default = f (l.getD k default) := by
  rw [getD_lt (by rw [List.length_map]; exact h), List.getElem_map, getD_lt h]
def scE (m : Int) (e : TEdge) : TEdge := ⟨e.From, e.To, m * e.Capacity⟩
def scO (m : Int) (o : TOrdinary) : TOrdinary := ⟨o.Edges, m * o.Amount⟩
def scR (m : Int) (r : TReserve) : TReserve := ⟨⟨r.Net.N, r.Net.Edges.map (scE m)⟩, r.Urgent.map (m * ·), r.Centres.map (m * ·), r.Faults, r.Calls.map (scO m)⟩
theorem mul_rng {m x B : Int} (hm : 1 ≤ m ∧ m ≤ 100) (hx : 0 ≤ x ∧ x ≤ B) : 0 ≤ m * x ∧ m * x ≤ 100 * B := by
  have h0 := Int.mul_nonneg (a := m) (b := x) (by omega) hx.1
  have h1 := Int.mul_le_mul hm.2 hx.2 hx.1 (by omega)
  exact ⟨h0, h1⟩
section
variable {r : TReserve} (h : MV r) {m : Int} (hm : 1 ≤ m ∧ m ≤ 100)
include h hm
theorem scR_v : RV (scR m r) where
  n := h.n
  el := by simp only [scR, List.length_map]; exact h.el
  eg e he := by
    obtain ⟨e', he', rfl⟩ := List.mem_map.1 he
    have h1 := h.eg e' he'
    have h2 := h.c20 e' he'
    have := mul_rng hm (x := e'.Capacity) (B := 19) ⟨by omega, h2⟩
    refine ⟨h1.1, h1.2.1, h1.2.2.1, this.1, ?_⟩
    simp only [scE]; omega
  ul := by simp only [scR, List.length_map]; exact h.ul
  uv u hu := by
    obtain ⟨u', hu', rfl⟩ := List.mem_map.1 hu
    have := mul_rng hm (x := u') (B := 5) ⟨(h.uv u' hu').1, h.u5 u' hu'⟩
    exact ⟨this.1, by omega⟩
  cl := by simp only [scR, List.length_map]; exact h.cl
  cv u hu := by
    obtain ⟨u', hu', rfl⟩ := List.mem_map.1 hu
    have := mul_rng hm (x := u') (B := 39) ⟨(h.cv u' hu').1, h.c40 u' hu'⟩
    exact ⟨this.1, by omega⟩
  ft := h.ft
  kl := by simp only [scR, List.length_map]; exact h.kl
  kv o ho := by
    obtain ⟨o', ho', rfl⟩ := List.mem_map.1 ho
    obtain ⟨⟨a1, a2⟩, w⟩ := h.kv o' ho'
    have := mul_rng hm (x := o'.Amount) (B := 6) ⟨by omega, h.a6 o' ho'⟩
    have h2 : m * 1 ≤ m * o'.Amount := Int.mul_le_mul_of_nonneg_left a1 (by omega)
    refine ⟨⟨by simp only [scO]; omega, by simp only [scO]; omega⟩, w.len, fun e he => by simp only [scR, List.length_map]; exact w.rg e he, w.nd, fun i hi => ?_⟩
    have q1 := w.rg _ (getD_mem (l := o'.Edges) (k := i) (by simp only [scO] at hi; omega))
    have q2 := w.rg _ (getD_mem (l := o'.Edges) (k := i + 1) hi)
    simp only [scR, scO]
    rw [getD_map' (by omega), getD_map' (by omega)]
    exact w.go i hi
omit h hm in
theorem use_sc (cs : List TOrdinary) (s e : Nat) : ∀ k, k ≤ cs.length → useN (cs.map (scO m)) s e k = m * useN cs s e k
  | 0, _ => by simp [useN]
  | k + 1, hk => by
    simp only [useN]
    rw [use_sc cs s e k (by omega), getD_map' (by omega), Int.mul_add]
    congr 1
    by_cases q : s.testBit k = true ∧ (e : Int) ∈ (cs.getD k default).Edges
    · rw [if_pos q]; exact if_pos q
    · rw [if_neg q, Int.mul_zero]; exact if_neg q
omit h hm in
theorem cap_sc (s e : Nat) (he : e < r.Net.Edges.length) : capN (scR m r) s e = m * capN r s e := by
  unfold capN
  simp only [scR, List.length_map]
  rw [getD_map' he, use_sc _ _ _ _ (Nat.le_refl _), Int.mul_sub]
  rfl
omit h hm in
theorem usum_sc {l l' : List Int} {nd : Nat} : ∀ k, (∀ j, j < k → l'.getD j default = m * l.getD j default) → usum l' nd k = m * usum l nd k
  | 0, _ => by simp [usum]
  | k + 1, h => by
    have h1 := usum_sc (nd := nd) k fun j hj => h j (by omega)
    have h2 := h k (by omega)
    simp only [usum]
    rw [h1, Int.mul_add, h2]
    congr 1
    split <;> simp
theorem mg_sc (s nd : Nat) : mgR (scR m r) s nd = m * mgR r s nd := by
  have e1 := h.ul; have e2 := h.cl
  have hv := scR_v h hm
  have hu : (scR m r).Urgent.length = r.Urgent.length := by simp [scR]
  have hel : (scR m r).Net.Edges.length = r.Net.Edges.length := by simp [scR]
  have hcl : (scR m r).Centres.length = r.Centres.length := by simp [scR]
  have hl : (lvE (scR m r) s).length = (lvE r s).length := by rw [lv_len, lv_len, hel, hcl]
  have hen : ∀ i, i < (lvE r s).length → ((lvE (scR m r) s).getD i default).From = ((lvE r s).getD i default).From ∧ ((lvE (scR m r) s).getD i default).To = ((lvE r s).getD i default).To ∧ ((lvE (scR m r) s).getD i default).Capacity = m * ((lvE r s).getD i default).Capacity := fun i hi => by
    rw [lv_len] at hi
    by_cases q : i < r.Net.Edges.length
    · have hg : (scR m r).Net.Edges.getD i default = scE m (r.Net.Edges.getD i default) := getD_map' q
      rw [lv_get1 q, lv_get1 (by omega), cap_sc s i q, hg]
      exact ⟨rfl, rfl, rfl⟩
    · obtain ⟨j, rfl⟩ : ∃ j, i = r.Net.Edges.length + j := ⟨i - r.Net.Edges.length, by omega⟩
      have hg : (scR m r).Centres.getD j default = m * r.Centres.getD j default := getD_map' (by omega)
      rw [lv_get2 (by omega), ← hel, lv_get2 (by omega), hg]
      exact ⟨rfl, rfl, rfl⟩
  unfold mgR mgN
  simp only [netL]
  rw [out_congr hl fun i hi => ⟨(hen i hi).1, (hen i hi).2.1⟩, hu]
  have h1 : (outI (lvE r s) nd).map (capI (lvE (scR m r) s)) = (outI (lvE r s) nd).map fun i => m * capI (lvE r s) i := List.map_congr_left fun i hi => (hen i (out_lt hi)).2.2
  have h2 : usum (lsu (scR m r)) nd r.Urgent.length = m * usum (lsu r) nd r.Urgent.length := usum_sc _ fun j hj => by
    rw [lsu_get hj, lsu_get (by omega)]
    simp only [scR]
    rw [getD_map' hj]
  rw [h1, h2, rest_mul (by omega), Int.mul_sub]
  rfl
theorem safe_sc (s : Nat) : SafeP (scR m r) s ↔ SafeP r s := by
  have hel : (scR m r).Net.Edges.length = r.Net.Edges.length := by simp [scR]
  have hu : (scR m r).Urgent.length = r.Urgent.length := by simp [scR]
  have nn : ∀ x : Int, 0 ≤ m * x ↔ 0 ≤ x := fun x => by
    constructor
    · intro q
      rcases Int.lt_or_le x 0 with q2 | q2
      · have := Int.mul_neg_of_pos_of_neg (a := m) (b := x) (by omega) q2; omega
      · exact q2
    · exact fun q => Int.mul_nonneg (by omega) q
  unfold SafeP Car
  rw [hel, hu]
  constructor
  · rintro ⟨q1, q2⟩
    exact ⟨fun e he => by have := q1 e he; rwa [cap_sc s e he, nn] at this, fun nd a b => by have := q2 nd a b; rwa [mg_sc h hm, nn] at this⟩
  · rintro ⟨q1, q2⟩
    exact ⟨fun e he => by have := q1 e he; rwa [cap_sc s e he, nn], fun nd a b => by have := q2 nd a b; rwa [mg_sc h hm, nn]⟩
theorem adm_sc : ∀ k, admN (scR m r) k = admN r k
  | 0 => rfl
  | k + 1 => by
    have e := adm_sc k
    by_cases q : SafeP r (admN r k ||| 2 ^ k)
    · have q' : SafeP (scR m r) (admN (scR m r) k ||| 2 ^ k) := by rw [e, safe_sc h hm]; exact q
      simp only [admN]
      rw [if_pos q, if_pos q', e]
    · have q' : ¬ SafeP (scR m r) (admN (scR m r) k ||| 2 ^ k) := by rw [e, safe_sc h hm]; exact q
      simp only [admN]
      rw [if_neg q, if_neg q', e]
end
theorem plain7 (a0 : TNumbers) (a1 : Int) (o0 : okTNumbers a0) (o1 : okI a1) : law33_ReserveScales_F a0 a1 = some true := by
  unfold law33_ReserveScales_F
  rw [sane_ok, bd_s]
  simp only [Bool.not_true, cn_f, jn_d]
  obtain ⟨r, e, hr⟩ := made_ok a0 o0
  have h := hr.toRV
  have hn := h.n; have hul := h.ul; have hcl := h.cl; have hft := h.ft; have hel := h.el; have hkl := h.kl
  obtain ⟨p1, p2⟩ := pickZ_lt a1 (n := 100) (by omega)
  rw [e, bd_s, pick_law a1 _ o1 (by omega), bd_s, h.copy, bd_s]
  generalize pickZ a1 100 = y at p1 p2
  have hw : wr (1 + y) = 1 + y := wr_id (by omega) (by omega)
  obtain ⟨m, hmd⟩ : ∃ m, m = 1 + y := ⟨_, rfl⟩
  have hm : 1 ≤ m ∧ m ≤ 100 := by omega
  obtain ⟨s1, e1, _, g1⟩ := lp_fold (body := law33_ReserveScales_b1 y) (fun k s => s.1 = (k : Int) ∧ s.2 = (⟨⟨r.Net.N, upK (scE m) r.Net.Edges k⟩, r.Urgent, r.Centres, r.Faults, r.Calls⟩ : TReserve)) r.Net.Edges.length (by omega) (fun k s hk ⟨q1, q2⟩ => by
    obtain ⟨i, R⟩ := s
    simp only at q1 q2
    subst q1 q2
    have hc := cap_bd h hk
    have hc2 := hr.c20 _ (getD_mem hk)
    have hb := mul_rng hm (x := (r.Net.Edges.getD k default).Capacity) (B := 19) ⟨hc.1, hc2⟩
    unfold law33_ReserveScales_b1
    simp only [cn_dec, upK_len]
    rw [if_pos (by omega), gd_p _ (by omega), gd_p _ (by omega), st_d, Int.toNat_natCast, upK_get _ hk, hw, ← hmd, wr_id (x := (k : Int) + 1) (by omega) (by omega), wr_id (x := m * _) (by omega) (by omega)]
    refine ⟨_, rfl, rfl, ?_⟩
    have := upK_set (scE m) hk
    simp only [scE] at this ⊢
    rw [this]) (fun s ⟨q1, q2⟩ => by
    unfold law33_ReserveScales_b1
    have q3 : s.2.Net.Edges.length = r.Net.Edges.length := by rw [q2]; exact upK_len _ _ _
    simp only [cn_dec]
    rw [if_neg (by omega)]) (0, ⟨⟨r.Net.N, r.Net.Edges⟩, r.Urgent, r.Centres, r.Faults, r.Calls⟩) ⟨rfl, by simp only [upK_0]⟩
  rw [upK_all] at g1
  rw [e1, bd_s, smK_l, g1]
  obtain ⟨s2, e2, _, g2⟩ := lp_fold (body := law33_ReserveScales_b2 y) (fun k s => s.1 = (k : Int) ∧ s.2 = (⟨⟨r.Net.N, r.Net.Edges.map (scE m)⟩, upK (m * ·) r.Urgent k, upK (m * ·) r.Centres k, r.Faults, r.Calls⟩ : TReserve)) r.Urgent.length (by omega) (fun k s hk ⟨q1, q2⟩ => by
    obtain ⟨i, R⟩ := s
    simp only at q1 q2
    subst q1 q2
    have hk2 : k < r.Centres.length := by omega
    have hb := mul_rng hm (x := r.Urgent.getD k default) (B := 5) ⟨(h.uv _ (getD_mem hk)).1, hr.u5 _ (getD_mem hk)⟩
    have hb2 := mul_rng hm (x := r.Centres.getD k default) (B := 39) ⟨(h.cv _ (getD_mem hk2)).1, hr.c40 _ (getD_mem hk2)⟩
    unfold law33_ReserveScales_b2
    simp only [cn_dec, upK_len]
    rw [if_pos (by omega), gd_p _ (by omega), gd_p _ (by omega), st_d, Int.toNat_natCast, gd_p _ (by omega), gd_p _ (by omega), st_d, upK_get _ hk, upK_get _ hk2, hw, ← hmd, wr_id (x := (k : Int) + 1) (by omega) (by omega), wr_id (x := m * r.Urgent.getD k default) (by omega) (by omega), wr_id (x := m * r.Centres.getD k default) (by omega) (by omega)]
    refine ⟨_, rfl, rfl, ?_⟩
    have e1 := upK_set (m * ·) hk
    have e2 := upK_set (m * ·) hk2
    simp only [Int.toNat_natCast] at e1 e2 ⊢
    rw [e1, e2]) (fun s ⟨q1, q2⟩ => by
    unfold law33_ReserveScales_b2
    have q3 : s.2.Urgent.length = r.Urgent.length := by rw [q2]; exact upK_len _ _ _
    simp only [cn_dec]
    rw [if_neg (by omega)]) (0, ⟨⟨r.Net.N, r.Net.Edges.map (scE m)⟩, r.Urgent, r.Centres, r.Faults, r.Calls⟩) ⟨rfl, by simp only [upK_0]⟩
  have hucl : r.Urgent.length = r.Centres.length := by omega
  rw [upK_all, hucl, upK_all] at g2
  rw [e2, bd_s, smK_l, g2]
  obtain ⟨s3, e3, _, g3⟩ := lp_fold (body := law33_ReserveScales_b3 y) (fun k s => s.1 = (k : Int) ∧ s.2 = (⟨⟨r.Net.N, r.Net.Edges.map (scE m)⟩, r.Urgent.map (m * ·), r.Centres.map (m * ·), r.Faults, upK (scO m) r.Calls k⟩ : TReserve)) r.Calls.length (by omega) (fun k s hk ⟨q1, q2⟩ => by
    obtain ⟨i, R⟩ := s
    simp only at q1 q2
    subst q1 q2
    have hb := mul_rng hm (x := (r.Calls.getD k default).Amount) (B := 6) ⟨by have := (h.kv _ (getD_mem hk)).1; omega, hr.a6 _ (getD_mem hk)⟩
    unfold law33_ReserveScales_b3
    simp only [cn_dec, upK_len]
    rw [if_pos (by omega), gd_p _ (by omega), gd_p _ (by omega), st_d, Int.toNat_natCast, upK_get _ hk, hw, ← hmd, wr_id (x := (k : Int) + 1) (by omega) (by omega), wr_id (x := m * _) (by omega) (by omega)]
    refine ⟨_, rfl, rfl, ?_⟩
    have := upK_set (scO m) hk
    simp only [scO] at this ⊢
    rw [this]) (fun s ⟨q1, q2⟩ => by
    unfold law33_ReserveScales_b3
    have q3 : s.2.Calls.length = r.Calls.length := by rw [q2]; exact upK_len _ _ _
    simp only [cn_dec]
    rw [if_neg (by omega)]) (0, ⟨⟨r.Net.N, r.Net.Edges.map (scE m)⟩, r.Urgent.map (m * ·), r.Centres.map (m * ·), r.Faults, r.Calls⟩) ⟨rfl, by simp only [upK_0]⟩
  rw [upK_all] at g3
  rw [e3, bd_s, smK_l, g3]
  simp only
  have hR : (⟨⟨r.Net.N, r.Net.Edges.map (scE m)⟩, r.Urgent.map (m * ·), r.Centres.map (m * ·), r.Faults, r.Calls.map (scO m)⟩ : TReserve) = scR m r := rfl
  rw [hR]
  have hv := scR_v hr hm
  obtain ⟨n1, a1', b1, c1, d1⟩ := Slack_0 h
  obtain ⟨n2, a2, b2, c2, d2⟩ := Slack_0 hv
  have hu : (scR m r).Urgent.length = r.Urgent.length := by simp [scR]
  have hk : (scR m r).Calls.length = r.Calls.length := by simp [scR]
  rw [hu] at b2 d2
  have hle1 := d1 n2 a2 b2
  have hle2 := d2 n1 a1' b1
  rw [mg_sc hr hm, mg_sc hr hm] at hle2
  have hle3 : m * mgR r 0 n1 ≤ m * mgR r 0 n2 := Int.mul_le_mul_of_nonneg_left hle1 (by omega)
  have heq : m * mgR r 0 n2 = m * mgR r 0 n1 := by omega
  have hbd : -10000 ≤ mgR r 0 n1 ∧ mgR r 0 n1 ≤ 280000 := by
    have q1 := restf_bd (cn_ok h (car_0 h)) r.Faults.toNat n1
    have q2 := usum_bd (cn_ok h (car_0 h)) n1 r.Urgent.length (Nat.le_refl _)
    unfold mgR mgN; omega
  have hwm : wr (m * mgR r 0 n1) = m * mgR r 0 n1 := by
    exact wr_mul 100 280000 (by omega) (by omega) (by omega) (by omega) (by omega)
  have fin : ∀ b : Bool, cn true (cn b (cn ((0 : Int) == 0) (cn ((0 : Int) == 0) (some (mgR (scR m r) 0 n2 == wr (wr (1 + y) * mgR r 0 n1))) (some false)) (some false)) (some false)) (some false) = some b := fun b => by
    rw [cn_t, mg_sc hr hm, hw, ← hmd, hwm, heq]
    cases b
    · rw [cn_f]
    · simp [cn_t]
  rcases admit_ok h with ⟨q1, q2⟩ | ⟨q1, q2⟩
  · rcases admit_ok hv with ⟨q3, q4⟩ | ⟨q3, q4⟩
    · rw [q2, bd_s, q4, bd_s, c1, bd_s, c2, bd_s]
      simpa using fin true
    · exact absurd ((safe_sc hr hm 0).1 q3) q1
  · rcases admit_ok hv with ⟨q3, q4⟩ | ⟨q3, q4⟩
    · exact absurd ((safe_sc hr hm 0).2 q1) q3
    · rw [q2, bd_s, q4, bd_s, c1, bd_s, c2, bd_s]
      rw [hk, adm_sc hr hm]
      simpa using fin true
end Go.Proofs.Ytkjccabdpeldhaa
