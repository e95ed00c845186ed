import Derived.Test.YtkjccabdpeldhaaM6
import Derived.Test.YtkjccabdpeldhaaM7
set_option linter.unusedVariables false
set_option linter.unusedSimpArgs false
set_option linter.unusedSectionVars false
namespace Go.Proofs.Ytkjccabdpeldhaa
open Go Go.Eng
set_option maxHeartbeats 0
set_option maxRecDepth 100000

    def law33_ReserveSlack_b1 (y2 : TReserve) (y3 : Int) (y4 : Int × Int) (s15 : Int) : Option (Ct Int Bool) := cn (decide (s15 < (y2.Urgent.length : Int))) (bd (ref33_Copy_F y2) fun y16 =>
    gd (0 ≤ s15 ∧ s15 < (y16.Urgent.length : Int)) (gd (0 ≤ s15 ∧ s15 < (y16.Urgent.length : Int)) (st y16.Urgent (s15) (wr ((wr ((y16.Urgent.getD (s15).toNat default) + y4.1)) + 1)) fun l17 =>
    bd (reserve_Safe_F (⟨(⟨y16.Net.N, y16.Net.Edges⟩ : TNet), l17, y16.Centres, y16.Faults, y16.Calls⟩ : TReserve) y3) fun y18 =>
    cn (!y18) (some (.rt true)) (some (.nx (wr (s15 + 1))))))) (some (.bk s15))
theorem W_blaw33_ReserveSlack_b1 {y2 : TReserve} {y3 : Int} {y4 : Int × Int} {s15 : Int} {Φ : Ct Int Bool → Prop} (h : W (law33_ReserveSlack_b1 y2 y3 y4 s15) Φ) : W (cn (decide (s15 < (y2.Urgent.length : Int))) (bd (ref33_Copy_F y2) fun y16 =>
    gd (0 ≤ s15 ∧ s15 < (y16.Urgent.length : Int)) (gd (0 ≤ s15 ∧ s15 < (y16.Urgent.length : Int)) (st y16.Urgent (s15) (wr ((wr ((y16.Urgent.getD (s15).toNat default) + y4.1)) + 1)) fun l17 =>
    bd (reserve_Safe_F (⟨(⟨y16.Net.N, y16.Net.Edges⟩ : TNet), l17, y16.Centres, y16.Faults, y16.Calls⟩ : TReserve) y3) fun y18 =>
    cn (!y18) (some (.rt true)) (some (.nx (wr (s15 + 1))))))) (some (.bk s15))) Φ := h
def law33_ReserveSlack_F (a0 : TNumbers) (a1 : Int) (a2 : Int) : Option Bool := bd (law33_sane_F ) fun y1 => cn (!y1) (some false) (bd (ref33_Made_F a0) fun y2 =>
    gd (0 ≤ (y2.Calls.length : Int)) (bd (law33_pick_F a1 (bshl .i64 1 (y2.Calls.length : Int))) fun y3 => bd (reserve_Slack_F y2 y3) fun y4 => cn (y4.2 != 0) (jn (fun p5 : Bool =>
    some p5) fun k6 => cn (y4.2 == 330) (bd (reserve_Safe_F y2 y3) fun y7 => k6 (!y7)) (k6 false)) (bd (reserve_Safe_F y2 y3) fun y8 => cn (!(y8 ==
    (decide (y4.1 ≥ 0)))) (some false) (jn (fun p9 : Bool => cn p9 (some true) (bd (ref33_Copy_F y2) fun y11 => bd (law33_pick_F a2 (y11.Urgent.length : Int)) fun y12 =>
    gd (0 ≤ y12 ∧ y12 < (y11.Urgent.length : Int)) (gd (0 ≤ y12 ∧ y12 < (y11.Urgent.length : Int)) (st y11.Urgent (y12) (wr ((y11.Urgent.getD (y12).toNat default) + y4.1)) fun l13 =>
    bd (reserve_Safe_F (⟨(⟨y11.Net.N, y11.Net.Edges⟩ : TNet), l13, y11.Centres, y11.Faults, y11.Calls⟩ : TReserve) y3) fun y14 =>
    cn (!y14) (some false) (bd (lp (law33_ReserveSlack_b1 y2 y3 y4) FU 0) fun c19 => smK c19 (fun s20 => some false) (fun r21 => some r21)))))) fun k10 =>
    cn (decide (y4.1 < 0)) (k10 true) (k10 (decide (y4.1 > 900)))))))
def law33_ReserveSlack_S : List AV → AV → Prop := fun args r => ∃ a0 a1 a2, args = [eTNumbers a0, eI a1, eI a2] ∧ W (law33_ReserveSlack_F a0 a1 a2) fun y => r = (eB y)
theorem law33_ReserveSlack_ok {T : Tbl} (hT : TOk Try.prog T) (hpf : PfOk T PF) (h11 : T 11 = pureR law33_sane_S) (h12 : T 12 = pureR ref33_Made_S) (h14 : T 14 = pureR reserve_Safe_S) (h16 : T 16 = pureR law33_pick_S) (h18 : T 18 = pureR reserve_Slack_S) (h19 : T 19 = ownR ref33_Copy_res ref33_Copy_blk ref33_Copy_S) : FOk Try.prog 4 (pureR law33_ReserveSlack_S) := by
  refine FOk_pure hT hpf Try.func4 rfl Try.ntmps4 Try.results4 (by decide) ?_
  rintro args r ⟨a0, a1, a2, rfl, h⟩
  refine ⟨nle rfl, ?_, ?_⟩
  · exact (loose_cons (lo_TNumbers _) (loose_cons (loose_int _ _) (loose_cons (loose_int _ _) loose_nil)))
  rw [law33_ReserveSlack_F.eq_1] at h
  refine HT_fr DC_ok rfl fun K hK => ?_; (conv => whnf)
  refine hK _ _ _ ?_; clear hK K
  refine HT_seq ?_
  refine HT_fr DC_ok rfl fun K hK => ?_; (conv => whnf)
  replace h := W_bd h
  refine law33_sane_call h11 h (WkL.refl _) (fun _ h => ?_); (conv => whnf)
  refine hK _ _ _ ?_; clear hK K
  refine HT_if fun K1 K2 hK1 hK2 => ?_; (conv => whnf)
  refine cond_lk h (fun _ h => ?_) (fun _ h => ?_)
  · refine hK1 ?_; clear hK1 hK2 K1 K2
    refine HT_fr DC_ok rfl fun K hK => ?_; (conv => whnf)
    refine hK _ _ _ ?_; clear hK K
    refine HT_ret ?_
    refine Then_r ?_
    replace h := W_some h
    refine PostP_r DC_ok fun K hK => ?_; (conv => whnf)
    refine hK _ ?_; clear hK K
    cases h
    exact Wk.refl _
  refine hK2 ?_; clear hK1 hK2 K1 K2
  refine HT_skip ?_
  refine Then_n ?_
  refine HT_fr DC_ok rfl fun K hK => ?_; (conv => whnf)
  refine nlA rfl ?_; (conv => whnf)
  refine blkK_of rfl ?_; (conv => whnf)
  refine nlA rfl ?_; (conv => whnf)
  replace h := W_bd h
  refine ref33_Made_call h12 h (WkL.refl _) (fun _ h => ?_); (conv => whnf)
  refine blkK_of rfl ?_; (conv => whnf)
  refine And.intro rfl (And.intro (nle rfl) (And.intro rfl ?_)); (conv => whnf)
  refine hK _ _ _ ?_; clear hK K
  refine HT_fr DC_ok rfl fun K hK => ?_; (conv => whnf)
  refine nlA rfl ?_; (conv => whnf)
  refine blkK_of rfl ?_; (conv => whnf)
  refine getK_of rfl ?_; (conv => whnf)
  refine gd_lk h fun _ h => ?_; (conv => whnf)
  replace h := W_bd h
  refine law33_pick_call h16 h (WkL.refl _) (fun _ h => ?_); (conv => whnf)
  refine hK _ _ _ ?_; clear hK K
  refine HT_fr DC_ok rfl fun K hK => ?_; (conv => whnf)
  refine nlA rfl ?_; (conv => whnf)
  refine blkK_of rfl ?_; (conv => whnf)
  refine nlA rfl ?_; (conv => whnf)
  replace h := W_bd h
  refine reserve_Slack_call h18 h (WkL.refl _) (fun _ h => ?_); (conv => whnf)
  refine hK _ _ _ ?_; clear hK K
  refine HT_seq ?_
  refine HT_fr DC_ok rfl fun K hK => ?_; (conv => whnf)
  refine hK _ _ _ ?_; clear hK K
  refine HT_if fun K1 K2 hK1 hK2 => ?_; (conv => whnf)
  refine cond_lk h (fun _ h => ?_) (fun _ h => ?_)
  · refine hK1 ?_; clear hK1 hK2 K1 K2
    refine HT_fr DC_ok rfl fun K hK => ?_; (conv => whnf)
    replace h := W_jn h
    refine cond_lk h (fun _ h => ?_) (fun _ h => ?_) <;> (conv => whnf)
    · refine nlA rfl ?_; (conv => whnf)
      refine blkK_of rfl ?_; (conv => whnf)
      refine nlA rfl ?_; (conv => whnf)
      replace h := W_bd h
      refine reserve_Safe_call h14 h (WkL.refl _) (fun _ h => ?_); (conv => whnf)
      refine hK _ _ _ ?_; clear hK K
      refine HT_ret ?_
      refine Then_r ?_
      replace h := W_some h
      refine PostP_r DC_ok fun K hK => ?_; (conv => whnf)
      refine hK _ ?_; clear hK K
      cases h
      exact Wk.refl _
    refine hK _ _ _ ?_; clear hK K
    refine HT_ret ?_
    refine Then_r ?_
    replace h := W_some h
    refine PostP_r DC_ok fun K hK => ?_; (conv => whnf)
    refine hK _ ?_; clear hK K
    cases h
    exact Wk.refl _
  refine hK2 ?_; clear hK1 hK2 K1 K2
  refine HT_skip ?_
  refine Then_n ?_
  refine HT_seq ?_
  refine HT_fr DC_ok rfl fun K hK => ?_; (conv => whnf)
  refine nlA rfl ?_; (conv => whnf)
  refine blkK_of rfl ?_; (conv => whnf)
  refine nlA rfl ?_; (conv => whnf)
  replace h := W_bd h
  refine reserve_Safe_call h14 h (WkL.refl _) (fun _ h => ?_); (conv => whnf)
  refine eqK_n (eqv_bool DC_ok rfl _ _) ?_; (conv => whnf)
  refine hK _ _ _ ?_; clear hK K
  refine HT_if fun K1 K2 hK1 hK2 => ?_; (conv => whnf)
  refine cond_lk h (fun _ h => ?_) (fun _ h => ?_)
  · refine hK1 ?_; clear hK1 hK2 K1 K2
    refine HT_fr DC_ok rfl fun K hK => ?_; (conv => whnf)
    refine hK _ _ _ ?_; clear hK K
    refine HT_ret ?_
    refine Then_r ?_
    replace h := W_some h
    refine PostP_r DC_ok fun K hK => ?_; (conv => whnf)
    refine hK _ ?_; clear hK K
    cases h
    exact Wk.refl _
  refine hK2 ?_; clear hK1 hK2 K1 K2
  refine HT_skip ?_
  refine Then_n ?_
  refine HT_seq ?_
  refine HT_fr DC_ok rfl fun K hK => ?_; (conv => whnf)
  replace h := W_jn h
  refine cond_lk h (fun _ h => ?_) (fun _ h => ?_) <;> (conv => whnf)
  · refine hK _ _ _ ?_; clear hK K
    refine HT_if fun K1 K2 hK1 hK2 => ?_; (conv => whnf)
    refine hK1 ?_; clear hK1 hK2 K1 K2
    replace h := W_cnT h
    refine HT_fr DC_ok rfl fun K hK => ?_; (conv => whnf)
    refine hK _ _ _ ?_; clear hK K
    refine HT_ret ?_
    refine Then_r ?_
    replace h := W_some h
    refine PostP_r DC_ok fun K hK => ?_; (conv => whnf)
    refine hK _ ?_; clear hK K
    cases h
    exact Wk.refl _
  refine hK _ _ _ ?_; clear hK K
  refine HT_if fun K1 K2 hK1 hK2 => ?_; (conv => whnf)
  refine cond_lk h (fun _ h => ?_) (fun _ h => ?_)
  · refine hK1 ?_; clear hK1 hK2 K1 K2
    refine HT_fr DC_ok rfl fun K hK => ?_; (conv => whnf)
    refine hK _ _ _ ?_; clear hK K
    refine HT_ret ?_
    refine Then_r ?_
    replace h := W_some h
    refine PostP_r DC_ok fun K hK => ?_; (conv => whnf)
    refine hK _ ?_; clear hK K
    cases h
    exact Wk.refl _
  refine hK2 ?_; clear hK1 hK2 K1 K2
  refine HT_skip ?_
  refine Then_n ?_
  refine HT_fr DC_ok rfl fun K hK => ?_; (conv => whnf)
  refine nlA rfl ?_; (conv => whnf)
  refine blkK_of rfl ?_; (conv => whnf)
  refine nlA rfl ?_; (conv => whnf)
  refine callsK_own h19 h (fun y e => (⟨_, rfl, e⟩ : ref33_Copy_S _ _)) (WkL.refl _) (fun _ h => ?_); (conv => whnf)
  refine blkK_of rfl ?_; (conv => whnf)
  refine And.intro rfl (And.intro (nle rfl) (And.intro rfl ?_)); (conv => whnf)
  refine hK _ _ _ ?_; clear hK K
  refine HT_fr DC_ok rfl fun K hK => ?_; (conv => whnf)
  refine nlA rfl ?_; (conv => whnf)
  refine blkK_of rfl ?_; (conv => whnf)
  refine getK_of rfl ?_; (conv => whnf)
  replace h := W_bd h
  refine law33_pick_call h16 h (WkL.refl _) (fun _ h => ?_); (conv => whnf)
  refine hK _ _ _ ?_; clear hK K
  refine HT_fd DC_ok mix_ok rfl (by kernel_rfl) fun K hK => ?_; (conv => whnf)
  refine nlA rfl ?_; (conv => whnf)
  refine blkK_of rfl ?_; (conv => whnf)
  refine getK_of rfl ?_; (conv => whnf)
  refine nlA rfl ?_; (conv => whnf)
  refine blkK_of rfl ?_; (conv => whnf)
  refine getK_of rfl ?_; (conv => whnf)
  refine gd_lkN h (rfl) fun hx15 h => ?_; (conv => whnf)
  refine nlA rfl ?_; (conv => whnf)
  refine blkK_of rfl ?_; (conv => whnf)
  refine get_flN (enc := eI) (d := default) (q := 0) (fun _ => rfl) (rfl) hx15 (nle rfl) rfl ?_; (conv => whnf)
  refine gd_lkN h (rfl) fun hx16 h => ?_; (conv => whnf)
  refine blkK_of rfl ?_; (conv => whnf)
  refine st_lk (enc := eI) (d := default) (q := 0) h (fun _ => rfl) (rfl) hx16 rfl (nle rfl) rfl rfl (fun h => ?_); (conv => whnf)
  refine hK _ _ _ ?_; clear hK K
  refine HT_seq ?_
  refine HT_frzBK 11 1 (enc := eTEdge) (e := 53) default (ElOk_agg DC_ok rfl rfl (fun _ => rfl) (fun _ => rfl)) ?_; (conv => whnf); refine ⟨_, _, _, (Nat.ne_of_beq_eq_false rfl), rfl, rfl, rfl, rfl, ?_⟩; (conv => whnf)
  refine HT_frzBK 11 2 (enc := eI) (e := 3) default (ElOk_one DC_ok rfl rfl rfl (fun _ => ⟨rfl, rfl⟩)) ?_; (conv => whnf); refine ⟨_, _, _, (Nat.ne_of_beq_eq_false rfl), rfl, rfl, (lenset rfl).symm, rfl, ?_⟩; (conv => whnf)
  refine HT_frzBK 11 3 (enc := eI) (e := 3) default (ElOk_one DC_ok rfl rfl rfl (fun _ => ⟨rfl, rfl⟩)) ?_; (conv => whnf); refine ⟨_, _, _, (Nat.ne_of_beq_eq_false rfl), rfl, rfl, rfl, rfl, ?_⟩; (conv => whnf)
  refine HT_frzBK 11 5 (enc := eTOrdinary) (e := 56) default (ElOk_agg DC_ok rfl rfl (fun _ => rfl) (fun _ => rfl)) ?_; (conv => whnf); refine ⟨_, _, _, (Nat.ne_of_beq_eq_false rfl), rfl, rfl, rfl, rfl, ?_⟩; (conv => whnf)
  refine HT_fr DC_ok rfl fun K hK => ?_; (conv => whnf)
  refine nlA rfl ?_; (conv => whnf)
  refine blkK_of rfl ?_; (conv => whnf)
  refine nlA rfl ?_; (conv => whnf)
  replace h := W_bd h
  refine reserve_Safe_call h14 h (WkL.refl _) (fun _ h => ?_); (conv => whnf)
  refine hK _ _ _ ?_; clear hK K
  refine HT_if fun K1 K2 hK1 hK2 => ?_; (conv => whnf)
  refine cond_lk h (fun _ h => ?_) (fun _ h => ?_)
  · refine hK1 ?_; clear hK1 hK2 K1 K2
    refine HT_fr DC_ok rfl fun K hK => ?_; (conv => whnf)
    refine hK _ _ _ ?_; clear hK K
    refine HT_ret ?_
    refine Then_r ?_
    replace h := W_some h
    refine PostP_r DC_ok fun K hK => ?_; (conv => whnf)
    refine hK _ ?_; clear hK K
    cases h
    exact Wk.refl _
  refine hK2 ?_; clear hK1 hK2 K1 K2
  refine HT_skip ?_
  refine Then_n ?_
  refine HT_seq ?_
  refine HT_fr DC_ok rfl fun K hK => ?_; (conv => whnf)
  refine hK _ _ _ ?_; clear hK K
  refine HT_block ?_
  replace h := W_bd h
  refine HT_lpK (body := law33_ReserveSlack_b1 _ _ _) rfl h [7, 8, 9] [7] [] (fun kl kh ids b s => ⟨ofL ([(13, eI s)] ++ kl), ofH ([] ++ kh), b + 64⟩) ?_; (conv => whnf); refine And.intro ?_ (fun s m h => HT_st ?_)
  · refine weak_k ?_; (conv => whnf)
    exact And.intro rfl (And.intro (allL_c wkI (allL_c (WkR.ptr (fun _ => rfl)) (allL_c wkI (allL_c wkI allL_n)))) (allL_c ⟨some _, rfl, BkR_c rfl (CkR_cons wkI (CkR_cons (wkr (loose_lst fun _ => (lo_TEdge _))) (CkR_cons (wkr (loose_lst fun _ => (loose_int _ _))) (CkR_cons (wkr (loose_lst fun _ => (loose_int _ _))) (CkR_cons wkI (CkR_cons (wkr (loose_lst fun _ => (lo_TOrdinary _))) CkR_nil))))))⟩ allL_n))
  replace h := W_blaw33_ReserveSlack_b1 (W_bd h)
  refine HT_seq ?_
  refine HT_fr DC_ok rfl fun K hK => ?_; (conv => whnf)
  refine nlA rfl ?_; (conv => whnf)
  refine blkK_of rfl ?_; (conv => whnf)
  refine getK_of rfl ?_; (conv => whnf)
  refine hK _ _ _ ?_; clear hK K
  refine HT_if fun K1 K2 hK1 hK2 => ?_; (conv => whnf)
  refine cond_lk h (fun _ h => ?_) (fun _ h => ?_)
  · refine hK1 ?_; clear hK1 hK2 K1 K2
    refine HT_skip ?_
    refine Then_n ?_
    refine HT_seq ?_
    refine HT_block ?_
    refine HT_fr DC_ok rfl fun K hK => ?_; (conv => whnf)
    refine nlA rfl ?_; (conv => whnf)
    refine blkK_of rfl ?_; (conv => whnf)
    refine nlA rfl ?_; (conv => whnf)
    refine callsK_own h19 h (fun y e => (⟨_, rfl, e⟩ : ref33_Copy_S _ _)) (WkL.refl _) (fun _ h => ?_); (conv => whnf)
    refine blkK_of rfl ?_; (conv => whnf)
    refine And.intro rfl (And.intro (nle rfl) (And.intro rfl ?_)); (conv => whnf)
    refine hK _ _ _ ?_; clear hK K
    refine HT_fd DC_ok mix_ok rfl (by kernel_rfl) fun K hK => ?_; (conv => whnf)
    refine nlA rfl ?_; (conv => whnf)
    refine blkK_of rfl ?_; (conv => whnf)
    refine getK_of rfl ?_; (conv => whnf)
    refine nlA rfl ?_; (conv => whnf)
    refine blkK_of rfl ?_; (conv => whnf)
    refine getK_of rfl ?_; (conv => whnf)
    refine gd_lkN h (rfl) fun hx31 h => ?_; (conv => whnf)
    refine nlA rfl ?_; (conv => whnf)
    refine blkK_of rfl ?_; (conv => whnf)
    refine get_flN (enc := eI) (d := default) (q := 0) (fun _ => rfl) (rfl) hx31 (nle rfl) rfl ?_; (conv => whnf)
    refine gd_lkN h (rfl) fun hx32 h => ?_; (conv => whnf)
    refine blkK_of rfl ?_; (conv => whnf)
    refine st_lk (enc := eI) (d := default) (q := 0) h (fun _ => rfl) (rfl) hx32 rfl (nle rfl) rfl rfl (fun h => ?_); (conv => whnf)
    refine hK _ _ _ ?_; clear hK K
    refine HT_frzBK 14 1 (enc := eTEdge) (e := 53) default (ElOk_agg DC_ok rfl rfl (fun _ => rfl) (fun _ => rfl)) ?_; (conv => whnf); refine ⟨_, _, _, (Nat.ne_of_beq_eq_false rfl), rfl, rfl, rfl, rfl, ?_⟩; (conv => whnf)
    refine HT_frzBK 14 2 (enc := eI) (e := 3) default (ElOk_one DC_ok rfl rfl rfl (fun _ => ⟨rfl, rfl⟩)) ?_; (conv => whnf); refine ⟨_, _, _, (Nat.ne_of_beq_eq_false rfl), rfl, rfl, (lenset rfl).symm, rfl, ?_⟩; (conv => whnf)
    refine HT_frzBK 14 3 (enc := eI) (e := 3) default (ElOk_one DC_ok rfl rfl rfl (fun _ => ⟨rfl, rfl⟩)) ?_; (conv => whnf); refine ⟨_, _, _, (Nat.ne_of_beq_eq_false rfl), rfl, rfl, rfl, rfl, ?_⟩; (conv => whnf)
    refine HT_frzBK 14 5 (enc := eTOrdinary) (e := 56) default (ElOk_agg DC_ok rfl rfl (fun _ => rfl) (fun _ => rfl)) ?_; (conv => whnf); refine ⟨_, _, _, (Nat.ne_of_beq_eq_false rfl), rfl, rfl, rfl, rfl, ?_⟩; (conv => whnf)
    refine HT_fr DC_ok rfl fun K hK => ?_; (conv => whnf)
    refine nlA rfl ?_; (conv => whnf)
    refine blkK_of rfl ?_; (conv => whnf)
    refine nlA rfl ?_; (conv => whnf)
    replace h := W_bd h
    refine reserve_Safe_call h14 h (WkL.refl _) (fun _ h => ?_); (conv => whnf)
    refine hK _ _ _ ?_; clear hK K
    refine HT_if fun K1 K2 hK1 hK2 => ?_; (conv => whnf)
    refine cond_lk h (fun _ h => ?_) (fun _ h => ?_)
    · refine hK1 ?_; clear hK1 hK2 K1 K2
      refine HT_fr DC_ok rfl fun K hK => ?_; (conv => whnf)
      refine hK _ _ _ ?_; clear hK K
      refine HT_ret ?_
      refine InBlock_r ?_
      refine Then_r ?_
      refine Then_r ?_
      refine InBlock_r ?_
      refine Then_r ?_
      replace h := W_xrt h
      replace h := W_inr h
      replace h := W_some h
      refine PostP_r DC_ok fun K hK => ?_; (conv => whnf)
      refine hK _ ?_; clear hK K
      cases h
      exact Wk.refl _
    refine hK2 ?_; clear hK1 hK2 K1 K2
    refine HT_skip ?_
    refine InBlock_n ?_
    refine Then_n ?_
    refine HT_f DC_ok rfl fun K hK => ?_; (conv => whnf)
    refine hK _ _ _ ?_; clear hK K
    refine Then_n ?_
    replace h := W_xnx h
    refine ⟨_, h, ?_⟩
    refine weak_k ?_; (conv => whnf)
    exact And.intro rfl (And.intro (allL_c wkI (allL_c (WkR.ptr (fun _ => rfl)) (allL_c wkI (allL_c wkI allL_n)))) (allL_c ⟨some _, rfl, BkR_c rfl (CkR_cons wkI (CkR_cons (wkr (loose_lst fun _ => (lo_TEdge _))) (CkR_cons (wkr (loose_lst fun _ => (loose_int _ _))) (CkR_cons (wkr (loose_lst fun _ => (loose_int _ _))) (CkR_cons wkI (CkR_cons (wkr (loose_lst fun _ => (lo_TOrdinary _))) CkR_nil))))))⟩ allL_n))
  refine hK2 ?_; clear hK1 hK2 K1 K2
  refine HT_exit ?_
  refine Then_e ?_
  refine Then_e ?_
  refine InBlock_e ?_
  replace h := W_xbk h
  replace h := W_inl h
  refine Then_n ?_
  refine HT_fr DC_ok rfl fun K hK => ?_; (conv => whnf)
  refine hK _ _ _ ?_; clear hK K
  refine HT_ret ?_
  replace h := W_some h
  refine PostP_r DC_ok fun K hK => ?_; (conv => whnf)
  refine hK _ ?_; clear hK K
  cases h
  exact Wk.refl _
end Go.Proofs.Ytkjccabdpeldhaa
namespace Go.Proofs.Ytkjccabdpeldhaa
open Go Go.Eng
set_option maxRecDepth 100000
def urgR (r : TReserve) (k : Nat) (d : Int) : TReserve := ⟨r.Net, r.Urgent.set k (r.Urgent.getD k default + d), r.Centres, r.Faults, r.Calls⟩
theorem usum_set {l : List Int} {k nd : Nat} {d : Int} (hk : k < l.length) {l' : List Int} (h : ∀ j, j < l.length → l'.getD j default = if k = j then l.getD j default + d else l.getD j default) : ∀ m, m ≤ l.length → usum l' nd m = usum l nd m + (if k < m ∧ nd.testBit k = true then d else 0)
  | 0, _ => by simp [usum]
  | m + 1, hm => by
    have h1 := usum_set hk h (nd := nd) m (by omega)
    have h2 := h m (by omega)
    simp only [usum]
    rw [h1]
    by_cases e : k = m
    · subst e
      rw [if_pos rfl] at h2
      rw [h2, if_neg (by omega)]
      cases hb : nd.testBit k
      · simp
      · simp; omega
    · rw [if_neg e] at h2
      rw [h2]
      have : (k < m + 1 ∧ nd.testBit k = true) ↔ (k < m ∧ nd.testBit k = true) := by
        constructor <;> rintro ⟨a, b⟩ <;> exact ⟨by omega, b⟩
      simp only [this]
      split <;> omega
theorem mg_urg {r : TReserve} {s k nd : Nat} {d : Int} (hk : k < r.Urgent.length) : mgR (urgR r k d) s nd = mgR r s nd - (if nd.testBit k = true then d else 0) := by
  have hu : (urgR r k d).Urgent.length = r.Urgent.length := by simp [urgR]
  unfold mgR mgN
  rw [hu]
  have h1 : usum (lsu (urgR r k d)) nd r.Urgent.length = usum (lsu r) nd r.Urgent.length + (if nd.testBit k = true then d else 0) := by
    have h0 : ∀ j, j < r.Urgent.length → (lsu (urgR r k d)).getD j default = if k = j then (lsu r).getD j default + d else (lsu r).getD j default := fun j hj => by
      rw [lsu_get hj, lsu_get (by omega)]
      simp only [urgR]
      rw [getD_set hj]
      split
      · rename_i q; rw [q]
      · rfl
    have hx : ∀ m, m ≤ r.Urgent.length → usum (lsu (urgR r k d)) nd m = usum r.Urgent nd m + (if k < m ∧ nd.testBit k = true then d else 0) := usum_set hk fun j hj => by rw [h0 j hj, lsu_get hj]
    have hy : ∀ m, m ≤ r.Urgent.length → usum (lsu r) nd m = usum r.Urgent nd m := fun m => by
      induction m with
      | zero => exact fun _ => rfl
      | succ m ih => intro hm; simp only [usum]; rw [ih (by omega), lsu_get (by omega)]
    rw [hx _ (Nat.le_refl _), hy _ (Nat.le_refl _)]
    simp only [hk, true_and]
  rw [h1]
  have h2 : netL (urgR r k d) s = netL r s := rfl
  have h3 : (urgR r k d).Faults = r.Faults := rfl
  rw [h2, h3]
  omega
theorem urg_v {r : TReserve} (h : RV r) {k : Nat} {d : Int} (hx : 0 ≤ r.Urgent.getD k default + d ∧ r.Urgent.getD k default + d ≤ 1000) : RV (urgR r k d) := h.urg hx
theorem plain4 (a0 : TNumbers) (a1 a2 : Int) (o0 : okTNumbers a0) (o1 : okI a1) (o2 : okI a2) : law33_ReserveSlack_F a0 a1 a2 = some true := by
  unfold law33_ReserveSlack_F
  rw [sane_ok, bd_s]
  simp only [Bool.not_true, cn_f, jn_d]
  obtain ⟨r, e, hr⟩ := made_ok a0 o0
  have h := hr.toRV
  obtain ⟨s, hs, e2⟩ := set_of h o1
  have hn := h.n; have hul := h.ul; have hcl := h.cl; have hft := h.ft
  rw [e, bd_s, gd_p _ (by omega), e2, bd_s]
  obtain ⟨b, e3, hb⟩ := Safe_ok h hs
  rcases Slack_ok h hs with ⟨h1, h2⟩ | ⟨h1, nd, n1, n2, h2, h3⟩
  · rw [h2, bd_s, cn_bne, if_neg (by simp only; omega), cn_beq, if_pos rfl, e3, bd_s]
    cases b
    · rfl
    · exact absurd (hb.1 rfl).1 h1
  rw [h2, bd_s, cn_bne, if_pos rfl, e3, bd_s]
  have hbd : b = decide (mgR r s nd ≥ 0) := by
    rw [Bool.eq_iff_iff, hb, decide_eq_true_iff]
    exact ⟨fun q => q.2 nd n1 n2, fun q => ⟨h1, fun nd' b1 b2 => by have := h3 nd' b1 b2; omega⟩⟩
  rw [show (!(b == decide ((mgR r s nd, (0 : Int)).1 ≥ 0))) = false by rw [hbd]; simp, cn_f]
  simp only [cn_dec]
  generalize hg : mgR r s nd = g at *
  by_cases q1 : g < 0
  · rw [if_pos q1, cn_t]
  rw [if_neg q1]
  by_cases q2 : g > 900
  · rw [if_pos q2]
  rw [if_neg q2, h.copy, bd_s]
  obtain ⟨i1, i2⟩ := pickZ_lt a2 (n := (r.Urgent.length : Int)) (by omega)
  obtain ⟨i, hi⟩ : ∃ i : Nat, pickZ a2 (r.Urgent.length : Int) = (i : Int) := ⟨_, (Int.toNat_of_nonneg i1).symm⟩
  rw [hi] at i2
  have hiu : i < r.Urgent.length := by omega
  have huv := hr.u5 _ (getD_mem hiu)
  have huv0 := h.uv _ (getD_mem hiu)
  rw [pick_law a2 _ o2 (by omega), bd_s, hi, gd_p _ (by omega), gd_p _ (by omega), st_d, Int.toNat_natCast, wr_id (by omega) (by omega)]
  have hm : SafeP (urgR r i g) s := ⟨h1, fun nd' b1 b2 => by
    have hu : (urgR r i g).Urgent.length = r.Urgent.length := by simp [urgR]
    rw [hu] at b2
    have := h3 nd' b1 b2
    rw [mg_urg hiu]; split <;> omega⟩
  have e4 : reserve_Safe_F (⟨(⟨r.Net.N, r.Net.Edges⟩ : TNet), r.Urgent.set i (r.Urgent.getD i default + g), r.Centres, r.Faults, r.Calls⟩ : TReserve) (s : Int) = some true := safe_T (r := urgR r i g) (urg_v h (by omega)) hs hm
  rw [e4, bd_s]
  simp only [Bool.not_true, cn_f]
  have hex : ∃ j, j < r.Urgent.length ∧ nd.testBit j = true := by
    obtain ⟨j, hj⟩ := Nat.exists_testBit_of_ne_zero (x := nd) (by omega)
    refine ⟨j, ?_, hj⟩
    rcases Nat.lt_or_ge j r.Urgent.length with q | q
    · exact q
    · have := Nat.testBit_lt_two_pow (x := nd) (i := j) (Nat.lt_of_lt_of_le n2 (Nat.pow_le_pow_right (by omega) q))
      rw [hj] at this; simp at this
  obtain ⟨o, e5, ho⟩ := lp_runF (body := law33_ReserveSlack_b1 r (s : Int) (g, 0)) (fun x => ∃ k : Nat, x = (k : Int) ∧ k ≤ r.Urgent.length ∧ ∀ j, j < k → nd.testBit j = false) (fun x => r.Urgent.length - x.toNat) (fun o => o = .inr true) (fun x ⟨k, hx, hk, hj⟩ => by
    subst hx
    unfold law33_ReserveSlack_b1
    simp only [cn_dec]
    by_cases q : k < r.Urgent.length
    · have huv := hr.u5 _ (getD_mem q)
      have huv0 := h.uv _ (getD_mem q)
      rw [if_pos (by omega), h.copy, bd_s, gd_p _ (by omega), gd_p _ (by omega), st_d, Int.toNat_natCast, wr_id (x := r.Urgent.getD k default + g) (by omega) (by omega), wr_id (x := r.Urgent.getD k default + g + 1) (by omega) (by omega), wr_id (x := (k : Int) + 1) (by omega) (by omega)]
      obtain ⟨b', e6, hb'⟩ := Safe_ok (r := urgR r k (g + 1)) (urg_v h (by omega)) (s := s) hs
      have e7 : reserve_Safe_F (⟨(⟨r.Net.N, r.Net.Edges⟩ : TNet), r.Urgent.set k (r.Urgent.getD k default + g + 1), r.Centres, r.Faults, r.Calls⟩ : TReserve) (s : Int) = some b' := by
        rw [← e6, show r.Urgent.getD k default + g + 1 = r.Urgent.getD k default + (g + 1) by omega]; rfl
      rw [e7, bd_s]
      cases b'
      · rw [Bool.not_false, cn_t]
        exact .inr (.inr ⟨_, rfl, rfl⟩)
      · rw [Bool.not_true, cn_f]
        refine .inl ⟨_, rfl, ⟨k + 1, rfl, by omega, fun j hj' => ?_⟩, by omega⟩
        by_cases q3 : j = k
        · subst q3
          cases hbit : nd.testBit j
          · rfl
          · have hu : (urgR r j (g + 1)).Urgent.length = r.Urgent.length := by simp [urgR]
            have := (hb'.1 rfl).2 nd n1 (by rw [hu]; exact n2)
            rw [mg_urg q, hbit, if_pos rfl] at this
            omega
        · exact hj j (by omega)
    · obtain ⟨j, j1, j2⟩ := hex
      rw [hj j (by omega)] at j2
      simp at j2) 0 ⟨0, rfl, by omega, fun j hj => by omega⟩ (by omega)
  subst ho
  rw [e5, bd_s, smK_r]
end Go.Proofs.Ytkjccabdpeldhaa
