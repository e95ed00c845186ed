import Derived.Test.YtkjccabdpeldhaaM6
import Derived.Test.YtkjccabdpeldhaaM7
set_option linter.unusedVariables false
set_option linter.unusedSimpArgs false
set_option linter.unusedSectionVars false
namespace Go.Proofs.Ytkjccabdpeldhaa
open Go Go.Eng
set_option maxHeartbeats 0
set_option maxRecDepth 100000
def law33_ReserveLess_F (a0 : TNumbers) (a1 : Int) (a2 : Int) (a3 : Int) (a4 : Int) : Option Bool := bd (law33_sane_F ) fun y1 =>
    cn (!y1) (some false) (bd (ref33_Made_F a0) fun y2 => gd (0 ≤ (y2.Calls.length : Int)) (bd (law33_pick_F a1 (bshl .i64 1 (y2.Calls.length : Int))) fun y3 =>
    bd (reserve_Safe_F y2 y3) fun y4 => cn (!y4) (some true) (bd (ref33_Copy_F y2) fun y5 => bd (ref33_Copy_F y2) fun y6 => jn (fun p7 : TReserve =>
    bd (law33_pick_F a3 (y2.Centres.length : Int)) fun y12 => bd (ref33_Copy_F y2) fun y13 => gd (0 ≤ y12 ∧ y12 < (y13.Centres.length : Int)) (bd (law33_pick_F a4 1000) fun y14 =>
    gd (0 ≤ y12 ∧ y12 < (y13.Centres.length : Int)) (st y13.Centres (y12) (wr ((y13.Centres.getD (y12).toNat default) + y14)) fun l15 => bd (ref33_Copy_F y2) fun y16 =>
    gd (0 ≤ y12 ∧ y12 < (y16.Urgent.length : Int)) (gd (0 ≤ y12 ∧ y12 < (y16.Urgent.length : Int)) (bd (law33_pick_F a4 (wr ((y16.Urgent.getD (y12).toNat default) + 1))) fun y17 =>
    gd (0 ≤ y12 ∧ y12 < (y16.Urgent.length : Int)) (st y16.Urgent (y12) (wr ((y16.Urgent.getD (y12).toNat default) - y17)) fun l18 => jn (fun p19 : Bool => some p19) fun k20 =>
    bd (law33_pick_F a2 64) fun y21 => bd (reserve_Safe_F y2 (band .i64 y3 y21)) fun y22 =>
    cn y22 (bd (reserve_Safe_F (⟨(⟨y5.Net.N, y5.Net.Edges⟩ : TNet), y5.Urgent, y5.Centres, (imax (wr (y5.Faults - 1)) 0), y5.Calls⟩ : TReserve) y3) fun y23 =>
    cn y23 (bd (reserve_Safe_F (⟨(⟨p7.Net.N, p7.Net.Edges⟩ : TNet), p7.Urgent, p7.Centres, p7.Faults, p7.Calls⟩ : TReserve) y3) fun y24 =>
    cn y24 (bd (reserve_Safe_F (⟨(⟨y13.Net.N, y13.Net.Edges⟩ : TNet), y13.Urgent, l15, y13.Faults, y13.Calls⟩ : TReserve) y3) fun y25 =>
    cn y25 (bd (reserve_Safe_F (⟨(⟨y16.Net.N, y16.Net.Edges⟩ : TNet), l18, y16.Centres, y16.Faults, y16.Calls⟩ : TReserve) y3) fun y26 =>
    k20 y26) (k20 false)) (k20 false)) (k20 false)) (k20 false))))))) fun k8 => cn (decide ((y6.Net.Edges.length : Int) >
    0)) (bd (law33_pick_F a3 (y6.Net.Edges.length : Int)) fun y9 => gd (0 ≤ y9 ∧ y9 < (y6.Net.Edges.length : Int)) (bd (law33_pick_F a4 1000) fun y10 =>
    gd (0 ≤ y9 ∧ y9 < (y6.Net.Edges.length : Int)) (st y6.Net.Edges (y9) (⟨(y6.Net.Edges.getD (y9).toNat default).From, (y6.Net.Edges.getD (y9).toNat default).To, (wr (((y6.Net.Edges.getD (y9).toNat default).Capacity) + y10))⟩ : TEdge) fun l11 =>
    k8 (⟨(⟨y6.Net.N, l11⟩ : TNet), y6.Urgent, y6.Centres, y6.Faults, y6.Calls⟩ : TReserve)))) (k8 (⟨(⟨y6.Net.N, y6.Net.Edges⟩ : TNet), y6.Urgent, y6.Centres, y6.Faults, y6.Calls⟩ : TReserve)))))
def law33_ReserveLess_S : List AV → AV → Prop := fun args r => ∃ a0 a1 a2 a3 a4, args = [eTNumbers a0, eI a1, eI a2, eI a3, eI a4] ∧ W (law33_ReserveLess_F a0 a1 a2 a3 a4) fun y => r = (eB y)
theorem law33_ReserveLess_ok {T : Tbl} (hT : TOk Try.prog T) (hpf : PfOk T PF) (h11 : T 11 = pureR law33_sane_S) (h12 : T 12 = pureR ref33_Made_S) (h14 : T 14 = pureR reserve_Safe_S) (h16 : T 16 = pureR law33_pick_S) (h19 : T 19 = ownR ref33_Copy_res ref33_Copy_blk ref33_Copy_S) : FOk Try.prog 5 (pureR law33_ReserveLess_S) := by
  refine FOk_pure hT hpf Try.func5 rfl Try.ntmps5 Try.results5 (by decide) ?_
  rintro args r ⟨a0, a1, a2, a3, a4, rfl, h⟩
  refine ⟨nle rfl, ?_, ?_⟩
  · exact (loose_cons (lo_TNumbers _) (loose_cons (loose_int _ _) (loose_cons (loose_int _ _) (loose_cons (loose_int _ _) (loose_cons (loose_int _ _) loose_nil)))))
  rw [law33_ReserveLess_F.eq_1] at h
  refine HT_fr DC_ok rfl fun K hK => ?_; (conv => whnf)
  refine hK _ _ _ ?_; clear hK K
  refine HT_seq ?_
  refine HT_fr DC_ok rfl fun K hK => ?_; (conv => whnf)
  replace h := W_bd h
  refine law33_sane_call h11 h (WkL.refl _) (fun _ h => ?_); (conv => whnf)
  refine hK _ _ _ ?_; clear hK K
  refine HT_if fun K1 K2 hK1 hK2 => ?_; (conv => whnf)
  refine cond_lk h (fun _ h => ?_) (fun _ h => ?_)
  · refine hK1 ?_; clear hK1 hK2 K1 K2
    refine HT_fr DC_ok rfl fun K hK => ?_; (conv => whnf)
    refine hK _ _ _ ?_; clear hK K
    refine HT_ret ?_
    refine Then_r ?_
    replace h := W_some h
    refine PostP_r DC_ok fun K hK => ?_; (conv => whnf)
    refine hK _ ?_; clear hK K
    cases h
    exact Wk.refl _
  refine hK2 ?_; clear hK1 hK2 K1 K2
  refine HT_skip ?_
  refine Then_n ?_
  refine HT_fr DC_ok rfl fun K hK => ?_; (conv => whnf)
  refine nlA rfl ?_; (conv => whnf)
  refine blkK_of rfl ?_; (conv => whnf)
  refine nlA rfl ?_; (conv => whnf)
  replace h := W_bd h
  refine ref33_Made_call h12 h (WkL.refl _) (fun _ h => ?_); (conv => whnf)
  refine blkK_of rfl ?_; (conv => whnf)
  refine And.intro rfl (And.intro (nle rfl) (And.intro rfl ?_)); (conv => whnf)
  refine hK _ _ _ ?_; clear hK K
  refine HT_fr DC_ok rfl fun K hK => ?_; (conv => whnf)
  refine nlA rfl ?_; (conv => whnf)
  refine blkK_of rfl ?_; (conv => whnf)
  refine getK_of rfl ?_; (conv => whnf)
  refine gd_lk h fun _ h => ?_; (conv => whnf)
  replace h := W_bd h
  refine law33_pick_call h16 h (WkL.refl _) (fun _ h => ?_); (conv => whnf)
  refine hK _ _ _ ?_; clear hK K
  refine HT_seq ?_
  refine HT_fr DC_ok rfl fun K hK => ?_; (conv => whnf)
  refine nlA rfl ?_; (conv => whnf)
  refine blkK_of rfl ?_; (conv => whnf)
  refine nlA rfl ?_; (conv => whnf)
  replace h := W_bd h
  refine reserve_Safe_call h14 h (WkL.refl _) (fun _ h => ?_); (conv => whnf)
  refine hK _ _ _ ?_; clear hK K
  refine HT_if fun K1 K2 hK1 hK2 => ?_; (conv => whnf)
  refine cond_lk h (fun _ h => ?_) (fun _ h => ?_)
  · refine hK1 ?_; clear hK1 hK2 K1 K2
    refine HT_fr DC_ok rfl fun K hK => ?_; (conv => whnf)
    refine hK _ _ _ ?_; clear hK K
    refine HT_ret ?_
    refine Then_r ?_
    replace h := W_some h
    refine PostP_r DC_ok fun K hK => ?_; (conv => whnf)
    refine hK _ ?_; clear hK K
    cases h
    exact Wk.refl _
  refine hK2 ?_; clear hK1 hK2 K1 K2
  refine HT_skip ?_
  refine Then_n ?_
  refine HT_fr DC_ok rfl fun K hK => ?_; (conv => whnf)
  refine nlA rfl ?_; (conv => whnf)
  refine blkK_of rfl ?_; (conv => whnf)
  refine nlA rfl ?_; (conv => whnf)
  refine callsK_own h19 h (fun y e => (⟨_, rfl, e⟩ : ref33_Copy_S _ _)) (WkL.refl _) (fun _ h => ?_); (conv => whnf)
  refine blkK_of rfl ?_; (conv => whnf)
  refine And.intro rfl (And.intro (nle rfl) (And.intro rfl ?_)); (conv => whnf)
  refine hK _ _ _ ?_; clear hK K
  refine HT_fr DC_ok rfl fun K hK => ?_; (conv => whnf)
  refine nlA rfl ?_; (conv => whnf)
  refine blkK_of rfl ?_; (conv => whnf)
  refine getK_of rfl ?_; (conv => whnf)
  refine blkK_of rfl ?_; (conv => whnf)
  refine And.intro rfl (And.intro (nle rfl) (And.intro rfl ?_)); (conv => whnf)
  refine hK _ _ _ ?_; clear hK K
  refine HT_fr DC_ok rfl fun K hK => ?_; (conv => whnf)
  refine nlA rfl ?_; (conv => whnf)
  refine blkK_of rfl ?_; (conv => whnf)
  refine nlA rfl ?_; (conv => whnf)
  refine callsK_own h19 h (fun y e => (⟨_, rfl, e⟩ : ref33_Copy_S _ _)) (WkL.refl _) (fun _ h => ?_); (conv => whnf)
  refine blkK_of rfl ?_; (conv => whnf)
  refine And.intro rfl (And.intro (nle rfl) (And.intro rfl ?_)); (conv => whnf)
  refine hK _ _ _ ?_; clear hK K
  refine HT_seq ?_
  refine HT_fr DC_ok rfl fun K hK => ?_; (conv => whnf)
  refine nlA rfl ?_; (conv => whnf)
  refine blkK_of rfl ?_; (conv => whnf)
  refine getK_of rfl ?_; (conv => whnf)
  refine hK _ _ _ ?_; clear hK K
  replace h := W_jn h
  refine HT_if fun K1 K2 hK1 hK2 => ?_; (conv => whnf)
  refine cond_lk h (fun _ h => ?_) (fun _ h => ?_)
  · refine hK1 ?_; clear hK1 hK2 K1 K2
    refine HT_fr DC_ok rfl fun K hK => ?_; (conv => whnf)
    refine nlA rfl ?_; (conv => whnf)
    refine blkK_of rfl ?_; (conv => whnf)
    refine getK_of rfl ?_; (conv => whnf)
    replace h := W_bd h
    refine law33_pick_call h16 h (WkL.refl _) (fun _ h => ?_); (conv => whnf)
    refine hK _ _ _ ?_; clear hK K
    refine HT_fD DC_ok mix_ok rfl (by kernel_rfl) fun K hK => ?_; (conv => whnf)
    refine nlA rfl ?_; (conv => whnf)
    refine blkK_of rfl ?_; (conv => whnf)
    refine getK_of rfl ?_; (conv => whnf)
    refine nlA rfl ?_; (conv => whnf)
    refine blkK_of rfl ?_; (conv => whnf)
    refine getK_of rfl ?_; (conv => whnf)
    refine gd_lkN h (rfl) fun hx12 h => ?_; (conv => whnf)
    refine nlA rfl ?_; (conv => whnf)
    refine blkK_of rfl ?_; (conv => whnf)
    refine get_flN (enc := eTEdge) (d := default) (q := 2) (fun _ => rfl) (rfl) hx12 (nle rfl) rfl ?_; (conv => whnf)
    replace h := W_bd h
    refine law33_pick_call h16 h (WkL.refl _) (fun _ h => ?_); (conv => whnf)
    refine gd_lkN h (rfl) fun hx13 h => ?_; (conv => whnf)
    refine blkK_of rfl ?_; (conv => whnf)
    refine st_lk (enc := eTEdge) (d := default) (q := 2) h (fun _ => rfl) (rfl) hx13 rfl (nle rfl) rfl rfl (fun h => ?_); (conv => whnf)
    refine hK _ _ _ ?_; clear hK K
    refine Then_n ?_
    refine HT_fr DC_ok rfl fun K hK => ?_; (conv => whnf)
    refine nlA rfl ?_; (conv => whnf)
    refine blkK_of rfl ?_; (conv => whnf)
    refine getK_of rfl ?_; (conv => whnf)
    replace h := W_bd h
    refine law33_pick_call h16 h (WkL.refl _) (fun _ h => ?_); (conv => whnf)
    refine hK _ _ _ ?_; clear hK K
    refine HT_fr DC_ok rfl fun K hK => ?_; (conv => whnf)
    refine nlA rfl ?_; (conv => whnf)
    refine blkK_of rfl ?_; (conv => whnf)
    refine nlA rfl ?_; (conv => whnf)
    refine callsK_own h19 h (fun y e => (⟨_, rfl, e⟩ : ref33_Copy_S _ _)) (WkL.refl _) (fun _ h => ?_); (conv => whnf)
    refine blkK_of rfl ?_; (conv => whnf)
    refine And.intro rfl (And.intro (nle rfl) (And.intro rfl ?_)); (conv => whnf)
    refine hK _ _ _ ?_; clear hK K
    refine HT_fd DC_ok mix_ok rfl (by kernel_rfl) fun K hK => ?_; (conv => whnf)
    refine nlA rfl ?_; (conv => whnf)
    refine blkK_of rfl ?_; (conv => whnf)
    refine getK_of rfl ?_; (conv => whnf)
    refine nlA rfl ?_; (conv => whnf)
    refine blkK_of rfl ?_; (conv => whnf)
    refine getK_of rfl ?_; (conv => whnf)
    refine gd_lkN h (rfl) fun hx14 h => ?_; (conv => whnf)
    refine nlA rfl ?_; (conv => whnf)
    refine blkK_of rfl ?_; (conv => whnf)
    refine get_flN (enc := eI) (d := default) (q := 0) (fun _ => rfl) (rfl) hx14 (nle rfl) rfl ?_; (conv => whnf)
    replace h := W_bd h
    refine law33_pick_call h16 h (WkL.refl _) (fun _ h => ?_); (conv => whnf)
    refine gd_lkN h (rfl) fun hx15 h => ?_; (conv => whnf)
    refine blkK_of rfl ?_; (conv => whnf)
    refine st_lk (enc := eI) (d := default) (q := 0) h (fun _ => rfl) (rfl) hx15 rfl (nle rfl) rfl rfl (fun h => ?_); (conv => whnf)
    refine hK _ _ _ ?_; clear hK K
    refine HT_fr DC_ok rfl fun K hK => ?_; (conv => whnf)
    refine nlA rfl ?_; (conv => whnf)
    refine blkK_of rfl ?_; (conv => whnf)
    refine nlA rfl ?_; (conv => whnf)
    refine callsK_own h19 h (fun y e => (⟨_, rfl, e⟩ : ref33_Copy_S _ _)) (WkL.refl _) (fun _ h => ?_); (conv => whnf)
    refine blkK_of rfl ?_; (conv => whnf)
    refine And.intro rfl (And.intro (nle rfl) (And.intro rfl ?_)); (conv => whnf)
    refine hK _ _ _ ?_; clear hK K
    refine HT_fd DC_ok mix_ok rfl (by kernel_rfl) fun K hK => ?_; (conv => whnf)
    refine nlA rfl ?_; (conv => whnf)
    refine blkK_of rfl ?_; (conv => whnf)
    refine getK_of rfl ?_; (conv => whnf)
    refine nlA rfl ?_; (conv => whnf)
    refine blkK_of rfl ?_; (conv => whnf)
    refine getK_of rfl ?_; (conv => whnf)
    refine gd_lkN h (rfl) fun hx16 h => ?_; (conv => whnf)
    refine nlA rfl ?_; (conv => whnf)
    refine blkK_of rfl ?_; (conv => whnf)
    refine get_flN (enc := eI) (d := default) (q := 0) (fun _ => rfl) (rfl) hx16 (nle rfl) rfl ?_; (conv => whnf)
    refine nlA rfl ?_; (conv => whnf)
    refine blkK_of rfl ?_; (conv => whnf)
    refine getK_of rfl ?_; (conv => whnf)
    refine gd_lkN h (rfl) fun hx17 h => ?_; (conv => whnf)
    refine nlA rfl ?_; (conv => whnf)
    refine blkK_of rfl ?_; (conv => whnf)
    refine get_flN (enc := eI) (d := default) (q := 0) (fun _ => rfl) (rfl) hx17 (nle rfl) rfl ?_; (conv => whnf)
    replace h := W_bd h
    refine law33_pick_call h16 h (WkL.refl _) (fun _ h => ?_); (conv => whnf)
    refine gd_lkN h (rfl) fun hx18 h => ?_; (conv => whnf)
    refine blkK_of rfl ?_; (conv => whnf)
    refine st_lk (enc := eI) (d := default) (q := 0) h (fun _ => rfl) (rfl) hx18 rfl (nle rfl) rfl rfl (fun h => ?_); (conv => whnf)
    refine hK _ _ _ ?_; clear hK K
    refine HT_frzBK 13 1 (enc := eTEdge) (e := 53) default (ElOk_agg DC_ok rfl rfl (fun _ => rfl) (fun _ => rfl)) ?_; (conv => whnf); refine ⟨_, _, _, (Nat.ne_of_beq_eq_false rfl), rfl, rfl, rfl, rfl, ?_⟩; (conv => whnf)
    refine HT_frzBK 13 2 (enc := eI) (e := 3) default (ElOk_one DC_ok rfl rfl rfl (fun _ => ⟨rfl, rfl⟩)) ?_; (conv => whnf); refine ⟨_, _, _, (Nat.ne_of_beq_eq_false rfl), rfl, rfl, rfl, rfl, ?_⟩; (conv => whnf)
    refine HT_frzBK 13 3 (enc := eI) (e := 3) default (ElOk_one DC_ok rfl rfl rfl (fun _ => ⟨rfl, rfl⟩)) ?_; (conv => whnf); refine ⟨_, _, _, (Nat.ne_of_beq_eq_false rfl), rfl, rfl, rfl, rfl, ?_⟩; (conv => whnf)
    refine HT_frzBK 13 5 (enc := eTOrdinary) (e := 56) default (ElOk_agg DC_ok rfl rfl (fun _ => rfl) (fun _ => rfl)) ?_; (conv => whnf); refine ⟨_, _, _, (Nat.ne_of_beq_eq_false rfl), rfl, rfl, rfl, rfl, ?_⟩; (conv => whnf)
    refine HT_frzBK 14 1 (enc := eTEdge) (e := 53) default (ElOk_agg DC_ok rfl rfl (fun _ => rfl) (fun _ => rfl)) ?_; (conv => whnf); refine ⟨_, _, _, (Nat.ne_of_beq_eq_false rfl), rfl, rfl, (lenset rfl).symm, rfl, ?_⟩; (conv => whnf)
    refine HT_frzBK 14 2 (enc := eI) (e := 3) default (ElOk_one DC_ok rfl rfl rfl (fun _ => ⟨rfl, rfl⟩)) ?_; (conv => whnf); refine ⟨_, _, _, (Nat.ne_of_beq_eq_false rfl), rfl, rfl, rfl, rfl, ?_⟩; (conv => whnf)
    refine HT_frzBK 14 3 (enc := eI) (e := 3) default (ElOk_one DC_ok rfl rfl rfl (fun _ => ⟨rfl, rfl⟩)) ?_; (conv => whnf); refine ⟨_, _, _, (Nat.ne_of_beq_eq_false rfl), rfl, rfl, rfl, rfl, ?_⟩; (conv => whnf)
    refine HT_frzBK 14 5 (enc := eTOrdinary) (e := 56) default (ElOk_agg DC_ok rfl rfl (fun _ => rfl) (fun _ => rfl)) ?_; (conv => whnf); refine ⟨_, _, _, (Nat.ne_of_beq_eq_false rfl), rfl, rfl, rfl, rfl, ?_⟩; (conv => whnf)
    refine HT_frzBK 17 1 (enc := eTEdge) (e := 53) default (ElOk_agg DC_ok rfl rfl (fun _ => rfl) (fun _ => rfl)) ?_; (conv => whnf); refine ⟨_, _, _, (Nat.ne_of_beq_eq_false rfl), rfl, rfl, rfl, rfl, ?_⟩; (conv => whnf)
    refine HT_frzBK 17 2 (enc := eI) (e := 3) default (ElOk_one DC_ok rfl rfl rfl (fun _ => ⟨rfl, rfl⟩)) ?_; (conv => whnf); refine ⟨_, _, _, (Nat.ne_of_beq_eq_false rfl), rfl, rfl, rfl, rfl, ?_⟩; (conv => whnf)
    refine HT_frzBK 17 3 (enc := eI) (e := 3) default (ElOk_one DC_ok rfl rfl rfl (fun _ => ⟨rfl, rfl⟩)) ?_; (conv => whnf); refine ⟨_, _, _, (Nat.ne_of_beq_eq_false rfl), rfl, rfl, (lenset rfl).symm, rfl, ?_⟩; (conv => whnf)
    refine HT_frzBK 17 5 (enc := eTOrdinary) (e := 56) default (ElOk_agg DC_ok rfl rfl (fun _ => rfl) (fun _ => rfl)) ?_; (conv => whnf); refine ⟨_, _, _, (Nat.ne_of_beq_eq_false rfl), rfl, rfl, rfl, rfl, ?_⟩; (conv => whnf)
    refine HT_frzBK 18 1 (enc := eTEdge) (e := 53) default (ElOk_agg DC_ok rfl rfl (fun _ => rfl) (fun _ => rfl)) ?_; (conv => whnf); refine ⟨_, _, _, (Nat.ne_of_beq_eq_false rfl), rfl, rfl, rfl, rfl, ?_⟩; (conv => whnf)
    refine HT_frzBK 18 2 (enc := eI) (e := 3) default (ElOk_one DC_ok rfl rfl rfl (fun _ => ⟨rfl, rfl⟩)) ?_; (conv => whnf); refine ⟨_, _, _, (Nat.ne_of_beq_eq_false rfl), rfl, rfl, (lenset rfl).symm, rfl, ?_⟩; (conv => whnf)
    refine HT_frzBK 18 3 (enc := eI) (e := 3) default (ElOk_one DC_ok rfl rfl rfl (fun _ => ⟨rfl, rfl⟩)) ?_; (conv => whnf); refine ⟨_, _, _, (Nat.ne_of_beq_eq_false rfl), rfl, rfl, rfl, rfl, ?_⟩; (conv => whnf)
    refine HT_frzBK 18 5 (enc := eTOrdinary) (e := 56) default (ElOk_agg DC_ok rfl rfl (fun _ => rfl) (fun _ => rfl)) ?_; (conv => whnf); refine ⟨_, _, _, (Nat.ne_of_beq_eq_false rfl), rfl, rfl, rfl, rfl, ?_⟩; (conv => whnf)
    refine HT_fd DC_ok mix_ok rfl (by kernel_rfl) fun K hK => ?_; (conv => whnf)
    replace h := W_jn h
    refine nlA rfl ?_; (conv => whnf)
    refine blkK_of rfl ?_; (conv => whnf)
    refine nlA rfl ?_; (conv => whnf)
    replace h := W_bd h
    refine law33_pick_call h16 h (WkL.refl _) (fun _ h => ?_); (conv => whnf)
    replace h := W_bd h
    refine reserve_Safe_call h14 h (WkL.refl _) (fun _ h => ?_); (conv => whnf)
    refine cond_lk h (fun _ h => ?_) (fun _ h => ?_) <;> (conv => whnf)
    · refine nlA rfl ?_; (conv => whnf)
      refine blkK_of rfl ?_; (conv => whnf)
      refine nlA rfl ?_; (conv => whnf)
      replace h := W_bd h
      refine reserve_Safe_call h14 h (WkL.refl _) (fun _ h => ?_); (conv => whnf)
      refine cond_lk h (fun _ h => ?_) (fun _ h => ?_) <;> (conv => whnf)
      · refine nlA rfl ?_; (conv => whnf)
        refine blkK_of rfl ?_; (conv => whnf)
        refine nlA rfl ?_; (conv => whnf)
        replace h := W_bd h
        refine reserve_Safe_call h14 h (WkL.refl _) (fun _ h => ?_); (conv => whnf)
        refine cond_lk h (fun _ h => ?_) (fun _ h => ?_) <;> (conv => whnf)
        · refine nlA rfl ?_; (conv => whnf)
          refine blkK_of rfl ?_; (conv => whnf)
          refine nlA rfl ?_; (conv => whnf)
          replace h := W_bd h
          refine reserve_Safe_call h14 h (WkL.refl _) (fun _ h => ?_); (conv => whnf)
          refine cond_lk h (fun _ h => ?_) (fun _ h => ?_) <;> (conv => whnf)
          · refine nlA rfl ?_; (conv => whnf)
            refine blkK_of rfl ?_; (conv => whnf)
            refine nlA rfl ?_; (conv => whnf)
            replace h := W_bd h
            refine reserve_Safe_call h14 h (WkL.refl _) (fun _ h => ?_); (conv => whnf)
            refine hK _ _ _ ?_; clear hK K
            refine HT_ret ?_
            replace h := W_some h
            refine PostP_r DC_ok fun K hK => ?_; (conv => whnf)
            refine hK _ ?_; clear hK K
            cases h
            exact Wk.refl _
          refine hK _ _ _ ?_; clear hK K
          refine HT_ret ?_
          replace h := W_some h
          refine PostP_r DC_ok fun K hK => ?_; (conv => whnf)
          refine hK _ ?_; clear hK K
          cases h
          exact Wk.refl _
        refine hK _ _ _ ?_; clear hK K
        refine HT_ret ?_
        replace h := W_some h
        refine PostP_r DC_ok fun K hK => ?_; (conv => whnf)
        refine hK _ ?_; clear hK K
        cases h
        exact Wk.refl _
      refine hK _ _ _ ?_; clear hK K
      refine HT_ret ?_
      replace h := W_some h
      refine PostP_r DC_ok fun K hK => ?_; (conv => whnf)
      refine hK _ ?_; clear hK K
      cases h
      exact Wk.refl _
    refine hK _ _ _ ?_; clear hK K
    refine HT_ret ?_
    replace h := W_some h
    refine PostP_r DC_ok fun K hK => ?_; (conv => whnf)
    refine hK _ ?_; clear hK K
    cases h
    exact Wk.refl _
  refine hK2 ?_; clear hK1 hK2 K1 K2
  refine HT_skip ?_
  refine Then_n ?_
  refine HT_fr DC_ok rfl fun K hK => ?_; (conv => whnf)
  refine nlA rfl ?_; (conv => whnf)
  refine blkK_of rfl ?_; (conv => whnf)
  refine getK_of rfl ?_; (conv => whnf)
  replace h := W_bd h
  refine law33_pick_call h16 h (WkL.refl _) (fun _ h => ?_); (conv => whnf)
  refine hK _ _ _ ?_; clear hK K
  refine HT_fr DC_ok rfl fun K hK => ?_; (conv => whnf)
  refine nlA rfl ?_; (conv => whnf)
  refine blkK_of rfl ?_; (conv => whnf)
  refine nlA rfl ?_; (conv => whnf)
  refine callsK_own h19 h (fun y e => (⟨_, rfl, e⟩ : ref33_Copy_S _ _)) (WkL.refl _) (fun _ h => ?_); (conv => whnf)
  refine blkK_of rfl ?_; (conv => whnf)
  refine And.intro rfl (And.intro (nle rfl) (And.intro rfl ?_)); (conv => whnf)
  refine hK _ _ _ ?_; clear hK K
  refine HT_fd DC_ok mix_ok rfl (by kernel_rfl) fun K hK => ?_; (conv => whnf)
  refine nlA rfl ?_; (conv => whnf)
  refine blkK_of rfl ?_; (conv => whnf)
  refine getK_of rfl ?_; (conv => whnf)
  refine nlA rfl ?_; (conv => whnf)
  refine blkK_of rfl ?_; (conv => whnf)
  refine getK_of rfl ?_; (conv => whnf)
  refine gd_lkN h (rfl) fun hx19 h => ?_; (conv => whnf)
  refine nlA rfl ?_; (conv => whnf)
  refine blkK_of rfl ?_; (conv => whnf)
  refine get_flN (enc := eI) (d := default) (q := 0) (fun _ => rfl) (rfl) hx19 (nle rfl) rfl ?_; (conv => whnf)
  replace h := W_bd h
  refine law33_pick_call h16 h (WkL.refl _) (fun _ h => ?_); (conv => whnf)
  refine gd_lkN h (rfl) fun hx20 h => ?_; (conv => whnf)
  refine blkK_of rfl ?_; (conv => whnf)
  refine st_lk (enc := eI) (d := default) (q := 0) h (fun _ => rfl) (rfl) hx20 rfl (nle rfl) rfl rfl (fun h => ?_); (conv => whnf)
  refine hK _ _ _ ?_; clear hK K
  refine HT_fr DC_ok rfl fun K hK => ?_; (conv => whnf)
  refine nlA rfl ?_; (conv => whnf)
  refine blkK_of rfl ?_; (conv => whnf)
  refine nlA rfl ?_; (conv => whnf)
  refine callsK_own h19 h (fun y e => (⟨_, rfl, e⟩ : ref33_Copy_S _ _)) (WkL.refl _) (fun _ h => ?_); (conv => whnf)
  refine blkK_of rfl ?_; (conv => whnf)
  refine And.intro rfl (And.intro (nle rfl) (And.intro rfl ?_)); (conv => whnf)
  refine hK _ _ _ ?_; clear hK K
  refine HT_fd DC_ok mix_ok rfl (by kernel_rfl) fun K hK => ?_; (conv => whnf)
  refine nlA rfl ?_; (conv => whnf)
  refine blkK_of rfl ?_; (conv => whnf)
  refine getK_of rfl ?_; (conv => whnf)
  refine nlA rfl ?_; (conv => whnf)
  refine blkK_of rfl ?_; (conv => whnf)
  refine getK_of rfl ?_; (conv => whnf)
  refine gd_lkN h (rfl) fun hx21 h => ?_; (conv => whnf)
  refine nlA rfl ?_; (conv => whnf)
  refine blkK_of rfl ?_; (conv => whnf)
  refine get_flN (enc := eI) (d := default) (q := 0) (fun _ => rfl) (rfl) hx21 (nle rfl) rfl ?_; (conv => whnf)
  refine nlA rfl ?_; (conv => whnf)
  refine blkK_of rfl ?_; (conv => whnf)
  refine getK_of rfl ?_; (conv => whnf)
  refine gd_lkN h (rfl) fun hx22 h => ?_; (conv => whnf)
  refine nlA rfl ?_; (conv => whnf)
  refine blkK_of rfl ?_; (conv => whnf)
  refine get_flN (enc := eI) (d := default) (q := 0) (fun _ => rfl) (rfl) hx22 (nle rfl) rfl ?_; (conv => whnf)
  replace h := W_bd h
  refine law33_pick_call h16 h (WkL.refl _) (fun _ h => ?_); (conv => whnf)
  refine gd_lkN h (rfl) fun hx23 h => ?_; (conv => whnf)
  refine blkK_of rfl ?_; (conv => whnf)
  refine st_lk (enc := eI) (d := default) (q := 0) h (fun _ => rfl) (rfl) hx23 rfl (nle rfl) rfl rfl (fun h => ?_); (conv => whnf)
  refine hK _ _ _ ?_; clear hK K
  refine HT_frzBK 13 1 (enc := eTEdge) (e := 53) default (ElOk_agg DC_ok rfl rfl (fun _ => rfl) (fun _ => rfl)) ?_; (conv => whnf); refine ⟨_, _, _, (Nat.ne_of_beq_eq_false rfl), rfl, rfl, rfl, rfl, ?_⟩; (conv => whnf)
  refine HT_frzBK 13 2 (enc := eI) (e := 3) default (ElOk_one DC_ok rfl rfl rfl (fun _ => ⟨rfl, rfl⟩)) ?_; (conv => whnf); refine ⟨_, _, _, (Nat.ne_of_beq_eq_false rfl), rfl, rfl, rfl, rfl, ?_⟩; (conv => whnf)
  refine HT_frzBK 13 3 (enc := eI) (e := 3) default (ElOk_one DC_ok rfl rfl rfl (fun _ => ⟨rfl, rfl⟩)) ?_; (conv => whnf); refine ⟨_, _, _, (Nat.ne_of_beq_eq_false rfl), rfl, rfl, rfl, rfl, ?_⟩; (conv => whnf)
  refine HT_frzBK 13 5 (enc := eTOrdinary) (e := 56) default (ElOk_agg DC_ok rfl rfl (fun _ => rfl) (fun _ => rfl)) ?_; (conv => whnf); refine ⟨_, _, _, (Nat.ne_of_beq_eq_false rfl), rfl, rfl, rfl, rfl, ?_⟩; (conv => whnf)
  refine HT_frzBK 14 1 (enc := eTEdge) (e := 53) default (ElOk_agg DC_ok rfl rfl (fun _ => rfl) (fun _ => rfl)) ?_; (conv => whnf); refine ⟨_, _, _, (Nat.ne_of_beq_eq_false rfl), rfl, rfl, rfl, rfl, ?_⟩; (conv => whnf)
  refine HT_frzBK 14 2 (enc := eI) (e := 3) default (ElOk_one DC_ok rfl rfl rfl (fun _ => ⟨rfl, rfl⟩)) ?_; (conv => whnf); refine ⟨_, _, _, (Nat.ne_of_beq_eq_false rfl), rfl, rfl, rfl, rfl, ?_⟩; (conv => whnf)
  refine HT_frzBK 14 3 (enc := eI) (e := 3) default (ElOk_one DC_ok rfl rfl rfl (fun _ => ⟨rfl, rfl⟩)) ?_; (conv => whnf); refine ⟨_, _, _, (Nat.ne_of_beq_eq_false rfl), rfl, rfl, rfl, rfl, ?_⟩; (conv => whnf)
  refine HT_frzBK 14 5 (enc := eTOrdinary) (e := 56) default (ElOk_agg DC_ok rfl rfl (fun _ => rfl) (fun _ => rfl)) ?_; (conv => whnf); refine ⟨_, _, _, (Nat.ne_of_beq_eq_false rfl), rfl, rfl, rfl, rfl, ?_⟩; (conv => whnf)
  refine HT_frzBK 17 1 (enc := eTEdge) (e := 53) default (ElOk_agg DC_ok rfl rfl (fun _ => rfl) (fun _ => rfl)) ?_; (conv => whnf); refine ⟨_, _, _, (Nat.ne_of_beq_eq_false rfl), rfl, rfl, rfl, rfl, ?_⟩; (conv => whnf)
  refine HT_frzBK 17 2 (enc := eI) (e := 3) default (ElOk_one DC_ok rfl rfl rfl (fun _ => ⟨rfl, rfl⟩)) ?_; (conv => whnf); refine ⟨_, _, _, (Nat.ne_of_beq_eq_false rfl), rfl, rfl, rfl, rfl, ?_⟩; (conv => whnf)
  refine HT_frzBK 17 3 (enc := eI) (e := 3) default (ElOk_one DC_ok rfl rfl rfl (fun _ => ⟨rfl, rfl⟩)) ?_; (conv => whnf); refine ⟨_, _, _, (Nat.ne_of_beq_eq_false rfl), rfl, rfl, (lenset rfl).symm, rfl, ?_⟩; (conv => whnf)
  refine HT_frzBK 17 5 (enc := eTOrdinary) (e := 56) default (ElOk_agg DC_ok rfl rfl (fun _ => rfl) (fun _ => rfl)) ?_; (conv => whnf); refine ⟨_, _, _, (Nat.ne_of_beq_eq_false rfl), rfl, rfl, rfl, rfl, ?_⟩; (conv => whnf)
  refine HT_frzBK 18 1 (enc := eTEdge) (e := 53) default (ElOk_agg DC_ok rfl rfl (fun _ => rfl) (fun _ => rfl)) ?_; (conv => whnf); refine ⟨_, _, _, (Nat.ne_of_beq_eq_false rfl), rfl, rfl, rfl, rfl, ?_⟩; (conv => whnf)
  refine HT_frzBK 18 2 (enc := eI) (e := 3) default (ElOk_one DC_ok rfl rfl rfl (fun _ => ⟨rfl, rfl⟩)) ?_; (conv => whnf); refine ⟨_, _, _, (Nat.ne_of_beq_eq_false rfl), rfl, rfl, (lenset rfl).symm, rfl, ?_⟩; (conv => whnf)
  refine HT_frzBK 18 3 (enc := eI) (e := 3) default (ElOk_one DC_ok rfl rfl rfl (fun _ => ⟨rfl, rfl⟩)) ?_; (conv => whnf); refine ⟨_, _, _, (Nat.ne_of_beq_eq_false rfl), rfl, rfl, rfl, rfl, ?_⟩; (conv => whnf)
  refine HT_frzBK 18 5 (enc := eTOrdinary) (e := 56) default (ElOk_agg DC_ok rfl rfl (fun _ => rfl) (fun _ => rfl)) ?_; (conv => whnf); refine ⟨_, _, _, (Nat.ne_of_beq_eq_false rfl), rfl, rfl, rfl, rfl, ?_⟩; (conv => whnf)
  refine HT_fd DC_ok mix_ok rfl (by kernel_rfl) fun K hK => ?_; (conv => whnf)
  replace h := W_jn h
  refine nlA rfl ?_; (conv => whnf)
  refine blkK_of rfl ?_; (conv => whnf)
  refine nlA rfl ?_; (conv => whnf)
  replace h := W_bd h
  refine law33_pick_call h16 h (WkL.refl _) (fun _ h => ?_); (conv => whnf)
  replace h := W_bd h
  refine reserve_Safe_call h14 h (WkL.refl _) (fun _ h => ?_); (conv => whnf)
  refine cond_lk h (fun _ h => ?_) (fun _ h => ?_) <;> (conv => whnf)
  · refine nlA rfl ?_; (conv => whnf)
    refine blkK_of rfl ?_; (conv => whnf)
    refine nlA rfl ?_; (conv => whnf)
    replace h := W_bd h
    refine reserve_Safe_call h14 h (WkL.refl _) (fun _ h => ?_); (conv => whnf)
    refine cond_lk h (fun _ h => ?_) (fun _ h => ?_) <;> (conv => whnf)
    · refine nlA rfl ?_; (conv => whnf)
      refine blkK_of rfl ?_; (conv => whnf)
      refine nlA rfl ?_; (conv => whnf)
      replace h := W_bd h
      refine reserve_Safe_call h14 h (WkL.refl _) (fun _ h => ?_); (conv => whnf)
      refine cond_lk h (fun _ h => ?_) (fun _ h => ?_) <;> (conv => whnf)
      · refine nlA rfl ?_; (conv => whnf)
        refine blkK_of rfl ?_; (conv => whnf)
        refine nlA rfl ?_; (conv => whnf)
        replace h := W_bd h
        refine reserve_Safe_call h14 h (WkL.refl _) (fun _ h => ?_); (conv => whnf)
        refine cond_lk h (fun _ h => ?_) (fun _ h => ?_) <;> (conv => whnf)
        · refine nlA rfl ?_; (conv => whnf)
          refine blkK_of rfl ?_; (conv => whnf)
          refine nlA rfl ?_; (conv => whnf)
          replace h := W_bd h
          refine reserve_Safe_call h14 h (WkL.refl _) (fun _ h => ?_); (conv => whnf)
          refine hK _ _ _ ?_; clear hK K
          refine HT_ret ?_
          replace h := W_some h
          refine PostP_r DC_ok fun K hK => ?_; (conv => whnf)
          refine hK _ ?_; clear hK K
          cases h
          exact Wk.refl _
        refine hK _ _ _ ?_; clear hK K
        refine HT_ret ?_
        replace h := W_some h
        refine PostP_r DC_ok fun K hK => ?_; (conv => whnf)
        refine hK _ ?_; clear hK K
        cases h
        exact Wk.refl _
      refine hK _ _ _ ?_; clear hK K
      refine HT_ret ?_
      replace h := W_some h
      refine PostP_r DC_ok fun K hK => ?_; (conv => whnf)
      refine hK _ ?_; clear hK K
      cases h
      exact Wk.refl _
    refine hK _ _ _ ?_; clear hK K
    refine HT_ret ?_
    replace h := W_some h
    refine PostP_r DC_ok fun K hK => ?_; (conv => whnf)
    refine hK _ ?_; clear hK K
    cases h
    exact Wk.refl _
  refine hK _ _ _ ?_; clear hK K
  refine HT_ret ?_
  replace h := W_some h
  refine PostP_r DC_ok fun K hK => ?_; (conv => whnf)
  refine hK _ ?_; clear hK K
  cases h
  exact Wk.refl _
end Go.Proofs.Ytkjccabdpeldhaa
namespace Go.Proofs.Ytkjccabdpeldhaa
open Go Go.Eng
set_option maxRecDepth 100000
theorem plain5 (a0 : TNumbers) (a1 a2 a3 a4 : Int) (o0 : okTNumbers a0) (o1 : okI a1) (o2 : okI a2) (o3 : okI a3) (o4 : okI a4) : law33_ReserveLess_F a0 a1 a2 a3 a4 = some true := by
  unfold law33_ReserveLess_F
  rw [sane_ok, bd_s]
  simp only [Bool.not_true, cn_f, jn_d]
  obtain ⟨r, e, hr⟩ := made_ok a0 o0
  have h := hr.toRV
  obtain ⟨s, hs, e2⟩ := set_of h o1
  have hn := h.n; have hul := h.ul; have hcl := h.cl; have hft := h.ft
  rw [e, bd_s, gd_p _ (by omega), e2, bd_s]
  obtain ⟨b, e3, hb⟩ := Safe_ok h hs
  rw [e3, bd_s, cn_not]
  cases b
  · rw [cn_f]
  have hS := hb.1 rfl
  rw [cn_t, h.copy, bd_s]
  simp only [bd_s]
  obtain ⟨i1, i2⟩ := pickZ_lt a3 (n := (r.Centres.length : Int)) (by omega)
  obtain ⟨m1, m2⟩ := pickZ_lt a4 (n := 1000) (by omega)
  obtain ⟨i, hi⟩ : ∃ i : Nat, pickZ a3 (r.Centres.length : Int) = (i : Int) := ⟨_, (Int.toNat_of_nonneg i1).symm⟩
  rw [hi] at i2
  have hic : i < r.Centres.length := by omega
  have hiu : i < r.Urgent.length := by omega
  have hcv := hr.c40 _ (getD_mem hic)
  have hcv0 := h.cv _ (getD_mem hic)
  have huv := hr.u5 _ (getD_mem hiu)
  have huv0 := h.uv _ (getD_mem hiu)
  obtain ⟨u1, u2⟩ := pickZ_lt a4 (n := r.Urgent.getD i default + 1) (by omega)
  have tl : ∀ R : TReserve, RV R → R.Calls.length = r.Calls.length → SafeP R s → (bd (law33_pick_F a3 (r.Centres.length : Int)) fun y12 => gd (0 ≤ y12 ∧ y12 < (r.Centres.length : Int)) (bd (law33_pick_F a4 1000) fun y14 =>
    gd (0 ≤ y12 ∧ y12 < (r.Centres.length : Int)) (st r.Centres (y12) (wr ((r.Centres.getD (y12).toNat default) + y14)) fun l15 =>
    gd (0 ≤ y12 ∧ y12 < (r.Urgent.length : Int)) (gd (0 ≤ y12 ∧ y12 < (r.Urgent.length : Int)) (bd (law33_pick_F a4 (wr ((r.Urgent.getD (y12).toNat default) + 1))) fun y17 =>
    gd (0 ≤ y12 ∧ y12 < (r.Urgent.length : Int)) (st r.Urgent (y12) (wr ((r.Urgent.getD (y12).toNat default) - y17)) fun l18 =>
    bd (law33_pick_F a2 64) fun y21 => bd (reserve_Safe_F r (band .i64 (s : Int) y21)) fun y22 =>
    cn y22 (bd (reserve_Safe_F (⟨(⟨r.Net.N, r.Net.Edges⟩ : TNet), r.Urgent, r.Centres, (imax (wr (r.Faults - 1)) 0), r.Calls⟩ : TReserve) (s : Int)) fun y23 =>
    cn y23 (bd (reserve_Safe_F R (s : Int)) fun y24 =>
    cn y24 (bd (reserve_Safe_F (⟨(⟨r.Net.N, r.Net.Edges⟩ : TNet), r.Urgent, l15, r.Faults, r.Calls⟩ : TReserve) (s : Int)) fun y25 =>
    cn y25 (bd (reserve_Safe_F (⟨(⟨r.Net.N, r.Net.Edges⟩ : TNet), l18, r.Centres, r.Faults, r.Calls⟩ : TReserve) (s : Int)) fun y26 =>
    some y26) (some false)) (some false)) (some false)) (some false)))))) : Option Bool) = some true := by
    intro R hR hRk hRs
    rw [pick_law a3 _ o3 (by omega), bd_s, hi, gd_p _ (by omega), pick_law a4 _ o4 (by omega), bd_s, gd_p _ (by omega), st_d, gd_p _ (by omega), gd_p _ (by omega), Int.toNat_natCast, wr_id (x := r.Urgent.getD i default + 1) (by omega) (by omega), pick_law a4 _ o4 (by omega), bd_s, gd_p _ (by omega), st_d, Int.toNat_natCast, wr_id (x := r.Urgent.getD i default - _) (by omega) (by omega), wr_id (x := r.Centres.getD i default + _) (by omega) (by omega), pick_law a2 _ o2 (by omega), bd_s]
    obtain ⟨z1, z2⟩ := pickZ_lt a2 (n := 64) (by omega)
    have hsm := pow_small h hs
    rw [band_nat (by omega) (by omega) z1 (by omega), Int.toNat_natCast]
    generalize pickZ a4 1000 = m at *
    generalize pickZ a4 (r.Urgent.getD i default + 1) = c at *
    have hand : s &&& (pickZ a2 64).toNat ≤ s := Nat.and_le_left
    rw [safe_T h (by omega) (SafeP.sub h hS fun i _ hb => by rw [Nat.testBit_and] at hb; simp at hb; exact hb.1), bd_s, cn_t]
    have f0 : 0 ≤ imax (wr (r.Faults - 1)) 0 ∧ imax (wr (r.Faults - 1)) 0 ≤ r.Faults := by
      rw [wr_id (by omega) (by omega)]; simp only [imax]; split <;> omega
    generalize imax (wr (r.Faults - 1)) 0 = f at f0
    rw [safe_T (h.flt (x := f) (by omega)) hs (Le.safe (r := r) (s := s) h (h.flt (x := f) (by omega)) ⟨rfl, fun _ _ => ⟨rfl, rfl⟩, rfl, fun _ _ => Int.le_refl _, fun _ _ => Int.le_refl _, fun _ _ => Int.le_refl _, f0.2⟩ hS), bd_s, cn_t]
    rw [safe_T hR (by rw [hRk]; exact hs) hRs, bd_s, cn_t]
    have hc := h.cen (k := i) (x := r.Centres.getD i default + m) (by omega)
    rw [safe_T hc hs (Le.safe (r := r) (s := s) h hc ⟨rfl, fun _ _ => ⟨rfl, rfl⟩, rfl, fun _ _ => Int.le_refl _, fun j hj => by
      simp only; rw [getD_set hj]; split
      · rename_i q; subst q; omega
      · exact Int.le_refl _, fun _ _ => Int.le_refl _, Int.le_refl _⟩ hS), bd_s, cn_t]
    have hu := h.urg (k := i) (x := r.Urgent.getD i default - c) (by omega)
    rw [safe_T hu hs (Le.safe (r := r) (s := s) h hu ⟨rfl, fun _ _ => ⟨rfl, rfl⟩, rfl, fun _ _ => Int.le_refl _, fun _ _ => Int.le_refl _, fun j hj => by
      simp only; rw [getD_set hj]; split
      · rename_i q; subst q; omega
      · exact Int.le_refl _, Int.le_refl _⟩ hS), bd_s]
  simp only [cn_dec]
  by_cases q : (r.Net.Edges.length : Int) > 0
  · obtain ⟨k1, k2⟩ := pickZ_lt a3 (n := (r.Net.Edges.length : Int)) (by omega)
    obtain ⟨k, hk⟩ : ∃ k : Nat, pickZ a3 (r.Net.Edges.length : Int) = (k : Int) := ⟨_, (Int.toNat_of_nonneg k1).symm⟩
    rw [hk] at k2
    have hkl : k < r.Net.Edges.length := by omega
    have hcap := hr.c20 _ (getD_mem hkl)
    have hcap0 := cap_bd h hkl
    rw [if_pos q, pick_law a3 _ o3 (by omega), bd_s, hk, gd_p _ (by omega), pick_law a4 _ o4 (by omega), bd_s, gd_p _ (by omega), st_d, Int.toNat_natCast, wr_id (x := (r.Net.Edges.getD k default).Capacity + pickZ a4 1000) (by omega) (by omega)]
    have hR : RV ⟨⟨r.Net.N, r.Net.Edges.set k ⟨(r.Net.Edges.getD k default).From, (r.Net.Edges.getD k default).To, (r.Net.Edges.getD k default).Capacity + pickZ a4 1000⟩⟩, r.Urgent, r.Centres, r.Faults, r.Calls⟩ := h.edg (by simp) fun i hi => by
      rw [getD_set hi]
      have := cap_bd h hi
      split
      · rename_i q; subst q; exact ⟨rfl, rfl, by simp only; omega, by simp only; omega⟩
      · exact ⟨rfl, rfl, this.1, this.2⟩
    have := tl _ hR rfl (Le.safe (r := r) (s := s) h hR ⟨by simp, fun i hi => by
      simp only; rw [getD_set hi]; split
      · rename_i q; subst q; exact ⟨rfl, rfl⟩
      · exact ⟨rfl, rfl⟩, rfl, fun i hi => by
      unfold capN
      simp only; rw [getD_set hi]; split
      · rename_i q; subst q; simp only; omega
      · exact Int.le_refl _, fun _ _ => Int.le_refl _, fun _ _ => Int.le_refl _, Int.le_refl _⟩ hS)
    rw [pick_law a4 1000 o4 (by omega)] at this
    exact this
  · rw [if_neg q]
    exact tl _ h rfl hS
end Go.Proofs.Ytkjccabdpeldhaa
