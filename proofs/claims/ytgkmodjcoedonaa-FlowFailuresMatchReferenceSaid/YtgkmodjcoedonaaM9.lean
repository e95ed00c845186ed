import Derived.Test.YtgkmodjcoedonaaM7
import Derived.Test.YtgkmodjcoedonaaM8
set_option linter.unusedVariables false
set_option linter.unusedSimpArgs false
set_option linter.unusedSectionVars false
namespace Go.Proofs.Ytgkmodjcoedonaa
open Go Go.Eng
set_option maxHeartbeats 0
set_option maxRecDepth 100000

   def law27_FlowFailuresMatchReference_b5 (e8 : TNet) (e39 : List Int) (l46 : List TSupply) (s47 : Int) : Option (Ct Int Bool) := cn (decide (s47 < (l46.length : Int))) (ix l46 default s47 fun e48 =>
   bd (flow_CheckMeet_F e8 e39 e48) fun y49 => bd (ref27_CheckMeet_F e8 e39 e48) fun y50 => cn (!(y49 == y50)) (some (.rt false)) (some (.nx (wr (s47 + 1))))) (some (.bk s47))
theorem W_blaw27_FlowFailuresMatchReference_b5 {e8 : TNet} {e39 : List Int} {l46 : List TSupply} {s47 : Int} {Φ : Ct Int Bool → Prop} (h : W (law27_FlowFailuresMatchReference_b5 e8 e39 l46 s47) Φ) : W (cn (decide (s47 < (l46.length : Int))) (ix l46 default s47 fun e48 => bd (flow_CheckMeet_F e8 e39 e48) fun y49 => bd (ref27_CheckMeet_F e8 e39 e48) fun y50 => cn (!(y49 ==
   y50)) (some (.rt false)) (some (.nx (wr (s47 + 1))))) (some (.bk s47))) Φ := h

   def law27_FlowFailuresMatchReference_b4 (a2 : Int × Int × Int) (a9 : TSupply) (e8 : TNet) (l4 : List Int) (l37 : List (List Int)) (s38 : Int) : Option (Ct Int Bool) := cn (decide (s38 < (l37.length : Int))) (ix l37 default s38 fun e39 =>
   bd (flow_Meet_F e8 e39) fun y40 => bd (ref27_Supplies_F e8 e39) fun y41 => jn (fun p42 : Bool =>
   cn p42 (some (.rt false)) (bd (ref27_BentList_F y40.1.Amounts a2.2.1 a2.1 a2.2.2) fun y45 =>
   lt ([y40.1, (⟨y40.1.Met, y45, y40.1.Set⟩ : TSupply), (⟨a9.Met, l4, a9.Set⟩ : TSupply), (⟨y40.1.Met, y40.1.Amounts, a9.Set⟩ : TSupply), (⟨(!y40.1.Met), y40.1.Amounts, y40.1.Set⟩ : TSupply)] : List TSupply) fun l46 =>
   bd (lp (law27_FlowFailuresMatchReference_b5 e8 e39 l46) FU 0) fun c51 => smK c51 (fun s52 => some (.nx (wr (s38 + 1)))) (fun r53 => some (.rt r53)))) fun k43 => cn (!((y40.2 ==
   0) == y41)) (k43 true) (cn y41 (bd (ref27_Refuted_F e8 e39) fun y44 => cn (y40.1.Met == y44) (k43 true) (cn (y40.2 != 0) (cn (y40.2 !=
   270) (k43 true) (cn y40.1.Met (k43 true) (cn (decide ((y40.1.Amounts.length : Int) > 0)) (k43 true) (k43 (y40.1.Set != 0))))) (k43 false))) (cn (y40.2 != 0) (cn (y40.2 !=
   270) (k43 true) (cn y40.1.Met (k43 true) (cn (decide ((y40.1.Amounts.length : Int) > 0)) (k43 true) (k43 (y40.1.Set != 0))))) (k43 false)))) (some (.bk s38))
theorem W_blaw27_FlowFailuresMatchReference_b4 {a2 : Int × Int × Int} {a9 : TSupply} {e8 : TNet} {l4 : List Int} {l37 : List (List Int)} {s38 : Int} {Φ : Ct Int Bool → Prop} (h : W (law27_FlowFailuresMatchReference_b4 a2 a9 e8 l4 l37 s38) Φ) : W (cn (decide (s38 < (l37.length : Int))) (ix l37 default s38 fun e39 => bd (flow_Meet_F e8 e39) fun y40 => bd (ref27_Supplies_F e8 e39) fun y41 => jn (fun p42 : Bool =>
   cn p42 (some (.rt false)) (bd (ref27_BentList_F y40.1.Amounts a2.2.1 a2.1 a2.2.2) fun y45 =>
   lt ([y40.1, (⟨y40.1.Met, y45, y40.1.Set⟩ : TSupply), (⟨a9.Met, l4, a9.Set⟩ : TSupply), (⟨y40.1.Met, y40.1.Amounts, a9.Set⟩ : TSupply), (⟨(!y40.1.Met), y40.1.Amounts, y40.1.Set⟩ : TSupply)] : List TSupply) fun l46 =>
   bd (lp (law27_FlowFailuresMatchReference_b5 e8 e39 l46) FU 0) fun c51 => smK c51 (fun s52 => some (.nx (wr (s38 + 1)))) (fun r53 => some (.rt r53)))) fun k43 => cn (!((y40.2 ==
   0) == y41)) (k43 true) (cn y41 (bd (ref27_Refuted_F e8 e39) fun y44 => cn (y40.1.Met == y44) (k43 true) (cn (y40.2 != 0) (cn (y40.2 !=
   270) (k43 true) (cn y40.1.Met (k43 true) (cn (decide ((y40.1.Amounts.length : Int) > 0)) (k43 true) (k43 (y40.1.Set != 0))))) (k43 false))) (cn (y40.2 != 0) (cn (y40.2 !=
   270) (k43 true) (cn y40.1.Met (k43 true) (cn (decide ((y40.1.Amounts.length : Int) > 0)) (k43 true) (k43 (y40.1.Set != 0))))) (k43 false)))) (some (.bk s38))) Φ := h

   def law27_FlowFailuresMatchReference_b3 (e8 : TNet) (e12 : Int × Int × Int) (l23 : List TFailure) (s24 : Int) : Option (Ct Int Bool) := cn (decide (s24 < (l23.length : Int))) (ix l23 default s24 fun e25 =>
   bd (flow_CheckWorst_F e8 e12.1 e12.2.1 e12.2.2 e25) fun y26 => bd (ref27_CheckWorst_F e8 e12.1 e12.2.1 e12.2.2 e25) fun y27 => cn (!(y26 ==
   y27)) (some (.rt false)) (some (.nx (wr (s24 + 1))))) (some (.bk s24))
theorem W_blaw27_FlowFailuresMatchReference_b3 {e8 : TNet} {e12 : Int × Int × Int} {l23 : List TFailure} {s24 : Int} {Φ : Ct Int Bool → Prop} (h : W (law27_FlowFailuresMatchReference_b3 e8 e12 l23 s24) Φ) : W (cn (decide (s24 < (l23.length : Int))) (ix l23 default s24 fun e25 => bd (flow_CheckWorst_F e8 e12.1 e12.2.1 e12.2.2 e25) fun y26 =>
   bd (ref27_CheckWorst_F e8 e12.1 e12.2.1 e12.2.2 e25) fun y27 => cn (!(y26 == y27)) (some (.rt false)) (some (.nx (wr (s24 + 1))))) (some (.bk s24))) Φ := h

   def law27_FlowFailuresMatchReference_b2 (a2 : Int × Int × Int) (a6 : TFailure) (e8 : TNet) (l10 : List (Int × Int × Int)) (s11 : Int) : Option (Ct Int Bool) := cn (decide (s11 < (l10.length : Int))) (ix l10 default s11 fun e12 =>
   bd (flow_Worst_F e8 e12.1 e12.2.1 e12.2.2) fun y13 => jn (fun p14 : Bool => jn (fun p17 : Bool => cn p17 (some (.rt false)) (bd (law27_pick_F a2.2.2 16) fun y21 =>
   gd (0 ≤ y21) (bd (law27_pick_F a2.1 3) fun y22 =>
   lt ([y13.1, (⟨(bxor .i64 y13.1.Failed (bshl .i64 1 y21)), y13.1.Value, y13.1.Cut⟩ : TFailure), (⟨y13.1.Failed, (wr ((wr (y13.1.Value + y22)) - 1)), y13.1.Cut⟩ : TFailure), a6, (⟨y13.1.Failed, y13.1.Value, a6.Cut⟩ : TFailure)] : List TFailure) fun l23 =>
   bd (lp (law27_FlowFailuresMatchReference_b3 e8 e12 l23) FU 0) fun c28 => smK c28 (fun s29 => some (.nx (wr (s11 + 1)))) (fun r30 => some (.rt r30))))) fun k18 => cn (!((y13.2 ==
   0) == p14)) (k18 true) (cn (y13.2 != 0) (cn (y13.2 != 270) (k18 true) (cn (!((y13.1.Failed == 0) && ((y13.1.Value == 0) && (y13.1.Cut ==
   0)))) (k18 true) (cn p14 (bd (ref27_Worst_F e8 e12.1 e12.2.1 e12.2.2) fun y19 => k18 (y13.1.Value !=
   y19)) (k18 false)))) (cn p14 (bd (ref27_Worst_F e8 e12.1 e12.2.1 e12.2.2) fun y20 => k18 (y13.1.Value != y20)) (k18 false)))) fun k15 =>
   bd (ref27_Ends_F e8 e12.1 e12.2.1) fun y16 => cn y16 (cn (decide (e12.2.2 ≥ 0)) (k15 (decide (e12.2.2 ≤ 3))) (k15 false)) (k15 false)) (some (.bk s11))
theorem W_blaw27_FlowFailuresMatchReference_b2 {a2 : Int × Int × Int} {a6 : TFailure} {e8 : TNet} {l10 : List (Int × Int × Int)} {s11 : Int} {Φ : Ct Int Bool → Prop} (h : W (law27_FlowFailuresMatchReference_b2 a2 a6 e8 l10 s11) Φ) : W (cn (decide (s11 < (l10.length : Int))) (ix l10 default s11 fun e12 => bd (flow_Worst_F e8 e12.1 e12.2.1 e12.2.2) fun y13 => jn (fun p14 : Bool => jn (fun p17 : Bool =>
   cn p17 (some (.rt false)) (bd (law27_pick_F a2.2.2 16) fun y21 => gd (0 ≤ y21) (bd (law27_pick_F a2.1 3) fun y22 =>
   lt ([y13.1, (⟨(bxor .i64 y13.1.Failed (bshl .i64 1 y21)), y13.1.Value, y13.1.Cut⟩ : TFailure), (⟨y13.1.Failed, (wr ((wr (y13.1.Value + y22)) - 1)), y13.1.Cut⟩ : TFailure), a6, (⟨y13.1.Failed, y13.1.Value, a6.Cut⟩ : TFailure)] : List TFailure) fun l23 =>
   bd (lp (law27_FlowFailuresMatchReference_b3 e8 e12 l23) FU 0) fun c28 => smK c28 (fun s29 => some (.nx (wr (s11 + 1)))) (fun r30 => some (.rt r30))))) fun k18 => cn (!((y13.2 ==
   0) == p14)) (k18 true) (cn (y13.2 != 0) (cn (y13.2 != 270) (k18 true) (cn (!((y13.1.Failed == 0) && ((y13.1.Value == 0) && (y13.1.Cut ==
   0)))) (k18 true) (cn p14 (bd (ref27_Worst_F e8 e12.1 e12.2.1 e12.2.2) fun y19 => k18 (y13.1.Value !=
   y19)) (k18 false)))) (cn p14 (bd (ref27_Worst_F e8 e12.1 e12.2.1 e12.2.2) fun y20 => k18 (y13.1.Value != y20)) (k18 false)))) fun k15 =>
   bd (ref27_Ends_F e8 e12.1 e12.2.1) fun y16 => cn y16 (cn (decide (e12.2.2 ≥ 0)) (k15 (decide (e12.2.2 ≤ 3))) (k15 false)) (k15 false)) (some (.bk s11))) Φ := h

   def law27_FlowFailuresMatchReference_b1 (a2 : Int × Int × Int) (a3 : Int) (a4 : Int) (a5 : Int) (a6 : TFailure) (a7 : List Int) (a8 : List Int) (a9 : TSupply) (l4 : List Int) (l6 : List TNet) (y2 : TNet) (y3 : Int × Int) (s7 : Int) : Option (Ct Int Bool) := cn (decide (s7 < (l6.length : Int))) (ix l6 default s7 fun e8 =>
   bd (law27_pick_F a5 4) fun y9 => lt ([(y3.1, y3.2, y9), (a3, a4, a5)] : List (Int × Int × Int)) fun l10 =>
   bd (lp (law27_FlowFailuresMatchReference_b2 a2 a6 e8 l10) FU 0) fun c31 => smK c31 (fun s32 => bd (ref27_Supplied_F y2 a7) fun y34 =>
   bd (ref27_BentList_F y34 a2.1 a2.2.1 a2.2.2) fun y35 => slc a8 0 (imin (a8.length : Int) 13) fun l36 => lt ([y34, y35, l36] : List (List Int)) fun l37 =>
   bd (lp (law27_FlowFailuresMatchReference_b4 a2 a9 e8 l4 l37) FU 0) fun c54 => smK c54 (fun s55 => some (.nx (wr (s7 + 1)))) (fun r56 => some (.rt r56))) (fun r33 =>
   some (.rt r33))) (some (.bk s7))
theorem W_blaw27_FlowFailuresMatchReference_b1 {a2 : Int × Int × Int} {a3 : Int} {a4 : Int} {a5 : Int} {a6 : TFailure} {a7 : List Int} {a8 : List Int} {a9 : TSupply} {l4 : List Int} {l6 : List TNet} {y2 : TNet} {y3 : Int × Int} {s7 : Int} {Φ : Ct Int Bool → Prop} (h : W (law27_FlowFailuresMatchReference_b1 a2 a3 a4 a5 a6 a7 a8 a9 l4 l6 y2 y3 s7) Φ) : W (cn (decide (s7 < (l6.length : Int))) (ix l6 default s7 fun e8 => bd (law27_pick_F a5 4) fun y9 => lt ([(y3.1, y3.2, y9), (a3, a4, a5)] : List (Int × Int × Int)) fun l10 =>
   bd (lp (law27_FlowFailuresMatchReference_b2 a2 a6 e8 l10) FU 0) fun c31 => smK c31 (fun s32 => bd (ref27_Supplied_F y2 a7) fun y34 =>
   bd (ref27_BentList_F y34 a2.1 a2.2.1 a2.2.2) fun y35 => slc a8 0 (imin (a8.length : Int) 13) fun l36 => lt ([y34, y35, l36] : List (List Int)) fun l37 =>
   bd (lp (law27_FlowFailuresMatchReference_b4 a2 a9 e8 l4 l37) FU 0) fun c54 => smK c54 (fun s55 => some (.nx (wr (s7 + 1)))) (fun r56 => some (.rt r56))) (fun r33 =>
   some (.rt r33))) (some (.bk s7))) Φ := h

   def law27_FlowFailuresMatchReference_F (a0 : Int) (a1 : List (Int × Int × Int)) (a2 : Int × Int × Int) (a3 : Int) (a4 : Int) (a5 : Int) (a6 : TFailure) (a7 : List Int) (a8 : List Int) (a9 : TSupply) : Option Bool := bd (law27_sane_F ) fun y1 =>
   cn (!y1) (some false) (bd (ref27_Made_F a0 a1) fun y2 => bd (law27_ends_F y2 a3 a4) fun y3 => slc a9.Amounts 0 (imin (a9.Amounts.length : Int) 41) fun l4 =>
   bd (ref27_Bent_F y2 a2.1 a2.2.1 a2.2.2) fun y5 => lt ([y2, y5] : List TNet) fun l6 =>
   bd (lp (law27_FlowFailuresMatchReference_b1 a2 a3 a4 a5 a6 a7 a8 a9 l4 l6 y2 y3) FU 0) fun c57 => smK c57 (fun s58 => some true) (fun r59 => some r59))
def law27_FlowFailuresMatchReference_S : List AV → AV → Prop := fun args r => ∃ a0 a1 a2 a3 a4 a5 a6 a7 a8 a9, args = [eI a0, (eL 3 eA23 default) a1, eA23 a2, eI a3, eI a4, eI a5, eTFailure a6, (eL 1 eI default) a7, (eL 1 eI default) a8, eTSupply a9] ∧ W (law27_FlowFailuresMatchReference_F a0 a1 a2 a3 a4 a5 a6 a7 a8 a9) fun y => r = (eB y)
theorem law27_FlowFailuresMatchReference_ok {T : Tbl} (hT : TOk Try.prog T) (hpf : PfOk T PF) (h14 : T 14 = pureR law27_sane_S) (h15 : T 15 = pureR ref27_Made_S) (h16 : T 16 = pureR law27_ends_S) (h17 : T 17 = pureR ref27_Bent_S) (h22 : T 22 = pureR ref27_Ends_S) (h25 : T 25 = pureR ref27_BentList_S) (h27 : T 27 = pureR law27_pick_S) (h33 : T 33 = pureR flow_Worst_S) (h34 : T 34 = pureR ref27_Worst_S) (h35 : T 35 = pureR flow_CheckWorst_S) (h36 : T 36 = pureR ref27_CheckWorst_S) (h37 : T 37 = pureR ref27_Supplied_S) (h38 : T 38 = pureR flow_Meet_S) (h39 : T 39 = pureR ref27_Supplies_S) (h40 : T 40 = pureR ref27_Refuted_S) (h41 : T 41 = pureR flow_CheckMeet_S) (h42 : T 42 = pureR ref27_CheckMeet_S) : FOk Try.prog 4 (pureR law27_FlowFailuresMatchReference_S) := by
 refine FOk_pure hT hpf Try.func4 rfl Try.ntmps4 Try.results4 (by decide) ?_
 rintro args r ⟨a0, a1, a2, a3, a4, a5, a6, a7, a8, a9, rfl, h⟩
 refine ⟨nle rfl, ?_, ?_⟩
 · exact (lsC (lsI _ _) (lsC (lsL fun _ => (lo_A23 _)) (lsC (lo_A23 _) (lsC (lsI _ _) (lsC (lsI _ _) (lsC (lsI _ _) (lsC (lo_TFailure _) (lsC (lsL fun _ => (lsI _ _)) (lsC (lsL fun _ => (lsI _ _)) (lsC (lo_TSupply _) loose_nil))))))))))
 rw [law27_FlowFailuresMatchReference_F.eq_1] at h
 refine HT_fr dCo rfl fun K hK => ?_; conv => whnf
 refine hK _ _ _ ?_; clear hK K
 refine HT_seq ?_
 refine HT_fr dCo rfl fun K hK => ?_; conv => whnf
 replace h := W_bd h
 refine law27_sane_call h14 h (WkL.refl _) (fun _ h => ?_); conv => whnf
 refine hK _ _ _ ?_; clear hK K
 refine HT_if fun K1 K2 hK1 hK2 => ?_; conv => whnf
 refine cond_lk h (fun _ h => ?_) (fun _ h => ?_)
 · refine hK1 ?_; clear hK1 hK2 K1 K2
   refine HT_fr dCo rfl fun K hK => ?_; conv => whnf
   refine hK _ _ _ ?_; clear hK K
   refine HT_ret ?_
   refine Then_r ?_
   replace h := W_some h
   refine PostP_r dCo fun K hK => ?_; conv => whnf
   refine hK _ ?_; clear hK K
   cases h
   exact Wk.refl _
 refine hK2 ?_; clear hK1 hK2 K1 K2
 refine HT_skip ?_
 refine Then_n ?_
 refine HT_fr dCo rfl fun K hK => ?_; conv => whnf
 replace h := W_bd h
 refine ref27_Made_call h15 h (WkL.refl _) (fun _ h => ?_); conv => whnf
 refine bKo rfl ?_; conv => whnf
 refine And.intro rfl (And.intro (nle rfl) (And.intro rfl ?_)); conv => whnf
 refine hK _ _ _ ?_; clear hK K
 refine HT_fr dCo rfl fun K hK => ?_; conv => whnf
 refine nlA rfl ?_; conv => whnf
 refine bKo rfl ?_; conv => whnf
 refine nlA rfl ?_; conv => whnf
 replace h := W_bd h
 refine law27_ends_call h16 h (WkL.refl _) (fun _ h => ?_); conv => whnf
 refine hK _ _ _ ?_; clear hK K
 refine HT_fr dCo rfl fun K hK => ?_; conv => whnf
 refine nlA rfl ?_; conv => whnf
 refine bKo rfl ?_; conv => whnf
 refine getK_of rfl ?_; conv => whnf
 refine nlA rfl ?_; conv => whnf
 refine bKo rfl ?_; conv => whnf
 refine getK_of rfl ?_; conv => whnf
 refine sl_lk h (.inl ⟨rfl, rfl⟩) (.inr ⟨_, rfl⟩) (fun h => ?_); conv => whnf
 refine bKo rfl ?_; conv => whnf
 refine And.intro rfl (And.intro (nle rfl) (And.intro rfl ?_)); conv => whnf
 refine hK _ _ _ ?_; clear hK K
 refine HT_seq ?_
 refine HT_fd dCo mix_ok rfl (by kernel_rfl) fun K hK => ?_; conv => whnf
 refine nlA rfl ?_; conv => whnf
 refine bKo rfl ?_; conv => whnf
 refine nlA rfl ?_; conv => whnf
 refine nlA rfl ?_; conv => whnf
 refine bKo rfl ?_; conv => whnf
 refine nlA rfl ?_; conv => whnf
 refine And.intro (by decide) ?_; conv => whnf
 refine nlA rfl ?_; conv => whnf
 refine bKo rfl ?_; conv => whnf
 refine getK_of rfl ?_; conv => whnf
 refine And.intro (by decide) ?_; conv => whnf
 refine nlA rfl ?_; conv => whnf
 refine bKo rfl ?_; conv => whnf
 refine getK_of rfl ?_; conv => whnf
 refine And.intro (by decide) ?_; conv => whnf
 refine nlA rfl ?_; conv => whnf
 refine bKo rfl ?_; conv => whnf
 refine getK_of rfl ?_; conv => whnf
 replace h := W_bd h
 refine ref27_Bent_call h17 h (WkL.refl _) (fun _ h => ?_); conv => whnf
 refine lt_lk (enc := eTNet) (d := default) dCo h rfl rfl rfl ⟨nle rfl, nle rfl, rfl⟩ rfl ⟨⟨rfl, nle rfl⟩, ⟨⟨rfl, nle rfl⟩, trivial⟩⟩ (fun h => ?_); conv => whnf
 refine hK _ _ _ ?_; clear hK K
 refine HT_block ?_
 replace h := W_bd h
 refine HT_lpK (body := law27_FlowFailuresMatchReference_b1 _ _ _ _ _ _ _ _ _ _ _ _) rfl h [3, 4, 5, 7, 8, 12, 16, 19, 21, 22, 23, 73, 74] [12, 16, 19, 21] [] (fun kl kh ids b s => ⟨ofL ([(75, eI s)] ++ kl), ofH ([] ++ kh), b + 64⟩) ?_; (conv => whnf); refine And.intro ?_ (fun s m h => HT_st ?_)
 · refine weak_k ?_; conv => whnf
   exact And.intro rfl (And.intro (aLc wkI (aLc wkI (aLc wkI (aLc wkI (aLc (wkr (lsL fun _ => (lsI _ _))) (aLc (wkr (lsL fun _ => (lsI _ _))) (aLc (WkR.ptr (fun _ => rfl)) (aLc (WkR.ptr (fun _ => rfl)) (aLc (WkR.ptr (fun _ => rfl)) (aLc (WkR.ptr (fun _ => rfl)) (aLc wkI (aLc wkI (aLc (wkr (loose_lstc fun _ => (lo_TNet _))) (aLc wkI aLn)))))))))))))) (aLc ⟨some _, rfl, BkR_c rfl (cKc wkI (cKc wkI (cKc wkI cKn)))⟩ (aLc ⟨some _, rfl, BkR_c rfl (cKc wkI (cKc wkI (cKc wkI cKn)))⟩ (aLc ⟨some _, rfl, BkR_c rfl (cKc (wkr (lsB _)) (cKc (wkr (lsL fun _ => (lsI _ _))) (cKc wkI cKn)))⟩ (aLc ⟨some _, rfl, BkR_c rfl (cKc wkI (cKc (wkr (lsL fun _ => (lo_TEdge _))) cKn))⟩ aLn)))))
 replace h := W_blaw27_FlowFailuresMatchReference_b1 (W_bd h)
 refine HT_fr dCo rfl fun K hK => ?_; conv => whnf
 refine hK _ _ _ ?_; clear hK K
 refine HT_seq ?_
 refine HT_if fun K1 K2 hK1 hK2 => ?_; conv => whnf
 refine cond_lk h (fun _ h => ?_) (fun _ h => ?_)
 · refine hK1 ?_; clear hK1 hK2 K1 K2
   refine HT_skip ?_
   refine Then_n ?_
   refine HT_seq ?_
   refine HT_block ?_
   refine HT_fr dCo rfl fun K hK => ?_; conv => whnf
   refine ix_lk h fun _ h => ?_; conv => whnf
   refine nlA rfl ?_; conv => whnf
   refine bKo rfl ?_; conv => whnf
   refine And.intro rfl (And.intro (nle rfl) (And.intro rfl ?_)); conv => whnf
   refine hK _ _ _ ?_; clear hK K
   refine HT_seq ?_
   refine HT_fr dCo rfl fun K hK => ?_; conv => whnf
   replace h := W_bd h
   refine law27_pick_call h27 h (WkL.refl _) (fun _ h => ?_); conv => whnf
   refine lt_lk (enc := eA23) (d := default) dCo h rfl rfl rfl ⟨nle rfl, nle rfl, rfl⟩ rfl ⟨⟨rfl, nle rfl⟩, ⟨⟨rfl, nle rfl⟩, trivial⟩⟩ (fun h => ?_); conv => whnf
   refine hK _ _ _ ?_; clear hK K
   refine HT_block ?_
   replace h := W_bd h
   refine HT_lpK (body := law27_FlowFailuresMatchReference_b2 _ _ _ _) rfl h [3, 4, 5, 7, 8, 12, 16, 19, 21, 22, 23, 25, 73, 74, 75, 88, 89] [12, 16, 19, 21, 25] [] (fun kl kh ids b s => ⟨ofL ([(90, eI s)] ++ kl), ofH ([] ++ kh), b + 64⟩) ?_; (conv => whnf); refine And.intro ?_ (fun s m h => HT_st ?_)
   · refine weak_k ?_; conv => whnf
     exact And.intro rfl (And.intro (aLc wkI (aLc wkI (aLc wkI (aLc wkI (aLc (wkr (lsL fun _ => (lsI _ _))) (aLc (wkr (lsL fun _ => (lsI _ _))) (aLc (WkR.ptr (fun _ => rfl)) (aLc (WkR.ptr (fun _ => rfl)) (aLc (WkR.ptr (fun _ => rfl)) (aLc (WkR.ptr (fun _ => rfl)) (aLc wkI (aLc wkI (aLc (WkR.ptr (fun _ => rfl)) (aLc (wkr (loose_lstc fun _ => (lo_TNet _))) (aLc wkI (aLc wkI (aLc (wkr (loose_lstc fun _ => (lo_A23 _))) (aLc wkI aLn)))))))))))))))))) (aLc ⟨some _, rfl, BkR_c rfl (cKc wkI (cKc wkI (cKc wkI cKn)))⟩ (aLc ⟨some _, rfl, BkR_c rfl (cKc wkI (cKc wkI (cKc wkI cKn)))⟩ (aLc ⟨some _, rfl, BkR_c rfl (cKc (wkr (lsB _)) (cKc (wkr (lsL fun _ => (lsI _ _))) (cKc wkI cKn)))⟩ (aLc ⟨some _, rfl, BkR_c rfl (cKc wkI (cKc (wkr (lsL fun _ => (lo_TEdge _))) cKn))⟩ (aLc ⟨some _, rfl, BkR_c rfl (cKc wkI (cKc (wkr (lsL fun _ => (lo_TEdge _))) cKn))⟩ aLn))))))
   replace h := W_blaw27_FlowFailuresMatchReference_b2 (W_bd h)
   refine HT_fr dCo rfl fun K hK => ?_; conv => whnf
   refine hK _ _ _ ?_; clear hK K
   refine HT_seq ?_
   refine HT_if fun K1 K2 hK1 hK2 => ?_; conv => whnf
   refine cond_lk h (fun _ h => ?_) (fun _ h => ?_)
   · refine hK1 ?_; clear hK1 hK2 K1 K2
     refine HT_skip ?_
     refine Then_n ?_
     refine HT_seq ?_
     refine HT_block ?_
     refine HT_fr dCo rfl fun K hK => ?_; conv => whnf
     refine ix_lk h fun _ h => ?_; conv => whnf
     refine nlA rfl ?_; conv => whnf
     refine bKo rfl ?_; conv => whnf
     refine And.intro rfl (And.intro (nle rfl) (And.intro rfl ?_)); conv => whnf
     refine hK _ _ _ ?_; clear hK K
     refine HT_fr dCo rfl fun K hK => ?_; conv => whnf
     refine nlA rfl ?_; conv => whnf
     refine bKo rfl ?_; conv => whnf
     refine nlA rfl ?_; conv => whnf
     refine And.intro (by decide) ?_; conv => whnf
     refine nlA rfl ?_; conv => whnf
     refine bKo rfl ?_; conv => whnf
     refine getK_of rfl ?_; conv => whnf
     refine And.intro (by decide) ?_; conv => whnf
     refine nlA rfl ?_; conv => whnf
     refine bKo rfl ?_; conv => whnf
     refine getK_of rfl ?_; conv => whnf
     refine And.intro (by decide) ?_; conv => whnf
     refine nlA rfl ?_; conv => whnf
     refine bKo rfl ?_; conv => whnf
     refine getK_of rfl ?_; conv => whnf
     replace h := W_bd h
     refine flow_Worst_call h33 h (WkL.refl _) (fun _ h => ?_); conv => whnf
     refine bKo rfl ?_; conv => whnf
     refine And.intro rfl (And.intro (nle rfl) (And.intro rfl ?_)); conv => whnf
     refine hK _ _ _ ?_; clear hK K
     refine HT_jnK rfl h [3, 4, 5, 7, 8, 12, 16, 19, 21, 22, 23, 25, 27, 28, 29, 73, 74, 75, 88, 89, 90] [12, 16, 19, 21, 25, 27, 28] [] (fun kl kh ids b s => ⟨ofL ([(30, eB s)] ++ kl), ofH ([] ++ kh), b + 64⟩) ?_; (conv => whnf); refine And.intro (fun s h => HT_st ?_) (fun k h => ?_)
     · refine HT_seq ?_
       refine HT_jnK rfl h [3, 4, 5, 7, 8, 12, 16, 19, 21, 22, 23, 25, 27, 28, 73, 74, 75, 88, 89, 90] [12, 16, 19, 21, 25, 27, 28] [] (fun kl kh ids b s => ⟨ofL ([(153, eB s)] ++ kl), ofH ([] ++ kh), b + 64⟩) ?_; (conv => whnf); refine And.intro (fun s h => HT_st ?_) (fun k h => ?_)
       · refine HT_if fun K1 K2 hK1 hK2 => ?_; conv => whnf
         refine cond_lk h (fun _ h => ?_) (fun _ h => ?_)
         · refine hK1 ?_; clear hK1 hK2 K1 K2
           refine HT_fr dCo rfl fun K hK => ?_; conv => whnf
           refine hK _ _ _ ?_; clear hK K
           refine HT_ret ?_
           refine Then_r ?_
           refine InBlock_r ?_
           refine Then_r ?_
           refine Then_r ?_
           refine InBlock_r ?_
           refine Then_r ?_
           refine InBlock_r ?_
           refine Then_r ?_
           refine Then_r ?_
           refine InBlock_r ?_
           refine Then_r ?_
           replace h := W_xrt h
           replace h := W_inr h
           replace h := W_xrt h
           replace h := W_inr h
           replace h := W_some h
           refine PostP_r dCo fun K hK => ?_; conv => whnf
           refine hK _ ?_; clear hK K
           cases h
           exact Wk.refl _
         refine hK2 ?_; clear hK1 hK2 K1 K2
         refine HT_skip ?_
         refine Then_n ?_
         refine HT_fr dCo rfl fun K hK => ?_; conv => whnf
         refine nlA rfl ?_; conv => whnf
         refine bKo rfl ?_; conv => whnf
         refine nlA rfl ?_; conv => whnf
         refine bKo rfl ?_; conv => whnf
         refine And.intro rfl (And.intro (nle rfl) (And.intro rfl ?_)); conv => whnf
         refine hK _ _ _ ?_; clear hK K
         refine HT_fd dCo mix_ok rfl (by kernel_rfl) fun K hK => ?_; conv => whnf
         refine nlA rfl ?_; conv => whnf
         refine bKo rfl ?_; conv => whnf
         refine getK_of rfl ?_; conv => whnf
         refine And.intro (by decide) ?_; conv => whnf
         refine nlA rfl ?_; conv => whnf
         refine bKo rfl ?_; conv => whnf
         refine getK_of rfl ?_; conv => whnf
         replace h := W_bd h
         refine law27_pick_call h27 h (WkL.refl _) (fun _ h => ?_); conv => whnf
         refine gd_lk h fun _ h => ?_; conv => whnf
         refine bKo rfl ?_; conv => whnf
         refine And.intro rfl (And.intro (nle rfl) (And.intro rfl ?_)); conv => whnf
         refine hK _ _ _ ?_; clear hK K
         refine HT_fr dCo rfl fun K hK => ?_; conv => whnf
         refine nlA rfl ?_; conv => whnf
         refine bKo rfl ?_; conv => whnf
         refine nlA rfl ?_; conv => whnf
         refine bKo rfl ?_; conv => whnf
         refine And.intro rfl (And.intro (nle rfl) (And.intro rfl ?_)); conv => whnf
         refine hK _ _ _ ?_; clear hK K
         refine HT_fd dCo mix_ok rfl (by kernel_rfl) fun K hK => ?_; conv => whnf
         refine nlA rfl ?_; conv => whnf
         refine bKo rfl ?_; conv => whnf
         refine getK_of rfl ?_; conv => whnf
         refine And.intro (by decide) ?_; conv => whnf
         refine nlA rfl ?_; conv => whnf
         refine bKo rfl ?_; conv => whnf
         refine getK_of rfl ?_; conv => whnf
         replace h := W_bd h
         refine law27_pick_call h27 h (WkL.refl _) (fun _ h => ?_); conv => whnf
         refine bKo rfl ?_; conv => whnf
         refine And.intro rfl (And.intro (nle rfl) (And.intro rfl ?_)); conv => whnf
         refine hK _ _ _ ?_; clear hK K
         refine HT_fr dCo rfl fun K hK => ?_; conv => whnf
         refine nlA rfl ?_; conv => whnf
         refine bKo rfl ?_; conv => whnf
         refine nlA rfl ?_; conv => whnf
         refine nlA rfl ?_; conv => whnf
         refine bKo rfl ?_; conv => whnf
         refine nlA rfl ?_; conv => whnf
         refine nlA rfl ?_; conv => whnf
         refine bKo rfl ?_; conv => whnf
         refine nlA rfl ?_; conv => whnf
         refine nlA rfl ?_; conv => whnf
         refine bKo rfl ?_; conv => whnf
         refine nlA rfl ?_; conv => whnf
         refine nlA rfl ?_; conv => whnf
         refine bKo rfl ?_; conv => whnf
         refine getK_of rfl ?_; conv => whnf
         refine nlA rfl ?_; conv => whnf
         refine bKo rfl ?_; conv => whnf
         refine getK_of rfl ?_; conv => whnf
         refine nlA rfl ?_; conv => whnf
         refine bKo rfl ?_; conv => whnf
         refine getK_of rfl ?_; conv => whnf
         refine lt_lk (enc := eTFailure) (d := default) dCo h rfl rfl rfl ⟨nle rfl, nle rfl, rfl⟩ rfl ⟨⟨rfl, nle rfl⟩, ⟨⟨rfl, nle rfl⟩, ⟨⟨rfl, nle rfl⟩, ⟨⟨rfl, nle rfl⟩, ⟨⟨rfl, nle rfl⟩, trivial⟩⟩⟩⟩⟩ (fun h => ?_); conv => whnf
         refine hK _ _ _ ?_; clear hK K
         refine HT_block ?_
         replace h := W_bd h
         refine HT_lpK (body := law27_FlowFailuresMatchReference_b3 _ _ _) rfl h [3, 4, 5, 7, 8, 12, 16, 19, 21, 22, 23, 25, 27, 73, 74, 75, 88, 89, 90, 183, 184] [12, 16, 19, 21, 25, 27] [] (fun kl kh ids b s => ⟨ofL ([(185, eI s)] ++ kl), ofH ([] ++ kh), b + 64⟩) ?_; (conv => whnf); refine And.intro ?_ (fun s m h => HT_st ?_)
         · refine weak_k ?_; conv => whnf
           exact And.intro rfl (And.intro (aLc wkI (aLc wkI (aLc wkI (aLc wkI (aLc (wkr (lsL fun _ => (lsI _ _))) (aLc (wkr (lsL fun _ => (lsI _ _))) (aLc (WkR.ptr (fun _ => rfl)) (aLc (WkR.ptr (fun _ => rfl)) (aLc (WkR.ptr (fun _ => rfl)) (aLc (WkR.ptr (fun _ => rfl)) (aLc wkI (aLc wkI (aLc (WkR.ptr (fun _ => rfl)) (aLc (WkR.ptr (fun _ => rfl)) (aLc (wkr (loose_lstc fun _ => (lo_TNet _))) (aLc wkI (aLc wkI (aLc (wkr (loose_lstc fun _ => (lo_A23 _))) (aLc wkI (aLc wkI (aLc (wkr (loose_lstc fun _ => (lo_TFailure _))) (aLc wkI aLn)))))))))))))))))))))) (aLc ⟨some _, rfl, BkR_c rfl (cKc wkI (cKc wkI (cKc wkI cKn)))⟩ (aLc ⟨some _, rfl, BkR_c rfl (cKc wkI (cKc wkI (cKc wkI cKn)))⟩ (aLc ⟨some _, rfl, BkR_c rfl (cKc (wkr (lsB _)) (cKc (wkr (lsL fun _ => (lsI _ _))) (cKc wkI cKn)))⟩ (aLc ⟨some _, rfl, BkR_c rfl (cKc wkI (cKc (wkr (lsL fun _ => (lo_TEdge _))) cKn))⟩ (aLc ⟨some _, rfl, BkR_c rfl (cKc wkI (cKc (wkr (lsL fun _ => (lo_TEdge _))) cKn))⟩ (aLc ⟨some _, rfl, BkR_c rfl (cKc wkI (cKc wkI (cKc wkI cKn)))⟩ aLn)))))))
         replace h := W_blaw27_FlowFailuresMatchReference_b3 (W_bd h)
         refine HT_fr dCo rfl fun K hK => ?_; conv => whnf
         refine hK _ _ _ ?_; clear hK K
         refine HT_seq ?_
         refine HT_if fun K1 K2 hK1 hK2 => ?_; conv => whnf
         refine cond_lk h (fun _ h => ?_) (fun _ h => ?_)
         · refine hK1 ?_; clear hK1 hK2 K1 K2
           refine HT_skip ?_
           refine Then_n ?_
           refine HT_seq ?_
           refine HT_block ?_
           refine HT_fr dCo rfl fun K hK => ?_; conv => whnf
           refine ix_lk h fun _ h => ?_; conv => whnf
           refine nlA rfl ?_; conv => whnf
           refine bKo rfl ?_; conv => whnf
           refine And.intro rfl (And.intro (nle rfl) (And.intro rfl ?_)); conv => whnf
           refine hK _ _ _ ?_; clear hK K
           refine HT_fd dCo mix_ok rfl (by kernel_rfl) fun K hK => ?_; conv => whnf
           refine nlA rfl ?_; conv => whnf
           refine bKo rfl ?_; conv => whnf
           refine nlA rfl ?_; conv => whnf
           refine And.intro (by decide) ?_; conv => whnf
           refine nlA rfl ?_; conv => whnf
           refine bKo rfl ?_; conv => whnf
           refine getK_of rfl ?_; conv => whnf
           refine And.intro (by decide) ?_; conv => whnf
           refine nlA rfl ?_; conv => whnf
           refine bKo rfl ?_; conv => whnf
           refine getK_of rfl ?_; conv => whnf
           refine And.intro (by decide) ?_; conv => whnf
           refine nlA rfl ?_; conv => whnf
           refine bKo rfl ?_; conv => whnf
           refine getK_of rfl ?_; conv => whnf
           refine nlA rfl ?_; conv => whnf
           refine bKo rfl ?_; conv => whnf
           refine nlA rfl ?_; conv => whnf
           replace h := W_bd h
           refine flow_CheckWorst_call h35 h (WkL.refl _) (fun _ h => ?_); conv => whnf
           refine nlA rfl ?_; conv => whnf
           refine bKo rfl ?_; conv => whnf
           refine nlA rfl ?_; conv => whnf
           refine And.intro (by decide) ?_; conv => whnf
           refine nlA rfl ?_; conv => whnf
           refine bKo rfl ?_; conv => whnf
           refine getK_of rfl ?_; conv => whnf
           refine And.intro (by decide) ?_; conv => whnf
           refine nlA rfl ?_; conv => whnf
           refine bKo rfl ?_; conv => whnf
           refine getK_of rfl ?_; conv => whnf
           refine And.intro (by decide) ?_; conv => whnf
           refine nlA rfl ?_; conv => whnf
           refine bKo rfl ?_; conv => whnf
           refine getK_of rfl ?_; conv => whnf
           refine nlA rfl ?_; conv => whnf
           refine bKo rfl ?_; conv => whnf
           refine nlA rfl ?_; conv => whnf
           replace h := W_bd h
           refine ref27_CheckWorst_call h36 h (WkL.refl _) (fun _ h => ?_); conv => whnf
           refine eqK_n (eqv_bool dCo rfl _ _) ?_; conv => whnf
           refine hK _ _ _ ?_; clear hK K
           refine HT_if fun K1 K2 hK1 hK2 => ?_; conv => whnf
           refine cond_lk h (fun _ h => ?_) (fun _ h => ?_)
           · refine hK1 ?_; clear hK1 hK2 K1 K2
             refine HT_fr dCo rfl fun K hK => ?_; conv => whnf
             refine hK _ _ _ ?_; clear hK K
             refine HT_ret ?_
             refine InBlock_r ?_
             refine Then_r ?_
             refine Then_r ?_
             refine InBlock_r ?_
             refine InBlock_r ?_
             refine Then_r ?_
             refine Then_r ?_
             refine InBlock_r ?_
             refine Then_r ?_
             refine InBlock_r ?_
             refine Then_r ?_
             refine Then_r ?_
             refine InBlock_r ?_
             refine Then_r ?_
             replace h := W_xrt h
             replace h := W_inr h
             replace h := W_xrt h
             replace h := W_inr h
             replace h := W_xrt h
             replace h := W_inr h
             replace h := W_some h
             refine PostP_r dCo fun K hK => ?_; conv => whnf
             refine hK _ ?_; clear hK K
             cases h
             exact Wk.refl _
           refine hK2 ?_; clear hK1 hK2 K1 K2
           refine HT_skip ?_
           refine InBlock_n ?_
           refine Then_n ?_
           refine HT_f dCo rfl fun K hK => ?_; conv => whnf
           refine hK _ _ _ ?_; clear hK K
           refine Then_n ?_
           replace h := W_xnx h
           refine ⟨_, h, ?_⟩
           refine weak_k ?_; conv => whnf
           exact And.intro rfl (And.intro (aLc wkI (aLc wkI (aLc wkI (aLc wkI (aLc (wkr (lsL fun _ => (lsI _ _))) (aLc (wkr (lsL fun _ => (lsI _ _))) (aLc (WkR.ptr (fun _ => rfl)) (aLc (WkR.ptr (fun _ => rfl)) (aLc (WkR.ptr (fun _ => rfl)) (aLc (WkR.ptr (fun _ => rfl)) (aLc wkI (aLc wkI (aLc (WkR.ptr (fun _ => rfl)) (aLc (WkR.ptr (fun _ => rfl)) (aLc (wkr (loose_lstc fun _ => (lo_TNet _))) (aLc wkI (aLc wkI (aLc (wkr (loose_lstc fun _ => (lo_A23 _))) (aLc wkI (aLc wkI (aLc (wkr (loose_lstc fun _ => (lo_TFailure _))) (aLc wkI aLn)))))))))))))))))))))) (aLc ⟨some _, rfl, BkR_c rfl (cKc wkI (cKc wkI (cKc wkI cKn)))⟩ (aLc ⟨some _, rfl, BkR_c rfl (cKc wkI (cKc wkI (cKc wkI cKn)))⟩ (aLc ⟨some _, rfl, BkR_c rfl (cKc (wkr (lsB _)) (cKc (wkr (lsL fun _ => (lsI _ _))) (cKc wkI cKn)))⟩ (aLc ⟨some _, rfl, BkR_c rfl (cKc wkI (cKc (wkr (lsL fun _ => (lo_TEdge _))) cKn))⟩ (aLc ⟨some _, rfl, BkR_c rfl (cKc wkI (cKc (wkr (lsL fun _ => (lo_TEdge _))) cKn))⟩ (aLc ⟨some _, rfl, BkR_c rfl (cKc wkI (cKc wkI (cKc wkI cKn)))⟩ aLn)))))))
         refine hK2 ?_; clear hK1 hK2 K1 K2
         refine HT_exit ?_
         refine Then_e ?_
         refine Then_e ?_
         refine InBlock_e ?_
         replace h := W_xbk h
         replace h := W_inl h
         refine InBlock_n ?_
         refine Then_n ?_
         refine HT_f dCo rfl fun K hK => ?_; conv => whnf
         refine hK _ _ _ ?_; clear hK K
         refine Then_n ?_
         replace h := W_xnx h
         refine ⟨_, h, ?_⟩
         refine weak_k ?_; conv => whnf
         exact And.intro rfl (And.intro (aLc wkI (aLc wkI (aLc wkI (aLc wkI (aLc (wkr (lsL fun _ => (lsI _ _))) (aLc (wkr (lsL fun _ => (lsI _ _))) (aLc (WkR.ptr (fun _ => rfl)) (aLc (WkR.ptr (fun _ => rfl)) (aLc (WkR.ptr (fun _ => rfl)) (aLc (WkR.ptr (fun _ => rfl)) (aLc wkI (aLc wkI (aLc (WkR.ptr (fun _ => rfl)) (aLc (wkr (loose_lstc fun _ => (lo_TNet _))) (aLc wkI (aLc wkI (aLc (wkr (loose_lstc fun _ => (lo_A23 _))) (aLc wkI aLn)))))))))))))))))) (aLc ⟨some _, rfl, BkR_c rfl (cKc wkI (cKc wkI (cKc wkI cKn)))⟩ (aLc ⟨some _, rfl, BkR_c rfl (cKc wkI (cKc wkI (cKc wkI cKn)))⟩ (aLc ⟨some _, rfl, BkR_c rfl (cKc (wkr (lsB _)) (cKc (wkr (lsL fun _ => (lsI _ _))) (cKc wkI cKn)))⟩ (aLc ⟨some _, rfl, BkR_c rfl (cKc wkI (cKc (wkr (lsL fun _ => (lo_TEdge _))) cKn))⟩ (aLc ⟨some _, rfl, BkR_c rfl (cKc wkI (cKc (wkr (lsL fun _ => (lo_TEdge _))) cKn))⟩ aLn))))))
       refine HT_fD dCo mix_ok rfl (by kernel_rfl) fun K hK => ?_; conv => whnf
       refine eqK_n (eqv_bool dCo rfl _ _) ?_; conv => whnf
       refine cond_lk h (fun _ h => ?_) (fun _ h => ?_) <;> (conv => whnf)
       · refine hK _ _ _ ?_; clear hK K
         refine Then_n ?_
         refine ⟨_, h, ?_⟩
         refine weak_k ?_; conv => whnf
         exact And.intro rfl (And.intro (aLc (wkr (lsB _)) (aLc wkI (aLc wkI (aLc wkI (aLc (wkr (lsL fun _ => (lsI _ _))) (aLc (wkr (lsL fun _ => (lsI _ _))) (aLc (WkR.ptr (fun _ => rfl)) (aLc (WkR.ptr (fun _ => rfl)) (aLc (WkR.ptr (fun _ => rfl)) (aLc (WkR.ptr (fun _ => rfl)) (aLc wkI (aLc wkI (aLc (WkR.ptr (fun _ => rfl)) (aLc (WkR.ptr (fun _ => rfl)) (aLc (WkR.ptr (fun _ => rfl)) (aLc (wkr (loose_lstc fun _ => (lo_TNet _))) (aLc wkI (aLc wkI (aLc (wkr (loose_lstc fun _ => (lo_A23 _))) (aLc wkI (aLc wkI aLn))))))))))))))))))))) (aLc ⟨some _, rfl, BkR_c rfl (cKc wkI (cKc wkI (cKc wkI cKn)))⟩ (aLc ⟨some _, rfl, BkR_c rfl (cKc wkI (cKc wkI (cKc wkI cKn)))⟩ (aLc ⟨some _, rfl, BkR_c rfl (cKc (wkr (lsB _)) (cKc (wkr (lsL fun _ => (lsI _ _))) (cKc wkI cKn)))⟩ (aLc ⟨some _, rfl, BkR_c rfl (cKc wkI (cKc (wkr (lsL fun _ => (lo_TEdge _))) cKn))⟩ (aLc ⟨some _, rfl, BkR_c rfl (cKc wkI (cKc (wkr (lsL fun _ => (lo_TEdge _))) cKn))⟩ (aLc ⟨some _, rfl, BkR_c rfl (cKc wkI (cKc wkI (cKc wkI cKn)))⟩ (aLc ⟨some _, rfl, BkR_c rfl (cKc wkI (cKc wkI (cKc wkI cKn)))⟩ aLn))))))))
       refine cond_lk h (fun _ h => ?_) (fun _ h => ?_) <;> (conv => whnf)
       · refine cond_lk h (fun _ h => ?_) (fun _ h => ?_) <;> (conv => whnf)
         · refine hK _ _ _ ?_; clear hK K
           refine Then_n ?_
           refine ⟨_, h, ?_⟩
           refine weak_k ?_; conv => whnf
           exact And.intro rfl (And.intro (aLc (wkr (lsB _)) (aLc wkI (aLc wkI (aLc wkI (aLc (wkr (lsL fun _ => (lsI _ _))) (aLc (wkr (lsL fun _ => (lsI _ _))) (aLc (WkR.ptr (fun _ => rfl)) (aLc (WkR.ptr (fun _ => rfl)) (aLc (WkR.ptr (fun _ => rfl)) (aLc (WkR.ptr (fun _ => rfl)) (aLc wkI (aLc wkI (aLc (WkR.ptr (fun _ => rfl)) (aLc (WkR.ptr (fun _ => rfl)) (aLc (WkR.ptr (fun _ => rfl)) (aLc (wkr (loose_lstc fun _ => (lo_TNet _))) (aLc wkI (aLc wkI (aLc (wkr (loose_lstc fun _ => (lo_A23 _))) (aLc wkI (aLc wkI aLn))))))))))))))))))))) (aLc ⟨some _, rfl, BkR_c rfl (cKc wkI (cKc wkI (cKc wkI cKn)))⟩ (aLc ⟨some _, rfl, BkR_c rfl (cKc wkI (cKc wkI (cKc wkI cKn)))⟩ (aLc ⟨some _, rfl, BkR_c rfl (cKc (wkr (lsB _)) (cKc (wkr (lsL fun _ => (lsI _ _))) (cKc wkI cKn)))⟩ (aLc ⟨some _, rfl, BkR_c rfl (cKc wkI (cKc (wkr (lsL fun _ => (lo_TEdge _))) cKn))⟩ (aLc ⟨some _, rfl, BkR_c rfl (cKc wkI (cKc (wkr (lsL fun _ => (lo_TEdge _))) cKn))⟩ (aLc ⟨some _, rfl, BkR_c rfl (cKc wkI (cKc wkI (cKc wkI cKn)))⟩ (aLc ⟨some _, rfl, BkR_c rfl (cKc wkI (cKc wkI (cKc wkI cKn)))⟩ aLn))))))))
         refine nlA rfl ?_; conv => whnf
         refine bKo rfl ?_; conv => whnf
         refine nlA rfl ?_; conv => whnf
         refine eqK_n (eqv53 _ _ _ _ _ _) ?_; conv => whnf
         refine cond_lk h (fun _ h => ?_) (fun _ h => ?_) <;> (conv => whnf)
         · refine hK _ _ _ ?_; clear hK K
           refine Then_n ?_
           refine ⟨_, h, ?_⟩
           refine weak_k ?_; conv => whnf
           exact And.intro rfl (And.intro (aLc (wkr (lsB _)) (aLc wkI (aLc wkI (aLc wkI (aLc (wkr (lsL fun _ => (lsI _ _))) (aLc (wkr (lsL fun _ => (lsI _ _))) (aLc (WkR.ptr (fun _ => rfl)) (aLc (WkR.ptr (fun _ => rfl)) (aLc (WkR.ptr (fun _ => rfl)) (aLc (WkR.ptr (fun _ => rfl)) (aLc wkI (aLc wkI (aLc (WkR.ptr (fun _ => rfl)) (aLc (WkR.ptr (fun _ => rfl)) (aLc (WkR.ptr (fun _ => rfl)) (aLc (wkr (loose_lstc fun _ => (lo_TNet _))) (aLc wkI (aLc wkI (aLc (wkr (loose_lstc fun _ => (lo_A23 _))) (aLc wkI (aLc wkI aLn))))))))))))))))))))) (aLc ⟨some _, rfl, BkR_c rfl (cKc wkI (cKc wkI (cKc wkI cKn)))⟩ (aLc ⟨some _, rfl, BkR_c rfl (cKc wkI (cKc wkI (cKc wkI cKn)))⟩ (aLc ⟨some _, rfl, BkR_c rfl (cKc (wkr (lsB _)) (cKc (wkr (lsL fun _ => (lsI _ _))) (cKc wkI cKn)))⟩ (aLc ⟨some _, rfl, BkR_c rfl (cKc wkI (cKc (wkr (lsL fun _ => (lo_TEdge _))) cKn))⟩ (aLc ⟨some _, rfl, BkR_c rfl (cKc wkI (cKc (wkr (lsL fun _ => (lo_TEdge _))) cKn))⟩ (aLc ⟨some _, rfl, BkR_c rfl (cKc wkI (cKc wkI (cKc wkI cKn)))⟩ (aLc ⟨some _, rfl, BkR_c rfl (cKc wkI (cKc wkI (cKc wkI cKn)))⟩ aLn))))))))
         refine cond_lk h (fun _ h => ?_) (fun _ h => ?_) <;> (conv => whnf)
         · refine nlA rfl ?_; conv => whnf
           refine bKo rfl ?_; conv => whnf
           refine getK_of rfl ?_; conv => whnf
           refine nlA rfl ?_; conv => whnf
           refine bKo rfl ?_; conv => whnf
           refine nlA rfl ?_; conv => whnf
           refine And.intro (by decide) ?_; conv => whnf
           refine nlA rfl ?_; conv => whnf
           refine bKo rfl ?_; conv => whnf
           refine getK_of rfl ?_; conv => whnf
           refine And.intro (by decide) ?_; conv => whnf
           refine nlA rfl ?_; conv => whnf
           refine bKo rfl ?_; conv => whnf
           refine getK_of rfl ?_; conv => whnf
           refine And.intro (by decide) ?_; conv => whnf
           refine nlA rfl ?_; conv => whnf
           refine bKo rfl ?_; conv => whnf
           refine getK_of rfl ?_; conv => whnf
           replace h := W_bd h
           refine ref27_Worst_call h34 h (WkL.refl _) (fun _ h => ?_); conv => whnf
           refine hK _ _ _ ?_; clear hK K
           refine Then_n ?_
           refine ⟨_, h, ?_⟩
           refine weak_k ?_; conv => whnf
           exact And.intro rfl (And.intro (aLc (wkr (lsB _)) (aLc wkI (aLc wkI (aLc wkI (aLc (wkr (lsL fun _ => (lsI _ _))) (aLc (wkr (lsL fun _ => (lsI _ _))) (aLc (WkR.ptr (fun _ => rfl)) (aLc (WkR.ptr (fun _ => rfl)) (aLc (WkR.ptr (fun _ => rfl)) (aLc (WkR.ptr (fun _ => rfl)) (aLc wkI (aLc wkI (aLc (WkR.ptr (fun _ => rfl)) (aLc (WkR.ptr (fun _ => rfl)) (aLc (WkR.ptr (fun _ => rfl)) (aLc (wkr (loose_lstc fun _ => (lo_TNet _))) (aLc wkI (aLc wkI (aLc (wkr (loose_lstc fun _ => (lo_A23 _))) (aLc wkI (aLc wkI aLn))))))))))))))))))))) (aLc ⟨some _, rfl, BkR_c rfl (cKc wkI (cKc wkI (cKc wkI cKn)))⟩ (aLc ⟨some _, rfl, BkR_c rfl (cKc wkI (cKc wkI (cKc wkI cKn)))⟩ (aLc ⟨some _, rfl, BkR_c rfl (cKc (wkr (lsB _)) (cKc (wkr (lsL fun _ => (lsI _ _))) (cKc wkI cKn)))⟩ (aLc ⟨some _, rfl, BkR_c rfl (cKc wkI (cKc (wkr (lsL fun _ => (lo_TEdge _))) cKn))⟩ (aLc ⟨some _, rfl, BkR_c rfl (cKc wkI (cKc (wkr (lsL fun _ => (lo_TEdge _))) cKn))⟩ (aLc ⟨some _, rfl, BkR_c rfl (cKc wkI (cKc wkI (cKc wkI cKn)))⟩ (aLc ⟨some _, rfl, BkR_c rfl (cKc wkI (cKc wkI (cKc wkI cKn)))⟩ aLn))))))))
         refine hK _ _ _ ?_; clear hK K
         refine Then_n ?_
         refine ⟨_, h, ?_⟩
         refine weak_k ?_; conv => whnf
         exact And.intro rfl (And.intro (aLc (wkr (lsB _)) (aLc wkI (aLc wkI (aLc wkI (aLc (wkr (lsL fun _ => (lsI _ _))) (aLc (wkr (lsL fun _ => (lsI _ _))) (aLc (WkR.ptr (fun _ => rfl)) (aLc (WkR.ptr (fun _ => rfl)) (aLc (WkR.ptr (fun _ => rfl)) (aLc (WkR.ptr (fun _ => rfl)) (aLc wkI (aLc wkI (aLc (WkR.ptr (fun _ => rfl)) (aLc (WkR.ptr (fun _ => rfl)) (aLc (WkR.ptr (fun _ => rfl)) (aLc (wkr (loose_lstc fun _ => (lo_TNet _))) (aLc wkI (aLc wkI (aLc (wkr (loose_lstc fun _ => (lo_A23 _))) (aLc wkI (aLc wkI aLn))))))))))))))))))))) (aLc ⟨some _, rfl, BkR_c rfl (cKc wkI (cKc wkI (cKc wkI cKn)))⟩ (aLc ⟨some _, rfl, BkR_c rfl (cKc wkI (cKc wkI (cKc wkI cKn)))⟩ (aLc ⟨some _, rfl, BkR_c rfl (cKc (wkr (lsB _)) (cKc (wkr (lsL fun _ => (lsI _ _))) (cKc wkI cKn)))⟩ (aLc ⟨some _, rfl, BkR_c rfl (cKc wkI (cKc (wkr (lsL fun _ => (lo_TEdge _))) cKn))⟩ (aLc ⟨some _, rfl, BkR_c rfl (cKc wkI (cKc (wkr (lsL fun _ => (lo_TEdge _))) cKn))⟩ (aLc ⟨some _, rfl, BkR_c rfl (cKc wkI (cKc wkI (cKc wkI cKn)))⟩ (aLc ⟨some _, rfl, BkR_c rfl (cKc wkI (cKc wkI (cKc wkI cKn)))⟩ aLn))))))))
       refine cond_lk h (fun _ h => ?_) (fun _ h => ?_) <;> (conv => whnf)
       · refine nlA rfl ?_; conv => whnf
         refine bKo rfl ?_; conv => whnf
         refine getK_of rfl ?_; conv => whnf
         refine nlA rfl ?_; conv => whnf
         refine bKo rfl ?_; conv => whnf
         refine nlA rfl ?_; conv => whnf
         refine And.intro (by decide) ?_; conv => whnf
         refine nlA rfl ?_; conv => whnf
         refine bKo rfl ?_; conv => whnf
         refine getK_of rfl ?_; conv => whnf
         refine And.intro (by decide) ?_; conv => whnf
         refine nlA rfl ?_; conv => whnf
         refine bKo rfl ?_; conv => whnf
         refine getK_of rfl ?_; conv => whnf
         refine And.intro (by decide) ?_; conv => whnf
         refine nlA rfl ?_; conv => whnf
         refine bKo rfl ?_; conv => whnf
         refine getK_of rfl ?_; conv => whnf
         replace h := W_bd h
         refine ref27_Worst_call h34 h (WkL.refl _) (fun _ h => ?_); conv => whnf
         refine hK _ _ _ ?_; clear hK K
         refine Then_n ?_
         refine ⟨_, h, ?_⟩
         refine weak_k ?_; conv => whnf
         exact And.intro rfl (And.intro (aLc (wkr (lsB _)) (aLc wkI (aLc wkI (aLc wkI (aLc (wkr (lsL fun _ => (lsI _ _))) (aLc (wkr (lsL fun _ => (lsI _ _))) (aLc (WkR.ptr (fun _ => rfl)) (aLc (WkR.ptr (fun _ => rfl)) (aLc (WkR.ptr (fun _ => rfl)) (aLc (WkR.ptr (fun _ => rfl)) (aLc wkI (aLc wkI (aLc (WkR.ptr (fun _ => rfl)) (aLc (WkR.ptr (fun _ => rfl)) (aLc (WkR.ptr (fun _ => rfl)) (aLc (wkr (loose_lstc fun _ => (lo_TNet _))) (aLc wkI (aLc wkI (aLc (wkr (loose_lstc fun _ => (lo_A23 _))) (aLc wkI (aLc wkI aLn))))))))))))))))))))) (aLc ⟨some _, rfl, BkR_c rfl (cKc wkI (cKc wkI (cKc wkI cKn)))⟩ (aLc ⟨some _, rfl, BkR_c rfl (cKc wkI (cKc wkI (cKc wkI cKn)))⟩ (aLc ⟨some _, rfl, BkR_c rfl (cKc (wkr (lsB _)) (cKc (wkr (lsL fun _ => (lsI _ _))) (cKc wkI cKn)))⟩ (aLc ⟨some _, rfl, BkR_c rfl (cKc wkI (cKc (wkr (lsL fun _ => (lo_TEdge _))) cKn))⟩ (aLc ⟨some _, rfl, BkR_c rfl (cKc wkI (cKc (wkr (lsL fun _ => (lo_TEdge _))) cKn))⟩ (aLc ⟨some _, rfl, BkR_c rfl (cKc wkI (cKc wkI (cKc wkI cKn)))⟩ (aLc ⟨some _, rfl, BkR_c rfl (cKc wkI (cKc wkI (cKc wkI cKn)))⟩ aLn))))))))
       refine hK _ _ _ ?_; clear hK K
       refine Then_n ?_
       refine ⟨_, h, ?_⟩
       refine weak_k ?_; conv => whnf
       exact And.intro rfl (And.intro (aLc (wkr (lsB _)) (aLc wkI (aLc wkI (aLc wkI (aLc (wkr (lsL fun _ => (lsI _ _))) (aLc (wkr (lsL fun _ => (lsI _ _))) (aLc (WkR.ptr (fun _ => rfl)) (aLc (WkR.ptr (fun _ => rfl)) (aLc (WkR.ptr (fun _ => rfl)) (aLc (WkR.ptr (fun _ => rfl)) (aLc wkI (aLc wkI (aLc (WkR.ptr (fun _ => rfl)) (aLc (WkR.ptr (fun _ => rfl)) (aLc (WkR.ptr (fun _ => rfl)) (aLc (wkr (loose_lstc fun _ => (lo_TNet _))) (aLc wkI (aLc wkI (aLc (wkr (loose_lstc fun _ => (lo_A23 _))) (aLc wkI (aLc wkI aLn))))))))))))))))))))) (aLc ⟨some _, rfl, BkR_c rfl (cKc wkI (cKc wkI (cKc wkI cKn)))⟩ (aLc ⟨some _, rfl, BkR_c rfl (cKc wkI (cKc wkI (cKc wkI cKn)))⟩ (aLc ⟨some _, rfl, BkR_c rfl (cKc (wkr (lsB _)) (cKc (wkr (lsL fun _ => (lsI _ _))) (cKc wkI cKn)))⟩ (aLc ⟨some _, rfl, BkR_c rfl (cKc wkI (cKc (wkr (lsL fun _ => (lo_TEdge _))) cKn))⟩ (aLc ⟨some _, rfl, BkR_c rfl (cKc wkI (cKc (wkr (lsL fun _ => (lo_TEdge _))) cKn))⟩ (aLc ⟨some _, rfl, BkR_c rfl (cKc wkI (cKc wkI (cKc wkI cKn)))⟩ (aLc ⟨some _, rfl, BkR_c rfl (cKc wkI (cKc wkI (cKc wkI cKn)))⟩ aLn))))))))
     refine HT_f dCo rfl fun K hK => ?_; conv => whnf
     refine nlA rfl ?_; conv => whnf
     refine bKo rfl ?_; conv => whnf
     refine nlA rfl ?_; conv => whnf
     refine And.intro (by decide) ?_; conv => whnf
     refine nlA rfl ?_; conv => whnf
     refine bKo rfl ?_; conv => whnf
     refine getK_of rfl ?_; conv => whnf
     refine And.intro (by decide) ?_; conv => whnf
     refine nlA rfl ?_; conv => whnf
     refine bKo rfl ?_; conv => whnf
     refine getK_of rfl ?_; conv => whnf
     replace h := W_bd h
     refine ref27_Ends_call h22 h (WkL.refl _) (fun _ h => ?_); conv => whnf
     refine cond_lk h (fun _ h => ?_) (fun _ h => ?_) <;> (conv => whnf)
     · refine And.intro (by decide) ?_; conv => whnf
       refine nlA rfl ?_; conv => whnf
       refine bKo rfl ?_; conv => whnf
       refine getK_of rfl ?_; conv => whnf
       refine cond_lk h (fun _ h => ?_) (fun _ h => ?_) <;> (conv => whnf)
       · refine And.intro (by decide) ?_; conv => whnf
         refine nlA rfl ?_; conv => whnf
         refine bKo rfl ?_; conv => whnf
         refine getK_of rfl ?_; conv => whnf
         refine hK _ _ _ ?_; clear hK K
         refine Then_n ?_
         refine ⟨_, h, ?_⟩
         refine weak_k ?_; conv => whnf
         exact And.intro rfl (And.intro (aLc (wkr (lsB _)) (aLc wkI (aLc wkI (aLc wkI (aLc (wkr (lsL fun _ => (lsI _ _))) (aLc (wkr (lsL fun _ => (lsI _ _))) (aLc (WkR.ptr (fun _ => rfl)) (aLc (WkR.ptr (fun _ => rfl)) (aLc (WkR.ptr (fun _ => rfl)) (aLc (WkR.ptr (fun _ => rfl)) (aLc wkI (aLc wkI (aLc (WkR.ptr (fun _ => rfl)) (aLc (WkR.ptr (fun _ => rfl)) (aLc (WkR.ptr (fun _ => rfl)) (aLc wkI (aLc (wkr (loose_lstc fun _ => (lo_TNet _))) (aLc wkI (aLc wkI (aLc (wkr (loose_lstc fun _ => (lo_A23 _))) (aLc wkI (aLc wkI aLn)))))))))))))))))))))) (aLc ⟨some _, rfl, BkR_c rfl (cKc wkI (cKc wkI (cKc wkI cKn)))⟩ (aLc ⟨some _, rfl, BkR_c rfl (cKc wkI (cKc wkI (cKc wkI cKn)))⟩ (aLc ⟨some _, rfl, BkR_c rfl (cKc (wkr (lsB _)) (cKc (wkr (lsL fun _ => (lsI _ _))) (cKc wkI cKn)))⟩ (aLc ⟨some _, rfl, BkR_c rfl (cKc wkI (cKc (wkr (lsL fun _ => (lo_TEdge _))) cKn))⟩ (aLc ⟨some _, rfl, BkR_c rfl (cKc wkI (cKc (wkr (lsL fun _ => (lo_TEdge _))) cKn))⟩ (aLc ⟨some _, rfl, BkR_c rfl (cKc wkI (cKc wkI (cKc wkI cKn)))⟩ (aLc ⟨some _, rfl, BkR_c rfl (cKc wkI (cKc wkI (cKc wkI cKn)))⟩ aLn))))))))
       refine hK _ _ _ ?_; clear hK K
       refine Then_n ?_
       refine ⟨_, h, ?_⟩
       refine weak_k ?_; conv => whnf
       exact And.intro rfl (And.intro (aLc (wkr (lsB _)) (aLc wkI (aLc wkI (aLc wkI (aLc (wkr (lsL fun _ => (lsI _ _))) (aLc (wkr (lsL fun _ => (lsI _ _))) (aLc (WkR.ptr (fun _ => rfl)) (aLc (WkR.ptr (fun _ => rfl)) (aLc (WkR.ptr (fun _ => rfl)) (aLc (WkR.ptr (fun _ => rfl)) (aLc wkI (aLc wkI (aLc (WkR.ptr (fun _ => rfl)) (aLc (WkR.ptr (fun _ => rfl)) (aLc (WkR.ptr (fun _ => rfl)) (aLc wkI (aLc (wkr (loose_lstc fun _ => (lo_TNet _))) (aLc wkI (aLc wkI (aLc (wkr (loose_lstc fun _ => (lo_A23 _))) (aLc wkI (aLc wkI aLn)))))))))))))))))))))) (aLc ⟨some _, rfl, BkR_c rfl (cKc wkI (cKc wkI (cKc wkI cKn)))⟩ (aLc ⟨some _, rfl, BkR_c rfl (cKc wkI (cKc wkI (cKc wkI cKn)))⟩ (aLc ⟨some _, rfl, BkR_c rfl (cKc (wkr (lsB _)) (cKc (wkr (lsL fun _ => (lsI _ _))) (cKc wkI cKn)))⟩ (aLc ⟨some _, rfl, BkR_c rfl (cKc wkI (cKc (wkr (lsL fun _ => (lo_TEdge _))) cKn))⟩ (aLc ⟨some _, rfl, BkR_c rfl (cKc wkI (cKc (wkr (lsL fun _ => (lo_TEdge _))) cKn))⟩ (aLc ⟨some _, rfl, BkR_c rfl (cKc wkI (cKc wkI (cKc wkI cKn)))⟩ (aLc ⟨some _, rfl, BkR_c rfl (cKc wkI (cKc wkI (cKc wkI cKn)))⟩ aLn))))))))
     refine hK _ _ _ ?_; clear hK K
     refine Then_n ?_
     refine ⟨_, h, ?_⟩
     refine weak_k ?_; conv => whnf
     exact And.intro rfl (And.intro (aLc (wkr (lsB _)) (aLc wkI (aLc wkI (aLc wkI (aLc (wkr (lsL fun _ => (lsI _ _))) (aLc (wkr (lsL fun _ => (lsI _ _))) (aLc (WkR.ptr (fun _ => rfl)) (aLc (WkR.ptr (fun _ => rfl)) (aLc (WkR.ptr (fun _ => rfl)) (aLc (WkR.ptr (fun _ => rfl)) (aLc wkI (aLc wkI (aLc (WkR.ptr (fun _ => rfl)) (aLc (WkR.ptr (fun _ => rfl)) (aLc (WkR.ptr (fun _ => rfl)) (aLc wkI (aLc (wkr (loose_lstc fun _ => (lo_TNet _))) (aLc wkI (aLc wkI (aLc (wkr (loose_lstc fun _ => (lo_A23 _))) (aLc wkI (aLc wkI aLn)))))))))))))))))))))) (aLc ⟨some _, rfl, BkR_c rfl (cKc wkI (cKc wkI (cKc wkI cKn)))⟩ (aLc ⟨some _, rfl, BkR_c rfl (cKc wkI (cKc wkI (cKc wkI cKn)))⟩ (aLc ⟨some _, rfl, BkR_c rfl (cKc (wkr (lsB _)) (cKc (wkr (lsL fun _ => (lsI _ _))) (cKc wkI cKn)))⟩ (aLc ⟨some _, rfl, BkR_c rfl (cKc wkI (cKc (wkr (lsL fun _ => (lo_TEdge _))) cKn))⟩ (aLc ⟨some _, rfl, BkR_c rfl (cKc wkI (cKc (wkr (lsL fun _ => (lo_TEdge _))) cKn))⟩ (aLc ⟨some _, rfl, BkR_c rfl (cKc wkI (cKc wkI (cKc wkI cKn)))⟩ (aLc ⟨some _, rfl, BkR_c rfl (cKc wkI (cKc wkI (cKc wkI cKn)))⟩ aLn))))))))
   refine hK2 ?_; clear hK1 hK2 K1 K2
   refine HT_exit ?_
   refine Then_e ?_
   refine Then_e ?_
   refine InBlock_e ?_
   replace h := W_xbk h
   replace h := W_inl h
   refine Then_n ?_
   refine HT_fr dCo rfl fun K hK => ?_; conv => whnf
   refine nlA rfl ?_; conv => whnf
   refine bKo rfl ?_; conv => whnf
   refine nlA rfl ?_; conv => whnf
   replace h := W_bd h
   refine ref27_Supplied_call h37 h (WkL.refl _) (fun _ h => ?_); conv => whnf
   refine hK _ _ _ ?_; clear hK K
   refine HT_fd dCo mix_ok rfl (by kernel_rfl) fun K hK => ?_; conv => whnf
   refine And.intro (by decide) ?_; conv => whnf
   refine nlA rfl ?_; conv => whnf
   refine bKo rfl ?_; conv => whnf
   refine getK_of rfl ?_; conv => whnf
   refine And.intro (by decide) ?_; conv => whnf
   refine nlA rfl ?_; conv => whnf
   refine bKo rfl ?_; conv => whnf
   refine getK_of rfl ?_; conv => whnf
   refine And.intro (by decide) ?_; conv => whnf
   refine nlA rfl ?_; conv => whnf
   refine bKo rfl ?_; conv => whnf
   refine getK_of rfl ?_; conv => whnf
   replace h := W_bd h
   refine ref27_BentList_call h25 h (WkL.refl _) (fun _ h => ?_); conv => whnf
   refine sl_lk h (.inl ⟨rfl, rfl⟩) (.inr ⟨_, rfl⟩) (fun h => ?_); conv => whnf
   refine lt_lk (enc := (eL 1 eI default)) (d := default) dCo h rfl rfl rfl ⟨nle rfl, nle rfl, rfl⟩ rfl ⟨⟨rfl, rfl, rfl⟩, ⟨⟨rfl, rfl, rfl⟩, ⟨⟨rfl, rfl, rfl⟩, trivial⟩⟩⟩ (fun h => ?_); conv => whnf
   refine hK _ _ _ ?_; clear hK K
   refine HT_block ?_
   replace h := W_bd h
   refine HT_lpK (body := law27_FlowFailuresMatchReference_b4 _ _ _ _ _) rfl h [3, 4, 5, 7, 8, 12, 16, 19, 21, 22, 23, 25, 73, 74, 75, 227, 228] [12, 16, 19, 21, 25] [] (fun kl kh ids b s => ⟨ofL ([(229, eI s)] ++ kl), ofH ([] ++ kh), b + 64⟩) ?_; (conv => whnf); refine And.intro ?_ (fun s m h => HT_st ?_)
   · refine weak_k ?_; conv => whnf
     exact And.intro rfl (And.intro (aLc wkI (aLc wkI (aLc wkI (aLc wkI (aLc (wkr (lsL fun _ => (lsI _ _))) (aLc (wkr (lsL fun _ => (lsI _ _))) (aLc (WkR.ptr (fun _ => rfl)) (aLc (WkR.ptr (fun _ => rfl)) (aLc (WkR.ptr (fun _ => rfl)) (aLc (WkR.ptr (fun _ => rfl)) (aLc wkI (aLc wkI (aLc (WkR.ptr (fun _ => rfl)) (aLc (wkr (loose_lstc fun _ => (lo_TNet _))) (aLc wkI (aLc wkI (aLc (wkr (loose_lstc fun _ => (lsL fun _ => (lsI _ _)))) (aLc wkI aLn)))))))))))))))))) (aLc ⟨some _, rfl, BkR_c rfl (cKc wkI (cKc wkI (cKc wkI cKn)))⟩ (aLc ⟨some _, rfl, BkR_c rfl (cKc wkI (cKc wkI (cKc wkI cKn)))⟩ (aLc ⟨some _, rfl, BkR_c rfl (cKc (wkr (lsB _)) (cKc (wkr (lsL fun _ => (lsI _ _))) (cKc wkI cKn)))⟩ (aLc ⟨some _, rfl, BkR_c rfl (cKc wkI (cKc (wkr (lsL fun _ => (lo_TEdge _))) cKn))⟩ (aLc ⟨some _, rfl, BkR_c rfl (cKc wkI (cKc (wkr (lsL fun _ => (lo_TEdge _))) cKn))⟩ aLn))))))
   replace h := W_blaw27_FlowFailuresMatchReference_b4 (W_bd h)
   refine HT_fr dCo rfl fun K hK => ?_; conv => whnf
   refine hK _ _ _ ?_; clear hK K
   refine HT_seq ?_
   refine HT_if fun K1 K2 hK1 hK2 => ?_; conv => whnf
   refine cond_lk h (fun _ h => ?_) (fun _ h => ?_)
   · refine hK1 ?_; clear hK1 hK2 K1 K2
     refine HT_skip ?_
     refine Then_n ?_
     refine HT_seq ?_
     refine HT_block ?_
     refine HT_fr dCo rfl fun K hK => ?_; conv => whnf
     refine ix_lk h fun _ h => ?_; conv => whnf
     refine getK_of rfl ?_; conv => whnf
     refine hK _ _ _ ?_; clear hK K
     refine HT_fr dCo rfl fun K hK => ?_; conv => whnf
     refine nlA rfl ?_; conv => whnf
     refine bKo rfl ?_; conv => whnf
     refine nlA rfl ?_; conv => whnf
     replace h := W_bd h
     refine flow_Meet_call h38 h (WkL.refl _) (fun _ h => ?_); conv => whnf
     refine bKo rfl ?_; conv => whnf
     refine And.intro rfl (And.intro (nle rfl) (And.intro rfl ?_)); conv => whnf
     refine hK _ _ _ ?_; clear hK K
     refine HT_fr dCo rfl fun K hK => ?_; conv => whnf
     refine nlA rfl ?_; conv => whnf
     refine bKo rfl ?_; conv => whnf
     refine nlA rfl ?_; conv => whnf
     replace h := W_bd h
     refine ref27_Supplies_call h39 h (WkL.refl _) (fun _ h => ?_); conv => whnf
     refine hK _ _ _ ?_; clear hK K
     refine HT_seq ?_
     refine HT_jnK rfl h [3, 4, 5, 7, 8, 12, 16, 19, 21, 22, 23, 25, 37, 38, 73, 74, 75, 227, 228, 229] [12, 16, 19, 21, 25, 38] [] (fun kl kh ids b s => ⟨ofL ([(279, eB s)] ++ kl), ofH ([] ++ kh), b + 64⟩) ?_; (conv => whnf); refine And.intro (fun s h => HT_st ?_) (fun k h => ?_)
     · refine HT_if fun K1 K2 hK1 hK2 => ?_; conv => whnf
       refine cond_lk h (fun _ h => ?_) (fun _ h => ?_)
       · refine hK1 ?_; clear hK1 hK2 K1 K2
         refine HT_fr dCo rfl fun K hK => ?_; conv => whnf
         refine hK _ _ _ ?_; clear hK K
         refine HT_ret ?_
         refine Then_r ?_
         refine InBlock_r ?_
         refine Then_r ?_
         refine Then_r ?_
         refine InBlock_r ?_
         refine InBlock_r ?_
         refine Then_r ?_
         refine Then_r ?_
         refine InBlock_r ?_
         refine Then_r ?_
         replace h := W_xrt h
         replace h := W_inr h
         replace h := W_xrt h
         replace h := W_inr h
         replace h := W_some h
         refine PostP_r dCo fun K hK => ?_; conv => whnf
         refine hK _ ?_; clear hK K
         cases h
         exact Wk.refl _
       refine hK2 ?_; clear hK1 hK2 K1 K2
       refine HT_skip ?_
       refine Then_n ?_
       refine HT_fd dCo mix_ok rfl (by kernel_rfl) fun K hK => ?_; conv => whnf
       refine nlA rfl ?_; conv => whnf
       refine bKo rfl ?_; conv => whnf
       refine getK_of rfl ?_; conv => whnf
       refine nlA rfl ?_; conv => whnf
       refine bKo rfl ?_; conv => whnf
       refine getK_of rfl ?_; conv => whnf
       refine And.intro (by decide) ?_; conv => whnf
       refine nlA rfl ?_; conv => whnf
       refine bKo rfl ?_; conv => whnf
       refine getK_of rfl ?_; conv => whnf
       refine And.intro (by decide) ?_; conv => whnf
       refine nlA rfl ?_; conv => whnf
       refine bKo rfl ?_; conv => whnf
       refine getK_of rfl ?_; conv => whnf
       refine And.intro (by decide) ?_; conv => whnf
       refine nlA rfl ?_; conv => whnf
       refine bKo rfl ?_; conv => whnf
       refine getK_of rfl ?_; conv => whnf
       replace h := W_bd h
       refine ref27_BentList_call h25 h (WkL.refl _) (fun _ h => ?_); conv => whnf
       refine nlA rfl ?_; conv => whnf
       refine bKo rfl ?_; conv => whnf
       refine getK_of rfl ?_; conv => whnf
       refine bKo rfl ?_; conv => whnf
       refine And.intro rfl (And.intro (nle rfl) (And.intro rfl ?_)); conv => whnf
       refine hK _ _ _ ?_; clear hK K
       refine HT_fr dCo rfl fun K hK => ?_; conv => whnf
       refine nlA rfl ?_; conv => whnf
       refine bKo rfl ?_; conv => whnf
       refine nlA rfl ?_; conv => whnf
       refine nlA rfl ?_; conv => whnf
       refine bKo rfl ?_; conv => whnf
       refine nlA rfl ?_; conv => whnf
       refine nlA rfl ?_; conv => whnf
       refine bKo rfl ?_; conv => whnf
       refine nlA rfl ?_; conv => whnf
       refine nlA rfl ?_; conv => whnf
       refine bKo rfl ?_; conv => whnf
       refine getK_of rfl ?_; conv => whnf
       refine nlA rfl ?_; conv => whnf
       refine bKo rfl ?_; conv => whnf
       refine getK_of rfl ?_; conv => whnf
       refine nlA rfl ?_; conv => whnf
       refine bKo rfl ?_; conv => whnf
       refine getK_of rfl ?_; conv => whnf
       refine nlA rfl ?_; conv => whnf
       refine bKo rfl ?_; conv => whnf
       refine getK_of rfl ?_; conv => whnf
       refine nlA rfl ?_; conv => whnf
       refine bKo rfl ?_; conv => whnf
       refine getK_of rfl ?_; conv => whnf
       refine nlA rfl ?_; conv => whnf
       refine bKo rfl ?_; conv => whnf
       refine getK_of rfl ?_; conv => whnf
       refine lt_lk (enc := eTSupply) (d := default) dCo h rfl rfl rfl ⟨nle rfl, nle rfl, rfl⟩ rfl ⟨⟨rfl, nle rfl⟩, ⟨⟨rfl, nle rfl⟩, ⟨⟨rfl, nle rfl⟩, ⟨⟨rfl, nle rfl⟩, ⟨⟨rfl, nle rfl⟩, trivial⟩⟩⟩⟩⟩ (fun h => ?_); conv => whnf
       refine hK _ _ _ ?_; clear hK K
       refine HT_block ?_
       replace h := W_bd h
       refine HT_lpK (body := law27_FlowFailuresMatchReference_b5 _ _ _) rfl h [3, 4, 5, 7, 8, 12, 16, 19, 21, 22, 23, 25, 37, 73, 74, 75, 227, 228, 229, 312, 313] [12, 16, 19, 21, 25] [] (fun kl kh ids b s => ⟨ofL ([(314, eI s)] ++ kl), ofH ([] ++ kh), b + 64⟩) ?_; (conv => whnf); refine And.intro ?_ (fun s m h => HT_st ?_)
       · refine weak_k ?_; conv => whnf
         exact And.intro rfl (And.intro (aLc wkI (aLc wkI (aLc wkI (aLc wkI (aLc (wkr (lsL fun _ => (lsI _ _))) (aLc (wkr (lsL fun _ => (lsI _ _))) (aLc (WkR.ptr (fun _ => rfl)) (aLc (WkR.ptr (fun _ => rfl)) (aLc (WkR.ptr (fun _ => rfl)) (aLc (WkR.ptr (fun _ => rfl)) (aLc wkI (aLc wkI (aLc (WkR.ptr (fun _ => rfl)) (aLc (wkr (lsL fun _ => (lsI _ _))) (aLc (wkr (loose_lstc fun _ => (lo_TNet _))) (aLc wkI (aLc wkI (aLc (wkr (loose_lstc fun _ => (lsL fun _ => (lsI _ _)))) (aLc wkI (aLc wkI (aLc (wkr (loose_lstc fun _ => (lo_TSupply _))) (aLc wkI aLn)))))))))))))))))))))) (aLc ⟨some _, rfl, BkR_c rfl (cKc wkI (cKc wkI (cKc wkI cKn)))⟩ (aLc ⟨some _, rfl, BkR_c rfl (cKc wkI (cKc wkI (cKc wkI cKn)))⟩ (aLc ⟨some _, rfl, BkR_c rfl (cKc (wkr (lsB _)) (cKc (wkr (lsL fun _ => (lsI _ _))) (cKc wkI cKn)))⟩ (aLc ⟨some _, rfl, BkR_c rfl (cKc wkI (cKc (wkr (lsL fun _ => (lo_TEdge _))) cKn))⟩ (aLc ⟨some _, rfl, BkR_c rfl (cKc wkI (cKc (wkr (lsL fun _ => (lo_TEdge _))) cKn))⟩ aLn))))))
       replace h := W_blaw27_FlowFailuresMatchReference_b5 (W_bd h)
       refine HT_fr dCo rfl fun K hK => ?_; conv => whnf
       refine hK _ _ _ ?_; clear hK K
       refine HT_seq ?_
       refine HT_if fun K1 K2 hK1 hK2 => ?_; conv => whnf
       refine cond_lk h (fun _ h => ?_) (fun _ h => ?_)
       · refine hK1 ?_; clear hK1 hK2 K1 K2
         refine HT_skip ?_
         refine Then_n ?_
         refine HT_seq ?_
         refine HT_block ?_
         refine HT_fr dCo rfl fun K hK => ?_; conv => whnf
         refine ix_lk h fun _ h => ?_; conv => whnf
         refine nlA rfl ?_; conv => whnf
         refine bKo rfl ?_; conv => whnf
         refine And.intro rfl (And.intro (nle rfl) (And.intro rfl ?_)); conv => whnf
         refine hK _ _ _ ?_; clear hK K
         refine HT_fd dCo mix_ok rfl (by kernel_rfl) fun K hK => ?_; conv => whnf
         refine nlA rfl ?_; conv => whnf
         refine bKo rfl ?_; conv => whnf
         refine nlA rfl ?_; conv => whnf
         refine nlA rfl ?_; conv => whnf
         refine bKo rfl ?_; conv => whnf
         refine nlA rfl ?_; conv => whnf
         replace h := W_bd h
         refine flow_CheckMeet_call h41 h (WkL.refl _) (fun _ h => ?_); conv => whnf
         refine nlA rfl ?_; conv => whnf
         refine bKo rfl ?_; conv => whnf
         refine nlA rfl ?_; conv => whnf
         refine nlA rfl ?_; conv => whnf
         refine bKo rfl ?_; conv => whnf
         refine nlA rfl ?_; conv => whnf
         replace h := W_bd h
         refine ref27_CheckMeet_call h42 h (WkL.refl _) (fun _ h => ?_); conv => whnf
         refine eqK_n (eqv_bool dCo rfl _ _) ?_; conv => whnf
         refine hK _ _ _ ?_; clear hK K
         refine HT_if fun K1 K2 hK1 hK2 => ?_; conv => whnf
         refine cond_lk h (fun _ h => ?_) (fun _ h => ?_)
         · refine hK1 ?_; clear hK1 hK2 K1 K2
           refine HT_fr dCo rfl fun K hK => ?_; conv => whnf
           refine hK _ _ _ ?_; clear hK K
           refine HT_ret ?_
           refine InBlock_r ?_
           refine Then_r ?_
           refine Then_r ?_
           refine InBlock_r ?_
           refine InBlock_r ?_
           refine Then_r ?_
           refine Then_r ?_
           refine InBlock_r ?_
           refine InBlock_r ?_
           refine Then_r ?_
           refine Then_r ?_
           refine InBlock_r ?_
           refine Then_r ?_
           replace h := W_xrt h
           replace h := W_inr h
           replace h := W_xrt h
           replace h := W_inr h
           replace h := W_xrt h
           replace h := W_inr h
           replace h := W_some h
           refine PostP_r dCo fun K hK => ?_; conv => whnf
           refine hK _ ?_; clear hK K
           cases h
           exact Wk.refl _
         refine hK2 ?_; clear hK1 hK2 K1 K2
         refine HT_skip ?_
         refine InBlock_n ?_
         refine Then_n ?_
         refine HT_f dCo rfl fun K hK => ?_; conv => whnf
         refine hK _ _ _ ?_; clear hK K
         refine Then_n ?_
         replace h := W_xnx h
         refine ⟨_, h, ?_⟩
         refine weak_k ?_; conv => whnf
         exact And.intro rfl (And.intro (aLc wkI (aLc wkI (aLc wkI (aLc wkI (aLc (wkr (lsL fun _ => (lsI _ _))) (aLc (wkr (lsL fun _ => (lsI _ _))) (aLc (WkR.ptr (fun _ => rfl)) (aLc (WkR.ptr (fun _ => rfl)) (aLc (WkR.ptr (fun _ => rfl)) (aLc (WkR.ptr (fun _ => rfl)) (aLc wkI (aLc wkI (aLc (WkR.ptr (fun _ => rfl)) (aLc (wkr (lsL fun _ => (lsI _ _))) (aLc (wkr (loose_lstc fun _ => (lo_TNet _))) (aLc wkI (aLc wkI (aLc (wkr (loose_lstc fun _ => (lsL fun _ => (lsI _ _)))) (aLc wkI (aLc wkI (aLc (wkr (loose_lstc fun _ => (lo_TSupply _))) (aLc wkI aLn)))))))))))))))))))))) (aLc ⟨some _, rfl, BkR_c rfl (cKc wkI (cKc wkI (cKc wkI cKn)))⟩ (aLc ⟨some _, rfl, BkR_c rfl (cKc wkI (cKc wkI (cKc wkI cKn)))⟩ (aLc ⟨some _, rfl, BkR_c rfl (cKc (wkr (lsB _)) (cKc (wkr (lsL fun _ => (lsI _ _))) (cKc wkI cKn)))⟩ (aLc ⟨some _, rfl, BkR_c rfl (cKc wkI (cKc (wkr (lsL fun _ => (lo_TEdge _))) cKn))⟩ (aLc ⟨some _, rfl, BkR_c rfl (cKc wkI (cKc (wkr (lsL fun _ => (lo_TEdge _))) cKn))⟩ aLn))))))
       refine hK2 ?_; clear hK1 hK2 K1 K2
       refine HT_exit ?_
       refine Then_e ?_
       refine Then_e ?_
       refine InBlock_e ?_
       replace h := W_xbk h
       replace h := W_inl h
       refine InBlock_n ?_
       refine Then_n ?_
       refine HT_f dCo rfl fun K hK => ?_; conv => whnf
       refine hK _ _ _ ?_; clear hK K
       refine Then_n ?_
       replace h := W_xnx h
       refine ⟨_, h, ?_⟩
       refine weak_k ?_; conv => whnf
       exact And.intro rfl (And.intro (aLc wkI (aLc wkI (aLc wkI (aLc wkI (aLc (wkr (lsL fun _ => (lsI _ _))) (aLc (wkr (lsL fun _ => (lsI _ _))) (aLc (WkR.ptr (fun _ => rfl)) (aLc (WkR.ptr (fun _ => rfl)) (aLc (WkR.ptr (fun _ => rfl)) (aLc (WkR.ptr (fun _ => rfl)) (aLc wkI (aLc wkI (aLc (WkR.ptr (fun _ => rfl)) (aLc (wkr (loose_lstc fun _ => (lo_TNet _))) (aLc wkI (aLc wkI (aLc (wkr (loose_lstc fun _ => (lsL fun _ => (lsI _ _)))) (aLc wkI aLn)))))))))))))))))) (aLc ⟨some _, rfl, BkR_c rfl (cKc wkI (cKc wkI (cKc wkI cKn)))⟩ (aLc ⟨some _, rfl, BkR_c rfl (cKc wkI (cKc wkI (cKc wkI cKn)))⟩ (aLc ⟨some _, rfl, BkR_c rfl (cKc (wkr (lsB _)) (cKc (wkr (lsL fun _ => (lsI _ _))) (cKc wkI cKn)))⟩ (aLc ⟨some _, rfl, BkR_c rfl (cKc wkI (cKc (wkr (lsL fun _ => (lo_TEdge _))) cKn))⟩ (aLc ⟨some _, rfl, BkR_c rfl (cKc wkI (cKc (wkr (lsL fun _ => (lo_TEdge _))) cKn))⟩ aLn))))))
     refine HT_fD dCo mix_ok rfl (by kernel_rfl) fun K hK => ?_; conv => whnf
     refine eqK_n (eqv_bool dCo rfl _ _) ?_; conv => whnf
     refine cond_lk h (fun _ h => ?_) (fun _ h => ?_) <;> (conv => whnf)
     · refine hK _ _ _ ?_; clear hK K
       refine Then_n ?_
       refine ⟨_, h, ?_⟩
       refine weak_k ?_; conv => whnf
       exact And.intro rfl (And.intro (aLc (wkr (lsB _)) (aLc wkI (aLc wkI (aLc wkI (aLc (wkr (lsL fun _ => (lsI _ _))) (aLc (wkr (lsL fun _ => (lsI _ _))) (aLc (WkR.ptr (fun _ => rfl)) (aLc (WkR.ptr (fun _ => rfl)) (aLc (WkR.ptr (fun _ => rfl)) (aLc (WkR.ptr (fun _ => rfl)) (aLc wkI (aLc wkI (aLc (WkR.ptr (fun _ => rfl)) (aLc (wkr (lsL fun _ => (lsI _ _))) (aLc (WkR.ptr (fun _ => rfl)) (aLc (wkr (loose_lstc fun _ => (lo_TNet _))) (aLc wkI (aLc wkI (aLc (wkr (loose_lstc fun _ => (lsL fun _ => (lsI _ _)))) (aLc wkI (aLc wkI aLn))))))))))))))))))))) (aLc ⟨some _, rfl, BkR_c rfl (cKc wkI (cKc wkI (cKc wkI cKn)))⟩ (aLc ⟨some _, rfl, BkR_c rfl (cKc wkI (cKc wkI (cKc wkI cKn)))⟩ (aLc ⟨some _, rfl, BkR_c rfl (cKc (wkr (lsB _)) (cKc (wkr (lsL fun _ => (lsI _ _))) (cKc wkI cKn)))⟩ (aLc ⟨some _, rfl, BkR_c rfl (cKc wkI (cKc (wkr (lsL fun _ => (lo_TEdge _))) cKn))⟩ (aLc ⟨some _, rfl, BkR_c rfl (cKc wkI (cKc (wkr (lsL fun _ => (lo_TEdge _))) cKn))⟩ (aLc ⟨some _, rfl, BkR_c rfl (cKc (wkr (lsB _)) (cKc (wkr (lsL fun _ => (lsI _ _))) (cKc wkI cKn)))⟩ aLn)))))))
     refine cond_lk h (fun _ h => ?_) (fun _ h => ?_) <;> (conv => whnf)
     · refine nlA rfl ?_; conv => whnf
       refine bKo rfl ?_; conv => whnf
       refine getK_of rfl ?_; conv => whnf
       refine nlA rfl ?_; conv => whnf
       refine bKo rfl ?_; conv => whnf
       refine nlA rfl ?_; conv => whnf
       replace h := W_bd h
       refine ref27_Refuted_call h40 h (WkL.refl _) (fun _ h => ?_); conv => whnf
       refine eqK_e (eqv_bool dCo rfl _ _) ?_; conv => whnf
       refine cond_lk h (fun _ h => ?_) (fun _ h => ?_) <;> (conv => whnf)
       · refine hK _ _ _ ?_; clear hK K
         refine Then_n ?_
         refine ⟨_, h, ?_⟩
         refine weak_k ?_; conv => whnf
         exact And.intro rfl (And.intro (aLc (wkr (lsB _)) (aLc wkI (aLc wkI (aLc wkI (aLc (wkr (lsL fun _ => (lsI _ _))) (aLc (wkr (lsL fun _ => (lsI _ _))) (aLc (WkR.ptr (fun _ => rfl)) (aLc (WkR.ptr (fun _ => rfl)) (aLc (WkR.ptr (fun _ => rfl)) (aLc (WkR.ptr (fun _ => rfl)) (aLc wkI (aLc wkI (aLc (WkR.ptr (fun _ => rfl)) (aLc (wkr (lsL fun _ => (lsI _ _))) (aLc (WkR.ptr (fun _ => rfl)) (aLc (wkr (loose_lstc fun _ => (lo_TNet _))) (aLc wkI (aLc wkI (aLc (wkr (loose_lstc fun _ => (lsL fun _ => (lsI _ _)))) (aLc wkI (aLc wkI aLn))))))))))))))))))))) (aLc ⟨some _, rfl, BkR_c rfl (cKc wkI (cKc wkI (cKc wkI cKn)))⟩ (aLc ⟨some _, rfl, BkR_c rfl (cKc wkI (cKc wkI (cKc wkI cKn)))⟩ (aLc ⟨some _, rfl, BkR_c rfl (cKc (wkr (lsB _)) (cKc (wkr (lsL fun _ => (lsI _ _))) (cKc wkI cKn)))⟩ (aLc ⟨some _, rfl, BkR_c rfl (cKc wkI (cKc (wkr (lsL fun _ => (lo_TEdge _))) cKn))⟩ (aLc ⟨some _, rfl, BkR_c rfl (cKc wkI (cKc (wkr (lsL fun _ => (lo_TEdge _))) cKn))⟩ (aLc ⟨some _, rfl, BkR_c rfl (cKc (wkr (lsB _)) (cKc (wkr (lsL fun _ => (lsI _ _))) (cKc wkI cKn)))⟩ aLn)))))))
       refine cond_lk h (fun _ h => ?_) (fun _ h => ?_) <;> (conv => whnf)
       · refine cond_lk h (fun _ h => ?_) (fun _ h => ?_) <;> (conv => whnf)
         · refine hK _ _ _ ?_; clear hK K
           refine Then_n ?_
           refine ⟨_, h, ?_⟩
           refine weak_k ?_; conv => whnf
           exact And.intro rfl (And.intro (aLc (wkr (lsB _)) (aLc wkI (aLc wkI (aLc wkI (aLc (wkr (lsL fun _ => (lsI _ _))) (aLc (wkr (lsL fun _ => (lsI _ _))) (aLc (WkR.ptr (fun _ => rfl)) (aLc (WkR.ptr (fun _ => rfl)) (aLc (WkR.ptr (fun _ => rfl)) (aLc (WkR.ptr (fun _ => rfl)) (aLc wkI (aLc wkI (aLc (WkR.ptr (fun _ => rfl)) (aLc (wkr (lsL fun _ => (lsI _ _))) (aLc (WkR.ptr (fun _ => rfl)) (aLc (wkr (loose_lstc fun _ => (lo_TNet _))) (aLc wkI (aLc wkI (aLc (wkr (loose_lstc fun _ => (lsL fun _ => (lsI _ _)))) (aLc wkI (aLc wkI aLn))))))))))))))))))))) (aLc ⟨some _, rfl, BkR_c rfl (cKc wkI (cKc wkI (cKc wkI cKn)))⟩ (aLc ⟨some _, rfl, BkR_c rfl (cKc wkI (cKc wkI (cKc wkI cKn)))⟩ (aLc ⟨some _, rfl, BkR_c rfl (cKc (wkr (lsB _)) (cKc (wkr (lsL fun _ => (lsI _ _))) (cKc wkI cKn)))⟩ (aLc ⟨some _, rfl, BkR_c rfl (cKc wkI (cKc (wkr (lsL fun _ => (lo_TEdge _))) cKn))⟩ (aLc ⟨some _, rfl, BkR_c rfl (cKc wkI (cKc (wkr (lsL fun _ => (lo_TEdge _))) cKn))⟩ (aLc ⟨some _, rfl, BkR_c rfl (cKc (wkr (lsB _)) (cKc (wkr (lsL fun _ => (lsI _ _))) (cKc wkI cKn)))⟩ aLn)))))))
         refine nlA rfl ?_; conv => whnf
         refine bKo rfl ?_; conv => whnf
         refine getK_of rfl ?_; conv => whnf
         refine cond_lk h (fun _ h => ?_) (fun _ h => ?_) <;> (conv => whnf)
         · refine hK _ _ _ ?_; clear hK K
           refine Then_n ?_
           refine ⟨_, h, ?_⟩
           refine weak_k ?_; conv => whnf
           exact And.intro rfl (And.intro (aLc (wkr (lsB _)) (aLc wkI (aLc wkI (aLc wkI (aLc (wkr (lsL fun _ => (lsI _ _))) (aLc (wkr (lsL fun _ => (lsI _ _))) (aLc (WkR.ptr (fun _ => rfl)) (aLc (WkR.ptr (fun _ => rfl)) (aLc (WkR.ptr (fun _ => rfl)) (aLc (WkR.ptr (fun _ => rfl)) (aLc wkI (aLc wkI (aLc (WkR.ptr (fun _ => rfl)) (aLc (wkr (lsL fun _ => (lsI _ _))) (aLc (WkR.ptr (fun _ => rfl)) (aLc (wkr (loose_lstc fun _ => (lo_TNet _))) (aLc wkI (aLc wkI (aLc (wkr (loose_lstc fun _ => (lsL fun _ => (lsI _ _)))) (aLc wkI (aLc wkI aLn))))))))))))))))))))) (aLc ⟨some _, rfl, BkR_c rfl (cKc wkI (cKc wkI (cKc wkI cKn)))⟩ (aLc ⟨some _, rfl, BkR_c rfl (cKc wkI (cKc wkI (cKc wkI cKn)))⟩ (aLc ⟨some _, rfl, BkR_c rfl (cKc (wkr (lsB _)) (cKc (wkr (lsL fun _ => (lsI _ _))) (cKc wkI cKn)))⟩ (aLc ⟨some _, rfl, BkR_c rfl (cKc wkI (cKc (wkr (lsL fun _ => (lo_TEdge _))) cKn))⟩ (aLc ⟨some _, rfl, BkR_c rfl (cKc wkI (cKc (wkr (lsL fun _ => (lo_TEdge _))) cKn))⟩ (aLc ⟨some _, rfl, BkR_c rfl (cKc (wkr (lsB _)) (cKc (wkr (lsL fun _ => (lsI _ _))) (cKc wkI cKn)))⟩ aLn)))))))
         refine nlA rfl ?_; conv => whnf
         refine bKo rfl ?_; conv => whnf
         refine getK_of rfl ?_; conv => whnf
         refine cond_lk h (fun _ h => ?_) (fun _ h => ?_) <;> (conv => whnf)
         · refine hK _ _ _ ?_; clear hK K
           refine Then_n ?_
           refine ⟨_, h, ?_⟩
           refine weak_k ?_; conv => whnf
           exact And.intro rfl (And.intro (aLc (wkr (lsB _)) (aLc wkI (aLc wkI (aLc wkI (aLc (wkr (lsL fun _ => (lsI _ _))) (aLc (wkr (lsL fun _ => (lsI _ _))) (aLc (WkR.ptr (fun _ => rfl)) (aLc (WkR.ptr (fun _ => rfl)) (aLc (WkR.ptr (fun _ => rfl)) (aLc (WkR.ptr (fun _ => rfl)) (aLc wkI (aLc wkI (aLc (WkR.ptr (fun _ => rfl)) (aLc (wkr (lsL fun _ => (lsI _ _))) (aLc (WkR.ptr (fun _ => rfl)) (aLc (wkr (loose_lstc fun _ => (lo_TNet _))) (aLc wkI (aLc wkI (aLc (wkr (loose_lstc fun _ => (lsL fun _ => (lsI _ _)))) (aLc wkI (aLc wkI aLn))))))))))))))))))))) (aLc ⟨some _, rfl, BkR_c rfl (cKc wkI (cKc wkI (cKc wkI cKn)))⟩ (aLc ⟨some _, rfl, BkR_c rfl (cKc wkI (cKc wkI (cKc wkI cKn)))⟩ (aLc ⟨some _, rfl, BkR_c rfl (cKc (wkr (lsB _)) (cKc (wkr (lsL fun _ => (lsI _ _))) (cKc wkI cKn)))⟩ (aLc ⟨some _, rfl, BkR_c rfl (cKc wkI (cKc (wkr (lsL fun _ => (lo_TEdge _))) cKn))⟩ (aLc ⟨some _, rfl, BkR_c rfl (cKc wkI (cKc (wkr (lsL fun _ => (lo_TEdge _))) cKn))⟩ (aLc ⟨some _, rfl, BkR_c rfl (cKc (wkr (lsB _)) (cKc (wkr (lsL fun _ => (lsI _ _))) (cKc wkI cKn)))⟩ aLn)))))))
         refine nlA rfl ?_; conv => whnf
         refine bKo rfl ?_; conv => whnf
         refine getK_of rfl ?_; conv => whnf
         refine hK _ _ _ ?_; clear hK K
         refine Then_n ?_
         refine ⟨_, h, ?_⟩
         refine weak_k ?_; conv => whnf
         exact And.intro rfl (And.intro (aLc (wkr (lsB _)) (aLc wkI (aLc wkI (aLc wkI (aLc (wkr (lsL fun _ => (lsI _ _))) (aLc (wkr (lsL fun _ => (lsI _ _))) (aLc (WkR.ptr (fun _ => rfl)) (aLc (WkR.ptr (fun _ => rfl)) (aLc (WkR.ptr (fun _ => rfl)) (aLc (WkR.ptr (fun _ => rfl)) (aLc wkI (aLc wkI (aLc (WkR.ptr (fun _ => rfl)) (aLc (wkr (lsL fun _ => (lsI _ _))) (aLc (WkR.ptr (fun _ => rfl)) (aLc (wkr (loose_lstc fun _ => (lo_TNet _))) (aLc wkI (aLc wkI (aLc (wkr (loose_lstc fun _ => (lsL fun _ => (lsI _ _)))) (aLc wkI (aLc wkI aLn))))))))))))))))))))) (aLc ⟨some _, rfl, BkR_c rfl (cKc wkI (cKc wkI (cKc wkI cKn)))⟩ (aLc ⟨some _, rfl, BkR_c rfl (cKc wkI (cKc wkI (cKc wkI cKn)))⟩ (aLc ⟨some _, rfl, BkR_c rfl (cKc (wkr (lsB _)) (cKc (wkr (lsL fun _ => (lsI _ _))) (cKc wkI cKn)))⟩ (aLc ⟨some _, rfl, BkR_c rfl (cKc wkI (cKc (wkr (lsL fun _ => (lo_TEdge _))) cKn))⟩ (aLc ⟨some _, rfl, BkR_c rfl (cKc wkI (cKc (wkr (lsL fun _ => (lo_TEdge _))) cKn))⟩ (aLc ⟨some _, rfl, BkR_c rfl (cKc (wkr (lsB _)) (cKc (wkr (lsL fun _ => (lsI _ _))) (cKc wkI cKn)))⟩ aLn)))))))
       refine hK _ _ _ ?_; clear hK K
       refine Then_n ?_
       refine ⟨_, h, ?_⟩
       refine weak_k ?_; conv => whnf
       exact And.intro rfl (And.intro (aLc (wkr (lsB _)) (aLc wkI (aLc wkI (aLc wkI (aLc (wkr (lsL fun _ => (lsI _ _))) (aLc (wkr (lsL fun _ => (lsI _ _))) (aLc (WkR.ptr (fun _ => rfl)) (aLc (WkR.ptr (fun _ => rfl)) (aLc (WkR.ptr (fun _ => rfl)) (aLc (WkR.ptr (fun _ => rfl)) (aLc wkI (aLc wkI (aLc (WkR.ptr (fun _ => rfl)) (aLc (wkr (lsL fun _ => (lsI _ _))) (aLc (WkR.ptr (fun _ => rfl)) (aLc (wkr (loose_lstc fun _ => (lo_TNet _))) (aLc wkI (aLc wkI (aLc (wkr (loose_lstc fun _ => (lsL fun _ => (lsI _ _)))) (aLc wkI (aLc wkI aLn))))))))))))))))))))) (aLc ⟨some _, rfl, BkR_c rfl (cKc wkI (cKc wkI (cKc wkI cKn)))⟩ (aLc ⟨some _, rfl, BkR_c rfl (cKc wkI (cKc wkI (cKc wkI cKn)))⟩ (aLc ⟨some _, rfl, BkR_c rfl (cKc (wkr (lsB _)) (cKc (wkr (lsL fun _ => (lsI _ _))) (cKc wkI cKn)))⟩ (aLc ⟨some _, rfl, BkR_c rfl (cKc wkI (cKc (wkr (lsL fun _ => (lo_TEdge _))) cKn))⟩ (aLc ⟨some _, rfl, BkR_c rfl (cKc wkI (cKc (wkr (lsL fun _ => (lo_TEdge _))) cKn))⟩ (aLc ⟨some _, rfl, BkR_c rfl (cKc (wkr (lsB _)) (cKc (wkr (lsL fun _ => (lsI _ _))) (cKc wkI cKn)))⟩ aLn)))))))
     refine cond_lk h (fun _ h => ?_) (fun _ h => ?_) <;> (conv => whnf)
     · refine cond_lk h (fun _ h => ?_) (fun _ h => ?_) <;> (conv => whnf)
       · refine hK _ _ _ ?_; clear hK K
         refine Then_n ?_
         refine ⟨_, h, ?_⟩
         refine weak_k ?_; conv => whnf
         exact And.intro rfl (And.intro (aLc (wkr (lsB _)) (aLc wkI (aLc wkI (aLc wkI (aLc (wkr (lsL fun _ => (lsI _ _))) (aLc (wkr (lsL fun _ => (lsI _ _))) (aLc (WkR.ptr (fun _ => rfl)) (aLc (WkR.ptr (fun _ => rfl)) (aLc (WkR.ptr (fun _ => rfl)) (aLc (WkR.ptr (fun _ => rfl)) (aLc wkI (aLc wkI (aLc (WkR.ptr (fun _ => rfl)) (aLc (wkr (lsL fun _ => (lsI _ _))) (aLc (WkR.ptr (fun _ => rfl)) (aLc (wkr (loose_lstc fun _ => (lo_TNet _))) (aLc wkI (aLc wkI (aLc (wkr (loose_lstc fun _ => (lsL fun _ => (lsI _ _)))) (aLc wkI (aLc wkI aLn))))))))))))))))))))) (aLc ⟨some _, rfl, BkR_c rfl (cKc wkI (cKc wkI (cKc wkI cKn)))⟩ (aLc ⟨some _, rfl, BkR_c rfl (cKc wkI (cKc wkI (cKc wkI cKn)))⟩ (aLc ⟨some _, rfl, BkR_c rfl (cKc (wkr (lsB _)) (cKc (wkr (lsL fun _ => (lsI _ _))) (cKc wkI cKn)))⟩ (aLc ⟨some _, rfl, BkR_c rfl (cKc wkI (cKc (wkr (lsL fun _ => (lo_TEdge _))) cKn))⟩ (aLc ⟨some _, rfl, BkR_c rfl (cKc wkI (cKc (wkr (lsL fun _ => (lo_TEdge _))) cKn))⟩ (aLc ⟨some _, rfl, BkR_c rfl (cKc (wkr (lsB _)) (cKc (wkr (lsL fun _ => (lsI _ _))) (cKc wkI cKn)))⟩ aLn)))))))
       refine nlA rfl ?_; conv => whnf
       refine bKo rfl ?_; conv => whnf
       refine getK_of rfl ?_; conv => whnf
       refine cond_lk h (fun _ h => ?_) (fun _ h => ?_) <;> (conv => whnf)
       · refine hK _ _ _ ?_; clear hK K
         refine Then_n ?_
         refine ⟨_, h, ?_⟩
         refine weak_k ?_; conv => whnf
         exact And.intro rfl (And.intro (aLc (wkr (lsB _)) (aLc wkI (aLc wkI (aLc wkI (aLc (wkr (lsL fun _ => (lsI _ _))) (aLc (wkr (lsL fun _ => (lsI _ _))) (aLc (WkR.ptr (fun _ => rfl)) (aLc (WkR.ptr (fun _ => rfl)) (aLc (WkR.ptr (fun _ => rfl)) (aLc (WkR.ptr (fun _ => rfl)) (aLc wkI (aLc wkI (aLc (WkR.ptr (fun _ => rfl)) (aLc (wkr (lsL fun _ => (lsI _ _))) (aLc (WkR.ptr (fun _ => rfl)) (aLc (wkr (loose_lstc fun _ => (lo_TNet _))) (aLc wkI (aLc wkI (aLc (wkr (loose_lstc fun _ => (lsL fun _ => (lsI _ _)))) (aLc wkI (aLc wkI aLn))))))))))))))))))))) (aLc ⟨some _, rfl, BkR_c rfl (cKc wkI (cKc wkI (cKc wkI cKn)))⟩ (aLc ⟨some _, rfl, BkR_c rfl (cKc wkI (cKc wkI (cKc wkI cKn)))⟩ (aLc ⟨some _, rfl, BkR_c rfl (cKc (wkr (lsB _)) (cKc (wkr (lsL fun _ => (lsI _ _))) (cKc wkI cKn)))⟩ (aLc ⟨some _, rfl, BkR_c rfl (cKc wkI (cKc (wkr (lsL fun _ => (lo_TEdge _))) cKn))⟩ (aLc ⟨some _, rfl, BkR_c rfl (cKc wkI (cKc (wkr (lsL fun _ => (lo_TEdge _))) cKn))⟩ (aLc ⟨some _, rfl, BkR_c rfl (cKc (wkr (lsB _)) (cKc (wkr (lsL fun _ => (lsI _ _))) (cKc wkI cKn)))⟩ aLn)))))))
       refine nlA rfl ?_; conv => whnf
       refine bKo rfl ?_; conv => whnf
       refine getK_of rfl ?_; conv => whnf
       refine cond_lk h (fun _ h => ?_) (fun _ h => ?_) <;> (conv => whnf)
       · refine hK _ _ _ ?_; clear hK K
         refine Then_n ?_
         refine ⟨_, h, ?_⟩
         refine weak_k ?_; conv => whnf
         exact And.intro rfl (And.intro (aLc (wkr (lsB _)) (aLc wkI (aLc wkI (aLc wkI (aLc (wkr (lsL fun _ => (lsI _ _))) (aLc (wkr (lsL fun _ => (lsI _ _))) (aLc (WkR.ptr (fun _ => rfl)) (aLc (WkR.ptr (fun _ => rfl)) (aLc (WkR.ptr (fun _ => rfl)) (aLc (WkR.ptr (fun _ => rfl)) (aLc wkI (aLc wkI (aLc (WkR.ptr (fun _ => rfl)) (aLc (wkr (lsL fun _ => (lsI _ _))) (aLc (WkR.ptr (fun _ => rfl)) (aLc (wkr (loose_lstc fun _ => (lo_TNet _))) (aLc wkI (aLc wkI (aLc (wkr (loose_lstc fun _ => (lsL fun _ => (lsI _ _)))) (aLc wkI (aLc wkI aLn))))))))))))))))))))) (aLc ⟨some _, rfl, BkR_c rfl (cKc wkI (cKc wkI (cKc wkI cKn)))⟩ (aLc ⟨some _, rfl, BkR_c rfl (cKc wkI (cKc wkI (cKc wkI cKn)))⟩ (aLc ⟨some _, rfl, BkR_c rfl (cKc (wkr (lsB _)) (cKc (wkr (lsL fun _ => (lsI _ _))) (cKc wkI cKn)))⟩ (aLc ⟨some _, rfl, BkR_c rfl (cKc wkI (cKc (wkr (lsL fun _ => (lo_TEdge _))) cKn))⟩ (aLc ⟨some _, rfl, BkR_c rfl (cKc wkI (cKc (wkr (lsL fun _ => (lo_TEdge _))) cKn))⟩ (aLc ⟨some _, rfl, BkR_c rfl (cKc (wkr (lsB _)) (cKc (wkr (lsL fun _ => (lsI _ _))) (cKc wkI cKn)))⟩ aLn)))))))
       refine nlA rfl ?_; conv => whnf
       refine bKo rfl ?_; conv => whnf
       refine getK_of rfl ?_; conv => whnf
       refine hK _ _ _ ?_; clear hK K
       refine Then_n ?_
       refine ⟨_, h, ?_⟩
       refine weak_k ?_; conv => whnf
       exact And.intro rfl (And.intro (aLc (wkr (lsB _)) (aLc wkI (aLc wkI (aLc wkI (aLc (wkr (lsL fun _ => (lsI _ _))) (aLc (wkr (lsL fun _ => (lsI _ _))) (aLc (WkR.ptr (fun _ => rfl)) (aLc (WkR.ptr (fun _ => rfl)) (aLc (WkR.ptr (fun _ => rfl)) (aLc (WkR.ptr (fun _ => rfl)) (aLc wkI (aLc wkI (aLc (WkR.ptr (fun _ => rfl)) (aLc (wkr (lsL fun _ => (lsI _ _))) (aLc (WkR.ptr (fun _ => rfl)) (aLc (wkr (loose_lstc fun _ => (lo_TNet _))) (aLc wkI (aLc wkI (aLc (wkr (loose_lstc fun _ => (lsL fun _ => (lsI _ _)))) (aLc wkI (aLc wkI aLn))))))))))))))))))))) (aLc ⟨some _, rfl, BkR_c rfl (cKc wkI (cKc wkI (cKc wkI cKn)))⟩ (aLc ⟨some _, rfl, BkR_c rfl (cKc wkI (cKc wkI (cKc wkI cKn)))⟩ (aLc ⟨some _, rfl, BkR_c rfl (cKc (wkr (lsB _)) (cKc (wkr (lsL fun _ => (lsI _ _))) (cKc wkI cKn)))⟩ (aLc ⟨some _, rfl, BkR_c rfl (cKc wkI (cKc (wkr (lsL fun _ => (lo_TEdge _))) cKn))⟩ (aLc ⟨some _, rfl, BkR_c rfl (cKc wkI (cKc (wkr (lsL fun _ => (lo_TEdge _))) cKn))⟩ (aLc ⟨some _, rfl, BkR_c rfl (cKc (wkr (lsB _)) (cKc (wkr (lsL fun _ => (lsI _ _))) (cKc wkI cKn)))⟩ aLn)))))))
     refine hK _ _ _ ?_; clear hK K
     refine Then_n ?_
     refine ⟨_, h, ?_⟩
     refine weak_k ?_; conv => whnf
     exact And.intro rfl (And.intro (aLc (wkr (lsB _)) (aLc wkI (aLc wkI (aLc wkI (aLc (wkr (lsL fun _ => (lsI _ _))) (aLc (wkr (lsL fun _ => (lsI _ _))) (aLc (WkR.ptr (fun _ => rfl)) (aLc (WkR.ptr (fun _ => rfl)) (aLc (WkR.ptr (fun _ => rfl)) (aLc (WkR.ptr (fun _ => rfl)) (aLc wkI (aLc wkI (aLc (WkR.ptr (fun _ => rfl)) (aLc (wkr (lsL fun _ => (lsI _ _))) (aLc (WkR.ptr (fun _ => rfl)) (aLc (wkr (loose_lstc fun _ => (lo_TNet _))) (aLc wkI (aLc wkI (aLc (wkr (loose_lstc fun _ => (lsL fun _ => (lsI _ _)))) (aLc wkI (aLc wkI aLn))))))))))))))))))))) (aLc ⟨some _, rfl, BkR_c rfl (cKc wkI (cKc wkI (cKc wkI cKn)))⟩ (aLc ⟨some _, rfl, BkR_c rfl (cKc wkI (cKc wkI (cKc wkI cKn)))⟩ (aLc ⟨some _, rfl, BkR_c rfl (cKc (wkr (lsB _)) (cKc (wkr (lsL fun _ => (lsI _ _))) (cKc wkI cKn)))⟩ (aLc ⟨some _, rfl, BkR_c rfl (cKc wkI (cKc (wkr (lsL fun _ => (lo_TEdge _))) cKn))⟩ (aLc ⟨some _, rfl, BkR_c rfl (cKc wkI (cKc (wkr (lsL fun _ => (lo_TEdge _))) cKn))⟩ (aLc ⟨some _, rfl, BkR_c rfl (cKc (wkr (lsB _)) (cKc (wkr (lsL fun _ => (lsI _ _))) (cKc wkI cKn)))⟩ aLn)))))))
   refine hK2 ?_; clear hK1 hK2 K1 K2
   refine HT_exit ?_
   refine Then_e ?_
   refine Then_e ?_
   refine InBlock_e ?_
   replace h := W_xbk h
   replace h := W_inl h
   refine InBlock_n ?_
   refine Then_n ?_
   refine HT_f dCo rfl fun K hK => ?_; conv => whnf
   refine hK _ _ _ ?_; clear hK K
   refine Then_n ?_
   replace h := W_xnx h
   refine ⟨_, h, ?_⟩
   refine weak_k ?_; conv => whnf
   exact And.intro rfl (And.intro (aLc wkI (aLc wkI (aLc wkI (aLc wkI (aLc (wkr (lsL fun _ => (lsI _ _))) (aLc (wkr (lsL fun _ => (lsI _ _))) (aLc (WkR.ptr (fun _ => rfl)) (aLc (WkR.ptr (fun _ => rfl)) (aLc (WkR.ptr (fun _ => rfl)) (aLc (WkR.ptr (fun _ => rfl)) (aLc wkI (aLc wkI (aLc (wkr (loose_lstc fun _ => (lo_TNet _))) (aLc wkI aLn)))))))))))))) (aLc ⟨some _, rfl, BkR_c rfl (cKc wkI (cKc wkI (cKc wkI cKn)))⟩ (aLc ⟨some _, rfl, BkR_c rfl (cKc wkI (cKc wkI (cKc wkI cKn)))⟩ (aLc ⟨some _, rfl, BkR_c rfl (cKc (wkr (lsB _)) (cKc (wkr (lsL fun _ => (lsI _ _))) (cKc wkI cKn)))⟩ (aLc ⟨some _, rfl, BkR_c rfl (cKc wkI (cKc (wkr (lsL fun _ => (lo_TEdge _))) cKn))⟩ aLn)))))
 refine hK2 ?_; clear hK1 hK2 K1 K2
 refine HT_exit ?_
 refine Then_e ?_
 refine Then_e ?_
 refine InBlock_e ?_
 replace h := W_xbk h
 replace h := W_inl h
 refine Then_n ?_
 refine HT_fr dCo rfl fun K hK => ?_; conv => whnf
 refine hK _ _ _ ?_; clear hK K
 refine HT_ret ?_
 replace h := W_some h
 refine PostP_r dCo fun K hK => ?_; conv => whnf
 refine hK _ ?_; clear hK K
 cases h
 exact Wk.refl _
end Go.Proofs.Ytgkmodjcoedonaa
namespace Go.Proofs.Ytgkmodjcoedonaa
open Go Go.Eng
set_option maxRecDepth 100000
theorem imin_13 (x : Nat) : imin (x : Int) 13 = ((min x 13 : Nat) : Int) := by unfold imin; split <;> omega
theorem slc13 {α β : Type} (l : List α) (f : List α → Option β) : ∃ m : List α, slc l 0 (imin (l.length : Int) 13) f = f m := by
 have h := imin_13 l.length
 exact ⟨_, slc_p (by omega) (by rw [h]; omega) (by rw [h]; omega)⟩
theorem CheckWorst_some (n : TNet) (a b k : Int) (u : TFailure) : ∃ y, flow_CheckWorst_F n a b k u = some y := by
 unfold flow_CheckWorst_F
 simp only [jn_d, isInF, bd_s]
 by_cases hW : NV n ∧ 0 ≤ u.Failed ∧ u.Failed < 2 ^ n.Edges.length
 · obtain ⟨h0, h1, h2⟩ := hW
   have hel := h0.el
   have hp : (2 : Int) ^ n.Edges.length ≤ 2 ^ 40 := two_pow_le hel
   obtain ⟨F, hF⟩ : ∃ F : Nat, u.Failed = (F : Int) := ⟨_, (Int.toNat_of_nonneg h1).symm⟩
   rw [hF] at h1 h2 ⊢
   obtain ⟨y, ey⟩ := CheckCut_some (wo n F) a b u.Cut
   rw [Without_ok h0 h2, bd_s, pop40_ok (by omega), bd_s]
   simp only
   rw [ey, bd_s]
   simp only [cn_if]
   split
   · exact ⟨_, rfl⟩
   · split
     · exact ⟨_, rfl⟩
     · split
       · exact ⟨_, rfl⟩
       · split <;> exact ⟨_, rfl⟩
 · rw [Without_no hW, bd_s]
   have h2 : ((270 : Int) != 0) = true := rfl
   simp only [h2, cn_t]
   exact ⟨_, rfl⟩
theorem m3_all (n : TNet) (e : Int × Int × Int) (L : List TFailure) (hL : L.length ≤ 1000) : lp (law27_FlowFailuresMatchReference_b3 n e L) FU 0 = some (.inl (L.length : Int)) := by
 refine loop_all _ (by omega) (fun k hk => ?_) ?_
 · unfold law27_FlowFailuresMatchReference_b3
   simp only [cn_dec]
   rw [if_pos (by omega), ix_n hk, refCheckWorst]
   obtain ⟨y, ey⟩ := CheckWorst_some n e.1 e.2.1 e.2.2 (L.getD k default)
   rw [ey, bd_s, bd_s, wr_id (by omega) (by omega)]
   simp only [BEq.rfl, Bool.not_true, cn_f]
   rfl
 · unfold law27_FlowFailuresMatchReference_b3
   simp only [cn_dec]
   rw [if_neg (by omega)]
theorem m5_all (n : TNet) (l : List Int) (L : List TSupply) (hL : L.length ≤ 1000) (hA : ∀ u ∈ L, u.Amounts.length ≤ 100000) : lp (law27_FlowFailuresMatchReference_b5 n l L) FU 0 = some (.inl (L.length : Int)) := by
 refine loop_all _ (by omega) (fun k hk => ?_) ?_
 · unfold law27_FlowFailuresMatchReference_b5
   simp only [cn_dec]
   have h := hA _ (getD_memD hk)
   rw [if_pos (by omega), ix_n hk, refCheckMeet _ _ _ h]
   obtain ⟨y, ey, _⟩ := checkMeet_iff n l (L.getD k default) h
   rw [ey, bd_s, bd_s, wr_id (by omega) (by omega)]
   simp only [BEq.rfl, Bool.not_true, cn_f]
   rfl
 · unfold law27_FlowFailuresMatchReference_b5
   simp only [cn_dec]
   rw [if_neg (by omega)]
theorem m2_all {a2 : Int × Int × Int} (o2 : okA23 a2) (a6 : TFailure) (n : TNet) (L : List (Int × Int × Int)) (hL : L.length ≤ 1000) : lp (law27_FlowFailuresMatchReference_b2 a2 a6 n L) FU 0 = some (.inl (L.length : Int)) := by
 obtain ⟨p1, p2⟩ := pickZ_lt a2.2.2 (n := 16) (by omega)
 refine loop_all _ (by omega) (fun k hk => ?_) ?_
 · unfold law27_FlowFailuresMatchReference_b2
   simp only [cn_dec, jn_d]
   rw [if_pos (by omega), ix_n hk]
   generalize L.getD k default = e
   rw [pick_law _ _ o2.2.2 (by omega), pick_law _ _ o2.1 (by omega), refEnds]
   by_cases he : EndsI n e.1 e.2.1 ∧ 0 ≤ e.2.2 ∧ e.2.2 ≤ 3
   · obtain ⟨he, hk0, hk3⟩ := he
     obtain ⟨s, t, e1, e2, hv⟩ := he.nat
     obtain ⟨f, hf⟩ : ∃ f : Nat, e.2.2 = (f : Int) := ⟨_, (Int.toNat_of_nonneg hk0).symm⟩
     obtain ⟨nd, hg, ew, hle⟩ := Worst_ok hv (f := f) (by omega)
     have er := refWorst hv (by omega) hg hle
     rw [← e1, ← e2, ← hf] at ew er
     have hval : (wF n f nd).Value = wV n f nd := rfl
     rw [ew, bd_s, bd_s, decide_eq_true he, cn_t, if_pos hk0, er, decide_eq_true hk3]
     simp only [bne_self_eq_false, BEq.rfl, Bool.not_true, cn_f, cn_t, bd_s, hval]
     rw [gd_p _ p1, lt_d, m3_all _ _ _ (by simp), bd_s, smK_l, wr_id (by omega) (by omega)]
     first | rfl | (split <;> rfl)
   · have hp : (cn (decide (EndsI n e.1 e.2.1)) (if e.2.2 ≥ 0 then some (decide (e.2.2 ≤ 3)) else some false) (some false)) = some false := by
       rw [cn_dec]
       split
       · rename_i h1
         split
         · rename_i h2
           rw [decide_eq_false fun h3 => he ⟨h1, h2, h3⟩]
         · rfl
       · rfl
     rw [Worst_no he, bd_s]
     have h1 : ((270 : Int) == 0) = false := rfl
     have h2 : ((270 : Int) != 0) = true := rfl
     have h3 : (!(((0 : Int) == 0) && (((0 : Int) == 0) && ((0 : Int) == 0)))) = false := rfl
     simp only [h1, h2, h3, bne_self_eq_false, cn_f, cn_t, bd_s, cn_dec]
     have fin : gd (0 ≤ pickZ a2.2.2 16) (lt ([(⟨0, 0, 0⟩ : TFailure), (⟨(bxor .i64 0 (bshl .i64 1 (pickZ a2.2.2 16))), 0, 0⟩ : TFailure), (⟨0, (wr ((wr (0 + pickZ a2.1 3)) - 1)), 0⟩ : TFailure), a6, (⟨0, 0, a6.Cut⟩ : TFailure)] : List TFailure) fun l23 =>
         bd (lp (law27_FlowFailuresMatchReference_b3 n e l23) FU 0) fun c28 => smK c28 (fun s29 => (some (.nx (wr ((k : Int) + 1))) : Option (Ct Int Bool))) (fun r30 => some (.rt r30))) = some (.nx ((k + 1 : Nat) : Int)) := by
       rw [gd_p _ p1, lt_d, m3_all _ _ _ (by simp), bd_s, smK_l, wr_id (by omega) (by omega)]
       rfl
     split
     · rename_i q1
       split
       · rename_i q2
         have q4 : ¬ e.2.2 ≤ 3 := fun q3 => he ⟨q1, q2, q3⟩
         simp only [q4, decide_false, if_false, BEq.rfl, Bool.not_true, cn_f]
         first | exact fin | (split <;> exact fin)
       · simp only [BEq.rfl, Bool.not_true, cn_f]
         first | exact fin | (split <;> exact fin)
     · simp only [BEq.rfl, Bool.not_true, cn_f]
       first | exact fin | (split <;> exact fin)
 · unfold law27_FlowFailuresMatchReference_b2
   simp only [cn_dec]
   rw [if_neg (by omega)]
theorem m4_all {a2 : Int × Int × Int} (o2 : okA23 a2) (a9 : TSupply) (n : TNet) (l4 : List Int) (hl4 : l4.length ≤ 41) (L : List (List Int)) (hL : L.length ≤ 1000) : lp (law27_FlowFailuresMatchReference_b4 a2 a9 n l4 L) FU 0 = some (.inl (L.length : Int)) := by
 refine loop_all _ (by omega) (fun k hk => ?_) ?_
 · unfold law27_FlowFailuresMatchReference_b4
   simp only [cn_dec, jn_d]
   rw [if_pos (by omega), ix_n hk]
   generalize L.getD k default = l
   have rest : ∀ u : TSupply, u.Amounts.length ≤ 40 → (bd (ref27_BentList_F u.Amounts a2.2.1 a2.1 a2.2.2) fun y45 =>
       lt ([u, (⟨u.Met, y45, u.Set⟩ : TSupply), (⟨a9.Met, l4, a9.Set⟩ : TSupply), (⟨u.Met, u.Amounts, a9.Set⟩ : TSupply), (⟨(!u.Met), u.Amounts, u.Set⟩ : TSupply)] : List TSupply) fun l46 =>
       bd (lp (law27_FlowFailuresMatchReference_b5 n l l46) FU 0) fun c51 => smK c51 (fun s52 => (some (.nx (wr ((k : Int) + 1))) : Option (Ct Int Bool))) (fun r53 => some (.rt r53))) = some (.nx ((k + 1 : Nat) : Int)) := fun u hu => by
     obtain ⟨b, eb, hb⟩ := bentL_ok1 u.Amounts (by omega) o2.2.1 o2.1 o2.2.2
     rw [eb, bd_s, lt_d, m5_all _ _ _ (by simp) (fun w hw => by
       simp only [List.mem_cons, List.not_mem_nil, or_false] at hw
       rcases hw with rfl | rfl | rfl | rfl | rfl
       · omega
       · simp only; omega
       · simp only; omega
       · simp only; omega
       · simp only; omega), bd_s, smK_l, wr_id (by omega) (by omega)]
     rfl
   rw [refSupplies]
   by_cases h : SupV n l
   · obtain ⟨c, ec, hc⟩ := refRefuted h
     rw [decide_eq_true h]
     rcases Meet_ok h with ⟨A, e, hA⟩ | ⟨S, e, h1, h2⟩
     · have hl : A.length ≤ 40 := by rw [hA.ok.1]; exact h.v.el
       have hcf : c = false := by
         cases c with
         | false => rfl
         | true =>
           obtain ⟨S, q1, q2⟩ := hc.1 rfl
           have := hA.cut h S.testBit
           omega
       rw [e, bd_s, bd_s]
       simp only [BEq.rfl, Bool.not_true, cn_f, cn_t]
       rw [ec, bd_s, hcf]
       have hb : ((true : Bool) == false) = false := rfl
       simp only [hb, bne_self_eq_false, BEq.rfl, Bool.not_true, cn_f]
       exact rest ⟨true, A, 0⟩ hl
     · have hct : c = true := hc.2 ⟨S, h1, h2⟩
       rw [e, bd_s, bd_s]
       simp only [BEq.rfl, Bool.not_true, cn_f, cn_t]
       rw [ec, bd_s, hct]
       have hb : ((false : Bool) == true) = false := rfl
       simp only [hb, bne_self_eq_false, BEq.rfl, Bool.not_true, cn_f]
       exact rest ⟨false, [], (S : Int)⟩ (by simp)
   · rw [decide_eq_false h, Meet_no h, bd_s, bd_s]
     have h1 : ((270 : Int) == 0) = false := rfl
     have h2 : ((270 : Int) != 0) = true := rfl
     have h3 : (([] : List Int).length : Int) = 0 := rfl
     simp only [h1, h2, bne_self_eq_false, BEq.rfl, Bool.not_true, cn_f, cn_t]
     rw [h3, if_neg (by decide)]
     exact rest ⟨false, [], 0⟩ (by simp)
 · unfold law27_FlowFailuresMatchReference_b4
   simp only [cn_dec]
   rw [if_neg (by omega)]
theorem plain4 (a0 : Int) (a1 : List (Int × Int × Int)) (a2 : Int × Int × Int) (a3 a4 a5 : Int) (a6 : TFailure) (a7 a8 : List Int) (a9 : TSupply) (o0 : okI a0) (o1 : okL okA23 a1) (o2 : okA23 a2) (o3 : okI a3) (o4 : okI a4) (o5 : okI a5) (o6 : okTFailure a6) (o7 : okL okI a7) (o8 : okL okI a8) (o9 : okTSupply a9) : law27_FlowFailuresMatchReference_F a0 a1 a2 a3 a4 a5 a6 a7 a8 a9 = some true := by
 obtain ⟨n, en, hn⟩ := made_ok a0 a1 o0 o1
 obtain ⟨s, t, ee, he⟩ := ends_ok hn o3 o4
 obtain ⟨m, em, hm⟩ := bent_ok hn o2.1 o2.2.1 o2.2.2
 obtain ⟨l, el, hsup, -⟩ := supplied_ok hn o7
 have hN := hn.nn
 have hll := hsup.ll
 obtain ⟨b, eb, hb⟩ := bentL_ok1 l (by omega) o2.1 o2.2.1 o2.2.2
 unfold law27_FlowFailuresMatchReference_F
 rw [sane_ok, bd_s, Bool.not_true, cn_f, en, bd_s, ee, bd_s]
 obtain ⟨l4, e4, h4⟩ := slc41 a9.Amounts fun l4 => bd (ref27_Bent_F n a2.1 a2.2.1 a2.2.2) fun y5 => lt ([n, y5] : List TNet) fun l6 =>
   bd (lp (law27_FlowFailuresMatchReference_b1 a2 a3 a4 a5 a6 a7 a8 a9 l4 l6 n ((s : Int), (t : Int))) FU 0) fun c57 => smK c57 (fun s58 => some true) (fun r59 => some r59)
 rw [e4, em, bd_s, lt_d]
 have hl2 : ([n, m] : List TNet).length = 2 := rfl
 generalize ([n, m] : List TNet) = L at hl2
 rw [loop_all (body := law27_FlowFailuresMatchReference_b1 a2 a3 a4 a5 a6 a7 a8 a9 l4 L n ((s : Int), (t : Int))) 2 (by omega) (fun k hk => by
   unfold law27_FlowFailuresMatchReference_b1
   simp only [cn_dec]
   rw [if_pos (by omega), ix_n (by omega), pick_law _ _ o5 (by omega), bd_s, lt_d, m2_all o2 _ _ _ (by simp), bd_s, smK_l, el, bd_s, eb, bd_s]
   obtain ⟨l8, e8⟩ := slc13 a8 fun l36 => lt ([l, b, l36] : List (List Int)) fun l37 =>
     bd (lp (law27_FlowFailuresMatchReference_b4 a2 a9 (L.getD k default) l4 l37) FU 0) fun c54 => smK c54 (fun s55 => (some (.nx (wr ((k : Int) + 1))) : Option (Ct Int Bool))) (fun r56 => some (.rt r56))
   rw [e8, lt_d, m4_all o2 _ _ _ h4 _ (by simp), bd_s, smK_l, wr_id (by omega) (by omega)]
   rfl) (by
   unfold law27_FlowFailuresMatchReference_b1
   simp only [cn_dec]
   rw [if_neg (by omega)]), bd_s, smK_l]
end Go.Proofs.Ytgkmodjcoedonaa
