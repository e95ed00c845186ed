import Derived.Test.YtcidmnpihffphaaM7
set_option linter.unusedVariables false
set_option linter.unusedSimpArgs false
set_option linter.unusedSectionVars false
namespace Go.Proofs.Ytcidmnpihffphaa
open Go Go.Eng
set_option maxHeartbeats 0
set_option maxRecDepth 100000

    def law34_RecoveryMatchesReference_b5 (e7 : TRegion) (e11 : List TAttempt) (l57 : List (List TTicket)) (s58 : Int) : Option (Ct Int Bool) := cn (decide (s58 < (l57.length : Int))) (ix l57 default s58 fun e59 =>
    bd (recovery_Check_F e7 e11 e59) fun y60 => bd (ref34_Check_F e7 e11 e59) fun y61 => cn (!(y60 == y61)) (some (.rt false)) (some (.nx (wr (s58 + 1))))) (some (.bk s58))
theorem W_blaw34_RecoveryMatchesReference_b5 {e7 : TRegion} {e11 : List TAttempt} {l57 : List (List TTicket)} {s58 : Int} {Φ : Ct Int Bool → Prop} (h : W (law34_RecoveryMatchesReference_b5 e7 e11 l57 s58) Φ) : W (cn (decide (s58 < (l57.length : Int))) (ix l57 default s58 fun e59 => bd (recovery_Check_F e7 e11 e59) fun y60 => bd (ref34_Check_F e7 e11 e59) fun y61 => cn (!(y60 ==
    y61)) (some (.rt false)) (some (.nx (wr (s58 + 1))))) (some (.bk s58))) Φ := h

    def law34_RecoveryMatchesReference_b4 (e7 : TRegion) (e11 : List TAttempt) (l39 : List Int) (s40 : Int) : Option (Ct Int Bool) := cn (decide (s40 < (l39.length : Int))) (ix l39 default s40 fun e41 =>
    bd (recovery_Storm_F e7 e11 e41) fun y42 => bd (ref34_Storm_F e7 e11 e41) fun y43 => jn (fun p44 : Bool => cn p44 (some (.rt false)) (some (.nx (wr (s40 + 1))))) fun k45 =>
    bd (ref34_Same_F y42.1 y43.1) fun y46 => cn (!y46) (k45 true) (cn (y42.2.1 != y43.2.1) (k45 true) (k45 (y42.2.2 != y43.2.2)))) (some (.bk s40))
theorem W_blaw34_RecoveryMatchesReference_b4 {e7 : TRegion} {e11 : List TAttempt} {l39 : List Int} {s40 : Int} {Φ : Ct Int Bool → Prop} (h : W (law34_RecoveryMatchesReference_b4 e7 e11 l39 s40) Φ) : W (cn (decide (s40 < (l39.length : Int))) (ix l39 default s40 fun e41 => bd (recovery_Storm_F e7 e11 e41) fun y42 => bd (ref34_Storm_F e7 e11 e41) fun y43 => jn (fun p44 : Bool =>
    cn p44 (some (.rt false)) (some (.nx (wr (s40 + 1))))) fun k45 => bd (ref34_Same_F y42.1 y43.1) fun y46 => cn (!y46) (k45 true) (cn (y42.2.1 !=
    y43.2.1) (k45 true) (k45 (y42.2.2 != y43.2.2)))) (some (.bk s40))) Φ := h

    def law34_RecoveryMatchesReference_b3 (e7 : TRegion) (e11 : List TAttempt) (l26 : List Int) (s27 : Int) : Option (Ct Int Bool) := cn (decide (s27 < (l26.length : Int))) (ix l26 default s27 fun e28 =>
    bd (recovery_Load_F e7 e11 e28) fun y29 => bd (ref34_Load_F e7 e11 e28) fun y30 => bd (recovery_Capacity_F e7 e28) fun y31 => bd (ref34_Capacity_F e7 e28) fun y32 =>
    jn (fun p33 : Bool => cn p33 (some (.rt false)) (some (.nx (wr (s27 + 1))))) fun k34 => cn (y29.1 != y30.1) (k34 true) (cn (y29.2 != y30.2) (k34 true) (cn (y31.1 !=
    y32.1) (k34 true) (k34 (y31.2 != y32.2))))) (some (.bk s27))
theorem W_blaw34_RecoveryMatchesReference_b3 {e7 : TRegion} {e11 : List TAttempt} {l26 : List Int} {s27 : Int} {Φ : Ct Int Bool → Prop} (h : W (law34_RecoveryMatchesReference_b3 e7 e11 l26 s27) Φ) : W (cn (decide (s27 < (l26.length : Int))) (ix l26 default s27 fun e28 => bd (recovery_Load_F e7 e11 e28) fun y29 => bd (ref34_Load_F e7 e11 e28) fun y30 =>
    bd (recovery_Capacity_F e7 e28) fun y31 => bd (ref34_Capacity_F e7 e28) fun y32 => jn (fun p33 : Bool => cn p33 (some (.rt false)) (some (.nx (wr (s27 + 1))))) fun k34 =>
    cn (y29.1 != y30.1) (k34 true) (cn (y29.2 != y30.2) (k34 true) (cn (y31.1 != y32.1) (k34 true) (k34 (y31.2 != y32.2))))) (some (.bk s27))) Φ := h

    def law34_RecoveryMatchesReference_b2 (a3 : Int × Int × Int) (a4 : Int) (a5 : Int) (e7 : TRegion) (l9 : List (List TAttempt)) (s10 : Int) : Option (Ct Int Bool) := cn (decide (s10 < (l9.length : Int))) (ix l9 default s10 fun e11 =>
    bd (recovery_Plan_F e7 e11) fun y12 => bd (ref34_Plan_F e7 e11) fun y13 => bd (recovery_Safe_F e7 e11) fun y14 => bd (ref34_Safe_F e7 e11) fun y15 =>
    bd (recovery_Last_F e7 e11) fun y16 => bd (ref34_Last_F e7 e11) fun y17 => jn (fun p18 : Bool => cn p18 (some (.rt false)) (bd (law34_pick_F a4 60) fun y25 =>
    lt ([a4, y25] : List Int) fun l26 => bd (lp (law34_RecoveryMatchesReference_b3 e7 e11 l26) FU 0) fun c35 => smK c35 (fun s36 => bd (law34_pick_F a5 5) fun y38 =>
    lt ([a5, (wr (1 + y38))] : List Int) fun l39 => bd (lp (law34_RecoveryMatchesReference_b4 e7 e11 l39) FU 0) fun c47 => smK c47 (fun s48 => lt ([] : List TTicket) fun l50 =>
    gd (y13.1.length ≤ 1048576) (lt y13.1 fun l51 => jn (fun p52 : (List TTicket) => lt ([y13.1, p52, []] : List (List TTicket)) fun l57 =>
    bd (lp (law34_RecoveryMatchesReference_b5 e7 e11 l57) FU 0) fun c62 => smK c62 (fun s63 => some (.nx (wr (s10 + 1)))) (fun r64 => some (.rt r64))) fun k53 =>
    cn (decide ((l51.length : Int) > 0)) (bd (law34_pick_F a3.2.2 (l51.length : Int)) fun y54 => bd (law34_pick_F a4 40) fun y55 =>
    gd (0 ≤ y54 ∧ y54 < (l51.length : Int)) (st l51 (y54) (⟨(l51.getD (y54).toNat default).Caller, (l51.getD (y54).toNat default).First, y55⟩ : TTicket) fun l56 =>
    k53 l56)) (k53 l51))) (fun r49 => some (.rt r49))) (fun r37 => some (.rt r37)))) fun k19 => bd (recovery_Valid_F e7) fun y20 => bd (ref34_Valid_F e7) fun y21 => cn (!(y20 ==
    y21)) (k19 true) (bd (recovery_Ready_F e11) fun y22 => bd (ref34_Ready_F e11) fun y23 => cn (!(y22 == y23)) (k19 true) (cn (y12.2 !=
    y13.2) (k19 true) (bd (ref34_Same_F y12.1 y13.1) fun y24 => cn (!y24) (k19 true) (cn (y14.1 != y15.1) (k19 true) (cn (!(y14.2 == y15.2)) (k19 true) (cn (y16.1 !=
    y17.1) (k19 true) (k19 (y16.2 != y17.2))))))))) (some (.bk s10))
theorem W_blaw34_RecoveryMatchesReference_b2 {a3 : Int × Int × Int} {a4 : Int} {a5 : Int} {e7 : TRegion} {l9 : List (List TAttempt)} {s10 : Int} {Φ : Ct Int Bool → Prop} (h : W (law34_RecoveryMatchesReference_b2 a3 a4 a5 e7 l9 s10) Φ) : W (cn (decide (s10 < (l9.length : Int))) (ix l9 default s10 fun e11 => bd (recovery_Plan_F e7 e11) fun y12 => bd (ref34_Plan_F e7 e11) fun y13 => bd (recovery_Safe_F e7 e11) fun y14 =>
    bd (ref34_Safe_F e7 e11) fun y15 => bd (recovery_Last_F e7 e11) fun y16 => bd (ref34_Last_F e7 e11) fun y17 => jn (fun p18 : Bool =>
    cn p18 (some (.rt false)) (bd (law34_pick_F a4 60) fun y25 => lt ([a4, y25] : List Int) fun l26 => bd (lp (law34_RecoveryMatchesReference_b3 e7 e11 l26) FU 0) fun c35 =>
    smK c35 (fun s36 => bd (law34_pick_F a5 5) fun y38 => lt ([a5, (wr (1 + y38))] : List Int) fun l39 => bd (lp (law34_RecoveryMatchesReference_b4 e7 e11 l39) FU 0) fun c47 =>
    smK c47 (fun s48 => lt ([] : List TTicket) fun l50 => gd (y13.1.length ≤ 1048576) (lt y13.1 fun l51 => jn (fun p52 : (List TTicket) =>
    lt ([y13.1, p52, []] : List (List TTicket)) fun l57 => bd (lp (law34_RecoveryMatchesReference_b5 e7 e11 l57) FU 0) fun c62 => smK c62 (fun s63 =>
    some (.nx (wr (s10 + 1)))) (fun r64 => some (.rt r64))) fun k53 => cn (decide ((l51.length : Int) > 0)) (bd (law34_pick_F a3.2.2 (l51.length : Int)) fun y54 =>
    bd (law34_pick_F a4 40) fun y55 =>
    gd (0 ≤ y54 ∧ y54 < (l51.length : Int)) (st l51 (y54) (⟨(l51.getD (y54).toNat default).Caller, (l51.getD (y54).toNat default).First, y55⟩ : TTicket) fun l56 =>
    k53 l56)) (k53 l51))) (fun r49 => some (.rt r49))) (fun r37 => some (.rt r37)))) fun k19 => bd (recovery_Valid_F e7) fun y20 => bd (ref34_Valid_F e7) fun y21 => cn (!(y20 ==
    y21)) (k19 true) (bd (recovery_Ready_F e11) fun y22 => bd (ref34_Ready_F e11) fun y23 => cn (!(y22 == y23)) (k19 true) (cn (y12.2 !=
    y13.2) (k19 true) (bd (ref34_Same_F y12.1 y13.1) fun y24 => cn (!y24) (k19 true) (cn (y14.1 != y15.1) (k19 true) (cn (!(y14.2 == y15.2)) (k19 true) (cn (y16.1 !=
    y17.1) (k19 true) (k19 (y16.2 != y17.2))))))))) (some (.bk s10))) Φ := h

    def law34_RecoveryMatchesReference_b1 (a3 : Int × Int × Int) (a4 : Int) (a5 : Int) (l5 : List TRegion) (y3 : List TAttempt) (s6 : Int) : Option (Ct Int Bool) := cn (decide (s6 < (l5.length : Int))) (ix l5 default s6 fun e7 =>
    bd (ref34_BentAttempts_F y3 a3.1 a3.2.1 a3.2.2) fun y8 => lt ([y3, y8] : List (List TAttempt)) fun l9 =>
    bd (lp (law34_RecoveryMatchesReference_b2 a3 a4 a5 e7 l9) FU 0) fun c65 => smK c65 (fun s66 => some (.nx (wr (s6 + 1)))) (fun r67 => some (.rt r67))) (some (.bk s6))
theorem W_blaw34_RecoveryMatchesReference_b1 {a3 : Int × Int × Int} {a4 : Int} {a5 : Int} {l5 : List TRegion} {y3 : List TAttempt} {s6 : Int} {Φ : Ct Int Bool → Prop} (h : W (law34_RecoveryMatchesReference_b1 a3 a4 a5 l5 y3 s6) Φ) : W (cn (decide (s6 < (l5.length : Int))) (ix l5 default s6 fun e7 => bd (ref34_BentAttempts_F y3 a3.1 a3.2.1 a3.2.2) fun y8 => lt ([y3, y8] : List (List TAttempt)) fun l9 =>
    bd (lp (law34_RecoveryMatchesReference_b2 a3 a4 a5 e7 l9) FU 0) fun c65 => smK c65 (fun s66 => some (.nx (wr (s6 + 1)))) (fun r67 => some (.rt r67))) (some (.bk s6))) Φ := h

    def law34_RecoveryMatchesReference_F (a0 : List (Int × Int)) (a1 : Int) (a2 : List (Int × Int)) (a3 : Int × Int × Int) (a4 : Int) (a5 : Int) : Option Bool := bd (law34_sane_F ) fun y1 =>
    cn (!y1) (some false) (bd (ref34_Made_F a0 a1) fun y2 => bd (ref34_Attempts_F a2) fun y3 => bd (ref34_BentRegion_F y2 a3.1 a3.2.1 a3.2.2) fun y4 =>
    lt ([y2, y4] : List TRegion) fun l5 => bd (lp (law34_RecoveryMatchesReference_b1 a3 a4 a5 l5 y3) FU 0) fun c68 => smK c68 (fun s69 => some y1) (fun r70 => some r70))
def law34_RecoveryMatchesReference_S : List AV → AV → Prop := fun args r => ∃ a0 a1 a2 a3 a4 a5, args = [(eL 2 eA71 default) a0, eI a1, (eL 2 eA71 default) a2, eA23 a3, eI a4, eI a5] ∧ W (law34_RecoveryMatchesReference_F a0 a1 a2 a3 a4 a5) fun y => r = (eB y)
theorem law34_RecoveryMatchesReference_ok {T : Tbl} (hT : TOk Try.prog T) (hpf : PfOk T PF) (h13 : T 13 = pureR law34_sane_S) (h14 : T 14 = pureR ref34_Made_S) (h15 : T 15 = pureR ref34_Attempts_S) (h16 : T 16 = pureR ref34_BentRegion_S) (h17 : T 17 = pureR ref34_BentAttempts_S) (h18 : T 18 = pureR recovery_Plan_S) (h19 : T 19 = pureR ref34_Plan_S) (h20 : T 20 = pureR recovery_Safe_S) (h21 : T 21 = pureR ref34_Safe_S) (h22 : T 22 = pureR recovery_Last_S) (h23 : T 23 = pureR ref34_Last_S) (h24 : T 24 = pureR recovery_Valid_S) (h25 : T 25 = pureR ref34_Valid_S) (h26 : T 26 = pureR recovery_Ready_S) (h27 : T 27 = pureR ref34_Ready_S) (h28 : T 28 = pureR ref34_Same_S) (h29 : T 29 = pureR law34_pick_S) (h30 : T 30 = pureR recovery_Load_S) (h31 : T 31 = pureR ref34_Load_S) (h32 : T 32 = pureR recovery_Capacity_S) (h33 : T 33 = pureR ref34_Capacity_S) (h34 : T 34 = pureR recovery_Storm_S) (h35 : T 35 = pureR ref34_Storm_S) (h36 : T 36 = pureR recovery_Check_S) (h37 : T 37 = pureR ref34_Check_S) : FOk Try.prog 3 (pureR law34_RecoveryMatchesReference_S) := by
  refine FOk_pure hT hpf Try.func3 rfl Try.ntmps3 Try.results3 (by decide) ?_
  rintro args r ⟨a0, a1, a2, a3, a4, a5, rfl, h⟩
  refine ⟨nle rfl, ?_, ?_⟩
  · exact (loose_cons (loose_lst fun _ => (lo_A71 _)) (loose_cons (loose_int _ _) (loose_cons (loose_lst fun _ => (lo_A71 _)) (loose_cons (lo_A23 _) (loose_cons (loose_int _ _) (loose_cons (loose_int _ _) loose_nil))))))
  rw [law34_RecoveryMatchesReference_F.eq_1] at h
  refine HT_fr DC_ok rfl fun K hK => ?_; (conv => whnf)
  refine hK _ _ _ ?_; clear hK K
  refine HT_fr DC_ok rfl fun K hK => ?_; (conv => whnf)
  replace h := W_bd h
  refine law34_sane_call h13 h (WkL.refl _) (fun _ h => ?_); (conv => whnf)
  refine hK _ _ _ ?_; clear hK K
  refine HT_seq ?_
  refine HT_fr DC_ok rfl fun K hK => ?_; (conv => whnf)
  refine hK _ _ _ ?_; clear hK K
  refine HT_if fun K1 K2 hK1 hK2 => ?_; (conv => whnf)
  refine cond_lk h (fun _ h => ?_) (fun _ h => ?_)
  · refine hK1 ?_; clear hK1 hK2 K1 K2
    refine HT_fr DC_ok rfl fun K hK => ?_; (conv => whnf)
    refine hK _ _ _ ?_; clear hK K
    refine HT_ret ?_
    refine Then_r ?_
    replace h := W_some h
    refine PostP_r DC_ok fun K hK => ?_; (conv => whnf)
    refine hK _ ?_; clear hK K
    cases h
    exact Wk.refl _
  refine hK2 ?_; clear hK1 hK2 K1 K2
  refine HT_skip ?_
  refine Then_n ?_
  refine HT_fr DC_ok rfl fun K hK => ?_; (conv => whnf)
  replace h := W_bd h
  refine ref34_Made_call h14 h (WkL.refl _) (fun _ h => ?_); (conv => whnf)
  refine blkK_of rfl ?_; (conv => whnf)
  refine And.intro rfl (And.intro (nle rfl) (And.intro rfl ?_)); (conv => whnf)
  refine hK _ _ _ ?_; clear hK K
  refine HT_fr DC_ok rfl fun K hK => ?_; (conv => whnf)
  replace h := W_bd h
  refine ref34_Attempts_call h15 h (WkL.refl _) (fun _ h => ?_); (conv => whnf)
  refine hK _ _ _ ?_; clear hK K
  refine HT_seq ?_
  refine HT_fd DC_ok mix_ok rfl (by kernel_rfl) fun K hK => ?_; (conv => whnf)
  refine nlA rfl ?_; (conv => whnf)
  refine blkK_of rfl ?_; (conv => whnf)
  refine nlA rfl ?_; (conv => whnf)
  refine nlA rfl ?_; (conv => whnf)
  refine blkK_of rfl ?_; (conv => whnf)
  refine nlA rfl ?_; (conv => whnf)
  refine And.intro (by decide) ?_; (conv => whnf)
  refine nlA rfl ?_; (conv => whnf)
  refine blkK_of rfl ?_; (conv => whnf)
  refine getK_of rfl ?_; (conv => whnf)
  refine And.intro (by decide) ?_; (conv => whnf)
  refine nlA rfl ?_; (conv => whnf)
  refine blkK_of rfl ?_; (conv => whnf)
  refine getK_of rfl ?_; (conv => whnf)
  refine And.intro (by decide) ?_; (conv => whnf)
  refine nlA rfl ?_; (conv => whnf)
  refine blkK_of rfl ?_; (conv => whnf)
  refine getK_of rfl ?_; (conv => whnf)
  replace h := W_bd h
  refine ref34_BentRegion_call h16 h (WkL.refl _) (fun _ h => ?_); (conv => whnf)
  refine lt_lk (enc := eTRegion) (d := default) DC_ok h rfl rfl rfl ⟨nle rfl, nle rfl, rfl⟩ rfl ⟨⟨rfl, nle rfl⟩, ⟨⟨rfl, nle rfl⟩, trivial⟩⟩ (fun h => ?_); (conv => whnf)
  refine hK _ _ _ ?_; clear hK K
  refine HT_block ?_
  replace h := W_bd h
  refine HT_lpK (body := law34_RecoveryMatchesReference_b1 _ _ _ _ _) rfl h [4, 5, 9, 13, 15, 70, 71] [9] [] (fun kl kh ids b s => ⟨ofL ([(72, eI s)] ++ kl), ofH ([] ++ kh), b + 64⟩) ?_; (conv => whnf); refine And.intro ?_ (fun s m h => HT_st ?_)
  · refine weak_k ?_; (conv => whnf)
    exact And.intro rfl (And.intro (allL_c wkI (allL_c wkI (allL_c wkI (allL_c (WkR.ptr (fun _ => rfl)) (allL_c (wkr (loose_bool _)) (allL_c (wkr (loose_lst fun _ => (lo_TAttempt _))) (allL_c (wkr (loose_lstc fun _ => (lo_TRegion _))) (allL_c wkI allL_n)))))))) (allL_c ⟨some _, rfl, BkR_c rfl (CkR_cons wkI (CkR_cons wkI (CkR_cons wkI CkR_nil)))⟩ allL_n))
  replace h := W_blaw34_RecoveryMatchesReference_b1 (W_bd h)
  refine HT_fr DC_ok rfl fun K hK => ?_; (conv => whnf)
  refine hK _ _ _ ?_; clear hK K
  refine HT_seq ?_
  refine HT_if fun K1 K2 hK1 hK2 => ?_; (conv => whnf)
  refine cond_lk h (fun _ h => ?_) (fun _ h => ?_)
  · refine hK1 ?_; clear hK1 hK2 K1 K2
    refine HT_skip ?_
    refine Then_n ?_
    refine HT_seq ?_
    refine HT_block ?_
    refine HT_fr DC_ok rfl fun K hK => ?_; (conv => whnf)
    refine ix_lk h fun _ h => ?_; (conv => whnf)
    refine nlA rfl ?_; (conv => whnf)
    refine blkK_of rfl ?_; (conv => whnf)
    refine And.intro rfl (And.intro (nle rfl) (And.intro rfl ?_)); (conv => whnf)
    refine hK _ _ _ ?_; clear hK K
    refine HT_fr DC_ok rfl fun K hK => ?_; (conv => whnf)
    refine And.intro (by decide) ?_; (conv => whnf)
    refine nlA rfl ?_; (conv => whnf)
    refine blkK_of rfl ?_; (conv => whnf)
    refine getK_of rfl ?_; (conv => whnf)
    refine And.intro (by decide) ?_; (conv => whnf)
    refine nlA rfl ?_; (conv => whnf)
    refine blkK_of rfl ?_; (conv => whnf)
    refine getK_of rfl ?_; (conv => whnf)
    refine And.intro (by decide) ?_; (conv => whnf)
    refine nlA rfl ?_; (conv => whnf)
    refine blkK_of rfl ?_; (conv => whnf)
    refine getK_of rfl ?_; (conv => whnf)
    replace h := W_bd h
    refine ref34_BentAttempts_call h17 h (WkL.refl _) (fun _ h => ?_); (conv => whnf)
    refine lt_lk (enc := (eL 3 eTAttempt default)) (d := default) DC_ok h rfl rfl rfl ⟨nle rfl, nle rfl, rfl⟩ rfl ⟨⟨rfl, rfl, rfl⟩, ⟨⟨rfl, rfl, rfl⟩, trivial⟩⟩ (fun h => ?_); (conv => whnf)
    refine hK _ _ _ ?_; clear hK K
    refine HT_block ?_
    replace h := W_bd h
    refine HT_lpK (body := law34_RecoveryMatchesReference_b2 _ _ _ _ _) rfl h [4, 5, 9, 13, 15, 17, 70, 71, 72, 85, 86] [9, 17] [] (fun kl kh ids b s => ⟨ofL ([(87, eI s)] ++ kl), ofH ([] ++ kh), b + 64⟩) ?_; (conv => whnf); refine And.intro ?_ (fun s m h => HT_st ?_)
    · refine weak_k ?_; (conv => whnf)
      exact And.intro rfl (And.intro (allL_c wkI (allL_c wkI (allL_c wkI (allL_c (WkR.ptr (fun _ => rfl)) (allL_c (wkr (loose_bool _)) (allL_c (wkr (loose_lst fun _ => (lo_TAttempt _))) (allL_c (WkR.ptr (fun _ => rfl)) (allL_c (wkr (loose_lstc fun _ => (lo_TRegion _))) (allL_c wkI (allL_c wkI (allL_c (wkr (loose_lstc fun _ => (loose_lst fun _ => (lo_TAttempt _)))) (allL_c wkI allL_n)))))))))))) (allL_c ⟨some _, rfl, BkR_c rfl (CkR_cons wkI (CkR_cons wkI (CkR_cons wkI CkR_nil)))⟩ (allL_c ⟨some _, rfl, BkR_c rfl (CkR_cons (wkr (loose_lst fun _ => (lo_TGrowth _))) (CkR_cons wkI CkR_nil))⟩ allL_n)))
    replace h := W_blaw34_RecoveryMatchesReference_b2 (W_bd h)
    refine HT_fr DC_ok rfl fun K hK => ?_; (conv => whnf)
    refine hK _ _ _ ?_; clear hK K
    refine HT_seq ?_
    refine HT_if fun K1 K2 hK1 hK2 => ?_; (conv => whnf)
    refine cond_lk h (fun _ h => ?_) (fun _ h => ?_)
    · refine hK1 ?_; clear hK1 hK2 K1 K2
      refine HT_skip ?_
      refine Then_n ?_
      refine HT_seq ?_
      refine HT_block ?_
      refine HT_fr DC_ok rfl fun K hK => ?_; (conv => whnf)
      refine ix_lk h fun _ h => ?_; (conv => whnf)
      refine getK_of rfl ?_; (conv => whnf)
      refine hK _ _ _ ?_; clear hK K
      refine HT_fr DC_ok rfl fun K hK => ?_; (conv => whnf)
      refine nlA rfl ?_; (conv => whnf)
      refine blkK_of rfl ?_; (conv => whnf)
      refine nlA rfl ?_; (conv => whnf)
      replace h := W_bd h
      refine recovery_Plan_call h18 h (WkL.refl _) (fun _ h => ?_); (conv => whnf)
      refine hK _ _ _ ?_; clear hK K
      refine HT_fr DC_ok rfl fun K hK => ?_; (conv => whnf)
      refine nlA rfl ?_; (conv => whnf)
      refine blkK_of rfl ?_; (conv => whnf)
      refine nlA rfl ?_; (conv => whnf)
      replace h := W_bd h
      refine ref34_Plan_call h19 h (WkL.refl _) (fun _ h => ?_); (conv => whnf)
      refine hK _ _ _ ?_; clear hK K
      refine HT_fr DC_ok rfl fun K hK => ?_; (conv => whnf)
      refine nlA rfl ?_; (conv => whnf)
      refine blkK_of rfl ?_; (conv => whnf)
      refine nlA rfl ?_; (conv => whnf)
      replace h := W_bd h
      refine recovery_Safe_call h20 h (WkL.refl _) (fun _ h => ?_); (conv => whnf)
      refine hK _ _ _ ?_; clear hK K
      refine HT_fr DC_ok rfl fun K hK => ?_; (conv => whnf)
      refine nlA rfl ?_; (conv => whnf)
      refine blkK_of rfl ?_; (conv => whnf)
      refine nlA rfl ?_; (conv => whnf)
      replace h := W_bd h
      refine ref34_Safe_call h21 h (WkL.refl _) (fun _ h => ?_); (conv => whnf)
      refine hK _ _ _ ?_; clear hK K
      refine HT_fr DC_ok rfl fun K hK => ?_; (conv => whnf)
      refine nlA rfl ?_; (conv => whnf)
      refine blkK_of rfl ?_; (conv => whnf)
      refine nlA rfl ?_; (conv => whnf)
      replace h := W_bd h
      refine recovery_Last_call h22 h (WkL.refl _) (fun _ h => ?_); (conv => whnf)
      refine hK _ _ _ ?_; clear hK K
      refine HT_fr DC_ok rfl fun K hK => ?_; (conv => whnf)
      refine nlA rfl ?_; (conv => whnf)
      refine blkK_of rfl ?_; (conv => whnf)
      refine nlA rfl ?_; (conv => whnf)
      replace h := W_bd h
      refine ref34_Last_call h23 h (WkL.refl _) (fun _ h => ?_); (conv => whnf)
      refine hK _ _ _ ?_; clear hK K
      refine HT_seq ?_
      refine HT_jnK rfl h [4, 5, 9, 13, 15, 17, 19, 22, 70, 71, 72, 85, 86, 87] [9, 17] [] (fun kl kh ids b s => ⟨ofL ([(169, eB s)] ++ kl), ofH ([] ++ kh), b + 64⟩) ?_; (conv => whnf); refine And.intro (fun s h => HT_st ?_) (fun k h => ?_)
      · refine HT_if fun K1 K2 hK1 hK2 => ?_; (conv => whnf)
        refine cond_lk h (fun _ h => ?_) (fun _ h => ?_)
        · refine hK1 ?_; clear hK1 hK2 K1 K2
          refine HT_fr DC_ok rfl fun K hK => ?_; (conv => whnf)
          refine hK _ _ _ ?_; clear hK K
          refine HT_ret ?_
          refine Then_r ?_
          refine InBlock_r ?_
          refine Then_r ?_
          refine Then_r ?_
          refine InBlock_r ?_
          refine InBlock_r ?_
          refine Then_r ?_
          refine Then_r ?_
          refine InBlock_r ?_
          refine Then_r ?_
          replace h := W_xrt h
          replace h := W_inr h
          replace h := W_xrt h
          replace h := W_inr h
          replace h := W_some h
          refine PostP_r DC_ok fun K hK => ?_; (conv => whnf)
          refine hK _ ?_; clear hK K
          cases h
          exact Wk.refl _
        refine hK2 ?_; clear hK1 hK2 K1 K2
        refine HT_skip ?_
        refine Then_n ?_
        refine HT_seq ?_
        refine HT_fr DC_ok rfl fun K hK => ?_; (conv => whnf)
        replace h := W_bd h
        refine law34_pick_call h29 h (WkL.refl _) (fun _ h => ?_); (conv => whnf)
        refine lt_lk (enc := eI) (d := default) DC_ok h rfl rfl rfl ⟨nle rfl, nle rfl, rfl⟩ rfl ⟨⟨rfl, rfl, rfl⟩, ⟨⟨rfl, rfl, rfl⟩, trivial⟩⟩ (fun h => ?_); (conv => whnf)
        refine hK _ _ _ ?_; clear hK K
        refine HT_block ?_
        replace h := W_bd h
        refine HT_lpK (body := law34_RecoveryMatchesReference_b3 _ _ _) rfl h [4, 5, 9, 13, 15, 17, 19, 22, 70, 71, 72, 85, 86, 87, 173, 174] [9, 17] [] (fun kl kh ids b s => ⟨ofL ([(175, eI s)] ++ kl), ofH ([] ++ kh), b + 64⟩) ?_; (conv => whnf); refine And.intro ?_ (fun s m h => HT_st ?_)
        · refine weak_k ?_; (conv => whnf)
          exact And.intro rfl (And.intro (allL_c wkI (allL_c wkI (allL_c wkI (allL_c (WkR.ptr (fun _ => rfl)) (allL_c (wkr (loose_bool _)) (allL_c (wkr (loose_lst fun _ => (lo_TAttempt _))) (allL_c (WkR.ptr (fun _ => rfl)) (allL_c (wkr (loose_lst fun _ => (lo_TAttempt _))) (allL_c (wkr (loose_lst fun _ => (lo_TTicket _))) (allL_c (wkr (loose_lstc fun _ => (lo_TRegion _))) (allL_c wkI (allL_c wkI (allL_c (wkr (loose_lstc fun _ => (loose_lst fun _ => (lo_TAttempt _)))) (allL_c wkI (allL_c wkI (allL_c (wkr (loose_lstc fun _ => (loose_int _ _))) (allL_c wkI allL_n))))))))))))))))) (allL_c ⟨some _, rfl, BkR_c rfl (CkR_cons wkI (CkR_cons wkI (CkR_cons wkI CkR_nil)))⟩ (allL_c ⟨some _, rfl, BkR_c rfl (CkR_cons (wkr (loose_lst fun _ => (lo_TGrowth _))) (CkR_cons wkI CkR_nil))⟩ allL_n)))
        replace h := W_blaw34_RecoveryMatchesReference_b3 (W_bd h)
        refine HT_fr DC_ok rfl fun K hK => ?_; (conv => whnf)
        refine hK _ _ _ ?_; clear hK K
        refine HT_seq ?_
        refine HT_if fun K1 K2 hK1 hK2 => ?_; (conv => whnf)
        refine cond_lk h (fun _ h => ?_) (fun _ h => ?_)
        · refine hK1 ?_; clear hK1 hK2 K1 K2
          refine HT_skip ?_
          refine Then_n ?_
          refine HT_seq ?_
          refine HT_block ?_
          refine HT_fr DC_ok rfl fun K hK => ?_; (conv => whnf)
          refine ix_lk h fun _ h => ?_; (conv => whnf)
          refine getK_of rfl ?_; (conv => whnf)
          refine hK _ _ _ ?_; clear hK K
          refine HT_fr DC_ok rfl fun K hK => ?_; (conv => whnf)
          refine nlA rfl ?_; (conv => whnf)
          refine blkK_of rfl ?_; (conv => whnf)
          refine nlA rfl ?_; (conv => whnf)
          replace h := W_bd h
          refine recovery_Load_call h30 h (WkL.refl _) (fun _ h => ?_); (conv => whnf)
          refine hK _ _ _ ?_; clear hK K
          refine HT_fr DC_ok rfl fun K hK => ?_; (conv => whnf)
          refine nlA rfl ?_; (conv => whnf)
          refine blkK_of rfl ?_; (conv => whnf)
          refine nlA rfl ?_; (conv => whnf)
          replace h := W_bd h
          refine ref34_Load_call h31 h (WkL.refl _) (fun _ h => ?_); (conv => whnf)
          refine hK _ _ _ ?_; clear hK K
          refine HT_fr DC_ok rfl fun K hK => ?_; (conv => whnf)
          refine nlA rfl ?_; (conv => whnf)
          refine blkK_of rfl ?_; (conv => whnf)
          refine nlA rfl ?_; (conv => whnf)
          replace h := W_bd h
          refine recovery_Capacity_call h32 h (WkL.refl _) (fun _ h => ?_); (conv => whnf)
          refine hK _ _ _ ?_; clear hK K
          refine HT_fr DC_ok rfl fun K hK => ?_; (conv => whnf)
          refine nlA rfl ?_; (conv => whnf)
          refine blkK_of rfl ?_; (conv => whnf)
          refine nlA rfl ?_; (conv => whnf)
          replace h := W_bd h
          refine ref34_Capacity_call h33 h (WkL.refl _) (fun _ h => ?_); (conv => whnf)
          refine hK _ _ _ ?_; clear hK K
          refine HT_fr DC_ok rfl fun K hK => ?_; (conv => whnf)
          replace h := W_jn h
          refine cond_lk h (fun _ h => ?_) (fun _ h => ?_) <;> (conv => whnf)
          · refine hK _ _ _ ?_; clear hK K
            refine HT_if fun K1 K2 hK1 hK2 => ?_; (conv => whnf)
            refine hK1 ?_; clear hK1 hK2 K1 K2
            replace h := W_cnT h
            refine HT_fr DC_ok rfl fun K hK => ?_; (conv => whnf)
            refine hK _ _ _ ?_; clear hK K
            refine HT_ret ?_
            refine InBlock_r ?_
            refine Then_r ?_
            refine Then_r ?_
            refine InBlock_r ?_
            refine Then_r ?_
            refine InBlock_r ?_
            refine Then_r ?_
            refine Then_r ?_
            refine InBlock_r ?_
            refine InBlock_r ?_
            refine Then_r ?_
            refine Then_r ?_
            refine InBlock_r ?_
            refine Then_r ?_
            replace h := W_xrt h
            replace h := W_inr h
            replace h := W_xrt h
            replace h := W_inr h
            replace h := W_xrt h
            replace h := W_inr h
            replace h := W_some h
            refine PostP_r DC_ok fun K hK => ?_; (conv => whnf)
            refine hK _ ?_; clear hK K
            cases h
            exact Wk.refl _
          refine cond_lk h (fun _ h => ?_) (fun _ h => ?_) <;> (conv => whnf)
          · refine hK _ _ _ ?_; clear hK K
            refine HT_if fun K1 K2 hK1 hK2 => ?_; (conv => whnf)
            refine hK1 ?_; clear hK1 hK2 K1 K2
            replace h := W_cnT h
            refine HT_fr DC_ok rfl fun K hK => ?_; (conv => whnf)
            refine hK _ _ _ ?_; clear hK K
            refine HT_ret ?_
            refine InBlock_r ?_
            refine Then_r ?_
            refine Then_r ?_
            refine InBlock_r ?_
            refine Then_r ?_
            refine InBlock_r ?_
            refine Then_r ?_
            refine Then_r ?_
            refine InBlock_r ?_
            refine InBlock_r ?_
            refine Then_r ?_
            refine Then_r ?_
            refine InBlock_r ?_
            refine Then_r ?_
            replace h := W_xrt h
            replace h := W_inr h
            replace h := W_xrt h
            replace h := W_inr h
            replace h := W_xrt h
            replace h := W_inr h
            replace h := W_some h
            refine PostP_r DC_ok fun K hK => ?_; (conv => whnf)
            refine hK _ ?_; clear hK K
            cases h
            exact Wk.refl _
          refine cond_lk h (fun _ h => ?_) (fun _ h => ?_) <;> (conv => whnf)
          · refine hK _ _ _ ?_; clear hK K
            refine HT_if fun K1 K2 hK1 hK2 => ?_; (conv => whnf)
            refine hK1 ?_; clear hK1 hK2 K1 K2
            replace h := W_cnT h
            refine HT_fr DC_ok rfl fun K hK => ?_; (conv => whnf)
            refine hK _ _ _ ?_; clear hK K
            refine HT_ret ?_
            refine InBlock_r ?_
            refine Then_r ?_
            refine Then_r ?_
            refine InBlock_r ?_
            refine Then_r ?_
            refine InBlock_r ?_
            refine Then_r ?_
            refine Then_r ?_
            refine InBlock_r ?_
            refine InBlock_r ?_
            refine Then_r ?_
            refine Then_r ?_
            refine InBlock_r ?_
            refine Then_r ?_
            replace h := W_xrt h
            replace h := W_inr h
            replace h := W_xrt h
            replace h := W_inr h
            replace h := W_xrt h
            replace h := W_inr h
            replace h := W_some h
            refine PostP_r DC_ok fun K hK => ?_; (conv => whnf)
            refine hK _ ?_; clear hK K
            cases h
            exact Wk.refl _
          refine hK _ _ _ ?_; clear hK K
          refine HT_if fun K1 K2 hK1 hK2 => ?_; (conv => whnf)
          refine cond_lk h (fun _ h => ?_) (fun _ h => ?_)
          · refine hK1 ?_; clear hK1 hK2 K1 K2
            refine HT_fr DC_ok rfl fun K hK => ?_; (conv => whnf)
            refine hK _ _ _ ?_; clear hK K
            refine HT_ret ?_
            refine InBlock_r ?_
            refine Then_r ?_
            refine Then_r ?_
            refine InBlock_r ?_
            refine Then_r ?_
            refine InBlock_r ?_
            refine Then_r ?_
            refine Then_r ?_
            refine InBlock_r ?_
            refine InBlock_r ?_
            refine Then_r ?_
            refine Then_r ?_
            refine InBlock_r ?_
            refine Then_r ?_
            replace h := W_xrt h
            replace h := W_inr h
            replace h := W_xrt h
            replace h := W_inr h
            replace h := W_xrt h
            replace h := W_inr h
            replace h := W_some h
            refine PostP_r DC_ok fun K hK => ?_; (conv => whnf)
            refine hK _ ?_; clear hK K
            cases h
            exact Wk.refl _
          refine hK2 ?_; clear hK1 hK2 K1 K2
          refine HT_skip ?_
          refine InBlock_n ?_
          refine Then_n ?_
          refine HT_f DC_ok rfl fun K hK => ?_; (conv => whnf)
          refine hK _ _ _ ?_; clear hK K
          refine Then_n ?_
          replace h := W_xnx h
          refine ⟨_, h, ?_⟩
          refine weak_k ?_; (conv => whnf)
          exact And.intro rfl (And.intro (allL_c wkI (allL_c wkI (allL_c wkI (allL_c (WkR.ptr (fun _ => rfl)) (allL_c (wkr (loose_bool _)) (allL_c (wkr (loose_lst fun _ => (lo_TAttempt _))) (allL_c (WkR.ptr (fun _ => rfl)) (allL_c (wkr (loose_lst fun _ => (lo_TAttempt _))) (allL_c (wkr (loose_lst fun _ => (lo_TTicket _))) (allL_c (wkr (loose_lstc fun _ => (lo_TRegion _))) (allL_c wkI (allL_c wkI (allL_c (wkr (loose_lstc fun _ => (loose_lst fun _ => (lo_TAttempt _)))) (allL_c wkI (allL_c wkI (allL_c (wkr (loose_lstc fun _ => (loose_int _ _))) (allL_c wkI allL_n))))))))))))))))) (allL_c ⟨some _, rfl, BkR_c rfl (CkR_cons wkI (CkR_cons wkI (CkR_cons wkI CkR_nil)))⟩ (allL_c ⟨some _, rfl, BkR_c rfl (CkR_cons (wkr (loose_lst fun _ => (lo_TGrowth _))) (CkR_cons wkI CkR_nil))⟩ allL_n)))
        refine hK2 ?_; clear hK1 hK2 K1 K2
        refine HT_exit ?_
        refine Then_e ?_
        refine Then_e ?_
        refine InBlock_e ?_
        replace h := W_xbk h
        replace h := W_inl h
        refine Then_n ?_
        refine HT_seq ?_
        refine HT_fr DC_ok rfl fun K hK => ?_; (conv => whnf)
        replace h := W_bd h
        refine law34_pick_call h29 h (WkL.refl _) (fun _ h => ?_); (conv => whnf)
        refine lt_lk (enc := eI) (d := default) DC_ok h rfl rfl rfl ⟨nle rfl, nle rfl, rfl⟩ rfl ⟨⟨rfl, rfl, rfl⟩, ⟨⟨rfl, rfl, rfl⟩, trivial⟩⟩ (fun h => ?_); (conv => whnf)
        refine hK _ _ _ ?_; clear hK K
        refine HT_block ?_
        replace h := W_bd h
        refine HT_lpK (body := law34_RecoveryMatchesReference_b4 _ _ _) rfl h [4, 5, 9, 13, 15, 17, 19, 22, 70, 71, 72, 85, 86, 87, 228, 229] [9, 17] [] (fun kl kh ids b s => ⟨ofL ([(230, eI s)] ++ kl), ofH ([] ++ kh), b + 64⟩) ?_; (conv => whnf); refine And.intro ?_ (fun s m h => HT_st ?_)
        · refine weak_k ?_; (conv => whnf)
          exact And.intro rfl (And.intro (allL_c wkI (allL_c wkI (allL_c wkI (allL_c (WkR.ptr (fun _ => rfl)) (allL_c (wkr (loose_bool _)) (allL_c (wkr (loose_lst fun _ => (lo_TAttempt _))) (allL_c (WkR.ptr (fun _ => rfl)) (allL_c (wkr (loose_lst fun _ => (lo_TAttempt _))) (allL_c (wkr (loose_lst fun _ => (lo_TTicket _))) (allL_c (wkr (loose_lstc fun _ => (lo_TRegion _))) (allL_c wkI (allL_c wkI (allL_c (wkr (loose_lstc fun _ => (loose_lst fun _ => (lo_TAttempt _)))) (allL_c wkI (allL_c wkI (allL_c (wkr (loose_lstc fun _ => (loose_int _ _))) (allL_c wkI allL_n))))))))))))))))) (allL_c ⟨some _, rfl, BkR_c rfl (CkR_cons wkI (CkR_cons wkI (CkR_cons wkI CkR_nil)))⟩ (allL_c ⟨some _, rfl, BkR_c rfl (CkR_cons (wkr (loose_lst fun _ => (lo_TGrowth _))) (CkR_cons wkI CkR_nil))⟩ allL_n)))
        replace h := W_blaw34_RecoveryMatchesReference_b4 (W_bd h)
        refine HT_fr DC_ok rfl fun K hK => ?_; (conv => whnf)
        refine hK _ _ _ ?_; clear hK K
        refine HT_seq ?_
        refine HT_if fun K1 K2 hK1 hK2 => ?_; (conv => whnf)
        refine cond_lk h (fun _ h => ?_) (fun _ h => ?_)
        · refine hK1 ?_; clear hK1 hK2 K1 K2
          refine HT_skip ?_
          refine Then_n ?_
          refine HT_seq ?_
          refine HT_block ?_
          refine HT_fr DC_ok rfl fun K hK => ?_; (conv => whnf)
          refine ix_lk h fun _ h => ?_; (conv => whnf)
          refine getK_of rfl ?_; (conv => whnf)
          refine hK _ _ _ ?_; clear hK K
          refine HT_fr DC_ok rfl fun K hK => ?_; (conv => whnf)
          refine nlA rfl ?_; (conv => whnf)
          refine blkK_of rfl ?_; (conv => whnf)
          refine nlA rfl ?_; (conv => whnf)
          replace h := W_bd h
          refine recovery_Storm_call h34 h (WkL.refl _) (fun _ h => ?_); (conv => whnf)
          refine hK _ _ _ ?_; clear hK K
          refine HT_fr DC_ok rfl fun K hK => ?_; (conv => whnf)
          refine nlA rfl ?_; (conv => whnf)
          refine blkK_of rfl ?_; (conv => whnf)
          refine nlA rfl ?_; (conv => whnf)
          replace h := W_bd h
          refine ref34_Storm_call h35 h (WkL.refl _) (fun _ h => ?_); (conv => whnf)
          refine hK _ _ _ ?_; clear hK K
          refine HT_fr DC_ok rfl fun K hK => ?_; (conv => whnf)
          replace h := W_jn h
          replace h := W_bd h
          refine ref34_Same_call h28 h (WkL.refl _) (fun _ h => ?_); (conv => whnf)
          refine cond_lk h (fun _ h => ?_) (fun _ h => ?_) <;> (conv => whnf)
          · refine hK _ _ _ ?_; clear hK K
            refine HT_if fun K1 K2 hK1 hK2 => ?_; (conv => whnf)
            refine hK1 ?_; clear hK1 hK2 K1 K2
            replace h := W_cnT h
            refine HT_fr DC_ok rfl fun K hK => ?_; (conv => whnf)
            refine hK _ _ _ ?_; clear hK K
            refine HT_ret ?_
            refine InBlock_r ?_
            refine Then_r ?_
            refine Then_r ?_
            refine InBlock_r ?_
            refine Then_r ?_
            refine InBlock_r ?_
            refine Then_r ?_
            refine Then_r ?_
            refine InBlock_r ?_
            refine InBlock_r ?_
            refine Then_r ?_
            refine Then_r ?_
            refine InBlock_r ?_
            refine Then_r ?_
            replace h := W_xrt h
            replace h := W_inr h
            replace h := W_xrt h
            replace h := W_inr h
            replace h := W_xrt h
            replace h := W_inr h
            replace h := W_some h
            refine PostP_r DC_ok fun K hK => ?_; (conv => whnf)
            refine hK _ ?_; clear hK K
            cases h
            exact Wk.refl _
          refine cond_lk h (fun _ h => ?_) (fun _ h => ?_) <;> (conv => whnf)
          · refine hK _ _ _ ?_; clear hK K
            refine HT_if fun K1 K2 hK1 hK2 => ?_; (conv => whnf)
            refine hK1 ?_; clear hK1 hK2 K1 K2
            replace h := W_cnT h
            refine HT_fr DC_ok rfl fun K hK => ?_; (conv => whnf)
            refine hK _ _ _ ?_; clear hK K
            refine HT_ret ?_
            refine InBlock_r ?_
            refine Then_r ?_
            refine Then_r ?_
            refine InBlock_r ?_
            refine Then_r ?_
            refine InBlock_r ?_
            refine Then_r ?_
            refine Then_r ?_
            refine InBlock_r ?_
            refine InBlock_r ?_
            refine Then_r ?_
            refine Then_r ?_
            refine InBlock_r ?_
            refine Then_r ?_
            replace h := W_xrt h
            replace h := W_inr h
            replace h := W_xrt h
            replace h := W_inr h
            replace h := W_xrt h
            replace h := W_inr h
            replace h := W_some h
            refine PostP_r DC_ok fun K hK => ?_; (conv => whnf)
            refine hK _ ?_; clear hK K
            cases h
            exact Wk.refl _
          refine hK _ _ _ ?_; clear hK K
          refine HT_if fun K1 K2 hK1 hK2 => ?_; (conv => whnf)
          refine cond_lk h (fun _ h => ?_) (fun _ h => ?_)
          · refine hK1 ?_; clear hK1 hK2 K1 K2
            refine HT_fr DC_ok rfl fun K hK => ?_; (conv => whnf)
            refine hK _ _ _ ?_; clear hK K
            refine HT_ret ?_
            refine InBlock_r ?_
            refine Then_r ?_
            refine Then_r ?_
            refine InBlock_r ?_
            refine Then_r ?_
            refine InBlock_r ?_
            refine Then_r ?_
            refine Then_r ?_
            refine InBlock_r ?_
            refine InBlock_r ?_
            refine Then_r ?_
            refine Then_r ?_
            refine InBlock_r ?_
            refine Then_r ?_
            replace h := W_xrt h
            replace h := W_inr h
            replace h := W_xrt h
            replace h := W_inr h
            replace h := W_xrt h
            replace h := W_inr h
            replace h := W_some h
            refine PostP_r DC_ok fun K hK => ?_; (conv => whnf)
            refine hK _ ?_; clear hK K
            cases h
            exact Wk.refl _
          refine hK2 ?_; clear hK1 hK2 K1 K2
          refine HT_skip ?_
          refine InBlock_n ?_
          refine Then_n ?_
          refine HT_f DC_ok rfl fun K hK => ?_; (conv => whnf)
          refine hK _ _ _ ?_; clear hK K
          refine Then_n ?_
          replace h := W_xnx h
          refine ⟨_, h, ?_⟩
          refine weak_k ?_; (conv => whnf)
          exact And.intro rfl (And.intro (allL_c wkI (allL_c wkI (allL_c wkI (allL_c (WkR.ptr (fun _ => rfl)) (allL_c (wkr (loose_bool _)) (allL_c (wkr (loose_lst fun _ => (lo_TAttempt _))) (allL_c (WkR.ptr (fun _ => rfl)) (allL_c (wkr (loose_lst fun _ => (lo_TAttempt _))) (allL_c (wkr (loose_lst fun _ => (lo_TTicket _))) (allL_c (wkr (loose_lstc fun _ => (lo_TRegion _))) (allL_c wkI (allL_c wkI (allL_c (wkr (loose_lstc fun _ => (loose_lst fun _ => (lo_TAttempt _)))) (allL_c wkI (allL_c wkI (allL_c (wkr (loose_lstc fun _ => (loose_int _ _))) (allL_c wkI allL_n))))))))))))))))) (allL_c ⟨some _, rfl, BkR_c rfl (CkR_cons wkI (CkR_cons wkI (CkR_cons wkI CkR_nil)))⟩ (allL_c ⟨some _, rfl, BkR_c rfl (CkR_cons (wkr (loose_lst fun _ => (lo_TGrowth _))) (CkR_cons wkI CkR_nil))⟩ allL_n)))
        refine hK2 ?_; clear hK1 hK2 K1 K2
        refine HT_exit ?_
        refine Then_e ?_
        refine Then_e ?_
        refine InBlock_e ?_
        replace h := W_xbk h
        replace h := W_inl h
        refine Then_n ?_
        refine HT_fr DC_ok rfl fun K hK => ?_; (conv => whnf)
        refine lt_lk (enc := eTTicket) (d := default) DC_ok h rfl rfl rfl ⟨nle rfl, nle rfl, rfl⟩ rfl trivial (fun h => ?_); (conv => whnf)
        refine gd_lk_u h fun hg h => ?_
        replace h := W_lt h
        refine apcf_lk (enc := eTTicket) (d := default) DC_ok rfl rfl rfl ⟨rfl, nle rfl, nle rfl, nle rfl, rfl⟩ (fun _ => rfl) (fun _ => nofun) hg ?_; (conv => whnf)
        refine hK _ _ _ ?_; clear hK K
        refine HT_seq ?_
        refine HT_fr DC_ok rfl fun K hK => ?_; (conv => whnf)
        refine hK _ _ _ ?_; clear hK K
        replace h := W_jn h
        refine HT_if fun K1 K2 hK1 hK2 => ?_; (conv => whnf)
        refine cond_lk h (fun _ h => ?_) (fun _ h => ?_)
        · refine hK1 ?_; clear hK1 hK2 K1 K2
          refine HT_f DC_ok rfl fun K hK => ?_; (conv => whnf)
          refine And.intro (by decide) ?_; (conv => whnf)
          refine nlA rfl ?_; (conv => whnf)
          refine blkK_of rfl ?_; (conv => whnf)
          refine getK_of rfl ?_; (conv => whnf)
          replace h := W_bd h
          refine law34_pick_call h29 h (WkL.refl _) (fun _ h => ?_); (conv => whnf)
          replace h := W_bd h
          refine law34_pick_call h29 h (WkL.refl _) (fun _ h => ?_); (conv => whnf)
          refine gd_lkN h (rfl) fun hx126 h => ?_; (conv => whnf)
          refine blkK_of rfl ?_; (conv => whnf)
          refine st_lk (enc := eTTicket) (d := default) (q := 2) h (fun _ => rfl) (rfl) hx126 rfl (nle rfl) rfl rfl (fun h => ?_); (conv => whnf)
          refine hK _ _ _ ?_; clear hK K
          refine Then_n ?_
          refine HT_frzSK 50 (enc := eTTicket) (e := 53) default (ElOk_agg DC_ok rfl rfl (fun _ => rfl) (fun _ => rfl)) ?_; (conv => whnf); refine ⟨_, _, rfl, (lenset rfl).symm, rfl, ?_⟩
          refine HT_fr DC_ok rfl fun K hK => ?_; (conv => whnf)
          refine lt_lkW (enc := (eL 3 eTTicket default)) (d := default) DC_ok h rfl rfl rfl ⟨nle rfl, nle rfl, rfl⟩ rfl ⟨⟨_, ⟨rfl, rfl, rfl⟩, Wk_nil⟩, ⟨⟨_, ⟨rfl, rfl, rfl⟩, (Wk.refl _)⟩, ⟨⟨_, ⟨rfl, rfl, rfl⟩, (Wk.refl _)⟩, trivial⟩⟩⟩ (fun h => ?_); (conv => whnf)
          refine hK _ _ _ ?_; clear hK K
          refine HT_block ?_
          replace h := W_bd h
          refine HT_lpK (body := law34_RecoveryMatchesReference_b5 _ _ _) rfl h [4, 5, 9, 13, 15, 17, 19, 70, 71, 72, 85, 86, 87, 283, 284] [9, 17] [] (fun kl kh ids b s => ⟨ofL ([(285, eI s)] ++ kl), ofH ([] ++ kh), b + 64⟩) ?_; (conv => whnf); refine And.intro ?_ (fun s m h => HT_st ?_)
          · refine weak_k ?_; (conv => whnf)
            exact And.intro rfl (And.intro (allL_c wkI (allL_c wkI (allL_c wkI (allL_c (WkR.ptr (fun _ => rfl)) (allL_c (wkr (loose_bool _)) (allL_c (wkr (loose_lst fun _ => (lo_TAttempt _))) (allL_c (WkR.ptr (fun _ => rfl)) (allL_c (wkr (loose_lst fun _ => (lo_TAttempt _))) (allL_c (wkr (loose_lstc fun _ => (lo_TRegion _))) (allL_c wkI (allL_c wkI (allL_c (wkr (loose_lstc fun _ => (loose_lst fun _ => (lo_TAttempt _)))) (allL_c wkI (allL_c wkI (allL_c (wkr (loose_lstc fun _ => (loose_lst fun _ => (lo_TTicket _)))) (allL_c wkI allL_n)))))))))))))))) (allL_c ⟨some _, rfl, BkR_c rfl (CkR_cons wkI (CkR_cons wkI (CkR_cons wkI CkR_nil)))⟩ (allL_c ⟨some _, rfl, BkR_c rfl (CkR_cons (wkr (loose_lst fun _ => (lo_TGrowth _))) (CkR_cons wkI CkR_nil))⟩ allL_n)))
          replace h := W_blaw34_RecoveryMatchesReference_b5 (W_bd h)
          refine HT_fr DC_ok rfl fun K hK => ?_; (conv => whnf)
          refine hK _ _ _ ?_; clear hK K
          refine HT_seq ?_
          refine HT_if fun K1 K2 hK1 hK2 => ?_; (conv => whnf)
          refine cond_lk h (fun _ h => ?_) (fun _ h => ?_)
          · refine hK1 ?_; clear hK1 hK2 K1 K2
            refine HT_skip ?_
            refine Then_n ?_
            refine HT_seq ?_
            refine HT_block ?_
            refine HT_fr DC_ok rfl fun K hK => ?_; (conv => whnf)
            refine ix_lk h fun _ h => ?_; (conv => whnf)
            refine getK_of rfl ?_; (conv => whnf)
            refine hK _ _ _ ?_; clear hK K
            refine HT_fd DC_ok mix_ok rfl (by kernel_rfl) fun K hK => ?_; (conv => whnf)
            refine nlA rfl ?_; (conv => whnf)
            refine blkK_of rfl ?_; (conv => whnf)
            refine nlA rfl ?_; (conv => whnf)
            replace h := W_bd h
            refine recovery_Check_call h36 h (WkL.refl _) (fun _ h => ?_); (conv => whnf)
            refine nlA rfl ?_; (conv => whnf)
            refine blkK_of rfl ?_; (conv => whnf)
            refine nlA rfl ?_; (conv => whnf)
            replace h := W_bd h
            refine ref34_Check_call h37 h (WkL.refl _) (fun _ h => ?_); (conv => whnf)
            refine eqK_n (eqv_bool DC_ok rfl _ _) ?_; (conv => whnf)
            refine hK _ _ _ ?_; clear hK K
            refine HT_if fun K1 K2 hK1 hK2 => ?_; (conv => whnf)
            refine cond_lk h (fun _ h => ?_) (fun _ h => ?_)
            · refine hK1 ?_; clear hK1 hK2 K1 K2
              refine HT_fr DC_ok rfl fun K hK => ?_; (conv => whnf)
              refine hK _ _ _ ?_; clear hK K
              refine HT_ret ?_
              refine InBlock_r ?_
              refine Then_r ?_
              refine Then_r ?_
              refine InBlock_r ?_
              refine InBlock_r ?_
              refine Then_r ?_
              refine Then_r ?_
              refine InBlock_r ?_
              refine InBlock_r ?_
              refine Then_r ?_
              refine Then_r ?_
              refine InBlock_r ?_
              refine Then_r ?_
              replace h := W_xrt h
              replace h := W_inr h
              replace h := W_xrt h
              replace h := W_inr h
              replace h := W_xrt h
              replace h := W_inr h
              replace h := W_some h
              refine PostP_r DC_ok fun K hK => ?_; (conv => whnf)
              refine hK _ ?_; clear hK K
              cases h
              exact Wk.refl _
            refine hK2 ?_; clear hK1 hK2 K1 K2
            refine HT_skip ?_
            refine InBlock_n ?_
            refine Then_n ?_
            refine HT_f DC_ok rfl fun K hK => ?_; (conv => whnf)
            refine hK _ _ _ ?_; clear hK K
            refine Then_n ?_
            replace h := W_xnx h
            refine ⟨_, h, ?_⟩
            refine weak_k ?_; (conv => whnf)
            exact And.intro rfl (And.intro (allL_c wkI (allL_c wkI (allL_c wkI (allL_c (WkR.ptr (fun _ => rfl)) (allL_c (wkr (loose_bool _)) (allL_c (wkr (loose_lst fun _ => (lo_TAttempt _))) (allL_c (WkR.ptr (fun _ => rfl)) (allL_c (wkr (loose_lst fun _ => (lo_TAttempt _))) (allL_c (wkr (loose_lstc fun _ => (lo_TRegion _))) (allL_c wkI (allL_c wkI (allL_c (wkr (loose_lstc fun _ => (loose_lst fun _ => (lo_TAttempt _)))) (allL_c wkI (allL_c wkI (allL_c (wkr (loose_lstc fun _ => (loose_lst fun _ => (lo_TTicket _)))) (allL_c wkI allL_n)))))))))))))))) (allL_c ⟨some _, rfl, BkR_c rfl (CkR_cons wkI (CkR_cons wkI (CkR_cons wkI CkR_nil)))⟩ (allL_c ⟨some _, rfl, BkR_c rfl (CkR_cons (wkr (loose_lst fun _ => (lo_TGrowth _))) (CkR_cons wkI CkR_nil))⟩ allL_n)))
          refine hK2 ?_; clear hK1 hK2 K1 K2
          refine HT_exit ?_
          refine Then_e ?_
          refine Then_e ?_
          refine InBlock_e ?_
          replace h := W_xbk h
          replace h := W_inl h
          refine InBlock_n ?_
          refine Then_n ?_
          refine HT_f DC_ok rfl fun K hK => ?_; (conv => whnf)
          refine hK _ _ _ ?_; clear hK K
          refine Then_n ?_
          replace h := W_xnx h
          refine ⟨_, h, ?_⟩
          refine weak_k ?_; (conv => whnf)
          exact And.intro rfl (And.intro (allL_c wkI (allL_c wkI (allL_c wkI (allL_c (WkR.ptr (fun _ => rfl)) (allL_c (wkr (loose_bool _)) (allL_c (wkr (loose_lst fun _ => (lo_TAttempt _))) (allL_c (WkR.ptr (fun _ => rfl)) (allL_c (wkr (loose_lstc fun _ => (lo_TRegion _))) (allL_c wkI (allL_c wkI (allL_c (wkr (loose_lstc fun _ => (loose_lst fun _ => (lo_TAttempt _)))) (allL_c wkI allL_n)))))))))))) (allL_c ⟨some _, rfl, BkR_c rfl (CkR_cons wkI (CkR_cons wkI (CkR_cons wkI CkR_nil)))⟩ (allL_c ⟨some _, rfl, BkR_c rfl (CkR_cons (wkr (loose_lst fun _ => (lo_TGrowth _))) (CkR_cons wkI CkR_nil))⟩ allL_n)))
        refine hK2 ?_; clear hK1 hK2 K1 K2
        refine HT_skip ?_
        refine Then_n ?_
        refine HT_frzSK 50 (enc := eTTicket) (e := 53) default (ElOk_agg DC_ok rfl rfl (fun _ => rfl) (fun _ => rfl)) ?_; (conv => whnf); refine ⟨_, _, rfl, rfl, rfl, ?_⟩
        refine HT_fr DC_ok rfl fun K hK => ?_; (conv => whnf)
        refine lt_lkW (enc := (eL 3 eTTicket default)) (d := default) DC_ok h rfl rfl rfl ⟨nle rfl, nle rfl, rfl⟩ rfl ⟨⟨_, ⟨rfl, rfl, rfl⟩, Wk_nil⟩, ⟨⟨_, ⟨rfl, rfl, rfl⟩, (Wk.refl _)⟩, ⟨⟨_, ⟨rfl, rfl, rfl⟩, (Wk.refl _)⟩, trivial⟩⟩⟩ (fun h => ?_); (conv => whnf)
        refine hK _ _ _ ?_; clear hK K
        refine HT_block ?_
        replace h := W_bd h
        refine HT_lpK (body := law34_RecoveryMatchesReference_b5 _ _ _) rfl h [4, 5, 9, 13, 15, 17, 19, 70, 71, 72, 85, 86, 87, 283, 284] [9, 17] [] (fun kl kh ids b s => ⟨ofL ([(285, eI s)] ++ kl), ofH ([] ++ kh), b + 64⟩) ?_; (conv => whnf); refine And.intro ?_ (fun s m h => HT_st ?_)
        · refine weak_k ?_; (conv => whnf)
          exact And.intro rfl (And.intro (allL_c wkI (allL_c wkI (allL_c wkI (allL_c (WkR.ptr (fun _ => rfl)) (allL_c (wkr (loose_bool _)) (allL_c (wkr (loose_lst fun _ => (lo_TAttempt _))) (allL_c (WkR.ptr (fun _ => rfl)) (allL_c (wkr (loose_lst fun _ => (lo_TAttempt _))) (allL_c (wkr (loose_lstc fun _ => (lo_TRegion _))) (allL_c wkI (allL_c wkI (allL_c (wkr (loose_lstc fun _ => (loose_lst fun _ => (lo_TAttempt _)))) (allL_c wkI (allL_c wkI (allL_c (wkr (loose_lstc fun _ => (loose_lst fun _ => (lo_TTicket _)))) (allL_c wkI allL_n)))))))))))))))) (allL_c ⟨some _, rfl, BkR_c rfl (CkR_cons wkI (CkR_cons wkI (CkR_cons wkI CkR_nil)))⟩ (allL_c ⟨some _, rfl, BkR_c rfl (CkR_cons (wkr (loose_lst fun _ => (lo_TGrowth _))) (CkR_cons wkI CkR_nil))⟩ allL_n)))
        replace h := W_blaw34_RecoveryMatchesReference_b5 (W_bd h)
        refine HT_fr DC_ok rfl fun K hK => ?_; (conv => whnf)
        refine hK _ _ _ ?_; clear hK K
        refine HT_seq ?_
        refine HT_if fun K1 K2 hK1 hK2 => ?_; (conv => whnf)
        refine cond_lk h (fun _ h => ?_) (fun _ h => ?_)
        · refine hK1 ?_; clear hK1 hK2 K1 K2
          refine HT_skip ?_
          refine Then_n ?_
          refine HT_seq ?_
          refine HT_block ?_
          refine HT_fr DC_ok rfl fun K hK => ?_; (conv => whnf)
          refine ix_lk h fun _ h => ?_; (conv => whnf)
          refine getK_of rfl ?_; (conv => whnf)
          refine hK _ _ _ ?_; clear hK K
          refine HT_fd DC_ok mix_ok rfl (by kernel_rfl) fun K hK => ?_; (conv => whnf)
          refine nlA rfl ?_; (conv => whnf)
          refine blkK_of rfl ?_; (conv => whnf)
          refine nlA rfl ?_; (conv => whnf)
          replace h := W_bd h
          refine recovery_Check_call h36 h (WkL.refl _) (fun _ h => ?_); (conv => whnf)
          refine nlA rfl ?_; (conv => whnf)
          refine blkK_of rfl ?_; (conv => whnf)
          refine nlA rfl ?_; (conv => whnf)
          replace h := W_bd h
          refine ref34_Check_call h37 h (WkL.refl _) (fun _ h => ?_); (conv => whnf)
          refine eqK_n (eqv_bool DC_ok rfl _ _) ?_; (conv => whnf)
          refine hK _ _ _ ?_; clear hK K
          refine HT_if fun K1 K2 hK1 hK2 => ?_; (conv => whnf)
          refine cond_lk h (fun _ h => ?_) (fun _ h => ?_)
          · refine hK1 ?_; clear hK1 hK2 K1 K2
            refine HT_fr DC_ok rfl fun K hK => ?_; (conv => whnf)
            refine hK _ _ _ ?_; clear hK K
            refine HT_ret ?_
            refine InBlock_r ?_
            refine Then_r ?_
            refine Then_r ?_
            refine InBlock_r ?_
            refine InBlock_r ?_
            refine Then_r ?_
            refine Then_r ?_
            refine InBlock_r ?_
            refine InBlock_r ?_
            refine Then_r ?_
            refine Then_r ?_
            refine InBlock_r ?_
            refine Then_r ?_
            replace h := W_xrt h
            replace h := W_inr h
            replace h := W_xrt h
            replace h := W_inr h
            replace h := W_xrt h
            replace h := W_inr h
            replace h := W_some h
            refine PostP_r DC_ok fun K hK => ?_; (conv => whnf)
            refine hK _ ?_; clear hK K
            cases h
            exact Wk.refl _
          refine hK2 ?_; clear hK1 hK2 K1 K2
          refine HT_skip ?_
          refine InBlock_n ?_
          refine Then_n ?_
          refine HT_f DC_ok rfl fun K hK => ?_; (conv => whnf)
          refine hK _ _ _ ?_; clear hK K
          refine Then_n ?_
          replace h := W_xnx h
          refine ⟨_, h, ?_⟩
          refine weak_k ?_; (conv => whnf)
          exact And.intro rfl (And.intro (allL_c wkI (allL_c wkI (allL_c wkI (allL_c (WkR.ptr (fun _ => rfl)) (allL_c (wkr (loose_bool _)) (allL_c (wkr (loose_lst fun _ => (lo_TAttempt _))) (allL_c (WkR.ptr (fun _ => rfl)) (allL_c (wkr (loose_lst fun _ => (lo_TAttempt _))) (allL_c (wkr (loose_lstc fun _ => (lo_TRegion _))) (allL_c wkI (allL_c wkI (allL_c (wkr (loose_lstc fun _ => (loose_lst fun _ => (lo_TAttempt _)))) (allL_c wkI (allL_c wkI (allL_c (wkr (loose_lstc fun _ => (loose_lst fun _ => (lo_TTicket _)))) (allL_c wkI allL_n)))))))))))))))) (allL_c ⟨some _, rfl, BkR_c rfl (CkR_cons wkI (CkR_cons wkI (CkR_cons wkI CkR_nil)))⟩ (allL_c ⟨some _, rfl, BkR_c rfl (CkR_cons (wkr (loose_lst fun _ => (lo_TGrowth _))) (CkR_cons wkI CkR_nil))⟩ allL_n)))
        refine hK2 ?_; clear hK1 hK2 K1 K2
        refine HT_exit ?_
        refine Then_e ?_
        refine Then_e ?_
        refine InBlock_e ?_
        replace h := W_xbk h
        replace h := W_inl h
        refine InBlock_n ?_
        refine Then_n ?_
        refine HT_f DC_ok rfl fun K hK => ?_; (conv => whnf)
        refine hK _ _ _ ?_; clear hK K
        refine Then_n ?_
        replace h := W_xnx h
        refine ⟨_, h, ?_⟩
        refine weak_k ?_; (conv => whnf)
        exact And.intro rfl (And.intro (allL_c wkI (allL_c wkI (allL_c wkI (allL_c (WkR.ptr (fun _ => rfl)) (allL_c (wkr (loose_bool _)) (allL_c (wkr (loose_lst fun _ => (lo_TAttempt _))) (allL_c (WkR.ptr (fun _ => rfl)) (allL_c (wkr (loose_lstc fun _ => (lo_TRegion _))) (allL_c wkI (allL_c wkI (allL_c (wkr (loose_lstc fun _ => (loose_lst fun _ => (lo_TAttempt _)))) (allL_c wkI allL_n)))))))))))) (allL_c ⟨some _, rfl, BkR_c rfl (CkR_cons wkI (CkR_cons wkI (CkR_cons wkI CkR_nil)))⟩ (allL_c ⟨some _, rfl, BkR_c rfl (CkR_cons (wkr (loose_lst fun _ => (lo_TGrowth _))) (CkR_cons wkI CkR_nil))⟩ allL_n)))
      refine HT_fD DC_ok mix_ok rfl (by kernel_rfl) fun K hK => ?_; (conv => whnf)
      refine nlA rfl ?_; (conv => whnf)
      refine blkK_of rfl ?_; (conv => whnf)
      refine nlA rfl ?_; (conv => whnf)
      replace h := W_bd h
      refine recovery_Valid_call h24 h (WkL.refl _) (fun _ h => ?_); (conv => whnf)
      refine nlA rfl ?_; (conv => whnf)
      refine blkK_of rfl ?_; (conv => whnf)
      refine nlA rfl ?_; (conv => whnf)
      replace h := W_bd h
      refine ref34_Valid_call h25 h (WkL.refl _) (fun _ h => ?_); (conv => whnf)
      refine eqK_n (eqv_bool DC_ok rfl _ _) ?_; (conv => whnf)
      refine cond_lk h (fun _ h => ?_) (fun _ h => ?_) <;> (conv => whnf)
      · refine hK _ _ _ ?_; clear hK K
        refine Then_n ?_
        refine ⟨_, h, ?_⟩
        refine weak_k ?_; (conv => whnf)
        exact And.intro rfl (And.intro (allL_c (wkr (loose_bool _)) (allL_c wkI (allL_c wkI (allL_c (WkR.ptr (fun _ => rfl)) (allL_c (wkr (loose_bool _)) (allL_c (wkr (loose_lst fun _ => (lo_TAttempt _))) (allL_c (WkR.ptr (fun _ => rfl)) (allL_c (wkr (loose_lst fun _ => (lo_TAttempt _))) (allL_c (wkr (loose_lst fun _ => (lo_TTicket _))) (allL_c (wkr (loose_lstc fun _ => (lo_TRegion _))) (allL_c wkI (allL_c wkI (allL_c (wkr (loose_lstc fun _ => (loose_lst fun _ => (lo_TAttempt _)))) (allL_c wkI (allL_c wkI allL_n))))))))))))))) (allL_c ⟨some _, rfl, BkR_c rfl (CkR_cons wkI (CkR_cons wkI (CkR_cons wkI CkR_nil)))⟩ (allL_c ⟨some _, rfl, BkR_c rfl (CkR_cons (wkr (loose_lst fun _ => (lo_TGrowth _))) (CkR_cons wkI CkR_nil))⟩ allL_n)))
      replace h := W_bd h
      refine recovery_Ready_call h26 h (WkL.refl _) (fun _ h => ?_); (conv => whnf)
      replace h := W_bd h
      refine ref34_Ready_call h27 h (WkL.refl _) (fun _ h => ?_); (conv => whnf)
      refine eqK_n (eqv_bool DC_ok rfl _ _) ?_; (conv => whnf)
      refine cond_lk h (fun _ h => ?_) (fun _ h => ?_) <;> (conv => whnf)
      · refine hK _ _ _ ?_; clear hK K
        refine Then_n ?_
        refine ⟨_, h, ?_⟩
        refine weak_k ?_; (conv => whnf)
        exact And.intro rfl (And.intro (allL_c (wkr (loose_bool _)) (allL_c wkI (allL_c wkI (allL_c (WkR.ptr (fun _ => rfl)) (allL_c (wkr (loose_bool _)) (allL_c (wkr (loose_lst fun _ => (lo_TAttempt _))) (allL_c (WkR.ptr (fun _ => rfl)) (allL_c (wkr (loose_lst fun _ => (lo_TAttempt _))) (allL_c (wkr (loose_lst fun _ => (lo_TTicket _))) (allL_c (wkr (loose_lstc fun _ => (lo_TRegion _))) (allL_c wkI (allL_c wkI (allL_c (wkr (loose_lstc fun _ => (loose_lst fun _ => (lo_TAttempt _)))) (allL_c wkI (allL_c wkI allL_n))))))))))))))) (allL_c ⟨some _, rfl, BkR_c rfl (CkR_cons wkI (CkR_cons wkI (CkR_cons wkI CkR_nil)))⟩ (allL_c ⟨some _, rfl, BkR_c rfl (CkR_cons (wkr (loose_lst fun _ => (lo_TGrowth _))) (CkR_cons wkI CkR_nil))⟩ allL_n)))
      refine cond_lk h (fun _ h => ?_) (fun _ h => ?_) <;> (conv => whnf)
      · refine hK _ _ _ ?_; clear hK K
        refine Then_n ?_
        refine ⟨_, h, ?_⟩
        refine weak_k ?_; (conv => whnf)
        exact And.intro rfl (And.intro (allL_c (wkr (loose_bool _)) (allL_c wkI (allL_c wkI (allL_c (WkR.ptr (fun _ => rfl)) (allL_c (wkr (loose_bool _)) (allL_c (wkr (loose_lst fun _ => (lo_TAttempt _))) (allL_c (WkR.ptr (fun _ => rfl)) (allL_c (wkr (loose_lst fun _ => (lo_TAttempt _))) (allL_c (wkr (loose_lst fun _ => (lo_TTicket _))) (allL_c (wkr (loose_lstc fun _ => (lo_TRegion _))) (allL_c wkI (allL_c wkI (allL_c (wkr (loose_lstc fun _ => (loose_lst fun _ => (lo_TAttempt _)))) (allL_c wkI (allL_c wkI allL_n))))))))))))))) (allL_c ⟨some _, rfl, BkR_c rfl (CkR_cons wkI (CkR_cons wkI (CkR_cons wkI CkR_nil)))⟩ (allL_c ⟨some _, rfl, BkR_c rfl (CkR_cons (wkr (loose_lst fun _ => (lo_TGrowth _))) (CkR_cons wkI CkR_nil))⟩ allL_n)))
      replace h := W_bd h
      refine ref34_Same_call h28 h (WkL.refl _) (fun _ h => ?_); (conv => whnf)
      refine cond_lk h (fun _ h => ?_) (fun _ h => ?_) <;> (conv => whnf)
      · refine hK _ _ _ ?_; clear hK K
        refine Then_n ?_
        refine ⟨_, h, ?_⟩
        refine weak_k ?_; (conv => whnf)
        exact And.intro rfl (And.intro (allL_c (wkr (loose_bool _)) (allL_c wkI (allL_c wkI (allL_c (WkR.ptr (fun _ => rfl)) (allL_c (wkr (loose_bool _)) (allL_c (wkr (loose_lst fun _ => (lo_TAttempt _))) (allL_c (WkR.ptr (fun _ => rfl)) (allL_c (wkr (loose_lst fun _ => (lo_TAttempt _))) (allL_c (wkr (loose_lst fun _ => (lo_TTicket _))) (allL_c (wkr (loose_lstc fun _ => (lo_TRegion _))) (allL_c wkI (allL_c wkI (allL_c (wkr (loose_lstc fun _ => (loose_lst fun _ => (lo_TAttempt _)))) (allL_c wkI (allL_c wkI allL_n))))))))))))))) (allL_c ⟨some _, rfl, BkR_c rfl (CkR_cons wkI (CkR_cons wkI (CkR_cons wkI CkR_nil)))⟩ (allL_c ⟨some _, rfl, BkR_c rfl (CkR_cons (wkr (loose_lst fun _ => (lo_TGrowth _))) (CkR_cons wkI CkR_nil))⟩ allL_n)))
      refine cond_lk h (fun _ h => ?_) (fun _ h => ?_) <;> (conv => whnf)
      · refine hK _ _ _ ?_; clear hK K
        refine Then_n ?_
        refine ⟨_, h, ?_⟩
        refine weak_k ?_; (conv => whnf)
        exact And.intro rfl (And.intro (allL_c (wkr (loose_bool _)) (allL_c wkI (allL_c wkI (allL_c (WkR.ptr (fun _ => rfl)) (allL_c (wkr (loose_bool _)) (allL_c (wkr (loose_lst fun _ => (lo_TAttempt _))) (allL_c (WkR.ptr (fun _ => rfl)) (allL_c (wkr (loose_lst fun _ => (lo_TAttempt _))) (allL_c (wkr (loose_lst fun _ => (lo_TTicket _))) (allL_c (wkr (loose_lstc fun _ => (lo_TRegion _))) (allL_c wkI (allL_c wkI (allL_c (wkr (loose_lstc fun _ => (loose_lst fun _ => (lo_TAttempt _)))) (allL_c wkI (allL_c wkI allL_n))))))))))))))) (allL_c ⟨some _, rfl, BkR_c rfl (CkR_cons wkI (CkR_cons wkI (CkR_cons wkI CkR_nil)))⟩ (allL_c ⟨some _, rfl, BkR_c rfl (CkR_cons (wkr (loose_lst fun _ => (lo_TGrowth _))) (CkR_cons wkI CkR_nil))⟩ allL_n)))
      refine eqK_n (eqv_bool DC_ok rfl _ _) ?_; (conv => whnf)
      refine cond_lk h (fun _ h => ?_) (fun _ h => ?_) <;> (conv => whnf)
      · refine hK _ _ _ ?_; clear hK K
        refine Then_n ?_
        refine ⟨_, h, ?_⟩
        refine weak_k ?_; (conv => whnf)
        exact And.intro rfl (And.intro (allL_c (wkr (loose_bool _)) (allL_c wkI (allL_c wkI (allL_c (WkR.ptr (fun _ => rfl)) (allL_c (wkr (loose_bool _)) (allL_c (wkr (loose_lst fun _ => (lo_TAttempt _))) (allL_c (WkR.ptr (fun _ => rfl)) (allL_c (wkr (loose_lst fun _ => (lo_TAttempt _))) (allL_c (wkr (loose_lst fun _ => (lo_TTicket _))) (allL_c (wkr (loose_lstc fun _ => (lo_TRegion _))) (allL_c wkI (allL_c wkI (allL_c (wkr (loose_lstc fun _ => (loose_lst fun _ => (lo_TAttempt _)))) (allL_c wkI (allL_c wkI allL_n))))))))))))))) (allL_c ⟨some _, rfl, BkR_c rfl (CkR_cons wkI (CkR_cons wkI (CkR_cons wkI CkR_nil)))⟩ (allL_c ⟨some _, rfl, BkR_c rfl (CkR_cons (wkr (loose_lst fun _ => (lo_TGrowth _))) (CkR_cons wkI CkR_nil))⟩ allL_n)))
      refine cond_lk h (fun _ h => ?_) (fun _ h => ?_) <;> (conv => whnf)
      · refine hK _ _ _ ?_; clear hK K
        refine Then_n ?_
        refine ⟨_, h, ?_⟩
        refine weak_k ?_; (conv => whnf)
        exact And.intro rfl (And.intro (allL_c (wkr (loose_bool _)) (allL_c wkI (allL_c wkI (allL_c (WkR.ptr (fun _ => rfl)) (allL_c (wkr (loose_bool _)) (allL_c (wkr (loose_lst fun _ => (lo_TAttempt _))) (allL_c (WkR.ptr (fun _ => rfl)) (allL_c (wkr (loose_lst fun _ => (lo_TAttempt _))) (allL_c (wkr (loose_lst fun _ => (lo_TTicket _))) (allL_c (wkr (loose_lstc fun _ => (lo_TRegion _))) (allL_c wkI (allL_c wkI (allL_c (wkr (loose_lstc fun _ => (loose_lst fun _ => (lo_TAttempt _)))) (allL_c wkI (allL_c wkI allL_n))))))))))))))) (allL_c ⟨some _, rfl, BkR_c rfl (CkR_cons wkI (CkR_cons wkI (CkR_cons wkI CkR_nil)))⟩ (allL_c ⟨some _, rfl, BkR_c rfl (CkR_cons (wkr (loose_lst fun _ => (lo_TGrowth _))) (CkR_cons wkI CkR_nil))⟩ allL_n)))
      refine hK _ _ _ ?_; clear hK K
      refine Then_n ?_
      refine ⟨_, h, ?_⟩
      refine weak_k ?_; (conv => whnf)
      exact And.intro rfl (And.intro (allL_c (wkr (loose_bool _)) (allL_c wkI (allL_c wkI (allL_c (WkR.ptr (fun _ => rfl)) (allL_c (wkr (loose_bool _)) (allL_c (wkr (loose_lst fun _ => (lo_TAttempt _))) (allL_c (WkR.ptr (fun _ => rfl)) (allL_c (wkr (loose_lst fun _ => (lo_TAttempt _))) (allL_c (wkr (loose_lst fun _ => (lo_TTicket _))) (allL_c (wkr (loose_lstc fun _ => (lo_TRegion _))) (allL_c wkI (allL_c wkI (allL_c (wkr (loose_lstc fun _ => (loose_lst fun _ => (lo_TAttempt _)))) (allL_c wkI (allL_c wkI allL_n))))))))))))))) (allL_c ⟨some _, rfl, BkR_c rfl (CkR_cons wkI (CkR_cons wkI (CkR_cons wkI CkR_nil)))⟩ (allL_c ⟨some _, rfl, BkR_c rfl (CkR_cons (wkr (loose_lst fun _ => (lo_TGrowth _))) (CkR_cons wkI CkR_nil))⟩ allL_n)))
    refine hK2 ?_; clear hK1 hK2 K1 K2
    refine HT_exit ?_
    refine Then_e ?_
    refine Then_e ?_
    refine InBlock_e ?_
    replace h := W_xbk h
    replace h := W_inl h
    refine InBlock_n ?_
    refine Then_n ?_
    refine HT_f DC_ok rfl fun K hK => ?_; (conv => whnf)
    refine hK _ _ _ ?_; clear hK K
    refine Then_n ?_
    replace h := W_xnx h
    refine ⟨_, h, ?_⟩
    refine weak_k ?_; (conv => whnf)
    exact And.intro rfl (And.intro (allL_c wkI (allL_c wkI (allL_c wkI (allL_c (WkR.ptr (fun _ => rfl)) (allL_c (wkr (loose_bool _)) (allL_c (wkr (loose_lst fun _ => (lo_TAttempt _))) (allL_c (wkr (loose_lstc fun _ => (lo_TRegion _))) (allL_c wkI allL_n)))))))) (allL_c ⟨some _, rfl, BkR_c rfl (CkR_cons wkI (CkR_cons wkI (CkR_cons wkI CkR_nil)))⟩ allL_n))
  refine hK2 ?_; clear hK1 hK2 K1 K2
  refine HT_exit ?_
  refine Then_e ?_
  refine Then_e ?_
  refine InBlock_e ?_
  replace h := W_xbk h
  replace h := W_inl h
  refine Then_n ?_
  refine HT_fr DC_ok rfl fun K hK => ?_; (conv => whnf)
  refine hK _ _ _ ?_; clear hK K
  refine HT_ret ?_
  replace h := W_some h
  refine PostP_r DC_ok fun K hK => ?_; (conv => whnf)
  refine hK _ ?_; clear hK K
  cases h
  exact Wk.refl _
end Go.Proofs.Ytcidmnpihffphaa
namespace Go.Proofs.Ytcidmnpihffphaa
open Go Go.Eng
set_option maxRecDepth 100000
theorem safe3_fold (S : Int) : ∀ (L : List (Nat × Int × Int)) (s : Int), (∀ p ∈ L, 0 ≤ p.2.1) → -1 ≤ s →
    ∃ f, L.foldl (fun s p => safeStep S s p.2.1 p.2.2) s = f ∧ -1 ≤ f ∧ (f = s ∨ ∃ p ∈ L, p.2.2 > S ∧ f = p.2.1) ∧ (0 ≤ s → 0 ≤ f ∧ f ≤ s) ∧ ∀ p ∈ L, p.2.2 > S → 0 ≤ f ∧ f ≤ p.2.1
  | [], s, _, hs => ⟨s, rfl, hs, .inl rfl, fun h => ⟨h, Int.le_refl _⟩, fun p hp => by cases hp⟩
  | x :: L, s, hk, hs => by
    have hx := hk x List.mem_cons_self
    have hst : -1 ≤ safeStep S s x.2.1 x.2.2 := by unfold safeStep; split <;> omega
    obtain ⟨f, e, h1, h2, h3, h4⟩ := safe3_fold S L (safeStep S s x.2.1 x.2.2) (fun p hp => hk p (List.mem_cons_of_mem _ hp)) hst
    refine ⟨f, e, h1, ?_, fun h => ?_, fun p hp hv => ?_⟩
    · rcases h2 with h2 | ⟨p, hp, hv⟩
      · unfold safeStep at h2
        split at h2
        · rename_i q
          exact .inr ⟨x, List.mem_cons_self, q.1, h2⟩
        · exact .inl h2
      · exact .inr ⟨p, List.mem_cons_of_mem _ hp, hv⟩
    · have : 0 ≤ safeStep S s x.2.1 x.2.2 ∧ safeStep S s x.2.1 x.2.2 ≤ s := by unfold safeStep; split <;> omega
      have := h3 this.1
      omega
    · rcases List.mem_cons.1 hp with rfl | hp
      · have : 0 ≤ safeStep S s p.2.1 p.2.2 ∧ safeStep S s p.2.1 p.2.2 ≤ p.2.1 := by unfold safeStep; split <;> omega
        have := h3 this.1
        omega
      · exact h4 p hp hv
theorem safe3_ok {r : TRegion} {l : List TAttempt} {m : GM Int} (h : recovery_loads_F r l = some (some m)) (hw : m.WF) (hk : ∀ z, m.has z = true → 0 ≤ z) (hS : 0 ≤ r.Signals) :
    ∃ w, recovery_Safe_F r l = some (w, decide (w < 0)) ∧ ((w = -1 ∧ ∀ z, m.get z 0 ≤ r.Signals) ∨ (0 ≤ w ∧ m.get w 0 > r.Signals ∧ ∀ z, m.get z 0 > r.Signals → w ≤ z)) := by
  have hkey : ∀ p ∈ m.es, 0 ≤ p.2.1 := fun p hp => hk _ (GM.has_key.2 (List.mem_map_of_mem (f := fun p => p.2.1) hp))
  obtain ⟨f, e, h1, h2, _, h4⟩ := safe3_fold r.Signals m.es (-1) hkey (Int.le_refl _)
  have hex : ∀ z, m.get z 0 > r.Signals → ∃ p ∈ m.es, p.2.1 = z ∧ p.2.2 > r.Signals := fun z hz => by
    have : z ∈ m.es.map (·.2.1) := by
      rw [← GM.has_key]
      unfold GM.has
      unfold GM.get at hz
      cases hf : mfind z m.es with
      | none => rw [hf] at hz; simp only at hz; omega
      | some p => rfl
    obtain ⟨p, hp, hpe⟩ := List.mem_map.1 this
    refine ⟨p, hp, hpe, ?_⟩
    rw [← hpe, GM.mem_get hw hp] at hz
    exact hz
  refine ⟨f, ?_, ?_⟩
  · unfold recovery_Safe_F
    rw [h, bd_s, mo_s, gd_p _ ⟨fun p hp => ⟨hw.lt p hp, hkey p hp⟩, hw.nd⟩, e]
  · by_cases hf : f = -1
    · refine .inl ⟨hf, fun z => ?_⟩
      rcases Int.lt_or_le r.Signals (m.get z 0) with q | q
      · obtain ⟨p, hp, _, hv⟩ := hex z q
        have := h4 p hp hv; omega
      · exact q
    · rcases h2 with h2 | ⟨p, hp, hv, he⟩
      · exact absurd h2 hf
      · have h5 := h4 p hp hv
        refine .inr ⟨h5.1, ?_, fun z hz => ?_⟩
        · rw [he, GM.mem_get hw hp]; exact hv
        · obtain ⟨q, hq, hqe, hqv⟩ := hex z hz
          have := h4 q hq hqv
          omega
theorem ld_far {r : TRegion} {ys : List TAttempt} {ts : List TTicket} (hy : LV ys) (hp : PL r 1000 ys ts ys.length) {z : Int} (hz : 1040 < z) : ld ys ts ys.length z = 0 := by
  have hyl := hy.len
  unfold ld
  have h1 : cP (fstP z) ys ts ys.length = 0 := by
    unfold cP
    rw [List.countP_eq_zero]
    intro j hj
    have hj := List.mem_range.1 hj
    have h := (hy.rg _ (List.getElem_mem hj)).2.2
    rw [← getD_lt hj] at h
    simp only [fstP, Bool.and_eq_true, beq_iff_eq, not_and]
    omega
  have h2 : cP (sndP z) ys ts ys.length = 0 := by
    unfold cP
    rw [List.countP_eq_zero]
    intro j hj
    have h := hp.le j (List.mem_range.1 hj)
    simp only [sndP, Bool.and_eq_true, beq_iff_eq, not_and]
    omega
  rw [h1, h2]; rfl
theorem safe_eq {r : TRegion} {l : List TAttempt} (h1 : r.Steps.length ≤ 1000) (h2 : l.length ≤ 1000) : ref34_Safe_F r l = recovery_Safe_F r l ∧ ∃ y, recovery_Safe_F r l = some y := by
  rcases plan_cases h1 h2 with ⟨hr, hl, ts, e, hp, hs⟩ | ⟨_, e⟩
  · have hy := hs.lv hl
    obtain ⟨m, e5, g1, g2, g3⟩ := loads_ok hl (Int.le_refl _) e hp hy
    have hsg := hr.sg
    obtain ⟨w, e6, hw⟩ := safe3_ok e5 g2 g3 (by omega)
    rw [e6]
    refine ⟨?_, _, rfl⟩
    unfold ref34_Safe_F
    rw [plan_eq h1 h2, e, bd_s, cn_bne, if_pos rfl, refOrdered_ok hl, bd_s]
    generalize sortF attCmp l = ys at hs hp hy g1 ⊢
    have hyl := hy.len
    simp only [g1] at hw
    obtain ⟨o, eo, q⟩ := lp_runF (body := ref34_Safe_b1 r (ts, 0) ys) (fun s => 0 ≤ s ∧ s ≤ 1041 ∧ ∀ z, 0 ≤ z → z < s → ld ys ts ys.length z ≤ r.Signals) (fun s => (1041 - s).toNat) (fun o => (∃ s, o = .inl s ∧ ∀ z, 0 ≤ z → z ≤ 1040 → ld ys ts ys.length z ≤ r.Signals) ∨ ∃ s, o = .inr (s, false) ∧ 0 ≤ s ∧ ld ys ts ys.length s > r.Signals ∧ ∀ z, 0 ≤ z → z < s → ld ys ts ys.length z ≤ r.Signals) (fun s ⟨a1, a2, a3⟩ => by
      unfold ref34_Safe_b1
      simp only [cn_dec]
      by_cases c : s ≤ 1040
      · rw [if_pos c, refload_in (by omega) hp.len (fun j hj => (hp.cf j hj).2), bd_s]
        by_cases d : ld ys ts ys.length s > r.Signals
        · rw [if_pos d]; exact .inr (.inr ⟨_, rfl, .inr ⟨s, rfl, a1, d, a3⟩⟩)
        · rw [if_neg d, wr_id (by omega) (by omega)]
          refine .inl ⟨_, rfl, ⟨by omega, by omega, fun z z1 z2 => ?_⟩, by omega⟩
          by_cases ez : z = s
          · rw [ez]; omega
          · exact a3 z z1 (by omega)
      · rw [if_neg c]; exact .inr (.inl ⟨_, rfl, .inl ⟨_, rfl, fun z z1 z2 => a3 z z1 (by omega)⟩⟩)) 0 ⟨Int.le_refl _, by omega, fun z _ _ => by omega⟩ (by omega)
    rw [eo, bd_s]
    rcases q with ⟨s, rfl, q⟩ | ⟨s, rfl, q1, q2, q3⟩
    · rw [smK_l]
      rcases hw with ⟨rfl, _⟩ | ⟨w1, w2, _⟩
      · rfl
      · exfalso
        rcases Int.lt_or_le 1040 w with c | c
        · rw [ld_far hy hp c] at w2; omega
        · have := q w w1 c; omega
    · rw [smK_r]
      rcases hw with ⟨rfl, w1⟩ | ⟨w1, w2, w3⟩
      · have := w1 s; omega
      · have h5 := w3 s q2
        have h6 : ¬ w < s := fun c => by have := q3 w w1 c; omega
        have : w = s := by omega
        subst this
        rw [dec_f (by omega)]
  · unfold ref34_Safe_F recovery_Safe_F
    rw [plan_eq h1 h2, loads_bad e, e, bd_s, bd_s, mo_n, cn_bne, if_neg (by simp)]
    exact ⟨rfl, _, rfl⟩
theorem last_some {r : TRegion} {l : List TAttempt} (h1 : r.Steps.length ≤ 1000) (h2 : l.length ≤ 1000) : ∃ y, recovery_Last_F r l = some y := by
  unfold recovery_Last_F
  rcases plan_cases h1 h2 with ⟨hr, hl, ts, e, hp, hs⟩ | ⟨_, e⟩
  · have hy := (hs.lv hl).len
    have htl := hp.len
    rw [e, bd_s, cn_bne, if_pos rfl]
    obtain ⟨s, e2, _⟩ := lp_fold (body := recovery_Last_b1 (ts, 0)) (fun k s => s.2 = (k : Int)) ts.length (by omega) (fun k s hk h => by
      obtain ⟨c, i⟩ := s
      simp only at h
      subst h
      unfold recovery_Last_b1
      simp only [cn_dec]
      rw [if_pos (by omega), ix_n hk, wr_id (x := (k : Int) + 1) (by omega) (by omega)]
      exact ⟨_, rfl, by simp⟩) (fun s h => by
      unfold recovery_Last_b1
      simp only [cn_dec]
      rw [if_neg (by rw [h]; omega)]) ((-1), 0) rfl
    rw [e2, bd_s, smK_l]
    exact ⟨_, rfl⟩
  · rw [e, bd_s, cn_bne, if_neg (by simp)]
    exact ⟨_, rfl⟩
theorem check_some {r : TRegion} {l : List TAttempt} (h1 : r.Steps.length ≤ 1000) (h2 : l.length ≤ 1000) (q : List TTicket) (hq : q.length ≤ 1048576) : ∃ y, recovery_Check_F r l q = some y := by
  rcases plan_cases h1 h2 with ⟨hr, hl, ts, e, hp, hs⟩ | ⟨_, e⟩
  · obtain ⟨v, h, _⟩ := check_ok e q hq
    exact ⟨v, h⟩
  · unfold recovery_Check_F
    rw [e, bd_s]
    simp only [jn_d]
    rw [cn_beq, if_neg (by simp)]
    exact ⟨_, rfl⟩
theorem lp_each {R : Type} {n : Nat} {body : Int → Option (Ct Int R)} (hn : n < 1000000) (h : ∀ k : Nat, k < n → body (k : Int) = some (.nx (wr ((k : Int) + 1)))) (hs : body (n : Int) = some (.bk (n : Int))) : ∃ s, lp body FU 0 = some (.inl s) := by
  obtain ⟨s, e, _⟩ := lp_fold (body := body) (fun k s => s = (k : Int)) n (by omega) (fun k s hk e => by
    subst e
    exact ⟨_, h k hk, by rw [wr_id (by omega) (by omega)]; simp⟩) (fun s e => by subst e; exact hs) 0 rfl
  exact ⟨s, e⟩
theorem bb_self (x : Bool) : (!(x == x)) = false := by cases x <;> rfl
theorem bentregion_ok {r : TRegion} {a b c : Int} (hr : RV r) (ha : okI a) (hc : okI c) : ∃ y, ref34_BentRegion_F r a b c = some y ∧ y.Steps.length ≤ 1000 := by
  have hl := hr.len
  have hne : 0 < r.Steps.length := List.length_pos_iff.2 hr.ne
  unfold ref34_BentRegion_F
  simp only [jn_d, lt_d]
  rw [gd_p _ (by omega), pick_ref c _ hc (by omega), bd_s, pick_ref a 4 ha (by omega), bd_s]
  have hk := pickZ_lt c (n := (r.Steps.length : Int)) (by omega)
  generalize pickZ c (r.Steps.length : Int) = k at hk
  generalize pickZ a 4 = h
  simp only [cn_beq]
  rw [gd_p _ (by omega)]
  split
  · exact ⟨_, rfl, by simp only; omega⟩
  · split
    · simp only [st_d]; exact ⟨_, rfl, by simp; omega⟩
    · split
      · rw [gd_p _ (by omega)]; simp only [st_d]; exact ⟨_, rfl, by simp; omega⟩
      · rw [slc_p (by omega) (by omega) (by omega)]
        exact ⟨_, rfl, by simp [sub]; omega⟩
theorem bentattempts_ok {l : List TAttempt} {a b c : Int} (hl : l.length ≤ 40) (ha : okI a) (hb : okI b) (hc : okI c) : ∃ y, ref34_BentAttempts_F l a b c = some y ∧ y.length ≤ 1000 := by
  unfold ref34_BentAttempts_F
  simp only [jn_d, lt_d]
  rw [gd_p _ (by omega), cn_beq]
  by_cases h0 : (l.length : Int) = 0
  · rw [if_pos h0]; exact ⟨_, rfl, by simp⟩
  rw [if_neg h0, pick_ref c _ hc (by omega), bd_s, pick_ref a 4 ha (by omega), bd_s]
  have hk := pickZ_lt c (n := (l.length : Int)) (by omega)
  generalize pickZ c (l.length : Int) = k at hk
  generalize pickZ a 4 = h
  simp only [cn_beq, st_d]
  obtain ⟨o, e, s, rfl, q⟩ := lp_runF (body := ref34_BentAttempts_b1 l b) (fun s => s.length ≤ 41) (fun s => 100 - s.length) (fun o => ∃ s : List TAttempt, o = .inl s ∧ s.length ≤ 1000) (fun s hs => by
    have go : ∃ s', (bd (ref34_pick_F b 20) fun y19 => lt ([(⟨(wr (50 + (s.length : Int))), y19, false⟩ : TAttempt)] : List TAttempt) fun l20 => ap s l20 fun l21 => (some (.nx l21) : Option (Ct (List TAttempt) (List TAttempt)))) = some (.nx s') ∧ s'.length = s.length + 1 := by
      rw [pick_ref b 20 hb (by omega), bd_s, lt_d, ap_p (by simp; omega)]
      exact ⟨_, rfl, by simp⟩
    obtain ⟨s', e', hs'⟩ := go
    unfold ref34_BentAttempts_b1
    simp only [jn_d, cn_dec]
    rw [pick_ref b 2 hb (by omega), bd_s, cn_beq, cn_t, cn_beq, e']
    by_cases c1 : (s.length : Int) < 41
    · rw [if_pos c1]
      by_cases c2 : pickZ b 2 = 0
      · rw [if_pos c2]; exact .inl ⟨_, rfl, by omega, by omega⟩
      · rw [if_neg c2]
        by_cases c3 : (s.length : Int) = (l.length : Int)
        · rw [if_pos c3]; exact .inl ⟨_, rfl, by omega, by omega⟩
        · rw [if_neg c3]; exact .inr (.inl ⟨_, rfl, _, rfl, by omega⟩)
    · rw [if_neg c1]
      by_cases c3 : (s.length : Int) = (l.length : Int)
      · omega
      · rw [if_neg c3]; exact .inr (.inl ⟨_, rfl, _, rfl, by omega⟩)) l (by omega) (by omega)
  rw [gd_p _ (by omega), e, bd_s, smK_l]
  split
  · exact ⟨_, rfl, by simp; omega⟩
  · split
    · rw [gd_p _ (by omega)]; exact ⟨_, rfl, by simp; omega⟩
    · split
      · rw [gd_p _ (by omega), gd_p _ (by omega)]; exact ⟨_, rfl, by simp; omega⟩
      · exact ⟨_, rfl, q⟩
theorem b5_ok {r : TRegion} {l : List TAttempt} (h1 : r.Steps.length ≤ 1000) (h2 : l.length ≤ 1000) {L : List (List TTicket)} (hL : L.length ≤ 1000) (hq : ∀ q ∈ L, q.length ≤ 1048576) : ∃ s, lp (law34_RecoveryMatchesReference_b5 r l L) FU 0 = some (.inl s) :=
  lp_each (n := L.length) (by omega) (fun k hk => by
    unfold law34_RecoveryMatchesReference_b5
    rw [cn_dec, if_pos (by omega), ix_n hk]
    obtain ⟨y, e⟩ := check_some h1 h2 (L.getD k default) (hq _ (by rw [getD_lt hk]; exact List.getElem_mem hk))
    rw [check_eq h1 h2, e, bd_s, bd_s, bb_self, cn_f]) (by
    unfold law34_RecoveryMatchesReference_b5
    rw [cn_dec, if_neg (by omega)])
theorem b4_ok {r : TRegion} {l : List TAttempt} (h1 : r.Steps.length ≤ 1000) (h2 : l.length ≤ 1000) {L : List Int} (hL : L.length ≤ 1000) : ∃ s, lp (law34_RecoveryMatchesReference_b4 r l L) FU 0 = some (.inl s) :=
  lp_each (n := L.length) (by omega) (fun k hk => by
    unfold law34_RecoveryMatchesReference_b4
    rw [cn_dec, if_pos (by omega), ix_n hk]
    obtain ⟨e1, y, e, hy⟩ := storm_eq (pause := L.getD k default) h1 h2
    rw [e1, e, bd_s, bd_s]
    simp only [jn_d]
    rw [same_self _ (by omega), bd_s]
    simp only [Bool.not_true, cn_f, bne_self_eq_false]) (by
    unfold law34_RecoveryMatchesReference_b4
    rw [cn_dec, if_neg (by omega)])
theorem b3_ok {r : TRegion} {l : List TAttempt} (h1 : r.Steps.length ≤ 1000) (h2 : l.length ≤ 1000) {L : List Int} (hL : L.length ≤ 1000) : ∃ s, lp (law34_RecoveryMatchesReference_b3 r l L) FU 0 = some (.inl s) :=
  lp_each (n := L.length) (by omega) (fun k hk => by
    unfold law34_RecoveryMatchesReference_b3
    rw [cn_dec, if_pos (by omega), ix_n hk]
    obtain ⟨e1, y, e⟩ := load_eq (t := L.getD k default) h1 h2
    obtain ⟨e2, z, e3⟩ := capacity_eq (t := L.getD k default) h1
    rw [e1, e, bd_s, bd_s, e2, e3, bd_s, bd_s]
    simp only [jn_d, cn_f, bne_self_eq_false]) (by
    unfold law34_RecoveryMatchesReference_b3
    rw [cn_dec, if_neg (by omega)])
theorem b2_ok {a3 : Int × Int × Int} {a4 a5 : Int} (o3 : okA23 a3) (o4 : okI a4) (o5 : okI a5) {r : TRegion} (h1 : r.Steps.length ≤ 1000) {L : List (List TAttempt)} (hL : L.length ≤ 1000) (hq : ∀ q ∈ L, q.length ≤ 1000) : ∃ s, lp (law34_RecoveryMatchesReference_b2 a3 a4 a5 r L) FU 0 = some (.inl s) :=
  lp_each (n := L.length) (by omega) (fun k hk => by
    unfold law34_RecoveryMatchesReference_b2
    rw [cn_dec, if_pos (by omega), ix_n hk]
    have h2 := hq _ (by rw [getD_lt hk]; exact List.getElem_mem hk : L.getD k default ∈ L)
    generalize L.getD k default = l at h2
    have hplan : ∃ y, recovery_Plan_F r l = some y ∧ y.1.length ≤ 1000 := by
      rcases plan_cases h1 h2 with ⟨hr, hl, ts, e, hp, hs⟩ | ⟨_, e⟩
      · have := (hs.lv hl).len
        have := hp.len
        exact ⟨_, e, by simp only; omega⟩
      · exact ⟨_, e, by simp⟩
    obtain ⟨y, e, hy⟩ := hplan
    obtain ⟨e2, z, e3⟩ := safe_eq h1 h2
    obtain ⟨w, e4⟩ := last_some h1 h2
    obtain ⟨v, ev⟩ : ∃ v, recovery_Valid_F r = some v := let ⟨v, h, _⟩ := valid_tells h1; ⟨v, h⟩
    obtain ⟨u, eu⟩ : ∃ v, recovery_Ready_F l = some v := let ⟨v, h, _⟩ := ready_tells h2; ⟨v, h⟩
    have ev2 : ref34_Valid_F r = some v := by rw [← ev]; exact (refvalid_tells h1).same (valid_tells h1)
    have eu2 : ref34_Ready_F l = some u := by rw [← eu]; exact (refready_tells h2).same (ready_tells h2)
    rw [plan_eq h1 h2, e, bd_s, bd_s, e2, e3, bd_s, bd_s, last_eq h1 h2, e4, bd_s, bd_s]
    simp only [jn_d]
    rw [ev, ev2, bd_s, bd_s, bb_self, cn_f, eu, eu2, bd_s, bd_s, bb_self, cn_f, same_self _ (by omega), bd_s]
    simp only [Bool.not_true, cn_f, bne_self_eq_false, bb_self]
    rw [show law34_pick_F a4 60 = some (pickZ a4 60) from pick_law a4 60 o4 (by omega), bd_s, lt_d]
    obtain ⟨s3, g3⟩ := b3_ok h1 h2 (L := [a4, pickZ a4 60]) (by simp)
    rw [g3, bd_s, smK_l, pick_law a5 5 o5 (by omega), bd_s, lt_d]
    obtain ⟨s4, g4⟩ := b4_ok h1 h2 (L := [a5, wr (1 + pickZ a5 5)]) (by simp)
    rw [g4, bd_s, smK_l, lt_d, gd_p _ (by omega), lt_d, cn_dec]
    by_cases c : (y.1.length : Int) > 0
    · rw [if_pos c, pick_law a3.2.2 _ o3.2.2 (by omega), bd_s, pick_law a4 40 o4 (by omega), bd_s]
      have hk := pickZ_lt a3.2.2 (n := (y.1.length : Int)) (by omega)
      rw [gd_p _ (by omega), st_d, lt_d]
      obtain ⟨s5, g5⟩ := b5_ok h1 h2 (L := [y.1, y.1.set (pickZ a3.2.2 (y.1.length : Int)).toNat ⟨(y.1.getD (pickZ a3.2.2 (y.1.length : Int)).toNat default).Caller, (y.1.getD (pickZ a3.2.2 (y.1.length : Int)).toNat default).First, pickZ a4 40⟩, []]) (by simp) (fun q hq => by
        simp only [List.mem_cons, List.not_mem_nil, or_false] at hq
        rcases hq with rfl | rfl | rfl <;> first | omega | (simp; done) | (simp; omega))
      rw [g5, bd_s, smK_l]
    · rw [if_neg c, lt_d]
      obtain ⟨s5, g5⟩ := b5_ok h1 h2 (L := [y.1, y.1, []]) (by simp) (fun q hq => by
        simp only [List.mem_cons, List.not_mem_nil, or_false] at hq
        rcases hq with rfl | rfl | rfl <;> first | omega | (simp; done) | (simp; omega))
      rw [g5, bd_s, smK_l]) (by
    unfold law34_RecoveryMatchesReference_b2
    rw [cn_dec, if_neg (by omega)])
theorem plain3 (a0 : List (Int × Int)) (a1 : Int) (a2 : List (Int × Int)) (a3 : Int × Int × Int) (a4 a5 : Int) (o0 : okL okA71 a0) (o1 : okI a1) (o2 : okL okA71 a2) (o3 : okA23 a3) (o4 : okI a4) (o5 : okI a5) : law34_RecoveryMatchesReference_F a0 a1 a2 a3 a4 a5 = some true := by
  unfold law34_RecoveryMatchesReference_F
  rw [sane_ok, bd_s]
  simp only [Bool.not_true, cn_f]
  obtain ⟨r, e, hr⟩ := made_ok a0 a1 o0 o1
  obtain ⟨l, e2, hla⟩ := attempts_ok a2 o2
  have hll := hla.len
  have hrl := hr.len
  obtain ⟨r', e3, hr'⟩ := bentregion_ok (b := a3.2.1) hr o3.1 o3.2.2
  obtain ⟨l', e4, hl'⟩ := bentattempts_ok (l := l) (by omega) o3.1 o3.2.1 o3.2.2
  rw [e, bd_s, e2, bd_s, e3, bd_s, lt_d]
  have hlen : ∀ k, k < 2 → (([r, r'] : List TRegion).getD k default).Steps.length ≤ 1000 := fun k hk => by
    match k with
    | 0 => simp; omega
    | 1 => simpa using hr'
    | k + 2 => omega
  obtain ⟨s, e5⟩ := lp_each (n := 2) (body := law34_RecoveryMatchesReference_b1 a3 a4 a5 [r, r'] l) (by omega) (fun k hk => by
    unfold law34_RecoveryMatchesReference_b1
    rw [cn_dec, if_pos (by simp; omega), ix_n (by simpa using hk), e4, bd_s, lt_d]
    obtain ⟨s, e6⟩ := b2_ok o3 o4 o5 (hlen k hk) (L := [l, l']) (by simp) (fun q hq => by
      simp only [List.mem_cons, List.not_mem_nil, or_false] at hq
      rcases hq with rfl | rfl <;> omega)
    rw [e6, bd_s, smK_l]) (by
    unfold law34_RecoveryMatchesReference_b1
    rw [cn_dec, if_neg (by simp)])
  rw [e5, bd_s, smK_l]
end Go.Proofs.Ytcidmnpihffphaa
