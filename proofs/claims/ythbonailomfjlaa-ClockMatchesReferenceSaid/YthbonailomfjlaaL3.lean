import Derived.Test.YthbonailomfjlaaW10
namespace Go.Proofs.Ythbonailomfjlaa
open Go Go.Eng
set_option maxHeartbeats 0
set_option maxRecDepth 100000
/-! dialtonelaw05.ClockMatchesReference -/
def law05_ClockMatchesReference_b2 (e14 : TClock) (l18 : List Int) (l20 : List Int) (s21 : Int) : Option (Ct Int Bool) := cn (decide (s21 < 2)) (ix l18 default s21 fun e22 =>
    bd (clock_At_F e14 e22) fun y23 => ix l18 default s21 fun e24 => bd (ref05_At_F e14 e24) fun y25 => ix l20 default s21 fun e26 => bd (clock_Reads_F e14 e26) fun y27 =>
    ix l20 default s21 fun e28 => bd (ref05_Reads_F e14 e28) fun y29 => jn (fun p30 : Bool => cn p30 (some (.rt false)) (jn (fun p32 : Bool =>
    cn p32 (some (.rt false)) (some (.nx (wr (s21 + 1))))) fun k33 => ix l18 default s21 fun e34 => ix l20 default s21 fun e35 => bd (clock_Before_F e14 e34 e35) fun y36 =>
    ix l18 default s21 fun e37 => ix l20 default s21 fun e38 => bd (ref05_Before_F e14 e37 e38) fun y39 => cn (!(y36 == y39)) (k33 true) (ix l18 default s21 fun e40 =>
    ix l20 default s21 fun e41 => bd (clock_After_F e14 e40 e41) fun y42 => ix l18 default s21 fun e43 => ix l20 default s21 fun e44 => bd (ref05_After_F e14 e43 e44) fun y45 =>
    k33 (!(y42 == y45))))) fun k31 => cn (y23.1 != y25.1) (k31 true) (cn (y23.2.1 != y25.2.1) (k31 true) (cn (y23.2.2 != y25.2.2) (k31 true) (cn (y27.1 !=
    y29.1) (k31 true) (cn (y27.2.1 != y29.2.1) (k31 true) (k31 (y27.2.2 != y29.2.2))))))) (some (.bk s21))
theorem W_blaw05_ClockMatchesReference_b2 {e14 : TClock} {l18 : List Int} {l20 : List Int} {s21 : Int} {Φ : Ct Int Bool → Prop} (h : W (law05_ClockMatchesReference_b2 e14 l18 l20 s21) Φ) : W (cn (decide (s21 < 2)) (ix l18 default s21 fun e22 => bd (clock_At_F e14 e22) fun y23 => ix l18 default s21 fun e24 => bd (ref05_At_F e14 e24) fun y25 =>
    ix l20 default s21 fun e26 => bd (clock_Reads_F e14 e26) fun y27 => ix l20 default s21 fun e28 => bd (ref05_Reads_F e14 e28) fun y29 => jn (fun p30 : Bool =>
    cn p30 (some (.rt false)) (jn (fun p32 : Bool => cn p32 (some (.rt false)) (some (.nx (wr (s21 + 1))))) fun k33 => ix l18 default s21 fun e34 => ix l20 default s21 fun e35 =>
    bd (clock_Before_F e14 e34 e35) fun y36 => ix l18 default s21 fun e37 => ix l20 default s21 fun e38 => bd (ref05_Before_F e14 e37 e38) fun y39 => cn (!(y36 ==
    y39)) (k33 true) (ix l18 default s21 fun e40 => ix l20 default s21 fun e41 => bd (clock_After_F e14 e40 e41) fun y42 => ix l18 default s21 fun e43 =>
    ix l20 default s21 fun e44 => bd (ref05_After_F e14 e43 e44) fun y45 => k33 (!(y42 == y45))))) fun k31 => cn (y23.1 != y25.1) (k31 true) (cn (y23.2.1 !=
    y25.2.1) (k31 true) (cn (y23.2.2 != y25.2.2) (k31 true) (cn (y27.1 != y29.1) (k31 true) (cn (y27.2.1 != y29.2.1) (k31 true) (k31 (y27.2.2 != y29.2.2))))))) (some (.bk s21))) Φ := h
def law05_ClockMatchesReference_b1 (a5 : Int) (a6 : Int) (l12 : List TClock) (s13 : Int) : Option (Ct Int Bool) := cn (decide (s13 < 2)) (ix l12 default s13 fun e14 =>
    bd (clock_Valid_F e14) fun y15 => bd (ref05_Valid_F e14) fun y16 => cn (!(y15 == y16)) (some (.rt false)) (bd (law05_pick_F a5 5000) fun y17 =>
    lt ([a5, y17] : List Int) fun l18 => bd (law05_pick_F a6 5000) fun y19 => lt ([a6, y19] : List Int) fun l20 =>
    bd (lp (law05_ClockMatchesReference_b2 e14 l18 l20) FU 0) fun c46 => smK c46 (fun s47 => some (.nx (wr (s13 + 1)))) (fun r48 => some (.rt r48)))) (some (.bk s13))
theorem W_blaw05_ClockMatchesReference_b1 {a5 : Int} {a6 : Int} {l12 : List TClock} {s13 : Int} {Φ : Ct Int Bool → Prop} (h : W (law05_ClockMatchesReference_b1 a5 a6 l12 s13) Φ) : W (cn (decide (s13 < 2)) (ix l12 default s13 fun e14 => bd (clock_Valid_F e14) fun y15 => bd (ref05_Valid_F e14) fun y16 => cn (!(y15 ==
    y16)) (some (.rt false)) (bd (law05_pick_F a5 5000) fun y17 => lt ([a5, y17] : List Int) fun l18 => bd (law05_pick_F a6 5000) fun y19 => lt ([a6, y19] : List Int) fun l20 =>
    bd (lp (law05_ClockMatchesReference_b2 e14 l18 l20) FU 0) fun c46 => smK c46 (fun s47 => some (.nx (wr (s13 + 1)))) (fun r48 => some (.rt r48)))) (some (.bk s13))) Φ := h
def law05_ClockMatchesReference_F (a0 : TClock) (a1 : Int) (a2 : Int) (a3 : List Int) (a4 : List (Int × Int × Int)) (a5 : Int) (a6 : Int) (a7 : List TSpell) : Option Bool :=
    bd (law05_sane_F ) fun y1 => cn (!y1) (some false) (bd (clock_Spread_F a1 a5) fun y2 => bd (ref05_Spread_F a1 a5) fun y3 => slc a7 0 (imin (a7.length : Int) 20) fun l4 =>
    bd (clock_Agree_F l4) fun y5 => slc a7 0 (imin (a7.length : Int) 20) fun l6 => bd (ref05_Agree_F l6) fun y7 => jn (fun p8 : Bool =>
    cn p8 (some false) (bd (law05_few_F a0) fun y10 => bd (ref05_Made_F a1 a2 a3 a4) fun y11 => lt ([y10, y11] : List TClock) fun l12 =>
    bd (lp (law05_ClockMatchesReference_b1 a5 a6 l12) FU 0) fun c49 => smK c49 (fun s50 => some y1) (fun r51 => some r51))) fun k9 => cn (y2.1 != y3.1) (k9 true) (cn (y2.2 !=
    y3.2) (k9 true) (cn (!((y5.1.From == y7.1.From) && (y5.1.To == y7.1.To))) (k9 true) (k9 (y5.2 != y7.2)))))
def law05_ClockMatchesReference_S : List AV → AV → Prop := fun args r => ∃ a0 a1 a2 a3 a4 a5 a6 a7, args = [eTClock a0, eI a1, eI a2, (eL 1 eI default) a3, (eL 3 eA60 default) a4, eI a5, eI a6, (eL 2 eTSpell default) a7] ∧ W (law05_ClockMatchesReference_F a0 a1 a2 a3 a4 a5 a6 a7) fun y => r = (eB y)
theorem law05_ClockMatchesReference_ok {T : Tbl} (hT : TOk Try.prog T) (hpf : PfOk T PF) (h10 : T 10 = pureR law05_sane_S) (h11 : T 11 = pureR clock_Spread_S) (h12 : T 12 = pureR ref05_Spread_S) (h13 : T 13 = pureR clock_Agree_S) (h14 : T 14 = pureR ref05_Agree_S) (h15 : T 15 = pureR law05_few_S) (h16 : T 16 = pureR ref05_Made_S) (h17 : T 17 = pureR clock_Valid_S) (h18 : T 18 = pureR ref05_Valid_S) (h19 : T 19 = pureR law05_pick_S) (h20 : T 20 = pureR clock_At_S) (h21 : T 21 = pureR ref05_At_S) (h22 : T 22 = pureR clock_Reads_S) (h23 : T 23 = pureR ref05_Reads_S) (h24 : T 24 = pureR clock_Before_S) (h25 : T 25 = pureR ref05_Before_S) (h26 : T 26 = pureR clock_After_S) (h27 : T 27 = pureR ref05_After_S) : FOk Try.prog 3 (pureR law05_ClockMatchesReference_S) := by
  refine FOk_pure hT hpf Try.func3 rfl Try.ntmps3 Try.results3 (by decide) ?_
  rintro args r ⟨a0, a1, a2, a3, a4, a5, a6, a7, rfl, h⟩
  refine ⟨Nat.le_of_ble_eq_true rfl, ?_, ?_⟩
  · exact (loose_cons (lo_TClock _) (loose_cons (loose_int _ _) (loose_cons (loose_int _ _) (loose_cons (loose_lst fun _ => (loose_int _ _)) (loose_cons (loose_lst fun _ => (lo_A60 _)) (loose_cons (loose_int _ _) (loose_cons (loose_int _ _) (loose_cons (loose_lst fun _ => (lo_TSpell _)) loose_nil))))))))
  rw [law05_ClockMatchesReference_F.eq_1] at h
  refine HT_fr DC_ok rfl fun K hK => ?_; (conv => whnf)
  refine hK _ _ _ ?_; clear hK K
  refine HT_fr DC_ok rfl fun K hK => ?_; (conv => whnf)
  replace h := W_bd h
  refine law05_sane_call h10 h (WkL.refl _) (fun _ h => ?_); (conv => whnf)
  refine hK _ _ _ ?_; clear hK K
  refine HT_seq ?_
  refine HT_fr DC_ok rfl fun K hK => ?_; (conv => whnf)
  refine hK _ _ _ ?_; clear hK K
  refine HT_if fun K1 K2 hK1 hK2 => ?_; (conv => whnf)
  refine cond_lk h (fun _ h => ?_) (fun _ h => ?_)
  · refine hK1 ?_; clear hK1 hK2 K1 K2
    refine HT_fr DC_ok rfl fun K hK => ?_; (conv => whnf)
    refine hK _ _ _ ?_; clear hK K
    refine HT_ret ?_
    refine Then_r ?_
    replace h := W_some h
    refine PostP_r DC_ok fun K hK => ?_; (conv => whnf)
    refine hK _ ?_; clear hK K
    cases h
    exact Wk.refl _
  refine hK2 ?_; clear hK1 hK2 K1 K2
  refine HT_skip ?_
  refine Then_n ?_
  refine HT_fr DC_ok rfl fun K hK => ?_; (conv => whnf)
  replace h := W_bd h
  refine clock_Spread_call h11 h (WkL.refl _) (fun _ h => ?_); (conv => whnf)
  refine hK _ _ _ ?_; clear hK K
  refine HT_fr DC_ok rfl fun K hK => ?_; (conv => whnf)
  replace h := W_bd h
  refine ref05_Spread_call h12 h (WkL.refl _) (fun _ h => ?_); (conv => whnf)
  refine hK _ _ _ ?_; clear hK K
  refine HT_fr DC_ok rfl fun K hK => ?_; (conv => whnf)
  refine sl_lk h (.inl ⟨rfl, rfl⟩) (.inr ⟨_, rfl⟩) (fun h => ?_); (conv => whnf)
  replace h := W_bd h
  refine clock_Agree_call h13 h (WkL.refl _) (fun _ h => ?_); (conv => whnf)
  refine blkK_of rfl ?_; (conv => whnf)
  refine And.intro rfl (And.intro (Nat.le_of_ble_eq_true rfl) (And.intro rfl ?_)); (conv => whnf)
  refine hK _ _ _ ?_; clear hK K
  refine HT_fr DC_ok rfl fun K hK => ?_; (conv => whnf)
  refine sl_lk h (.inl ⟨rfl, rfl⟩) (.inr ⟨_, rfl⟩) (fun h => ?_); (conv => whnf)
  replace h := W_bd h
  refine ref05_Agree_call h14 h (WkL.refl _) (fun _ h => ?_); (conv => whnf)
  refine blkK_of rfl ?_; (conv => whnf)
  refine And.intro rfl (And.intro (Nat.le_of_ble_eq_true rfl) (And.intro rfl ?_)); (conv => whnf)
  refine hK _ _ _ ?_; clear hK K
  refine HT_seq ?_
  refine HT_fr DC_ok rfl fun K hK => ?_; (conv => whnf)
  replace h := W_jn h
  refine cond_lk h (fun _ h => ?_) (fun _ h => ?_) <;> (conv => whnf)
  · refine hK _ _ _ ?_; clear hK K
    refine HT_if fun K1 K2 hK1 hK2 => ?_; (conv => whnf)
    refine hK1 ?_; clear hK1 hK2 K1 K2
    replace h := W_cnT h
    refine HT_fr DC_ok rfl fun K hK => ?_; (conv => whnf)
    refine hK _ _ _ ?_; clear hK K
    refine HT_ret ?_
    refine Then_r ?_
    replace h := W_some h
    refine PostP_r DC_ok fun K hK => ?_; (conv => whnf)
    refine hK _ ?_; clear hK K
    cases h
    exact Wk.refl _
  refine cond_lk h (fun _ h => ?_) (fun _ h => ?_) <;> (conv => whnf)
  · refine hK _ _ _ ?_; clear hK K
    refine HT_if fun K1 K2 hK1 hK2 => ?_; (conv => whnf)
    refine hK1 ?_; clear hK1 hK2 K1 K2
    replace h := W_cnT h
    refine HT_fr DC_ok rfl fun K hK => ?_; (conv => whnf)
    refine hK _ _ _ ?_; clear hK K
    refine HT_ret ?_
    refine Then_r ?_
    replace h := W_some h
    refine PostP_r DC_ok fun K hK => ?_; (conv => whnf)
    refine hK _ ?_; clear hK K
    cases h
    exact Wk.refl _
  refine And.intro (Nat.le_of_ble_eq_true rfl) ?_; (conv => whnf)
  refine blkK_of rfl ?_; (conv => whnf)
  refine And.intro (Nat.le_of_ble_eq_true rfl) ?_; (conv => whnf)
  refine And.intro (Nat.le_of_ble_eq_true rfl) ?_; (conv => whnf)
  refine blkK_of rfl ?_; (conv => whnf)
  refine And.intro (Nat.le_of_ble_eq_true rfl) ?_; (conv => whnf)
  refine eqK_n (eqv32 _ _ _ _) ?_; (conv => whnf)
  refine cond_lk h (fun _ h => ?_) (fun _ h => ?_) <;> (conv => whnf)
  · refine hK _ _ _ ?_; clear hK K
    refine HT_if fun K1 K2 hK1 hK2 => ?_; (conv => whnf)
    refine hK1 ?_; clear hK1 hK2 K1 K2
    replace h := W_cnT h
    refine HT_fr DC_ok rfl fun K hK => ?_; (conv => whnf)
    refine hK _ _ _ ?_; clear hK K
    refine HT_ret ?_
    refine Then_r ?_
    replace h := W_some h
    refine PostP_r DC_ok fun K hK => ?_; (conv => whnf)
    refine hK _ ?_; clear hK K
    cases h
    exact Wk.refl _
  refine hK _ _ _ ?_; clear hK K
  refine HT_if fun K1 K2 hK1 hK2 => ?_; (conv => whnf)
  refine cond_lk h (fun _ h => ?_) (fun _ h => ?_)
  · refine hK1 ?_; clear hK1 hK2 K1 K2
    refine HT_fr DC_ok rfl fun K hK => ?_; (conv => whnf)
    refine hK _ _ _ ?_; clear hK K
    refine HT_ret ?_
    refine Then_r ?_
    replace h := W_some h
    refine PostP_r DC_ok fun K hK => ?_; (conv => whnf)
    refine hK _ ?_; clear hK K
    cases h
    exact Wk.refl _
  refine hK2 ?_; clear hK1 hK2 K1 K2
  refine HT_skip ?_
  refine Then_n ?_
  refine HT_fr DC_ok rfl fun K hK => ?_; (conv => whnf)
  refine And.intro (Nat.le_of_ble_eq_true rfl) ?_; (conv => whnf)
  refine blkK_of rfl ?_; (conv => whnf)
  refine And.intro (Nat.le_of_ble_eq_true rfl) ?_; (conv => whnf)
  replace h := W_bd h
  refine law05_few_call h15 h (WkL.refl _) (fun _ h => ?_); (conv => whnf)
  replace h := W_bd h
  refine ref05_Made_call h16 h (WkL.refl _) (fun _ h => ?_); (conv => whnf)
  refine lt_lk (enc := eTClock) (d := default) DC_ok h rfl rfl rfl ⟨Nat.le_of_ble_eq_true rfl, Nat.le_of_ble_eq_true rfl, rfl⟩ rfl ⟨⟨rfl, Nat.le_of_ble_eq_true rfl⟩, ⟨⟨rfl, Nat.le_of_ble_eq_true rfl⟩, trivial⟩⟩ (fun h => ?_); (conv => whnf)
  refine hK _ _ _ ?_; clear hK K
  refine HT_seq ?_
  refine HT_fr DC_ok rfl fun K hK => ?_; (conv => whnf)
  refine hK _ _ _ ?_; clear hK K
  refine HT_block ?_
  replace h := W_bd h
  refine HT_lpK (body := law05_ClockMatchesReference_b1 _ _ _) rfl h [5, 6, 17, 26] [] [] (fun kl kh ids b s => ⟨ofL ([(27, eI s)] ++ kl), ofH ([] ++ kh), b + 64⟩) ?_; (conv => whnf); refine And.intro ?_ (fun s m h => HT_st ?_)
  · refine weak_k ?_; (conv => whnf)
    exact And.intro rfl (And.intro (allL_c (WkR.wk (Wk.refl _) (loose_int _ _)) (allL_c (WkR.wk (Wk.refl _) (loose_int _ _)) (allL_c (WkR.wk (Wk.refl _) (loose_int _ _)) (allL_c (WkR.wk (Wk.refl _) (loose_bool _)) (allL_c (WkR.wk (Wk.refl _) (loose_lstc fun _ => (lo_TClock _))) allL_n))))) allL_n)
  replace h := W_blaw05_ClockMatchesReference_b1 (W_bd h)
  refine HT_seq ?_
  refine HT_fr DC_ok rfl fun K hK => ?_; (conv => whnf)
  refine hK _ _ _ ?_; clear hK K
  refine HT_if fun K1 K2 hK1 hK2 => ?_; (conv => whnf)
  refine cond_lk h (fun _ h => ?_) (fun _ h => ?_)
  · refine hK1 ?_; clear hK1 hK2 K1 K2
    refine HT_skip ?_
    refine Then_n ?_
    refine HT_seq ?_
    refine HT_block ?_
    refine HT_fr DC_ok rfl fun K hK => ?_; (conv => whnf)
    refine ix_lk h fun _ h => ?_; (conv => whnf)
    refine And.intro (Nat.le_of_ble_eq_true rfl) ?_; (conv => whnf)
    refine blkK_of rfl ?_; (conv => whnf)
    refine And.intro rfl (And.intro (Nat.le_of_ble_eq_true rfl) (And.intro rfl ?_)); (conv => whnf)
    refine hK _ _ _ ?_; clear hK K
    refine HT_seq ?_
    refine HT_fd DC_ok mix_ok rfl (by kernel_rfl) fun K hK => ?_; (conv => whnf)
    refine And.intro (Nat.le_of_ble_eq_true rfl) ?_; (conv => whnf)
    refine blkK_of rfl ?_; (conv => whnf)
    refine And.intro (Nat.le_of_ble_eq_true rfl) ?_; (conv => whnf)
    replace h := W_bd h
    refine clock_Valid_call h17 h (WkL.refl _) (fun _ h => ?_); (conv => whnf)
    refine And.intro (Nat.le_of_ble_eq_true rfl) ?_; (conv => whnf)
    refine blkK_of rfl ?_; (conv => whnf)
    refine And.intro (Nat.le_of_ble_eq_true rfl) ?_; (conv => whnf)
    replace h := W_bd h
    refine ref05_Valid_call h18 h (WkL.refl _) (fun _ h => ?_); (conv => whnf)
    refine eqK_n (eqv_bool DC_ok rfl _ _) ?_; (conv => whnf)
    refine hK _ _ _ ?_; clear hK K
    refine HT_if fun K1 K2 hK1 hK2 => ?_; (conv => whnf)
    refine cond_lk h (fun _ h => ?_) (fun _ h => ?_)
    · refine hK1 ?_; clear hK1 hK2 K1 K2
      refine HT_fr DC_ok rfl fun K hK => ?_; (conv => whnf)
      refine hK _ _ _ ?_; clear hK K
      refine HT_ret ?_
      refine Then_r ?_
      refine InBlock_r ?_
      refine Then_r ?_
      refine Then_r ?_
      refine InBlock_r ?_
      refine Then_r ?_
      replace h := W_xrt h
      replace h := W_inr h
      replace h := W_some h
      refine PostP_r DC_ok fun K hK => ?_; (conv => whnf)
      refine hK _ ?_; clear hK K
      cases h
      exact Wk.refl _
    refine hK2 ?_; clear hK1 hK2 K1 K2
    refine HT_skip ?_
    refine Then_n ?_
    refine HT_fr DC_ok rfl fun K hK => ?_; (conv => whnf)
    replace h := W_bd h
    refine law05_pick_call h19 h (WkL.refl _) (fun _ h => ?_); (conv => whnf)
    refine lt_lk (enc := eI) (d := default) DC_ok h rfl rfl rfl ⟨Nat.le_of_ble_eq_true rfl, Nat.le_of_ble_eq_true rfl, rfl⟩ rfl ⟨⟨rfl, rfl, rfl⟩, ⟨⟨rfl, rfl, rfl⟩, trivial⟩⟩ (fun h => ?_); (conv => whnf)
    refine hK _ _ _ ?_; clear hK K
    refine HT_fr DC_ok rfl fun K hK => ?_; (conv => whnf)
    replace h := W_bd h
    refine law05_pick_call h19 h (WkL.refl _) (fun _ h => ?_); (conv => whnf)
    refine lt_lk (enc := eI) (d := default) DC_ok h rfl rfl rfl ⟨Nat.le_of_ble_eq_true rfl, Nat.le_of_ble_eq_true rfl, rfl⟩ rfl ⟨⟨rfl, rfl, rfl⟩, ⟨⟨rfl, rfl, rfl⟩, trivial⟩⟩ (fun h => ?_); (conv => whnf)
    refine hK _ _ _ ?_; clear hK K
    refine HT_fr DC_ok rfl fun K hK => ?_; (conv => whnf)
    refine hK _ _ _ ?_; clear hK K
    refine HT_block ?_
    replace h := W_bd h
    refine HT_lpK (body := law05_ClockMatchesReference_b2 _ _ _) rfl h [5, 6, 17, 26, 27, 28, 29, 30] [28] [] (fun kl kh ids b s => ⟨ofL ([(31, eI s)] ++ kl), ofH ([] ++ kh), b + 64⟩) ?_; (conv => whnf); refine And.intro ?_ (fun s m h => HT_st ?_)
    · refine weak_k ?_; (conv => whnf)
      exact And.intro rfl (And.intro (allL_c (WkR.wk (Wk.refl _) (loose_int _ _)) (allL_c (WkR.wk (Wk.refl _) (loose_int _ _)) (allL_c (WkR.wk (Wk.refl _) (loose_int _ _)) (allL_c (WkR.wk (Wk.refl _) (loose_bool _)) (allL_c (WkR.wk (Wk.refl _) (loose_lstc fun _ => (lo_TClock _))) (allL_c (WkR.wk (Wk.refl _) (loose_int _ _)) (allL_c (WkR.ptr (fun _ => rfl)) (allL_c (WkR.wk (Wk.refl _) (loose_lstc fun _ => (loose_int _ _))) (allL_c (WkR.wk (Wk.refl _) (loose_lstc fun _ => (loose_int _ _))) allL_n))))))))) (allL_c ⟨some _, rfl, BkR_c rfl (CkR_cons (WkR.wk (Wk.refl _) (loose_int _ _)) (CkR_cons (WkR.wk (Wk.refl _) (loose_lst fun _ => (lo_TReading _))) CkR_nil))⟩ allL_n))
    replace h := W_blaw05_ClockMatchesReference_b2 (W_bd h)
    refine HT_seq ?_
    refine HT_fr DC_ok rfl fun K hK => ?_; (conv => whnf)
    refine hK _ _ _ ?_; clear hK K
    refine HT_if fun K1 K2 hK1 hK2 => ?_; (conv => whnf)
    refine cond_lk h (fun _ h => ?_) (fun _ h => ?_)
    · refine hK1 ?_; clear hK1 hK2 K1 K2
      refine HT_skip ?_
      refine Then_n ?_
      refine HT_seq ?_
      refine HT_block ?_
      refine HT_fd DC_ok mix_ok rfl (by kernel_rfl) fun K hK => ?_; (conv => whnf)
      refine And.intro (Nat.le_of_ble_eq_true rfl) ?_; (conv => whnf)
      refine blkK_of rfl ?_; (conv => whnf)
      refine And.intro (Nat.le_of_ble_eq_true rfl) ?_; (conv => whnf)
      refine ix_lk h fun _ h => ?_; (conv => whnf)
      refine getK_of rfl ?_; (conv => whnf)
      replace h := W_bd h
      refine clock_At_call h20 h (WkL.refl _) (fun _ h => ?_); (conv => whnf)
      refine hK _ _ _ ?_; clear hK K
      refine HT_fd DC_ok mix_ok rfl (by kernel_rfl) fun K hK => ?_; (conv => whnf)
      refine And.intro (Nat.le_of_ble_eq_true rfl) ?_; (conv => whnf)
      refine blkK_of rfl ?_; (conv => whnf)
      refine And.intro (Nat.le_of_ble_eq_true rfl) ?_; (conv => whnf)
      refine ix_lk h fun _ h => ?_; (conv => whnf)
      refine getK_of rfl ?_; (conv => whnf)
      replace h := W_bd h
      refine ref05_At_call h21 h (WkL.refl _) (fun _ h => ?_); (conv => whnf)
      refine hK _ _ _ ?_; clear hK K
      refine HT_fd DC_ok mix_ok rfl (by kernel_rfl) fun K hK => ?_; (conv => whnf)
      refine And.intro (Nat.le_of_ble_eq_true rfl) ?_; (conv => whnf)
      refine blkK_of rfl ?_; (conv => whnf)
      refine And.intro (Nat.le_of_ble_eq_true rfl) ?_; (conv => whnf)
      refine ix_lk h fun _ h => ?_; (conv => whnf)
      refine getK_of rfl ?_; (conv => whnf)
      replace h := W_bd h
      refine clock_Reads_call h22 h (WkL.refl _) (fun _ h => ?_); (conv => whnf)
      refine hK _ _ _ ?_; clear hK K
      refine HT_fd DC_ok mix_ok rfl (by kernel_rfl) fun K hK => ?_; (conv => whnf)
      refine And.intro (Nat.le_of_ble_eq_true rfl) ?_; (conv => whnf)
      refine blkK_of rfl ?_; (conv => whnf)
      refine And.intro (Nat.le_of_ble_eq_true rfl) ?_; (conv => whnf)
      refine ix_lk h fun _ h => ?_; (conv => whnf)
      refine getK_of rfl ?_; (conv => whnf)
      replace h := W_bd h
      refine ref05_Reads_call h23 h (WkL.refl _) (fun _ h => ?_); (conv => whnf)
      refine hK _ _ _ ?_; clear hK K
      refine HT_seq ?_
      refine HT_jnK rfl h [5, 6, 17, 26, 27, 28, 29, 30, 31] [28] [] (fun kl kh ids b s => ⟨ofL ([(195, eB s)] ++ kl), ofH ([] ++ kh), b + 64⟩) ?_; (conv => whnf); refine And.intro (fun s h => HT_st ?_) (fun k h => ?_)
      · refine HT_if fun K1 K2 hK1 hK2 => ?_; (conv => whnf)
        refine cond_lk h (fun _ h => ?_) (fun _ h => ?_)
        · refine hK1 ?_; clear hK1 hK2 K1 K2
          refine HT_fr DC_ok rfl fun K hK => ?_; (conv => whnf)
          refine hK _ _ _ ?_; clear hK K
          refine HT_ret ?_
          refine Then_r ?_
          refine InBlock_r ?_
          refine Then_r ?_
          refine Then_r ?_
          refine InBlock_r ?_
          refine InBlock_r ?_
          refine Then_r ?_
          refine Then_r ?_
          refine InBlock_r ?_
          refine Then_r ?_
          replace h := W_xrt h
          replace h := W_inr h
          replace h := W_xrt h
          replace h := W_inr h
          replace h := W_some h
          refine PostP_r DC_ok fun K hK => ?_; (conv => whnf)
          refine hK _ ?_; clear hK K
          cases h
          exact Wk.refl _
        refine hK2 ?_; clear hK1 hK2 K1 K2
        refine HT_skip ?_
        refine Then_n ?_
        refine HT_fd DC_ok mix_ok rfl (by kernel_rfl) fun K hK => ?_; (conv => whnf)
        replace h := W_jn h
        refine And.intro (Nat.le_of_ble_eq_true rfl) ?_; (conv => whnf)
        refine blkK_of rfl ?_; (conv => whnf)
        refine And.intro (Nat.le_of_ble_eq_true rfl) ?_; (conv => whnf)
        refine ix_lk h fun _ h => ?_; (conv => whnf)
        refine getK_of rfl ?_; (conv => whnf)
        refine ix_lk h fun _ h => ?_; (conv => whnf)
        refine getK_of rfl ?_; (conv => whnf)
        replace h := W_bd h
        refine clock_Before_call h24 h (WkL.refl _) (fun _ h => ?_); (conv => whnf)
        refine And.intro (Nat.le_of_ble_eq_true rfl) ?_; (conv => whnf)
        refine blkK_of rfl ?_; (conv => whnf)
        refine And.intro (Nat.le_of_ble_eq_true rfl) ?_; (conv => whnf)
        refine ix_lk h fun _ h => ?_; (conv => whnf)
        refine getK_of rfl ?_; (conv => whnf)
        refine ix_lk h fun _ h => ?_; (conv => whnf)
        refine getK_of rfl ?_; (conv => whnf)
        replace h := W_bd h
        refine ref05_Before_call h25 h (WkL.refl _) (fun _ h => ?_); (conv => whnf)
        refine eqK_n (eqv_bool DC_ok rfl _ _) ?_; (conv => whnf)
        refine cond_lk h (fun _ h => ?_) (fun _ h => ?_) <;> (conv => whnf)
        · refine hK _ _ _ ?_; clear hK K
          refine HT_if fun K1 K2 hK1 hK2 => ?_; (conv => whnf)
          refine hK1 ?_; clear hK1 hK2 K1 K2
          replace h := W_cnT h
          refine HT_fr DC_ok rfl fun K hK => ?_; (conv => whnf)
          refine hK _ _ _ ?_; clear hK K
          refine HT_ret ?_
          refine InBlock_r ?_
          refine Then_r ?_
          refine Then_r ?_
          refine InBlock_r ?_
          refine InBlock_r ?_
          refine Then_r ?_
          refine Then_r ?_
          refine InBlock_r ?_
          refine Then_r ?_
          replace h := W_xrt h
          replace h := W_inr h
          replace h := W_xrt h
          replace h := W_inr h
          replace h := W_some h
          refine PostP_r DC_ok fun K hK => ?_; (conv => whnf)
          refine hK _ ?_; clear hK K
          cases h
          exact Wk.refl _
        refine And.intro (Nat.le_of_ble_eq_true rfl) ?_; (conv => whnf)
        refine blkK_of rfl ?_; (conv => whnf)
        refine And.intro (Nat.le_of_ble_eq_true rfl) ?_; (conv => whnf)
        refine ix_lk h fun _ h => ?_; (conv => whnf)
        refine getK_of rfl ?_; (conv => whnf)
        refine ix_lk h fun _ h => ?_; (conv => whnf)
        refine getK_of rfl ?_; (conv => whnf)
        replace h := W_bd h
        refine clock_After_call h26 h (WkL.refl _) (fun _ h => ?_); (conv => whnf)
        refine And.intro (Nat.le_of_ble_eq_true rfl) ?_; (conv => whnf)
        refine blkK_of rfl ?_; (conv => whnf)
        refine And.intro (Nat.le_of_ble_eq_true rfl) ?_; (conv => whnf)
        refine ix_lk h fun _ h => ?_; (conv => whnf)
        refine getK_of rfl ?_; (conv => whnf)
        refine ix_lk h fun _ h => ?_; (conv => whnf)
        refine getK_of rfl ?_; (conv => whnf)
        replace h := W_bd h
        refine ref05_After_call h27 h (WkL.refl _) (fun _ h => ?_); (conv => whnf)
        refine eqK_n (eqv_bool DC_ok rfl _ _) ?_; (conv => whnf)
        refine hK _ _ _ ?_; clear hK K
        refine HT_if fun K1 K2 hK1 hK2 => ?_; (conv => whnf)
        refine cond_lk h (fun _ h => ?_) (fun _ h => ?_)
        · refine hK1 ?_; clear hK1 hK2 K1 K2
          refine HT_fr DC_ok rfl fun K hK => ?_; (conv => whnf)
          refine hK _ _ _ ?_; clear hK K
          refine HT_ret ?_
          refine InBlock_r ?_
          refine Then_r ?_
          refine Then_r ?_
          refine InBlock_r ?_
          refine InBlock_r ?_
          refine Then_r ?_
          refine Then_r ?_
          refine InBlock_r ?_
          refine Then_r ?_
          replace h := W_xrt h
          replace h := W_inr h
          replace h := W_xrt h
          replace h := W_inr h
          replace h := W_some h
          refine PostP_r DC_ok fun K hK => ?_; (conv => whnf)
          refine hK _ ?_; clear hK K
          cases h
          exact Wk.refl _
        refine hK2 ?_; clear hK1 hK2 K1 K2
        refine HT_skip ?_
        refine InBlock_n ?_
        refine Then_n ?_
        refine HT_f DC_ok rfl fun K hK => ?_; (conv => whnf)
        refine hK _ _ _ ?_; clear hK K
        refine Then_n ?_
        replace h := W_xnx h
        refine ⟨_, h, ?_⟩
        refine weak_k ?_; (conv => whnf)
        exact And.intro rfl (And.intro (allL_c (WkR.wk (Wk.refl _) (loose_int _ _)) (allL_c (WkR.wk (Wk.refl _) (loose_int _ _)) (allL_c (WkR.wk (Wk.refl _) (loose_int _ _)) (allL_c (WkR.wk (Wk.refl _) (loose_bool _)) (allL_c (WkR.wk (Wk.refl _) (loose_lstc fun _ => (lo_TClock _))) (allL_c (WkR.wk (Wk.refl _) (loose_int _ _)) (allL_c (WkR.ptr (fun _ => rfl)) (allL_c (WkR.wk (Wk.refl _) (loose_lstc fun _ => (loose_int _ _))) (allL_c (WkR.wk (Wk.refl _) (loose_lstc fun _ => (loose_int _ _))) allL_n))))))))) (allL_c ⟨some _, rfl, BkR_c rfl (CkR_cons (WkR.wk (Wk.refl _) (loose_int _ _)) (CkR_cons (WkR.wk (Wk.refl _) (loose_lst fun _ => (lo_TReading _))) CkR_nil))⟩ allL_n))
      refine HT_f DC_ok rfl fun K hK => ?_; (conv => whnf)
      refine cond_lk h (fun _ h => ?_) (fun _ h => ?_) <;> (conv => whnf)
      · refine hK _ _ _ ?_; clear hK K
        refine Then_n ?_
        refine ⟨_, h, ?_⟩
        refine weak_k ?_; (conv => whnf)
        exact And.intro rfl (And.intro (allL_c (WkR.wk (Wk.refl _) (loose_bool _)) (allL_c (WkR.wk (Wk.refl _) (loose_int _ _)) (allL_c (WkR.wk (Wk.refl _) (loose_int _ _)) (allL_c (WkR.wk (Wk.refl _) (loose_bool _)) (allL_c (WkR.wk (Wk.refl _) (loose_lstc fun _ => (lo_TClock _))) (allL_c (WkR.wk (Wk.refl _) (loose_int _ _)) (allL_c (WkR.ptr (fun _ => rfl)) (allL_c (WkR.wk (Wk.refl _) (loose_lstc fun _ => (loose_int _ _))) (allL_c (WkR.wk (Wk.refl _) (loose_lstc fun _ => (loose_int _ _))) (allL_c (WkR.wk (Wk.refl _) (loose_int _ _)) allL_n)))))))))) (allL_c ⟨some _, rfl, BkR_c rfl (CkR_cons (WkR.wk (Wk.refl _) (loose_int _ _)) (CkR_cons (WkR.wk (Wk.refl _) (loose_lst fun _ => (lo_TReading _))) CkR_nil))⟩ allL_n))
      refine cond_lk h (fun _ h => ?_) (fun _ h => ?_) <;> (conv => whnf)
      · refine hK _ _ _ ?_; clear hK K
        refine Then_n ?_
        refine ⟨_, h, ?_⟩
        refine weak_k ?_; (conv => whnf)
        exact And.intro rfl (And.intro (allL_c (WkR.wk (Wk.refl _) (loose_bool _)) (allL_c (WkR.wk (Wk.refl _) (loose_int _ _)) (allL_c (WkR.wk (Wk.refl _) (loose_int _ _)) (allL_c (WkR.wk (Wk.refl _) (loose_bool _)) (allL_c (WkR.wk (Wk.refl _) (loose_lstc fun _ => (lo_TClock _))) (allL_c (WkR.wk (Wk.refl _) (loose_int _ _)) (allL_c (WkR.ptr (fun _ => rfl)) (allL_c (WkR.wk (Wk.refl _) (loose_lstc fun _ => (loose_int _ _))) (allL_c (WkR.wk (Wk.refl _) (loose_lstc fun _ => (loose_int _ _))) (allL_c (WkR.wk (Wk.refl _) (loose_int _ _)) allL_n)))))))))) (allL_c ⟨some _, rfl, BkR_c rfl (CkR_cons (WkR.wk (Wk.refl _) (loose_int _ _)) (CkR_cons (WkR.wk (Wk.refl _) (loose_lst fun _ => (lo_TReading _))) CkR_nil))⟩ allL_n))
      refine cond_lk h (fun _ h => ?_) (fun _ h => ?_) <;> (conv => whnf)
      · refine hK _ _ _ ?_; clear hK K
        refine Then_n ?_
        refine ⟨_, h, ?_⟩
        refine weak_k ?_; (conv => whnf)
        exact And.intro rfl (And.intro (allL_c (WkR.wk (Wk.refl _) (loose_bool _)) (allL_c (WkR.wk (Wk.refl _) (loose_int _ _)) (allL_c (WkR.wk (Wk.refl _) (loose_int _ _)) (allL_c (WkR.wk (Wk.refl _) (loose_bool _)) (allL_c (WkR.wk (Wk.refl _) (loose_lstc fun _ => (lo_TClock _))) (allL_c (WkR.wk (Wk.refl _) (loose_int _ _)) (allL_c (WkR.ptr (fun _ => rfl)) (allL_c (WkR.wk (Wk.refl _) (loose_lstc fun _ => (loose_int _ _))) (allL_c (WkR.wk (Wk.refl _) (loose_lstc fun _ => (loose_int _ _))) (allL_c (WkR.wk (Wk.refl _) (loose_int _ _)) allL_n)))))))))) (allL_c ⟨some _, rfl, BkR_c rfl (CkR_cons (WkR.wk (Wk.refl _) (loose_int _ _)) (CkR_cons (WkR.wk (Wk.refl _) (loose_lst fun _ => (lo_TReading _))) CkR_nil))⟩ allL_n))
      refine cond_lk h (fun _ h => ?_) (fun _ h => ?_) <;> (conv => whnf)
      · refine hK _ _ _ ?_; clear hK K
        refine Then_n ?_
        refine ⟨_, h, ?_⟩
        refine weak_k ?_; (conv => whnf)
        exact And.intro rfl (And.intro (allL_c (WkR.wk (Wk.refl _) (loose_bool _)) (allL_c (WkR.wk (Wk.refl _) (loose_int _ _)) (allL_c (WkR.wk (Wk.refl _) (loose_int _ _)) (allL_c (WkR.wk (Wk.refl _) (loose_bool _)) (allL_c (WkR.wk (Wk.refl _) (loose_lstc fun _ => (lo_TClock _))) (allL_c (WkR.wk (Wk.refl _) (loose_int _ _)) (allL_c (WkR.ptr (fun _ => rfl)) (allL_c (WkR.wk (Wk.refl _) (loose_lstc fun _ => (loose_int _ _))) (allL_c (WkR.wk (Wk.refl _) (loose_lstc fun _ => (loose_int _ _))) (allL_c (WkR.wk (Wk.refl _) (loose_int _ _)) allL_n)))))))))) (allL_c ⟨some _, rfl, BkR_c rfl (CkR_cons (WkR.wk (Wk.refl _) (loose_int _ _)) (CkR_cons (WkR.wk (Wk.refl _) (loose_lst fun _ => (lo_TReading _))) CkR_nil))⟩ allL_n))
      refine cond_lk h (fun _ h => ?_) (fun _ h => ?_) <;> (conv => whnf)
      · refine hK _ _ _ ?_; clear hK K
        refine Then_n ?_
        refine ⟨_, h, ?_⟩
        refine weak_k ?_; (conv => whnf)
        exact And.intro rfl (And.intro (allL_c (WkR.wk (Wk.refl _) (loose_bool _)) (allL_c (WkR.wk (Wk.refl _) (loose_int _ _)) (allL_c (WkR.wk (Wk.refl _) (loose_int _ _)) (allL_c (WkR.wk (Wk.refl _) (loose_bool _)) (allL_c (WkR.wk (Wk.refl _) (loose_lstc fun _ => (lo_TClock _))) (allL_c (WkR.wk (Wk.refl _) (loose_int _ _)) (allL_c (WkR.ptr (fun _ => rfl)) (allL_c (WkR.wk (Wk.refl _) (loose_lstc fun _ => (loose_int _ _))) (allL_c (WkR.wk (Wk.refl _) (loose_lstc fun _ => (loose_int _ _))) (allL_c (WkR.wk (Wk.refl _) (loose_int _ _)) allL_n)))))))))) (allL_c ⟨some _, rfl, BkR_c rfl (CkR_cons (WkR.wk (Wk.refl _) (loose_int _ _)) (CkR_cons (WkR.wk (Wk.refl _) (loose_lst fun _ => (lo_TReading _))) CkR_nil))⟩ allL_n))
      refine hK _ _ _ ?_; clear hK K
      refine Then_n ?_
      refine ⟨_, h, ?_⟩
      refine weak_k ?_; (conv => whnf)
      exact And.intro rfl (And.intro (allL_c (WkR.wk (Wk.refl _) (loose_bool _)) (allL_c (WkR.wk (Wk.refl _) (loose_int _ _)) (allL_c (WkR.wk (Wk.refl _) (loose_int _ _)) (allL_c (WkR.wk (Wk.refl _) (loose_bool _)) (allL_c (WkR.wk (Wk.refl _) (loose_lstc fun _ => (lo_TClock _))) (allL_c (WkR.wk (Wk.refl _) (loose_int _ _)) (allL_c (WkR.ptr (fun _ => rfl)) (allL_c (WkR.wk (Wk.refl _) (loose_lstc fun _ => (loose_int _ _))) (allL_c (WkR.wk (Wk.refl _) (loose_lstc fun _ => (loose_int _ _))) (allL_c (WkR.wk (Wk.refl _) (loose_int _ _)) allL_n)))))))))) (allL_c ⟨some _, rfl, BkR_c rfl (CkR_cons (WkR.wk (Wk.refl _) (loose_int _ _)) (CkR_cons (WkR.wk (Wk.refl _) (loose_lst fun _ => (lo_TReading _))) CkR_nil))⟩ allL_n))
    refine hK2 ?_; clear hK1 hK2 K1 K2
    refine HT_exit ?_
    refine Then_e ?_
    refine Then_e ?_
    refine InBlock_e ?_
    replace h := W_xbk h
    replace h := W_inl h
    refine InBlock_n ?_
    refine Then_n ?_
    refine HT_f DC_ok rfl fun K hK => ?_; (conv => whnf)
    refine hK _ _ _ ?_; clear hK K
    refine Then_n ?_
    replace h := W_xnx h
    refine ⟨_, h, ?_⟩
    refine weak_k ?_; (conv => whnf)
    exact And.intro rfl (And.intro (allL_c (WkR.wk (Wk.refl _) (loose_int _ _)) (allL_c (WkR.wk (Wk.refl _) (loose_int _ _)) (allL_c (WkR.wk (Wk.refl _) (loose_int _ _)) (allL_c (WkR.wk (Wk.refl _) (loose_bool _)) (allL_c (WkR.wk (Wk.refl _) (loose_lstc fun _ => (lo_TClock _))) allL_n))))) allL_n)
  refine hK2 ?_; clear hK1 hK2 K1 K2
  refine HT_exit ?_
  refine Then_e ?_
  refine Then_e ?_
  refine InBlock_e ?_
  replace h := W_xbk h
  replace h := W_inl h
  refine Then_n ?_
  refine HT_fr DC_ok rfl fun K hK => ?_; (conv => whnf)
  refine hK _ _ _ ?_; clear hK K
  refine HT_ret ?_
  replace h := W_some h
  refine PostP_r DC_ok fun K hK => ?_; (conv => whnf)
  refine hK _ ?_; clear hK K
  cases h
  exact Wk.refl _
theorem law05_ClockMatchesReference_call {T : Tbl} (hT : T 3 = pureR law05_ClockMatchesReference_S) {args : List AV} {hp : Heap} {id : Nat} {k : AV → Prop} {a0 : TClock} {a1 : Int} {a2 : Int} {a3 : List Int} {a4 : List (Int × Int × Int)} {a5 : Int} {a6 : Int} {a7 : List TSpell} {Φ : Bool → Prop} (h : W (law05_ClockMatchesReference_F a0 a1 a2 a3 a4 a5 a6 a7) Φ) (hw : WkL args [eTClock a0, eI a1, eI a2, (eL 1 eI default) a3, (eL 3 eA60 default) a4, eI a5, eI a6, (eL 2 eTSpell default) a7]) (hk : ∀ y, Φ y → k (eB y)) : callpK T 3 args hp id k := by
  obtain ⟨y, e, hy⟩ := W_inv h
  exact callpK_pure hT ⟨a0, a1, a2, a3, a4, a5, a6, a7, rfl, W_of e rfl⟩ (by exact (loose_bool _)) hw (hk y hy)
end Go.Proofs.Ythbonailomfjlaa
