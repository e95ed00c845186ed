import Derived.Test.YthbonailomfjlaaS
namespace Go.Proofs.Ythbonailomfjlaa
open Go Go.Eng
set_option maxHeartbeats 0
set_option maxRecDepth 100000
/-! clock.Agree -/
def clock_Agree_b2 (m10 : List TEdge) (s11 : Int × Int × Bool × Int × TSpell) : Option (Ct (Int × Int × Bool × Int × TSpell) (TSpell × Int)) :=
    cn (decide (s11.2.2.2.1 < (m10.length : Int))) (jn (fun p12 : Int × Int × Bool × TSpell => some (.nx (p12.1, p12.2.1, p12.2.2.1, (wr (s11.2.2.2.1 + 1)), p12.2.2.2))) fun k13 =>
    ix m10 default s11.2.2.2.1 fun e14 => let v15 := (wr (s11.2.1 + e14.by_f)); jn (fun p16 : Bool =>
    cn p16 (k13 (s11.1, v15, s11.2.2.1, s11.2.2.2.2)) (jn (fun p19 : Int × Bool × TSpell => k13 (p19.1, v15, p19.2.1, p19.2.2)) fun k20 => cn (decide (v15 >
    s11.1)) (k20 (v15, true, (⟨e14.at_f, s11.2.2.2.2.To⟩ : TSpell))) (jn (fun p21 : Bool => jn (fun p23 : Bool × TSpell => k20 (s11.1, p23.1, p23.2)) fun k24 =>
    cn p21 (k24 (false, (⟨s11.2.2.2.2.From, e14.at_f⟩ : TSpell))) (k24 (s11.2.2.1, s11.2.2.2.2))) fun k22 => cn s11.2.2.1 (k22 (decide (v15 < s11.1))) (k22 false)))) fun k17 =>
    cn (decide ((wr (s11.2.2.2.1 + 1)) < (m10.length : Int))) (ix m10 default (wr (s11.2.2.2.1 + 1)) fun e18 => k17 (e18.at_f ==
    e14.at_f)) (k17 false)) (some (.bk (s11.1, s11.2.1, s11.2.2.1, s11.2.2.2.1, s11.2.2.2.2)))
theorem W_bclock_Agree_b2 {m10 : List TEdge} {s11 : Int × Int × Bool × Int × TSpell} {Φ : Ct (Int × Int × Bool × Int × TSpell) (TSpell × Int) → Prop} (h : W (clock_Agree_b2 m10 s11) Φ) : W (cn (decide (s11.2.2.2.1 < (m10.length : Int))) (jn (fun p12 : Int × Int × Bool × TSpell => some (.nx (p12.1, p12.2.1, p12.2.2.1, (wr (s11.2.2.2.1 + 1)), p12.2.2.2))) fun k13 =>
    ix m10 default s11.2.2.2.1 fun e14 => let v15 := (wr (s11.2.1 + e14.by_f)); jn (fun p16 : Bool =>
    cn p16 (k13 (s11.1, v15, s11.2.2.1, s11.2.2.2.2)) (jn (fun p19 : Int × Bool × TSpell => k13 (p19.1, v15, p19.2.1, p19.2.2)) fun k20 => cn (decide (v15 >
    s11.1)) (k20 (v15, true, (⟨e14.at_f, s11.2.2.2.2.To⟩ : TSpell))) (jn (fun p21 : Bool => jn (fun p23 : Bool × TSpell => k20 (s11.1, p23.1, p23.2)) fun k24 =>
    cn p21 (k24 (false, (⟨s11.2.2.2.2.From, e14.at_f⟩ : TSpell))) (k24 (s11.2.2.1, s11.2.2.2.2))) fun k22 => cn s11.2.2.1 (k22 (decide (v15 < s11.1))) (k22 false)))) fun k17 =>
    cn (decide ((wr (s11.2.2.2.1 + 1)) < (m10.length : Int))) (ix m10 default (wr (s11.2.2.2.1 + 1)) fun e18 => k17 (e18.at_f ==
    e14.at_f)) (k17 false)) (some (.bk (s11.1, s11.2.1, s11.2.2.1, s11.2.2.2.1, s11.2.2.2.2)))) Φ := h
def clock_Agree_b1 (a0 : List TSpell) (s1 : (List TEdge) × Int) : Option (Ct ((List TEdge) × Int) (TSpell × Int)) :=
    cn (decide (s1.2 < (a0.length : Int))) (ix a0 default s1.2 fun e2 => jn (fun p3 : (List TEdge) => some (.nx (p3, (wr (s1.2 + 1))))) fun k4 =>
    cn (decide (e2.From < e2.To)) (lt ([(⟨e2.From, 1⟩ : TEdge), (⟨e2.To, (-1)⟩ : TEdge)] : List TEdge) fun l5 => ap s1.1 l5 fun l6 => k4 l6) (k4 s1.1)) (some (.bk (s1.1, s1.2)))
theorem W_bclock_Agree_b1 {a0 : List TSpell} {s1 : (List TEdge) × Int} {Φ : Ct ((List TEdge) × Int) (TSpell × Int) → Prop} (h : W (clock_Agree_b1 a0 s1) Φ) : W (cn (decide (s1.2 < (a0.length : Int))) (ix a0 default s1.2 fun e2 => jn (fun p3 : (List TEdge) => some (.nx (p3, (wr (s1.2 + 1))))) fun k4 =>
    cn (decide (e2.From < e2.To)) (lt ([(⟨e2.From, 1⟩ : TEdge), (⟨e2.To, (-1)⟩ : TEdge)] : List TEdge) fun l5 => ap s1.1 l5 fun l6 => k4 l6) (k4 s1.1)) (some (.bk (s1.1, s1.2)))) Φ := h
def clock_Agree_F (a0 : List TSpell) : Option (TSpell × Int) := bd (lp (clock_Agree_b1 a0) FU ([], 0)) fun c7 => smK c7 (fun s8 =>
    gd (s8.1.length < 4611686018427387904) (lt (sortF edgeCmp s8.1) fun m10 => bd (lp (clock_Agree_b2 m10) FU (0, 0, false, 0, (⟨0, 0⟩ : TSpell))) fun c25 => smK c25 (fun s26 =>
    some (s26.2.2.2.2, s26.1)) (fun r27 => some r27))) (fun r9 => some r9)
def clock_Agree_S : List AV → AV → Prop := fun args r => ∃ a0, args = [(eL 2 eTSpell default) a0] ∧ W (clock_Agree_F a0) fun y => r = (.tup [eTSpell y.1, eI y.2])
theorem clock_Agree_ok {T : Tbl} (hT : TOk Try.prog T) (hpf : PfOk T PF) (h31 : T 31 = blkR 2 (sortS eTEdge (· = []) (fun _ => edgeCmp) 32)) : FOk Try.prog 13 (pureR clock_Agree_S) := by
  refine FOk_pure hT hpf Try.func13 rfl Try.ntmps13 Try.results13 (by decide) ?_
  rintro args r ⟨a0, rfl, h⟩
  refine ⟨Nat.le_of_ble_eq_true rfl, ?_, ?_⟩
  · exact (loose_cons (loose_lst fun _ => (lo_TSpell _)) loose_nil)
  rw [clock_Agree_F.eq_1] at h
  refine HT_fr DC_ok rfl fun K hK => ?_; (conv => whnf)
  refine hK _ _ _ ?_; clear hK K
  refine HT_fr DC_ok rfl fun K hK => ?_; (conv => whnf)
  refine hK _ _ _ ?_; clear hK K
  refine HT_seq ?_
  refine HT_fr DC_ok rfl fun K hK => ?_; (conv => whnf)
  refine hK _ _ _ ?_; clear hK K
  refine HT_block ?_
  replace h := W_bd h
  refine HT_lpR (body := clock_Agree_b1 _) rfl h [2, 13, 14] [2] [] [] (fun kl kh kr ids b s => ⟨ofL ([(4, .so (b + 0) 0 s.1.length 2), (15, eI s.2)] ++ kl), ofH (([] ++ kh) ++ ([(b + 0, .cells (flE (ceE eTEdge) s.1))] ++ kr)), b + 128⟩) ?_; (conv => whnf); refine And.intro ?_ (fun s m h => HT_st ?_)
  · refine weak_r ?_; (conv => whnf)
    exact And.intro rfl (And.intro (allL_c (WkR.nilso (fun _ => rfl)) (allL_c (WkR.wk (Wk.refl _) (loose_int _ _)) (allL_c (WkR.ptr (fun _ => rfl)) (allL_c (WkR.wk (Wk.refl _) (loose_lst fun _ => (lo_TSpell _))) (allL_c (WkR.wk (Wk.refl _) (loose_int _ _)) allL_n))))) (allL_c ⟨some _, rfl, BkR_c rfl (CkR_cons (WkR.wk (Wk.refl _) (loose_int _ _)) (CkR_cons (WkR.wk (Wk.refl _) (loose_int _ _)) CkR_nil))⟩ (allL_c ⟨none, rfl, BkR_nr⟩ allL_n)))
  replace h := W_bclock_Agree_b1 (W_bd h)
  refine HT_fr DC_ok rfl fun K hK => ?_; (conv => whnf)
  refine hK _ _ _ ?_; clear hK K
  refine HT_seq ?_
  refine HT_if fun K1 K2 hK1 hK2 => ?_; (conv => whnf)
  refine cond_lk h (fun _ h => ?_) (fun _ h => ?_)
  · refine hK1 ?_; clear hK1 hK2 K1 K2
    refine HT_skip ?_
    refine Then_n ?_
    refine HT_seq ?_
    refine HT_block ?_
    refine HT_fr DC_ok rfl fun K hK => ?_; (conv => whnf)
    refine ix_lk h fun _ h => ?_; (conv => whnf)
    refine And.intro (Nat.le_of_ble_eq_true rfl) ?_; (conv => whnf)
    refine blkK_of rfl ?_; (conv => whnf)
    refine And.intro rfl (And.intro (Nat.le_of_ble_eq_true rfl) (And.intro rfl ?_)); (conv => whnf)
    refine hK _ _ _ ?_; clear hK K
    refine HT_fr DC_ok rfl fun K hK => ?_; (conv => whnf)
    refine And.intro (Nat.le_of_ble_eq_true rfl) ?_; (conv => whnf)
    refine blkK_of rfl ?_; (conv => whnf)
    refine getK_of rfl ?_; (conv => whnf)
    refine And.intro (Nat.le_of_ble_eq_true rfl) ?_; (conv => whnf)
    refine blkK_of rfl ?_; (conv => whnf)
    refine getK_of rfl ?_; (conv => whnf)
    refine hK _ _ _ ?_; clear hK K
    replace h := W_jn h
    refine HT_if fun K1 K2 hK1 hK2 => ?_; (conv => whnf)
    refine cond_lk h (fun _ h => ?_) (fun _ h => ?_)
    · refine hK1 ?_; clear hK1 hK2 K1 K2
      refine HT_f DC_ok rfl fun K hK => ?_; (conv => whnf)
      refine And.intro (Nat.le_of_ble_eq_true rfl) ?_; (conv => whnf)
      refine blkK_of rfl ?_; (conv => whnf)
      refine getK_of rfl ?_; (conv => whnf)
      refine And.intro (Nat.le_of_ble_eq_true rfl) ?_; (conv => whnf)
      refine blkK_of rfl ?_; (conv => whnf)
      refine getK_of rfl ?_; (conv => whnf)
      refine lt_lk (enc := eTEdge) (d := default) DC_ok h rfl rfl rfl ⟨Nat.le_of_ble_eq_true rfl, Nat.le_of_ble_eq_true rfl, rfl⟩ rfl ⟨⟨rfl, Nat.le_of_ble_eq_true rfl⟩, ⟨⟨rfl, Nat.le_of_ble_eq_true rfl⟩, trivial⟩⟩ (fun h => ?_); (conv => whnf)
      refine apo_lk (enc := eTEdge) (d := default) DC_ok h rfl rfl rfl ⟨rfl, Nat.le_of_ble_eq_true rfl, Nat.le_of_ble_eq_true rfl, Nat.le_of_ble_eq_true rfl, rfl⟩ (fun _ => rfl) (fun _ => rfl) (fun _ => nofun) rfl (fun h => ?_); (conv => whnf)
      refine hK _ _ _ ?_; clear hK K
      refine InBlock_n ?_
      refine Then_n ?_
      refine HT_f DC_ok rfl fun K hK => ?_; (conv => whnf)
      refine hK _ _ _ ?_; clear hK K
      refine Then_n ?_
      replace h := W_xnx h
      refine ⟨_, h, ?_⟩
      refine weak_r ?_; (conv => whnf)
      exact And.intro rfl (And.intro (allL_c (WkR.so (fun _ => rfl)) (allL_c (WkR.wk (Wk.refl _) (loose_int _ _)) (allL_c (WkR.ptr (fun _ => rfl)) (allL_c (WkR.wk (Wk.refl _) (loose_lst fun _ => (lo_TSpell _))) (allL_c (WkR.wk (Wk.refl _) (loose_int _ _)) allL_n))))) (allL_c ⟨some _, rfl, BkR_c rfl (CkR_cons (WkR.wk (Wk.refl _) (loose_int _ _)) (CkR_cons (WkR.wk (Wk.refl _) (loose_int _ _)) CkR_nil))⟩ (allL_c ⟨some _, rfl, BkR_r rfl (fun _ => (loose_cons (loose_int _ _) (loose_cons (loose_int _ _) loose_nil)))⟩ allL_n)))
    refine hK2 ?_; clear hK1 hK2 K1 K2
    refine HT_skip ?_
    refine InBlock_n ?_
    refine Then_n ?_
    refine HT_f DC_ok rfl fun K hK => ?_; (conv => whnf)
    refine hK _ _ _ ?_; clear hK K
    refine Then_n ?_
    replace h := W_xnx h
    refine ⟨_, h, ?_⟩
    refine weak_r ?_; (conv => whnf)
    exact And.intro rfl (And.intro (allL_c (WkR.so (fun _ => rfl)) (allL_c (WkR.wk (Wk.refl _) (loose_int _ _)) (allL_c (WkR.ptr (fun _ => rfl)) (allL_c (WkR.wk (Wk.refl _) (loose_lst fun _ => (lo_TSpell _))) (allL_c (WkR.wk (Wk.refl _) (loose_int _ _)) allL_n))))) (allL_c ⟨some _, rfl, BkR_c rfl (CkR_cons (WkR.wk (Wk.refl _) (loose_int _ _)) (CkR_cons (WkR.wk (Wk.refl _) (loose_int _ _)) CkR_nil))⟩ (allL_c ⟨some _, rfl, BkR_r rfl (fun _ => (loose_cons (loose_int _ _) (loose_cons (loose_int _ _) loose_nil)))⟩ allL_n)))
  refine hK2 ?_; clear hK1 hK2 K1 K2
  refine HT_exit ?_
  refine Then_e ?_
  refine Then_e ?_
  refine InBlock_e ?_
  replace h := W_xbk h
  replace h := W_inl h
  refine Then_n ?_
  refine HT_fr DC_ok rfl fun K hK => ?_; (conv => whnf)
  refine gd_lk_u h fun hg h => ?_
  replace h := W_lt h
  refine callsK_blk h31 (WkL.refl _) rfl (⟨_, [], rfl, rfl, hg, rfl, rfl, rfl, rfl⟩) ?_; (conv => whnf)
  refine hK _ _ _ ?_; clear hK K
  refine HT_frzSK 4 (enc := eTEdge) (e := 56) default (ElOk_agg DC_ok rfl rfl (fun _ => rfl) (fun _ => rfl)) ?_; (conv => whnf); refine ⟨_, _, rfl, (sortF_len _ edgeCmp_swo _).symm, rfl, ?_⟩
  refine HT_fr DC_ok rfl fun K hK => ?_; (conv => whnf)
  refine blkK_of rfl ?_; (conv => whnf)
  refine And.intro rfl (And.intro (Nat.le_of_ble_eq_true rfl) (And.intro rfl ?_)); (conv => whnf)
  refine hK _ _ _ ?_; clear hK K
  refine HT_fr DC_ok rfl fun K hK => ?_; (conv => whnf)
  refine hK _ _ _ ?_; clear hK K
  refine HT_seq ?_
  refine HT_fr DC_ok rfl fun K hK => ?_; (conv => whnf)
  refine hK _ _ _ ?_; clear hK K
  refine HT_block ?_
  replace h := W_bd h
  refine HT_lpK (body := clock_Agree_b2 _) rfl h [2, 4, 7, 37, 38] [2] [7] (fun kl kh ids b s => ⟨ofL ([(8, eI s.1), (9, eI s.2.1), (10, eB s.2.2.1), (39, eI s.2.2.2.1)] ++ kl), ofH ([(nthN ids 0, .cells [eI s.2.2.2.2.From, eI s.2.2.2.2.To])] ++ kh), b + 64⟩) ?_; (conv => whnf); refine And.intro ?_ (fun s m h => HT_st ?_)
  · refine weak_k ?_; (conv => whnf)
    exact And.intro rfl (And.intro (allL_c (WkR.wk (Wk.refl _) (loose_int _ _)) (allL_c (WkR.wk (Wk.refl _) (loose_int _ _)) (allL_c (WkR.wk (Wk.refl _) (loose_bool _)) (allL_c (WkR.wk (Wk.refl _) (loose_int _ _)) (allL_c (WkR.ptr (fun _ => rfl)) (allL_c (WkR.wk (Wk.refl _) (loose_lst fun _ => (lo_TEdge _))) (allL_c (WkR.ptr (fun _ => rfl)) (allL_c (WkR.wk (Wk.refl _) (loose_lst fun _ => (lo_TEdge _))) (allL_c (WkR.wk (Wk.refl _) (loose_int _ _)) allL_n))))))))) (allL_c ⟨some _, rfl, BkR_c rfl (CkR_cons (WkR.wk (Wk.refl _) (loose_int _ _)) (CkR_cons (WkR.wk (Wk.refl _) (loose_int _ _)) CkR_nil))⟩ (allL_c ⟨some _, rfl, BkR_c rfl (CkR_cons (WkR.wk (Wk.refl _) (loose_int _ _)) (CkR_cons (WkR.wk (Wk.refl _) (loose_int _ _)) CkR_nil))⟩ allL_n)))
  replace h := W_bclock_Agree_b2 (W_bd h)
  refine HT_fr DC_ok rfl fun K hK => ?_; (conv => whnf)
  refine hK _ _ _ ?_; clear hK K
  refine HT_seq ?_
  refine HT_if fun K1 K2 hK1 hK2 => ?_; (conv => whnf)
  refine cond_lk h (fun _ h => ?_) (fun _ h => ?_)
  · refine hK1 ?_; clear hK1 hK2 K1 K2
    refine HT_skip ?_
    refine Then_n ?_
    refine HT_seq ?_
    replace h := W_jn h
    refine HT_block ?_
    refine HT_fr DC_ok rfl fun K hK => ?_; (conv => whnf)
    refine ix_lk h fun _ h => ?_; (conv => whnf)
    refine And.intro (Nat.le_of_ble_eq_true rfl) ?_; (conv => whnf)
    refine blkK_of rfl ?_; (conv => whnf)
    refine And.intro rfl (And.intro (Nat.le_of_ble_eq_true rfl) (And.intro rfl ?_)); (conv => whnf)
    refine hK _ _ _ ?_; clear hK K
    refine HT_fr DC_ok rfl fun K hK => ?_; (conv => whnf)
    refine And.intro (Nat.le_of_ble_eq_true rfl) ?_; (conv => whnf)
    refine blkK_of rfl ?_; (conv => whnf)
    refine getK_of rfl ?_; (conv => whnf)
    refine hK _ _ _ ?_; clear hK K
    refine HT_seq ?_
    refine HT_fd DC_ok mix_ok rfl (by kernel_rfl) fun K hK => ?_; (conv => whnf)
    replace h := W_jn h
    refine cond_lk h (fun _ h => ?_) (fun _ h => ?_) <;> (conv => whnf)
    · refine ix_lk h fun _ h => ?_; (conv => whnf)
      refine getK_of rfl ?_; (conv => whnf)
      refine And.intro (Nat.le_of_ble_eq_true rfl) ?_; (conv => whnf)
      refine blkK_of rfl ?_; (conv => whnf)
      refine getK_of rfl ?_; (conv => whnf)
      refine hK _ _ _ ?_; clear hK K
      refine HT_if fun K1 K2 hK1 hK2 => ?_; (conv => whnf)
      refine cond_lk h (fun _ h => ?_) (fun _ h => ?_)
      · refine hK1 ?_; clear hK1 hK2 K1 K2
        refine HT_exit ?_
        refine Then_e ?_
        refine InBlock_e ?_
        refine Then_n ?_
        refine HT_f DC_ok rfl fun K hK => ?_; (conv => whnf)
        refine hK _ _ _ ?_; clear hK K
        refine Then_n ?_
        replace h := W_xnx h
        refine ⟨_, h, ?_⟩
        refine weak_k ?_; (conv => whnf)
        exact And.intro rfl (And.intro (allL_c (WkR.wk (Wk.refl _) (loose_int _ _)) (allL_c (WkR.wk (Wk.refl _) (loose_int _ _)) (allL_c (WkR.wk (Wk.refl _) (loose_bool _)) (allL_c (WkR.wk (Wk.refl _) (loose_int _ _)) (allL_c (WkR.ptr (fun _ => rfl)) (allL_c (WkR.wk (Wk.refl _) (loose_lst fun _ => (lo_TEdge _))) (allL_c (WkR.ptr (fun _ => rfl)) (allL_c (WkR.wk (Wk.refl _) (loose_lst fun _ => (lo_TEdge _))) (allL_c (WkR.wk (Wk.refl _) (loose_int _ _)) allL_n))))))))) (allL_c ⟨some _, rfl, BkR_c rfl (CkR_cons (WkR.wk (Wk.refl _) (loose_int _ _)) (CkR_cons (WkR.wk (Wk.refl _) (loose_int _ _)) CkR_nil))⟩ (allL_c ⟨some _, rfl, BkR_c rfl (CkR_cons (WkR.wk (Wk.refl _) (loose_int _ _)) (CkR_cons (WkR.wk (Wk.refl _) (loose_int _ _)) CkR_nil))⟩ allL_n)))
      refine hK2 ?_; clear hK1 hK2 K1 K2
      refine HT_skip ?_
      refine Then_n ?_
      refine HT_block ?_
      refine HT_fr DC_ok rfl fun K hK => ?_; (conv => whnf)
      refine hK _ _ _ ?_; clear hK K
      replace h := W_jn h
      refine HT_if fun K1 K2 hK1 hK2 => ?_; (conv => whnf)
      refine cond_lk h (fun _ h => ?_) (fun _ h => ?_)
      · refine hK1 ?_; clear hK1 hK2 K1 K2
        refine HT_fD DC_ok mix_ok rfl (by kernel_rfl) fun K hK => ?_; (conv => whnf)
        refine And.intro (Nat.le_of_ble_eq_true rfl) ?_; (conv => whnf)
        refine blkK_of rfl ?_; (conv => whnf)
        refine getK_of rfl ?_; (conv => whnf)
        refine blkK_of rfl ?_; (conv => whnf)
        refine And.intro rfl (And.intro (Nat.le_of_ble_eq_true rfl) (And.intro rfl ?_)); (conv => whnf)
        refine hK _ _ _ ?_; clear hK K
        refine InBlock_n ?_
        refine InBlock_n ?_
        refine Then_n ?_
        refine HT_f DC_ok rfl fun K hK => ?_; (conv => whnf)
        refine hK _ _ _ ?_; clear hK K
        refine Then_n ?_
        replace h := W_xnx h
        refine ⟨_, h, ?_⟩
        refine weak_k ?_; (conv => whnf)
        exact And.intro rfl (And.intro (allL_c (WkR.wk (Wk.refl _) (loose_int _ _)) (allL_c (WkR.wk (Wk.refl _) (loose_int _ _)) (allL_c (WkR.wk (Wk.refl _) (loose_bool _)) (allL_c (WkR.wk (Wk.refl _) (loose_int _ _)) (allL_c (WkR.ptr (fun _ => rfl)) (allL_c (WkR.wk (Wk.refl _) (loose_lst fun _ => (lo_TEdge _))) (allL_c (WkR.ptr (fun _ => rfl)) (allL_c (WkR.wk (Wk.refl _) (loose_lst fun _ => (lo_TEdge _))) (allL_c (WkR.wk (Wk.refl _) (loose_int _ _)) allL_n))))))))) (allL_c ⟨some _, rfl, BkR_c rfl (CkR_cons (WkR.wk (Wk.refl _) (loose_int _ _)) (CkR_cons (WkR.wk (Wk.refl _) (loose_int _ _)) CkR_nil))⟩ (allL_c ⟨some _, rfl, BkR_c rfl (CkR_cons (WkR.wk (Wk.refl _) (loose_int _ _)) (CkR_cons (WkR.wk (Wk.refl _) (loose_int _ _)) CkR_nil))⟩ allL_n)))
      refine hK2 ?_; clear hK1 hK2 K1 K2
      refine HT_fr DC_ok rfl fun K hK => ?_; (conv => whnf)
      replace h := W_jn h
      refine cond_lk h (fun _ h => ?_) (fun _ h => ?_) <;> (conv => whnf)
      · refine hK _ _ _ ?_; clear hK K
        replace h := W_jn h
        refine HT_if fun K1 K2 hK1 hK2 => ?_; (conv => whnf)
        refine cond_lk h (fun _ h => ?_) (fun _ h => ?_)
        · refine hK1 ?_; clear hK1 hK2 K1 K2
          refine HT_fD DC_ok mix_ok rfl (by kernel_rfl) fun K hK => ?_; (conv => whnf)
          refine And.intro (Nat.le_of_ble_eq_true rfl) ?_; (conv => whnf)
          refine blkK_of rfl ?_; (conv => whnf)
          refine getK_of rfl ?_; (conv => whnf)
          refine blkK_of rfl ?_; (conv => whnf)
          refine And.intro rfl (And.intro (Nat.le_of_ble_eq_true rfl) (And.intro rfl ?_)); (conv => whnf)
          refine hK _ _ _ ?_; clear hK K
          refine InBlock_n ?_
          refine InBlock_n ?_
          refine Then_n ?_
          refine HT_f DC_ok rfl fun K hK => ?_; (conv => whnf)
          refine hK _ _ _ ?_; clear hK K
          refine Then_n ?_
          replace h := W_xnx h
          refine ⟨_, h, ?_⟩
          refine weak_k ?_; (conv => whnf)
          exact And.intro rfl (And.intro (allL_c (WkR.wk (Wk.refl _) (loose_int _ _)) (allL_c (WkR.wk (Wk.refl _) (loose_int _ _)) (allL_c (WkR.wk (Wk.refl _) (loose_bool _)) (allL_c (WkR.wk (Wk.refl _) (loose_int _ _)) (allL_c (WkR.ptr (fun _ => rfl)) (allL_c (WkR.wk (Wk.refl _) (loose_lst fun _ => (lo_TEdge _))) (allL_c (WkR.ptr (fun _ => rfl)) (allL_c (WkR.wk (Wk.refl _) (loose_lst fun _ => (lo_TEdge _))) (allL_c (WkR.wk (Wk.refl _) (loose_int _ _)) allL_n))))))))) (allL_c ⟨some _, rfl, BkR_c rfl (CkR_cons (WkR.wk (Wk.refl _) (loose_int _ _)) (CkR_cons (WkR.wk (Wk.refl _) (loose_int _ _)) CkR_nil))⟩ (allL_c ⟨some _, rfl, BkR_c rfl (CkR_cons (WkR.wk (Wk.refl _) (loose_int _ _)) (CkR_cons (WkR.wk (Wk.refl _) (loose_int _ _)) CkR_nil))⟩ allL_n)))
        refine hK2 ?_; clear hK1 hK2 K1 K2
        refine HT_skip ?_
        refine InBlock_n ?_
        refine InBlock_n ?_
        refine Then_n ?_
        refine HT_f DC_ok rfl fun K hK => ?_; (conv => whnf)
        refine hK _ _ _ ?_; clear hK K
        refine Then_n ?_
        replace h := W_xnx h
        refine ⟨_, h, ?_⟩
        refine weak_k ?_; (conv => whnf)
        exact And.intro rfl (And.intro (allL_c (WkR.wk (Wk.refl _) (loose_int _ _)) (allL_c (WkR.wk (Wk.refl _) (loose_int _ _)) (allL_c (WkR.wk (Wk.refl _) (loose_bool _)) (allL_c (WkR.wk (Wk.refl _) (loose_int _ _)) (allL_c (WkR.ptr (fun _ => rfl)) (allL_c (WkR.wk (Wk.refl _) (loose_lst fun _ => (lo_TEdge _))) (allL_c (WkR.ptr (fun _ => rfl)) (allL_c (WkR.wk (Wk.refl _) (loose_lst fun _ => (lo_TEdge _))) (allL_c (WkR.wk (Wk.refl _) (loose_int _ _)) allL_n))))))))) (allL_c ⟨some _, rfl, BkR_c rfl (CkR_cons (WkR.wk (Wk.refl _) (loose_int _ _)) (CkR_cons (WkR.wk (Wk.refl _) (loose_int _ _)) CkR_nil))⟩ (allL_c ⟨some _, rfl, BkR_c rfl (CkR_cons (WkR.wk (Wk.refl _) (loose_int _ _)) (CkR_cons (WkR.wk (Wk.refl _) (loose_int _ _)) CkR_nil))⟩ allL_n)))
      refine hK _ _ _ ?_; clear hK K
      replace h := W_jn h
      refine HT_if fun K1 K2 hK1 hK2 => ?_; (conv => whnf)
      refine hK2 ?_; clear hK1 hK2 K1 K2
      replace h := W_cnF h
      refine HT_skip ?_
      refine InBlock_n ?_
      refine InBlock_n ?_
      refine Then_n ?_
      refine HT_f DC_ok rfl fun K hK => ?_; (conv => whnf)
      refine hK _ _ _ ?_; clear hK K
      refine Then_n ?_
      replace h := W_xnx h
      refine ⟨_, h, ?_⟩
      refine weak_k ?_; (conv => whnf)
      exact And.intro rfl (And.intro (allL_c (WkR.wk (Wk.refl _) (loose_int _ _)) (allL_c (WkR.wk (Wk.refl _) (loose_int _ _)) (allL_c (WkR.wk (Wk.refl _) (loose_bool _)) (allL_c (WkR.wk (Wk.refl _) (loose_int _ _)) (allL_c (WkR.ptr (fun _ => rfl)) (allL_c (WkR.wk (Wk.refl _) (loose_lst fun _ => (lo_TEdge _))) (allL_c (WkR.ptr (fun _ => rfl)) (allL_c (WkR.wk (Wk.refl _) (loose_lst fun _ => (lo_TEdge _))) (allL_c (WkR.wk (Wk.refl _) (loose_int _ _)) allL_n))))))))) (allL_c ⟨some _, rfl, BkR_c rfl (CkR_cons (WkR.wk (Wk.refl _) (loose_int _ _)) (CkR_cons (WkR.wk (Wk.refl _) (loose_int _ _)) CkR_nil))⟩ (allL_c ⟨some _, rfl, BkR_c rfl (CkR_cons (WkR.wk (Wk.refl _) (loose_int _ _)) (CkR_cons (WkR.wk (Wk.refl _) (loose_int _ _)) CkR_nil))⟩ allL_n)))
    refine hK _ _ _ ?_; clear hK K
    refine HT_if fun K1 K2 hK1 hK2 => ?_; (conv => whnf)
    refine hK2 ?_; clear hK1 hK2 K1 K2
    replace h := W_cnF h
    refine HT_skip ?_
    refine Then_n ?_
    refine HT_block ?_
    refine HT_fr DC_ok rfl fun K hK => ?_; (conv => whnf)
    refine hK _ _ _ ?_; clear hK K
    replace h := W_jn h
    refine HT_if fun K1 K2 hK1 hK2 => ?_; (conv => whnf)
    refine cond_lk h (fun _ h => ?_) (fun _ h => ?_)
    · refine hK1 ?_; clear hK1 hK2 K1 K2
      refine HT_fD DC_ok mix_ok rfl (by kernel_rfl) fun K hK => ?_; (conv => whnf)
      refine And.intro (Nat.le_of_ble_eq_true rfl) ?_; (conv => whnf)
      refine blkK_of rfl ?_; (conv => whnf)
      refine getK_of rfl ?_; (conv => whnf)
      refine blkK_of rfl ?_; (conv => whnf)
      refine And.intro rfl (And.intro (Nat.le_of_ble_eq_true rfl) (And.intro rfl ?_)); (conv => whnf)
      refine hK _ _ _ ?_; clear hK K
      refine InBlock_n ?_
      refine InBlock_n ?_
      refine Then_n ?_
      refine HT_f DC_ok rfl fun K hK => ?_; (conv => whnf)
      refine hK _ _ _ ?_; clear hK K
      refine Then_n ?_
      replace h := W_xnx h
      refine ⟨_, h, ?_⟩
      refine weak_k ?_; (conv => whnf)
      exact And.intro rfl (And.intro (allL_c (WkR.wk (Wk.refl _) (loose_int _ _)) (allL_c (WkR.wk (Wk.refl _) (loose_int _ _)) (allL_c (WkR.wk (Wk.refl _) (loose_bool _)) (allL_c (WkR.wk (Wk.refl _) (loose_int _ _)) (allL_c (WkR.ptr (fun _ => rfl)) (allL_c (WkR.wk (Wk.refl _) (loose_lst fun _ => (lo_TEdge _))) (allL_c (WkR.ptr (fun _ => rfl)) (allL_c (WkR.wk (Wk.refl _) (loose_lst fun _ => (lo_TEdge _))) (allL_c (WkR.wk (Wk.refl _) (loose_int _ _)) allL_n))))))))) (allL_c ⟨some _, rfl, BkR_c rfl (CkR_cons (WkR.wk (Wk.refl _) (loose_int _ _)) (CkR_cons (WkR.wk (Wk.refl _) (loose_int _ _)) CkR_nil))⟩ (allL_c ⟨some _, rfl, BkR_c rfl (CkR_cons (WkR.wk (Wk.refl _) (loose_int _ _)) (CkR_cons (WkR.wk (Wk.refl _) (loose_int _ _)) CkR_nil))⟩ allL_n)))
    refine hK2 ?_; clear hK1 hK2 K1 K2
    refine HT_fr DC_ok rfl fun K hK => ?_; (conv => whnf)
    replace h := W_jn h
    refine cond_lk h (fun _ h => ?_) (fun _ h => ?_) <;> (conv => whnf)
    · refine hK _ _ _ ?_; clear hK K
      replace h := W_jn h
      refine HT_if fun K1 K2 hK1 hK2 => ?_; (conv => whnf)
      refine cond_lk h (fun _ h => ?_) (fun _ h => ?_)
      · refine hK1 ?_; clear hK1 hK2 K1 K2
        refine HT_fD DC_ok mix_ok rfl (by kernel_rfl) fun K hK => ?_; (conv => whnf)
        refine And.intro (Nat.le_of_ble_eq_true rfl) ?_; (conv => whnf)
        refine blkK_of rfl ?_; (conv => whnf)
        refine getK_of rfl ?_; (conv => whnf)
        refine blkK_of rfl ?_; (conv => whnf)
        refine And.intro rfl (And.intro (Nat.le_of_ble_eq_true rfl) (And.intro rfl ?_)); (conv => whnf)
        refine hK _ _ _ ?_; clear hK K
        refine InBlock_n ?_
        refine InBlock_n ?_
        refine Then_n ?_
        refine HT_f DC_ok rfl fun K hK => ?_; (conv => whnf)
        refine hK _ _ _ ?_; clear hK K
        refine Then_n ?_
        replace h := W_xnx h
        refine ⟨_, h, ?_⟩
        refine weak_k ?_; (conv => whnf)
        exact And.intro rfl (And.intro (allL_c (WkR.wk (Wk.refl _) (loose_int _ _)) (allL_c (WkR.wk (Wk.refl _) (loose_int _ _)) (allL_c (WkR.wk (Wk.refl _) (loose_bool _)) (allL_c (WkR.wk (Wk.refl _) (loose_int _ _)) (allL_c (WkR.ptr (fun _ => rfl)) (allL_c (WkR.wk (Wk.refl _) (loose_lst fun _ => (lo_TEdge _))) (allL_c (WkR.ptr (fun _ => rfl)) (allL_c (WkR.wk (Wk.refl _) (loose_lst fun _ => (lo_TEdge _))) (allL_c (WkR.wk (Wk.refl _) (loose_int _ _)) allL_n))))))))) (allL_c ⟨some _, rfl, BkR_c rfl (CkR_cons (WkR.wk (Wk.refl _) (loose_int _ _)) (CkR_cons (WkR.wk (Wk.refl _) (loose_int _ _)) CkR_nil))⟩ (allL_c ⟨some _, rfl, BkR_c rfl (CkR_cons (WkR.wk (Wk.refl _) (loose_int _ _)) (CkR_cons (WkR.wk (Wk.refl _) (loose_int _ _)) CkR_nil))⟩ allL_n)))
      refine hK2 ?_; clear hK1 hK2 K1 K2
      refine HT_skip ?_
      refine InBlock_n ?_
      refine InBlock_n ?_
      refine Then_n ?_
      refine HT_f DC_ok rfl fun K hK => ?_; (conv => whnf)
      refine hK _ _ _ ?_; clear hK K
      refine Then_n ?_
      replace h := W_xnx h
      refine ⟨_, h, ?_⟩
      refine weak_k ?_; (conv => whnf)
      exact And.intro rfl (And.intro (allL_c (WkR.wk (Wk.refl _) (loose_int _ _)) (allL_c (WkR.wk (Wk.refl _) (loose_int _ _)) (allL_c (WkR.wk (Wk.refl _) (loose_bool _)) (allL_c (WkR.wk (Wk.refl _) (loose_int _ _)) (allL_c (WkR.ptr (fun _ => rfl)) (allL_c (WkR.wk (Wk.refl _) (loose_lst fun _ => (lo_TEdge _))) (allL_c (WkR.ptr (fun _ => rfl)) (allL_c (WkR.wk (Wk.refl _) (loose_lst fun _ => (lo_TEdge _))) (allL_c (WkR.wk (Wk.refl _) (loose_int _ _)) allL_n))))))))) (allL_c ⟨some _, rfl, BkR_c rfl (CkR_cons (WkR.wk (Wk.refl _) (loose_int _ _)) (CkR_cons (WkR.wk (Wk.refl _) (loose_int _ _)) CkR_nil))⟩ (allL_c ⟨some _, rfl, BkR_c rfl (CkR_cons (WkR.wk (Wk.refl _) (loose_int _ _)) (CkR_cons (WkR.wk (Wk.refl _) (loose_int _ _)) CkR_nil))⟩ allL_n)))
    refine hK _ _ _ ?_; clear hK K
    replace h := W_jn h
    refine HT_if fun K1 K2 hK1 hK2 => ?_; (conv => whnf)
    refine hK2 ?_; clear hK1 hK2 K1 K2
    replace h := W_cnF h
    refine HT_skip ?_
    refine InBlock_n ?_
    refine InBlock_n ?_
    refine Then_n ?_
    refine HT_f DC_ok rfl fun K hK => ?_; (conv => whnf)
    refine hK _ _ _ ?_; clear hK K
    refine Then_n ?_
    replace h := W_xnx h
    refine ⟨_, h, ?_⟩
    refine weak_k ?_; (conv => whnf)
    exact And.intro rfl (And.intro (allL_c (WkR.wk (Wk.refl _) (loose_int _ _)) (allL_c (WkR.wk (Wk.refl _) (loose_int _ _)) (allL_c (WkR.wk (Wk.refl _) (loose_bool _)) (allL_c (WkR.wk (Wk.refl _) (loose_int _ _)) (allL_c (WkR.ptr (fun _ => rfl)) (allL_c (WkR.wk (Wk.refl _) (loose_lst fun _ => (lo_TEdge _))) (allL_c (WkR.ptr (fun _ => rfl)) (allL_c (WkR.wk (Wk.refl _) (loose_lst fun _ => (lo_TEdge _))) (allL_c (WkR.wk (Wk.refl _) (loose_int _ _)) allL_n))))))))) (allL_c ⟨some _, rfl, BkR_c rfl (CkR_cons (WkR.wk (Wk.refl _) (loose_int _ _)) (CkR_cons (WkR.wk (Wk.refl _) (loose_int _ _)) CkR_nil))⟩ (allL_c ⟨some _, rfl, BkR_c rfl (CkR_cons (WkR.wk (Wk.refl _) (loose_int _ _)) (CkR_cons (WkR.wk (Wk.refl _) (loose_int _ _)) CkR_nil))⟩ allL_n)))
  refine hK2 ?_; clear hK1 hK2 K1 K2
  refine HT_exit ?_
  refine Then_e ?_
  refine Then_e ?_
  refine InBlock_e ?_
  replace h := W_xbk h
  replace h := W_inl h
  refine Then_n ?_
  refine HT_fr DC_ok rfl fun K hK => ?_; (conv => whnf)
  refine And.intro (Nat.le_of_ble_eq_true rfl) ?_; (conv => whnf)
  refine blkK_of rfl ?_; (conv => whnf)
  refine And.intro (Nat.le_of_ble_eq_true rfl) ?_; (conv => whnf)
  refine blkK_of rfl ?_; (conv => whnf)
  refine And.intro rfl (And.intro (Nat.le_of_ble_eq_true rfl) (And.intro rfl ?_)); (conv => whnf)
  refine hK _ _ _ ?_; clear hK K
  refine HT_ret ?_
  replace h := W_some h
  refine PostP_r DC_ok fun K hK => ?_; (conv => whnf)
  refine And.intro (Nat.le_of_ble_eq_true rfl) ?_; (conv => whnf)
  refine blkK_of rfl ?_; (conv => whnf)
  refine And.intro (Nat.le_of_ble_eq_true rfl) ?_; (conv => whnf)
  refine hK _ ?_; clear hK K
  cases h
  exact Wk.refl _
theorem clock_Agree_call {T : Tbl} (hT : T 13 = pureR clock_Agree_S) {args : List AV} {hp : Heap} {id : Nat} {k : AV → Prop} {a0 : List TSpell} {Φ : TSpell × Int → Prop} (h : W (clock_Agree_F a0) Φ) (hw : WkL args [(eL 2 eTSpell default) a0]) (hk : ∀ y, Φ y → k (.tup [eTSpell y.1, eI y.2])) : callpK T 13 args hp id k := by
  obtain ⟨y, e, hy⟩ := W_inv h
  exact callpK_pure hT ⟨a0, rfl, W_of e rfl⟩ (by exact loose_tup (loose_cons (lo_TSpell _) (loose_cons (loose_int _ _) loose_nil))) hw (hk y hy)
end Go.Proofs.Ythbonailomfjlaa
