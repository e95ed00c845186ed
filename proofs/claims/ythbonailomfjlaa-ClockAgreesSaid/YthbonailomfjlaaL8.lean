import Derived.Test.YthbonailomfjlaaW10
namespace Go.Proofs.Ythbonailomfjlaa
open Go Go.Eng
set_option maxHeartbeats 0
set_option maxRecDepth 100000
/-! dialtonelaw05.ClockAgrees -/
def law05_ClockAgrees_b1 (l2 : List TSpell) (s3 : (List TSpell) × Int) : Option (Ct ((List TSpell) × Int) Bool) :=
    cn (decide (s3.2 < (l2.length : Int))) (ix l2 default s3.2 fun e4 => bd (law05_pick_F e4.From 40) fun y5 => ix l2 default s3.2 fun e6 => bd (law05_pick_F e6.To 40) fun y7 =>
    lt ([(⟨y5, y7⟩ : TSpell)] : List TSpell) fun l8 => ap s3.1 l8 fun l9 => some (.nx (l9, (wr (s3.2 + 1))))) (some (.bk (s3.1, s3.2)))
theorem W_blaw05_ClockAgrees_b1 {l2 : List TSpell} {s3 : (List TSpell) × Int} {Φ : Ct ((List TSpell) × Int) Bool → Prop} (h : W (law05_ClockAgrees_b1 l2 s3) Φ) : W (cn (decide (s3.2 < (l2.length : Int))) (ix l2 default s3.2 fun e4 => bd (law05_pick_F e4.From 40) fun y5 => ix l2 default s3.2 fun e6 => bd (law05_pick_F e6.To 40) fun y7 =>
    lt ([(⟨y5, y7⟩ : TSpell)] : List TSpell) fun l8 => ap s3.1 l8 fun l9 => some (.nx (l9, (wr (s3.2 + 1))))) (some (.bk (s3.1, s3.2)))) Φ := h
def law05_ClockAgrees_F (a0 : List TSpell) (a1 : Int) : Option Bool := bd (law05_sane_F ) fun y1 => cn (!y1) (some false) (slc a0 0 (imin (a0.length : Int) 12) fun l2 =>
    bd (lp (law05_ClockAgrees_b1 l2) FU ([], 0)) fun c10 => smK c10 (fun s11 => jn (fun p13 : Bool => some p13) fun k14 => bd (law05_agrees_F l2 a1) fun y15 =>
    cn y15 (bd (law05_pick_F a1 42) fun y16 => bd (law05_agrees_F s11.1 (wr (y16 - 1))) fun y17 => k14 y17) (k14 false)) (fun r12 => some r12))
def law05_ClockAgrees_S : List AV → AV → Prop := fun args r => ∃ a0 a1, args = [(eL 2 eTSpell default) a0, eI a1] ∧ W (law05_ClockAgrees_F a0 a1) fun y => r = (eB y)
theorem law05_ClockAgrees_ok {T : Tbl} (hT : TOk Try.prog T) (hpf : PfOk T PF) (h10 : T 10 = pureR law05_sane_S) (h19 : T 19 = pureR law05_pick_S) (h29 : T 29 = pureR law05_agrees_S) : FOk Try.prog 8 (pureR law05_ClockAgrees_S) := by
  refine FOk_pure hT hpf Try.func8 rfl Try.ntmps8 Try.results8 (by decide) ?_
  rintro args r ⟨a0, a1, rfl, h⟩
  refine ⟨Nat.le_of_ble_eq_true rfl, ?_, ?_⟩
  · exact (loose_cons (loose_lst fun _ => (lo_TSpell _)) (loose_cons (loose_int _ _) loose_nil))
  rw [law05_ClockAgrees_F.eq_1] at h
  refine HT_fr DC_ok rfl fun K hK => ?_; (conv => whnf)
  refine hK _ _ _ ?_; clear hK K
  refine HT_fr DC_ok rfl fun K hK => ?_; (conv => whnf)
  replace h := W_bd h
  refine law05_sane_call h10 h (WkL.refl _) (fun _ h => ?_); (conv => whnf)
  refine hK _ _ _ ?_; clear hK K
  refine HT_seq ?_
  refine HT_fr DC_ok rfl fun K hK => ?_; (conv => whnf)
  refine hK _ _ _ ?_; clear hK K
  refine HT_if fun K1 K2 hK1 hK2 => ?_; (conv => whnf)
  refine cond_lk h (fun _ h => ?_) (fun _ h => ?_)
  · refine hK1 ?_; clear hK1 hK2 K1 K2
    refine HT_fr DC_ok rfl fun K hK => ?_; (conv => whnf)
    refine hK _ _ _ ?_; clear hK K
    refine HT_ret ?_
    refine Then_r ?_
    replace h := W_some h
    refine PostP_r DC_ok fun K hK => ?_; (conv => whnf)
    refine hK _ ?_; clear hK K
    cases h
    exact Wk.refl _
  refine hK2 ?_; clear hK1 hK2 K1 K2
  refine HT_skip ?_
  refine Then_n ?_
  refine HT_fr DC_ok rfl fun K hK => ?_; (conv => whnf)
  refine sl_lk h (.inl ⟨rfl, rfl⟩) (.inr ⟨_, rfl⟩) (fun h => ?_); (conv => whnf)
  refine hK _ _ _ ?_; clear hK K
  refine HT_fr DC_ok rfl fun K hK => ?_; (conv => whnf)
  refine hK _ _ _ ?_; clear hK K
  refine HT_seq ?_
  refine HT_fr DC_ok rfl fun K hK => ?_; (conv => whnf)
  refine hK _ _ _ ?_; clear hK K
  refine HT_block ?_
  replace h := W_bd h
  refine HT_lpK (body := law05_ClockAgrees_b1 _) rfl h [0, 1] [] [] (fun kl kh ids b s => ⟨ofL ([(6, .lst (.tok (b + 0)) 2 s.1.length (fun j => eTSpell (s.1.getD j default))), (7, eI s.2)] ++ kl), ofH ([(b + 0, .cells [])] ++ kh), b + 128⟩) ?_; (conv => whnf); refine And.intro ?_ (fun s m h => HT_st ?_)
  · refine weak_k ?_; (conv => whnf)
    exact And.intro rfl (And.intro (allL_c (WkR.nil (fun _ => rfl)) (allL_c (WkR.wk (Wk.refl _) (loose_int _ _)) (allL_c (WkR.wk (Wk.refl _) (loose_lst fun _ => (lo_TSpell _))) (allL_c (WkR.wk (Wk.refl _) (loose_int _ _)) allL_n)))) (allL_c ⟨none, rfl, BkR_n⟩ allL_n))
  replace h := W_blaw05_ClockAgrees_b1 (W_bd h)
  refine HT_seq ?_
  refine HT_fr DC_ok rfl fun K hK => ?_; (conv => whnf)
  refine hK _ _ _ ?_; clear hK K
  refine HT_if fun K1 K2 hK1 hK2 => ?_; (conv => whnf)
  refine cond_lk h (fun _ h => ?_) (fun _ h => ?_)
  · refine hK1 ?_; clear hK1 hK2 K1 K2
    refine HT_skip ?_
    refine Then_n ?_
    refine HT_seq ?_
    refine HT_block ?_
    refine HT_fD DC_ok mix_ok rfl (by kernel_rfl) fun K hK => ?_; (conv => whnf)
    refine ix_lk h fun _ h => ?_; (conv => whnf)
    refine getK_of rfl ?_; (conv => whnf)
    replace h := W_bd h
    refine law05_pick_call h19 h (WkL.refl _) (fun _ h => ?_); (conv => whnf)
    refine ix_lk h fun _ h => ?_; (conv => whnf)
    refine getK_of rfl ?_; (conv => whnf)
    replace h := W_bd h
    refine law05_pick_call h19 h (WkL.refl _) (fun _ h => ?_); (conv => whnf)
    refine lt_lk (enc := eTSpell) (d := default) DC_ok h rfl rfl rfl ⟨Nat.le_of_ble_eq_true rfl, Nat.le_of_ble_eq_true rfl, rfl⟩ rfl ⟨⟨rfl, Nat.le_of_ble_eq_true rfl⟩, trivial⟩ (fun h => ?_); (conv => whnf)
    refine ap_lk (enc := eTSpell) (d := default) DC_ok h (.inl rfl) rfl rfl rfl ⟨rfl, Nat.le_of_ble_eq_true rfl, Nat.le_of_ble_eq_true rfl, Nat.le_of_ble_eq_true rfl, rfl⟩ (fun _ => rfl) (.inr (.inr ⟨_, _, rfl, rfl, rfl⟩)) (fun h => ?_); (conv => whnf)
    refine hK _ _ _ ?_; clear hK K
    refine InBlock_n ?_
    refine Then_n ?_
    refine HT_f DC_ok rfl fun K hK => ?_; (conv => whnf)
    refine hK _ _ _ ?_; clear hK K
    refine Then_n ?_
    replace h := W_xnx h
    refine ⟨_, h, ?_⟩
    refine weak_k ?_; (conv => whnf)
    exact And.intro rfl (And.intro (allL_c (WkR.tok (fun _ => rfl) rfl (fun _ _ => Wk.refl _) (fun _ => (lo_TSpell _))) (allL_c (WkR.wk (Wk.refl _) (loose_int _ _)) (allL_c (WkR.wk (Wk.refl _) (loose_lst fun _ => (lo_TSpell _))) (allL_c (WkR.wk (Wk.refl _) (loose_int _ _)) allL_n)))) (allL_c ⟨some _, rfl, BkR_c rfl CkR_nil⟩ allL_n))
  refine hK2 ?_; clear hK1 hK2 K1 K2
  refine HT_exit ?_
  refine Then_e ?_
  refine Then_e ?_
  refine InBlock_e ?_
  replace h := W_xbk h
  replace h := W_inl h
  refine Then_n ?_
  refine HT_fr DC_ok rfl fun K hK => ?_; (conv => whnf)
  replace h := W_jn h
  replace h := W_bd h
  refine law05_agrees_call h29 h (WkL.refl _) (fun _ h => ?_); (conv => whnf)
  refine cond_lk h (fun _ h => ?_) (fun _ h => ?_) <;> (conv => whnf)
  · replace h := W_bd h
    refine law05_pick_call h19 h (WkL.refl _) (fun _ h => ?_); (conv => whnf)
    replace h := W_bd h
    refine law05_agrees_call h29 h (WkL_cons Wk_free (WkL_cons (Wk.refl _) WkL_nil)) (fun _ h => ?_); (conv => whnf)
    refine hK _ _ _ ?_; clear hK K
    refine HT_ret ?_
    replace h := W_some h
    refine PostP_r DC_ok fun K hK => ?_; (conv => whnf)
    refine hK _ ?_; clear hK K
    cases h
    exact Wk.refl _
  refine hK _ _ _ ?_; clear hK K
  refine HT_ret ?_
  replace h := W_some h
  refine PostP_r DC_ok fun K hK => ?_; (conv => whnf)
  refine hK _ ?_; clear hK K
  cases h
  exact Wk.refl _
theorem law05_ClockAgrees_call {T : Tbl} (hT : T 8 = pureR law05_ClockAgrees_S) {args : List AV} {hp : Heap} {id : Nat} {k : AV → Prop} {a0 : List TSpell} {a1 : Int} {Φ : Bool → Prop} (h : W (law05_ClockAgrees_F a0 a1) Φ) (hw : WkL args [(eL 2 eTSpell default) a0, eI a1]) (hk : ∀ y, Φ y → k (eB y)) : callpK T 8 args hp id k := by
  obtain ⟨y, e, hy⟩ := W_inv h
  exact callpK_pure hT ⟨a0, a1, rfl, W_of e rfl⟩ (by exact (loose_bool _)) hw (hk y hy)
end Go.Proofs.Ythbonailomfjlaa
