import Derived.Test.YtcidmnpihffphaaW8
namespace Go.Proofs.Ytcidmnpihffphaa
open Go Go.Eng
set_option maxHeartbeats 0
set_option maxRecDepth 100000
/-! recovery.Last -/
def recovery_Last_b1 (y1 : (List TTicket) × Int) (s2 : Int × Int) : Option (Ct (Int × Int) (Int × Int)) := cn (decide (s2.2 < (y1.1.length : Int))) (ix y1.1 default s2.2 fun e3 =>
    some (.nx ((imax s2.1 e3.At), (wr (s2.2 + 1))))) (some (.bk (s2.1, s2.2)))
theorem W_brecovery_Last_b1 {y1 : (List TTicket) × Int} {s2 : Int × Int} {Φ : Ct (Int × Int) (Int × Int) → Prop} (h : W (recovery_Last_b1 y1 s2) Φ) : W (cn (decide (s2.2 < (y1.1.length : Int))) (ix y1.1 default s2.2 fun e3 => some (.nx ((imax s2.1 e3.At), (wr (s2.2 + 1))))) (some (.bk (s2.1, s2.2)))) Φ := h
def recovery_Last_F (a0 : TRegion) (a1 : List TAttempt) : Option (Int × Int) := bd (recovery_Plan_F a0 a1) fun y1 => cn (y1.2 !=
    0) (some (0, y1.2)) (bd (lp (recovery_Last_b1 y1) FU ((-1), 0)) fun c4 => smK c4 (fun s5 => some (s5.1, 0)) (fun r6 => some r6))
def recovery_Last_S : List AV → AV → Prop := fun args r => ∃ a0 a1, args = [eTRegion a0, (eL 3 eTAttempt default) a1] ∧ W (recovery_Last_F a0 a1) fun y => r = (.tup [eI y.1, eI y.2])
theorem recovery_Last_ok {T : Tbl} (hT : TOk Try.prog T) (hpf : PfOk T PF) (h18 : T 18 = pureR recovery_Plan_S) : FOk Try.prog 22 (pureR recovery_Last_S) := by
  refine FOk_pure hT hpf Try.func22 rfl Try.ntmps22 Try.results22 (by decide) ?_
  rintro args r ⟨a0, a1, rfl, h⟩
  refine ⟨Nat.le_of_ble_eq_true rfl, ?_, ?_⟩
  · exact (loose_cons (lo_TRegion _) (loose_cons (loose_lst fun _ => (lo_TAttempt _)) loose_nil))
  rw [recovery_Last_F.eq_1] at h
  refine HT_fr DC_ok rfl fun K hK => ?_; (conv => whnf)
  refine hK _ _ _ ?_; clear hK K
  refine HT_fr DC_ok rfl fun K hK => ?_; (conv => whnf)
  refine And.intro (Nat.le_of_ble_eq_true rfl) ?_; (conv => whnf)
  refine blkK_of rfl ?_; (conv => whnf)
  refine And.intro (Nat.le_of_ble_eq_true rfl) ?_; (conv => whnf)
  replace h := W_bd h
  refine recovery_Plan_call h18 h (WkL.refl _) (fun _ h => ?_); (conv => whnf)
  refine hK _ _ _ ?_; clear hK K
  refine HT_seq ?_
  refine HT_fr DC_ok rfl fun K hK => ?_; (conv => whnf)
  refine hK _ _ _ ?_; clear hK K
  refine HT_if fun K1 K2 hK1 hK2 => ?_; (conv => whnf)
  refine cond_lk h (fun _ h => ?_) (fun _ h => ?_)
  · refine hK1 ?_; clear hK1 hK2 K1 K2
    refine HT_fr DC_ok rfl fun K hK => ?_; (conv => whnf)
    refine hK _ _ _ ?_; clear hK K
    refine HT_ret ?_
    refine Then_r ?_
    replace h := W_some h
    refine PostP_r DC_ok fun K hK => ?_; (conv => whnf)
    refine hK _ ?_; clear hK K
    cases h
    exact Wk.refl _
  refine hK2 ?_; clear hK1 hK2 K1 K2
  refine HT_skip ?_
  refine Then_n ?_
  refine HT_fr DC_ok rfl fun K hK => ?_; (conv => whnf)
  refine hK _ _ _ ?_; clear hK K
  refine HT_seq ?_
  refine HT_fr DC_ok rfl fun K hK => ?_; (conv => whnf)
  refine hK _ _ _ ?_; clear hK K
  refine HT_block ?_
  replace h := W_bd h
  refine HT_lpK (body := recovery_Last_b1 _) rfl h [20, 21] [] [] (fun kl kh ids b s => ⟨ofL ([(8, eI s.1), (22, eI s.2)] ++ kl), ofH ([] ++ kh), b + 64⟩) ?_; (conv => whnf); refine And.intro ?_ (fun s m h => HT_st ?_)
  · refine weak_k ?_; (conv => whnf)
    exact And.intro rfl (And.intro (allL_c (WkR.wk (Wk.refl _) (loose_int _ _)) (allL_c (WkR.wk (Wk.refl _) (loose_int _ _)) (allL_c (WkR.wk (Wk.refl _) (loose_lst fun _ => (lo_TTicket _))) (allL_c (WkR.wk (Wk.refl _) (loose_int _ _)) allL_n)))) allL_n)
  replace h := W_brecovery_Last_b1 (W_bd h)
  refine HT_fr DC_ok rfl fun K hK => ?_; (conv => whnf)
  refine hK _ _ _ ?_; clear hK K
  refine HT_seq ?_
  refine HT_if fun K1 K2 hK1 hK2 => ?_; (conv => whnf)
  refine cond_lk h (fun _ h => ?_) (fun _ h => ?_)
  · refine hK1 ?_; clear hK1 hK2 K1 K2
    refine HT_skip ?_
    refine Then_n ?_
    refine HT_seq ?_
    refine HT_block ?_
    refine HT_fr DC_ok rfl fun K hK => ?_; (conv => whnf)
    refine ix_lk h fun _ h => ?_; (conv => whnf)
    refine And.intro (Nat.le_of_ble_eq_true rfl) ?_; (conv => whnf)
    refine blkK_of rfl ?_; (conv => whnf)
    refine And.intro rfl (And.intro (Nat.le_of_ble_eq_true rfl) (And.intro rfl ?_)); (conv => whnf)
    refine hK _ _ _ ?_; clear hK K
    refine HT_f DC_ok rfl fun K hK => ?_; (conv => whnf)
    refine And.intro (Nat.le_of_ble_eq_true rfl) ?_; (conv => whnf)
    refine blkK_of rfl ?_; (conv => whnf)
    refine getK_of rfl ?_; (conv => whnf)
    refine hK _ _ _ ?_; clear hK K
    refine InBlock_n ?_
    refine Then_n ?_
    refine HT_f DC_ok rfl fun K hK => ?_; (conv => whnf)
    refine hK _ _ _ ?_; clear hK K
    refine Then_n ?_
    replace h := W_xnx h
    refine ⟨_, h, ?_⟩
    refine weak_k ?_; (conv => whnf)
    exact And.intro rfl (And.intro (allL_c (WkR.wk (Wk.refl _) (loose_int _ _)) (allL_c (WkR.wk (Wk.refl _) (loose_int _ _)) (allL_c (WkR.wk (Wk.refl _) (loose_lst fun _ => (lo_TTicket _))) (allL_c (WkR.wk (Wk.refl _) (loose_int _ _)) allL_n)))) allL_n)
  refine hK2 ?_; clear hK1 hK2 K1 K2
  refine HT_exit ?_
  refine Then_e ?_
  refine Then_e ?_
  refine InBlock_e ?_
  replace h := W_xbk h
  replace h := W_inl h
  refine Then_n ?_
  refine HT_fr DC_ok rfl fun K hK => ?_; (conv => whnf)
  refine hK _ _ _ ?_; clear hK K
  refine HT_ret ?_
  replace h := W_some h
  refine PostP_r DC_ok fun K hK => ?_; (conv => whnf)
  refine hK _ ?_; clear hK K
  cases h
  exact Wk.refl _
theorem recovery_Last_call {T : Tbl} (hT : T 22 = pureR recovery_Last_S) {args : List AV} {hp : Heap} {id : Nat} {k : AV → Prop} {a0 : TRegion} {a1 : List TAttempt} {Φ : Int × Int → Prop} (h : W (recovery_Last_F a0 a1) Φ) (hw : WkL args [eTRegion a0, (eL 3 eTAttempt default) a1]) (hk : ∀ y, Φ y → k (.tup [eI y.1, eI y.2])) : callpK T 22 args hp id k := by
  obtain ⟨y, e, hy⟩ := W_inv h
  exact callpK_pure hT ⟨a0, a1, rfl, W_of e rfl⟩ (by exact loose_tup (loose_cons (loose_int _ _) (loose_cons (loose_int _ _) loose_nil))) hw (hk y hy)
/-! recovery.Check -/
def recovery_Check_F (a0 : TRegion) (a1 : List TAttempt) (a2 : List TTicket) : Option Bool := bd (recovery_Plan_F a0 a1) fun y1 => jn (fun p2 : Bool => some p2) fun k3 =>
    cn (y1.2 == 0) (bd (slices_Equal_Ticket_F a2 y1.1) fun y4 => k3 y4) (k3 false)
def recovery_Check_S : List AV → AV → Prop := fun args r => ∃ a0 a1 a2, args = [eTRegion a0, (eL 3 eTAttempt default) a1, (eL 3 eTTicket default) a2] ∧ W (recovery_Check_F a0 a1 a2) fun y => r = (eB y)
theorem recovery_Check_ok {T : Tbl} (hT : TOk Try.prog T) (hpf : PfOk T PF) (h18 : T 18 = pureR recovery_Plan_S) (h51 : T 51 = pureR slices_Equal_Ticket_S) : FOk Try.prog 36 (pureR recovery_Check_S) := by
  refine FOk_pure hT hpf Try.func36 rfl Try.ntmps36 Try.results36 (by decide) ?_
  rintro args r ⟨a0, a1, a2, rfl, h⟩
  refine ⟨Nat.le_of_ble_eq_true rfl, ?_, ?_⟩
  · exact (loose_cons (lo_TRegion _) (loose_cons (loose_lst fun _ => (lo_TAttempt _)) (loose_cons (loose_lst fun _ => (lo_TTicket _)) loose_nil)))
  rw [recovery_Check_F.eq_1] at h
  refine HT_fr DC_ok rfl fun K hK => ?_; (conv => whnf)
  refine hK _ _ _ ?_; clear hK K
  refine HT_fr DC_ok rfl fun K hK => ?_; (conv => whnf)
  refine And.intro (Nat.le_of_ble_eq_true rfl) ?_; (conv => whnf)
  refine blkK_of rfl ?_; (conv => whnf)
  refine And.intro (Nat.le_of_ble_eq_true rfl) ?_; (conv => whnf)
  replace h := W_bd h
  refine recovery_Plan_call h18 h (WkL.refl _) (fun _ h => ?_); (conv => whnf)
  refine hK _ _ _ ?_; clear hK K
  refine HT_fr DC_ok rfl fun K hK => ?_; (conv => whnf)
  replace h := W_jn h
  refine cond_lk h (fun _ h => ?_) (fun _ h => ?_) <;> (conv => whnf)
  · replace h := W_bd h
    refine slices_Equal_Ticket_call h51 h (WkL.refl _) (fun _ h => ?_); (conv => whnf)
    refine hK _ _ _ ?_; clear hK K
    refine HT_ret ?_
    replace h := W_some h
    refine PostP_r DC_ok fun K hK => ?_; (conv => whnf)
    refine hK _ ?_; clear hK K
    cases h
    exact Wk.refl _
  refine hK _ _ _ ?_; clear hK K
  refine HT_ret ?_
  replace h := W_some h
  refine PostP_r DC_ok fun K hK => ?_; (conv => whnf)
  refine hK _ ?_; clear hK K
  cases h
  exact Wk.refl _
theorem recovery_Check_call {T : Tbl} (hT : T 36 = pureR recovery_Check_S) {args : List AV} {hp : Heap} {id : Nat} {k : AV → Prop} {a0 : TRegion} {a1 : List TAttempt} {a2 : List TTicket} {Φ : Bool → Prop} (h : W (recovery_Check_F a0 a1 a2) Φ) (hw : WkL args [eTRegion a0, (eL 3 eTAttempt default) a1, (eL 3 eTTicket default) a2]) (hk : ∀ y, Φ y → k (eB y)) : callpK T 36 args hp id k := by
  obtain ⟨y, e, hy⟩ := W_inv h
  exact callpK_pure hT ⟨a0, a1, a2, rfl, W_of e rfl⟩ (by exact (loose_bool _)) hw (hk y hy)
/-! dialtoneref34.Safe -/

    def ref34_Safe_b1 (a0 : TRegion) (y1 : (List TTicket) × Int) (y2 : List TAttempt) (s3 : Int) : Option (Ct Int (Int × Bool)) := cn (decide (s3 ≤ 1040)) (bd (ref34_load_F y2 y1.1 s3) fun y4 =>
    cn (decide (y4 > a0.Signals)) (some (.rt (s3, false))) (some (.nx (wr (s3 + 1))))) (some (.bk s3))
theorem W_bref34_Safe_b1 {a0 : TRegion} {y1 : (List TTicket) × Int} {y2 : List TAttempt} {s3 : Int} {Φ : Ct Int (Int × Bool) → Prop} (h : W (ref34_Safe_b1 a0 y1 y2 s3) Φ) : W (cn (decide (s3 ≤ 1040)) (bd (ref34_load_F y2 y1.1 s3) fun y4 => cn (decide (y4 > a0.Signals)) (some (.rt (s3, false))) (some (.nx (wr (s3 + 1))))) (some (.bk s3))) Φ := h
def ref34_Safe_F (a0 : TRegion) (a1 : List TAttempt) : Option (Int × Bool) := bd (ref34_Plan_F a0 a1) fun y1 => cn (y1.2 !=
    0) (some ((-1), false)) (bd (ref34_Ordered_F a1) fun y2 => bd (lp (ref34_Safe_b1 a0 y1 y2) FU 0) fun c5 => smK c5 (fun s6 => some ((-1), true)) (fun r7 => some r7))
def ref34_Safe_S : List AV → AV → Prop := fun args r => ∃ a0 a1, args = [eTRegion a0, (eL 3 eTAttempt default) a1] ∧ W (ref34_Safe_F a0 a1) fun y => r = (.tup [eI y.1, eB y.2])
theorem ref34_Safe_ok {T : Tbl} (hT : TOk Try.prog T) (hpf : PfOk T PF) (h19 : T 19 = pureR ref34_Plan_S) (h38 : T 38 = pureR ref34_Ordered_S) (h45 : T 45 = pureR ref34_load_S) : FOk Try.prog 21 (pureR ref34_Safe_S) := by
  refine FOk_pure hT hpf Try.func21 rfl Try.ntmps21 Try.results21 (by decide) ?_
  rintro args r ⟨a0, a1, rfl, h⟩
  refine ⟨Nat.le_of_ble_eq_true rfl, ?_, ?_⟩
  · exact (loose_cons (lo_TRegion _) (loose_cons (loose_lst fun _ => (lo_TAttempt _)) loose_nil))
  rw [ref34_Safe_F.eq_1] at h
  refine HT_fr DC_ok rfl fun K hK => ?_; (conv => whnf)
  refine hK _ _ _ ?_; clear hK K
  refine HT_fr DC_ok rfl fun K hK => ?_; (conv => whnf)
  refine And.intro (Nat.le_of_ble_eq_true rfl) ?_; (conv => whnf)
  refine blkK_of rfl ?_; (conv => whnf)
  refine And.intro (Nat.le_of_ble_eq_true rfl) ?_; (conv => whnf)
  replace h := W_bd h
  refine ref34_Plan_call h19 h (WkL.refl _) (fun _ h => ?_); (conv => whnf)
  refine hK _ _ _ ?_; clear hK K
  refine HT_seq ?_
  refine HT_fr DC_ok rfl fun K hK => ?_; (conv => whnf)
  refine hK _ _ _ ?_; clear hK K
  refine HT_if fun K1 K2 hK1 hK2 => ?_; (conv => whnf)
  refine cond_lk h (fun _ h => ?_) (fun _ h => ?_)
  · refine hK1 ?_; clear hK1 hK2 K1 K2
    refine HT_fr DC_ok rfl fun K hK => ?_; (conv => whnf)
    refine hK _ _ _ ?_; clear hK K
    refine HT_ret ?_
    refine Then_r ?_
    replace h := W_some h
    refine PostP_r DC_ok fun K hK => ?_; (conv => whnf)
    refine hK _ ?_; clear hK K
    cases h
    exact Wk.refl _
  refine hK2 ?_; clear hK1 hK2 K1 K2
  refine HT_skip ?_
  refine Then_n ?_
  refine HT_fr DC_ok rfl fun K hK => ?_; (conv => whnf)
  replace h := W_bd h
  refine ref34_Ordered_call h38 h (WkL.refl _) (fun _ h => ?_); (conv => whnf)
  refine hK _ _ _ ?_; clear hK K
  refine HT_seq ?_
  refine HT_fr DC_ok rfl fun K hK => ?_; (conv => whnf)
  refine hK _ _ _ ?_; clear hK K
  refine HT_block ?_
  replace h := W_bd h
  refine HT_lpK (body := ref34_Safe_b1 _ _ _) rfl h [2, 6, 8] [2] [] (fun kl kh ids b s => ⟨ofL ([(9, eI s)] ++ kl), ofH ([] ++ kh), b + 64⟩) ?_; (conv => whnf); refine And.intro ?_ (fun s m h => HT_st ?_)
  · refine weak_k ?_; (conv => whnf)
    exact And.intro rfl (And.intro (allL_c (WkR.wk (Wk.refl _) (loose_int _ _)) (allL_c (WkR.ptr (fun _ => rfl)) (allL_c (WkR.wk (Wk.refl _) (loose_lst fun _ => (lo_TTicket _))) (allL_c (WkR.wk (Wk.refl _) (loose_lst fun _ => (lo_TAttempt _))) allL_n)))) (allL_c ⟨some _, rfl, BkR_c rfl (CkR_cons (WkR.wk (Wk.refl _) (loose_lst fun _ => (lo_TGrowth _))) (CkR_cons (WkR.wk (Wk.refl _) (loose_int _ _)) CkR_nil))⟩ allL_n))
  replace h := W_bref34_Safe_b1 (W_bd h)
  refine HT_seq ?_
  refine HT_fr DC_ok rfl fun K hK => ?_; (conv => whnf)
  refine hK _ _ _ ?_; clear hK K
  refine HT_if fun K1 K2 hK1 hK2 => ?_; (conv => whnf)
  refine cond_lk h (fun _ h => ?_) (fun _ h => ?_)
  · refine hK1 ?_; clear hK1 hK2 K1 K2
    refine HT_skip ?_
    refine Then_n ?_
    refine HT_seq ?_
    refine HT_block ?_
    refine HT_fd DC_ok mix_ok rfl (by kernel_rfl) fun K hK => ?_; (conv => whnf)
    replace h := W_bd h
    refine ref34_load_call h45 h (WkL.refl _) (fun _ h => ?_); (conv => whnf)
    refine And.intro (Nat.le_of_ble_eq_true rfl) ?_; (conv => whnf)
    refine blkK_of rfl ?_; (conv => whnf)
    refine getK_of rfl ?_; (conv => whnf)
    refine hK _ _ _ ?_; clear hK K
    refine HT_if fun K1 K2 hK1 hK2 => ?_; (conv => whnf)
    refine cond_lk h (fun _ h => ?_) (fun _ h => ?_)
    · refine hK1 ?_; clear hK1 hK2 K1 K2
      refine HT_fr DC_ok rfl fun K hK => ?_; (conv => whnf)
      refine hK _ _ _ ?_; clear hK K
      refine HT_ret ?_
      refine InBlock_r ?_
      refine Then_r ?_
      refine Then_r ?_
      refine InBlock_r ?_
      refine Then_r ?_
      replace h := W_xrt h
      replace h := W_inr h
      replace h := W_some h
      refine PostP_r DC_ok fun K hK => ?_; (conv => whnf)
      refine hK _ ?_; clear hK K
      cases h
      exact Wk.refl _
    refine hK2 ?_; clear hK1 hK2 K1 K2
    refine HT_skip ?_
    refine InBlock_n ?_
    refine Then_n ?_
    refine HT_f DC_ok rfl fun K hK => ?_; (conv => whnf)
    refine hK _ _ _ ?_; clear hK K
    refine Then_n ?_
    replace h := W_xnx h
    refine ⟨_, h, ?_⟩
    refine weak_k ?_; (conv => whnf)
    exact And.intro rfl (And.intro (allL_c (WkR.wk (Wk.refl _) (loose_int _ _)) (allL_c (WkR.ptr (fun _ => rfl)) (allL_c (WkR.wk (Wk.refl _) (loose_lst fun _ => (lo_TTicket _))) (allL_c (WkR.wk (Wk.refl _) (loose_lst fun _ => (lo_TAttempt _))) allL_n)))) (allL_c ⟨some _, rfl, BkR_c rfl (CkR_cons (WkR.wk (Wk.refl _) (loose_lst fun _ => (lo_TGrowth _))) (CkR_cons (WkR.wk (Wk.refl _) (loose_int _ _)) CkR_nil))⟩ allL_n))
  refine hK2 ?_; clear hK1 hK2 K1 K2
  refine HT_exit ?_
  refine Then_e ?_
  refine Then_e ?_
  refine InBlock_e ?_
  replace h := W_xbk h
  replace h := W_inl h
  refine Then_n ?_
  refine HT_fr DC_ok rfl fun K hK => ?_; (conv => whnf)
  refine hK _ _ _ ?_; clear hK K
  refine HT_ret ?_
  replace h := W_some h
  refine PostP_r DC_ok fun K hK => ?_; (conv => whnf)
  refine hK _ ?_; clear hK K
  cases h
  exact Wk.refl _
theorem ref34_Safe_call {T : Tbl} (hT : T 21 = pureR ref34_Safe_S) {args : List AV} {hp : Heap} {id : Nat} {k : AV → Prop} {a0 : TRegion} {a1 : List TAttempt} {Φ : Int × Bool → Prop} (h : W (ref34_Safe_F a0 a1) Φ) (hw : WkL args [eTRegion a0, (eL 3 eTAttempt default) a1]) (hk : ∀ y, Φ y → k (.tup [eI y.1, eB y.2])) : callpK T 21 args hp id k := by
  obtain ⟨y, e, hy⟩ := W_inv h
  exact callpK_pure hT ⟨a0, a1, rfl, W_of e rfl⟩ (by exact loose_tup (loose_cons (loose_int _ _) (loose_cons (loose_bool _) loose_nil))) hw (hk y hy)
/-! dialtoneref34.Last -/
def ref34_Last_b1 (y1 : (List TTicket) × Int) (s2 : Int × Int) : Option (Ct (Int × Int) (Int × Int)) := cn (decide (s2.2 < (y1.1.length : Int))) (ix y1.1 default s2.2 fun e3 =>
    some (.nx ((imax s2.1 e3.At), (wr (s2.2 + 1))))) (some (.bk (s2.1, s2.2)))
theorem W_bref34_Last_b1 {y1 : (List TTicket) × Int} {s2 : Int × Int} {Φ : Ct (Int × Int) (Int × Int) → Prop} (h : W (ref34_Last_b1 y1 s2) Φ) : W (cn (decide (s2.2 < (y1.1.length : Int))) (ix y1.1 default s2.2 fun e3 => some (.nx ((imax s2.1 e3.At), (wr (s2.2 + 1))))) (some (.bk (s2.1, s2.2)))) Φ := h
def ref34_Last_F (a0 : TRegion) (a1 : List TAttempt) : Option (Int × Int) := bd (ref34_Plan_F a0 a1) fun y1 => cn (y1.2 !=
    0) (some (0, y1.2)) (bd (lp (ref34_Last_b1 y1) FU ((-1), 0)) fun c4 => smK c4 (fun s5 => some (s5.1, 0)) (fun r6 => some r6))
def ref34_Last_S : List AV → AV → Prop := fun args r => ∃ a0 a1, args = [eTRegion a0, (eL 3 eTAttempt default) a1] ∧ W (ref34_Last_F a0 a1) fun y => r = (.tup [eI y.1, eI y.2])
theorem ref34_Last_ok {T : Tbl} (hT : TOk Try.prog T) (hpf : PfOk T PF) (h19 : T 19 = pureR ref34_Plan_S) : FOk Try.prog 23 (pureR ref34_Last_S) := by
  refine FOk_pure hT hpf Try.func23 rfl Try.ntmps23 Try.results23 (by decide) ?_
  rintro args r ⟨a0, a1, rfl, h⟩
  refine ⟨Nat.le_of_ble_eq_true rfl, ?_, ?_⟩
  · exact (loose_cons (lo_TRegion _) (loose_cons (loose_lst fun _ => (lo_TAttempt _)) loose_nil))
  rw [ref34_Last_F.eq_1] at h
  refine HT_fr DC_ok rfl fun K hK => ?_; (conv => whnf)
  refine hK _ _ _ ?_; clear hK K
  refine HT_fr DC_ok rfl fun K hK => ?_; (conv => whnf)
  refine And.intro (Nat.le_of_ble_eq_true rfl) ?_; (conv => whnf)
  refine blkK_of rfl ?_; (conv => whnf)
  refine And.intro (Nat.le_of_ble_eq_true rfl) ?_; (conv => whnf)
  replace h := W_bd h
  refine ref34_Plan_call h19 h (WkL.refl _) (fun _ h => ?_); (conv => whnf)
  refine hK _ _ _ ?_; clear hK K
  refine HT_seq ?_
  refine HT_fr DC_ok rfl fun K hK => ?_; (conv => whnf)
  refine hK _ _ _ ?_; clear hK K
  refine HT_if fun K1 K2 hK1 hK2 => ?_; (conv => whnf)
  refine cond_lk h (fun _ h => ?_) (fun _ h => ?_)
  · refine hK1 ?_; clear hK1 hK2 K1 K2
    refine HT_fr DC_ok rfl fun K hK => ?_; (conv => whnf)
    refine hK _ _ _ ?_; clear hK K
    refine HT_ret ?_
    refine Then_r ?_
    replace h := W_some h
    refine PostP_r DC_ok fun K hK => ?_; (conv => whnf)
    refine hK _ ?_; clear hK K
    cases h
    exact Wk.refl _
  refine hK2 ?_; clear hK1 hK2 K1 K2
  refine HT_skip ?_
  refine Then_n ?_
  refine HT_fr DC_ok rfl fun K hK => ?_; (conv => whnf)
  refine hK _ _ _ ?_; clear hK K
  refine HT_seq ?_
  refine HT_fr DC_ok rfl fun K hK => ?_; (conv => whnf)
  refine hK _ _ _ ?_; clear hK K
  refine HT_block ?_
  replace h := W_bd h
  refine HT_lpK (body := ref34_Last_b1 _) rfl h [6] [] [] (fun kl kh ids b s => ⟨ofL ([(8, eI s.1), (9, eI s.2)] ++ kl), ofH ([] ++ kh), b + 64⟩) ?_; (conv => whnf); refine And.intro ?_ (fun s m h => HT_st ?_)
  · refine weak_k ?_; (conv => whnf)
    exact And.intro rfl (And.intro (allL_c (WkR.wk (Wk.refl _) (loose_int _ _)) (allL_c (WkR.wk (Wk.refl _) (loose_int _ _)) (allL_c (WkR.wk (Wk.refl _) (loose_lst fun _ => (lo_TTicket _))) allL_n))) allL_n)
  replace h := W_bref34_Last_b1 (W_bd h)
  refine HT_seq ?_
  refine HT_fr DC_ok rfl fun K hK => ?_; (conv => whnf)
  refine hK _ _ _ ?_; clear hK K
  refine HT_if fun K1 K2 hK1 hK2 => ?_; (conv => whnf)
  refine cond_lk h (fun _ h => ?_) (fun _ h => ?_)
  · refine hK1 ?_; clear hK1 hK2 K1 K2
    refine HT_skip ?_
    refine Then_n ?_
    refine HT_seq ?_
    refine HT_block ?_
    refine HT_f DC_ok rfl fun K hK => ?_; (conv => whnf)
    refine ix_lk h fun _ h => ?_; (conv => whnf)
    refine getK_of rfl ?_; (conv => whnf)
    refine hK _ _ _ ?_; clear hK K
    refine InBlock_n ?_
    refine Then_n ?_
    refine HT_f DC_ok rfl fun K hK => ?_; (conv => whnf)
    refine hK _ _ _ ?_; clear hK K
    refine Then_n ?_
    replace h := W_xnx h
    refine ⟨_, h, ?_⟩
    refine weak_k ?_; (conv => whnf)
    exact And.intro rfl (And.intro (allL_c (WkR.wk (Wk.refl _) (loose_int _ _)) (allL_c (WkR.wk (Wk.refl _) (loose_int _ _)) (allL_c (WkR.wk (Wk.refl _) (loose_lst fun _ => (lo_TTicket _))) allL_n))) allL_n)
  refine hK2 ?_; clear hK1 hK2 K1 K2
  refine HT_exit ?_
  refine Then_e ?_
  refine Then_e ?_
  refine InBlock_e ?_
  replace h := W_xbk h
  replace h := W_inl h
  refine Then_n ?_
  refine HT_fr DC_ok rfl fun K hK => ?_; (conv => whnf)
  refine hK _ _ _ ?_; clear hK K
  refine HT_ret ?_
  replace h := W_some h
  refine PostP_r DC_ok fun K hK => ?_; (conv => whnf)
  refine hK _ ?_; clear hK K
  cases h
  exact Wk.refl _
theorem ref34_Last_call {T : Tbl} (hT : T 23 = pureR ref34_Last_S) {args : List AV} {hp : Heap} {id : Nat} {k : AV → Prop} {a0 : TRegion} {a1 : List TAttempt} {Φ : Int × Int → Prop} (h : W (ref34_Last_F a0 a1) Φ) (hw : WkL args [eTRegion a0, (eL 3 eTAttempt default) a1]) (hk : ∀ y, Φ y → k (.tup [eI y.1, eI y.2])) : callpK T 23 args hp id k := by
  obtain ⟨y, e, hy⟩ := W_inv h
  exact callpK_pure hT ⟨a0, a1, rfl, W_of e rfl⟩ (by exact loose_tup (loose_cons (loose_int _ _) (loose_cons (loose_int _ _) loose_nil))) hw (hk y hy)
/-! dialtoneref34.Load -/
def ref34_Load_F (a0 : TRegion) (a1 : List TAttempt) (a2 : Int) : Option (Int × Int) := bd (ref34_Plan_F a0 a1) fun y1 => jn (fun p2 : Int × Bool =>
    cn p2.2 (some (0, 340)) (bd (ref34_Ordered_F a1) fun y4 => bd (ref34_load_F y4 y1.1 p2.1) fun y5 => some (y5, 0))) fun k3 => cn (y1.2 !=
    0) (k3 (a2, true)) (k3 (a2, (decide (a2 < 0))))
def ref34_Load_S : List AV → AV → Prop := fun args r => ∃ a0 a1 a2, args = [eTRegion a0, (eL 3 eTAttempt default) a1, eI a2] ∧ W (ref34_Load_F a0 a1 a2) fun y => r = (.tup [eI y.1, eI y.2])
theorem ref34_Load_ok {T : Tbl} (hT : TOk Try.prog T) (hpf : PfOk T PF) (h19 : T 19 = pureR ref34_Plan_S) (h38 : T 38 = pureR ref34_Ordered_S) (h45 : T 45 = pureR ref34_load_S) : FOk Try.prog 31 (pureR ref34_Load_S) := by
  refine FOk_pure hT hpf Try.func31 rfl Try.ntmps31 Try.results31 (by decide) ?_
  rintro args r ⟨a0, a1, a2, rfl, h⟩
  refine ⟨Nat.le_of_ble_eq_true rfl, ?_, ?_⟩
  · exact (loose_cons (lo_TRegion _) (loose_cons (loose_lst fun _ => (lo_TAttempt _)) (loose_cons (loose_int _ _) loose_nil)))
  rw [ref34_Load_F.eq_1] at h
  refine HT_fr DC_ok rfl fun K hK => ?_; (conv => whnf)
  refine hK _ _ _ ?_; clear hK K
  refine HT_fr DC_ok rfl fun K hK => ?_; (conv => whnf)
  refine And.intro (Nat.le_of_ble_eq_true rfl) ?_; (conv => whnf)
  refine blkK_of rfl ?_; (conv => whnf)
  refine And.intro (Nat.le_of_ble_eq_true rfl) ?_; (conv => whnf)
  replace h := W_bd h
  refine ref34_Plan_call h19 h (WkL.refl _) (fun _ h => ?_); (conv => whnf)
  refine hK _ _ _ ?_; clear hK K
  refine HT_seq ?_
  refine HT_fr DC_ok rfl fun K hK => ?_; (conv => whnf)
  replace h := W_jn h
  refine cond_lk h (fun _ h => ?_) (fun _ h => ?_) <;> (conv => whnf)
  · refine hK _ _ _ ?_; clear hK K
    refine HT_if fun K1 K2 hK1 hK2 => ?_; (conv => whnf)
    refine hK1 ?_; clear hK1 hK2 K1 K2
    replace h := W_cnT h
    refine HT_fr DC_ok rfl fun K hK => ?_; (conv => whnf)
    refine hK _ _ _ ?_; clear hK K
    refine HT_ret ?_
    refine Then_r ?_
    replace h := W_some h
    refine PostP_r DC_ok fun K hK => ?_; (conv => whnf)
    refine hK _ ?_; clear hK K
    cases h
    exact Wk.refl _
  refine hK _ _ _ ?_; clear hK K
  refine HT_if fun K1 K2 hK1 hK2 => ?_; (conv => whnf)
  refine cond_lk h (fun _ h => ?_) (fun _ h => ?_)
  · refine hK1 ?_; clear hK1 hK2 K1 K2
    refine HT_fr DC_ok rfl fun K hK => ?_; (conv => whnf)
    refine hK _ _ _ ?_; clear hK K
    refine HT_ret ?_
    refine Then_r ?_
    replace h := W_some h
    refine PostP_r DC_ok fun K hK => ?_; (conv => whnf)
    refine hK _ ?_; clear hK K
    cases h
    exact Wk.refl _
  refine hK2 ?_; clear hK1 hK2 K1 K2
  refine HT_skip ?_
  refine Then_n ?_
  refine HT_fr DC_ok rfl fun K hK => ?_; (conv => whnf)
  replace h := W_bd h
  refine ref34_Ordered_call h38 h (WkL.refl _) (fun _ h => ?_); (conv => whnf)
  replace h := W_bd h
  refine ref34_load_call h45 h (WkL.refl _) (fun _ h => ?_); (conv => whnf)
  refine hK _ _ _ ?_; clear hK K
  refine HT_ret ?_
  replace h := W_some h
  refine PostP_r DC_ok fun K hK => ?_; (conv => whnf)
  refine hK _ ?_; clear hK K
  cases h
  exact Wk.refl _
theorem ref34_Load_call {T : Tbl} (hT : T 31 = pureR ref34_Load_S) {args : List AV} {hp : Heap} {id : Nat} {k : AV → Prop} {a0 : TRegion} {a1 : List TAttempt} {a2 : Int} {Φ : Int × Int → Prop} (h : W (ref34_Load_F a0 a1 a2) Φ) (hw : WkL args [eTRegion a0, (eL 3 eTAttempt default) a1, eI a2]) (hk : ∀ y, Φ y → k (.tup [eI y.1, eI y.2])) : callpK T 31 args hp id k := by
  obtain ⟨y, e, hy⟩ := W_inv h
  exact callpK_pure hT ⟨a0, a1, a2, rfl, W_of e rfl⟩ (by exact loose_tup (loose_cons (loose_int _ _) (loose_cons (loose_int _ _) loose_nil))) hw (hk y hy)
/-! dialtoneref34.Check -/
def ref34_Check_F (a0 : TRegion) (a1 : List TAttempt) (a2 : List TTicket) : Option Bool := bd (ref34_Plan_F a0 a1) fun y1 => jn (fun p2 : Bool => some p2) fun k3 => cn (y1.2 ==
    0) (bd (ref34_Same_F a2 y1.1) fun y4 => k3 y4) (k3 false)
def ref34_Check_S : List AV → AV → Prop := fun args r => ∃ a0 a1 a2, args = [eTRegion a0, (eL 3 eTAttempt default) a1, (eL 3 eTTicket default) a2] ∧ W (ref34_Check_F a0 a1 a2) fun y => r = (eB y)
theorem ref34_Check_ok {T : Tbl} (hT : TOk Try.prog T) (hpf : PfOk T PF) (h19 : T 19 = pureR ref34_Plan_S) (h28 : T 28 = pureR ref34_Same_S) : FOk Try.prog 37 (pureR ref34_Check_S) := by
  refine FOk_pure hT hpf Try.func37 rfl Try.ntmps37 Try.results37 (by decide) ?_
  rintro args r ⟨a0, a1, a2, rfl, h⟩
  refine ⟨Nat.le_of_ble_eq_true rfl, ?_, ?_⟩
  · exact (loose_cons (lo_TRegion _) (loose_cons (loose_lst fun _ => (lo_TAttempt _)) (loose_cons (loose_lst fun _ => (lo_TTicket _)) loose_nil)))
  rw [ref34_Check_F.eq_1] at h
  refine HT_fr DC_ok rfl fun K hK => ?_; (conv => whnf)
  refine hK _ _ _ ?_; clear hK K
  refine HT_fr DC_ok rfl fun K hK => ?_; (conv => whnf)
  refine And.intro (Nat.le_of_ble_eq_true rfl) ?_; (conv => whnf)
  refine blkK_of rfl ?_; (conv => whnf)
  refine And.intro (Nat.le_of_ble_eq_true rfl) ?_; (conv => whnf)
  replace h := W_bd h
  refine ref34_Plan_call h19 h (WkL.refl _) (fun _ h => ?_); (conv => whnf)
  refine hK _ _ _ ?_; clear hK K
  refine HT_fr DC_ok rfl fun K hK => ?_; (conv => whnf)
  replace h := W_jn h
  refine cond_lk h (fun _ h => ?_) (fun _ h => ?_) <;> (conv => whnf)
  · replace h := W_bd h
    refine ref34_Same_call h28 h (WkL.refl _) (fun _ h => ?_); (conv => whnf)
    refine hK _ _ _ ?_; clear hK K
    refine HT_ret ?_
    replace h := W_some h
    refine PostP_r DC_ok fun K hK => ?_; (conv => whnf)
    refine hK _ ?_; clear hK K
    cases h
    exact Wk.refl _
  refine hK _ _ _ ?_; clear hK K
  refine HT_ret ?_
  replace h := W_some h
  refine PostP_r DC_ok fun K hK => ?_; (conv => whnf)
  refine hK _ ?_; clear hK K
  cases h
  exact Wk.refl _
theorem ref34_Check_call {T : Tbl} (hT : T 37 = pureR ref34_Check_S) {args : List AV} {hp : Heap} {id : Nat} {k : AV → Prop} {a0 : TRegion} {a1 : List TAttempt} {a2 : List TTicket} {Φ : Bool → Prop} (h : W (ref34_Check_F a0 a1 a2) Φ) (hw : WkL args [eTRegion a0, (eL 3 eTAttempt default) a1, (eL 3 eTTicket default) a2]) (hk : ∀ y, Φ y → k (eB y)) : callpK T 37 args hp id k := by
  obtain ⟨y, e, hy⟩ := W_inv h
  exact callpK_pure hT ⟨a0, a1, a2, rfl, W_of e rfl⟩ (by exact (loose_bool _)) hw (hk y hy)
end Go.Proofs.Ytcidmnpihffphaa
