import Derived.Test.YthbonailomfjlaaW6
namespace Go.Proofs.Ythbonailomfjlaa
open Go Go.Eng
set_option maxHeartbeats 0
set_option maxRecDepth 100000
/-! clock.Reads$1 -/
def clock_Reads_1_F (a0 : Int) (c900 : TClock) (c901 : Int) : Option Bool := bd (clock_around_F c900 a0) fun y1 => let v2 := (decide (y1.high_f ≥ c901)); some v2
def clock_Reads_1_S : List AV → AV → Prop := fun args r => ∃ a0 c900 c901, args = [eI a0, .ep [eI c900.Drift, (eL 3 eTReading default) c900.Readings] 0, .ep [eI c901] 0] ∧ W (clock_Reads_1_F a0 c900 c901) fun y => r = (eB y)
theorem clock_Reads_1_ok {T : Tbl} (hT : TOk Try.prog T) (hpf : PfOk T PF) (h36 : T 36 = pureR clock_around_S) : FOk Try.prog 39 (pureR clock_Reads_1_S) := by
  refine FOk_pure hT hpf Try.func39 rfl Try.ntmps39 Try.results39 (by decide) ?_
  rintro args r ⟨a0, c900, c901, rfl, h⟩
  refine ⟨Nat.le_of_ble_eq_true rfl, ?_, ?_⟩
  · exact (loose_cons (loose_int _ _) (loose_cons (loose_ep (loose_cons (loose_int _ _) (loose_cons (loose_lst fun _ => (lo_TReading _)) loose_nil))) (loose_cons (loose_ep (loose_cons (loose_int _ _) loose_nil)) loose_nil)))
  rw [clock_Reads_1_F.eq_1] at h
  refine HT_fr DC_ok rfl fun K hK => ?_; (conv => whnf)
  refine hK _ _ _ ?_; clear hK K
  refine HT_fd DC_ok mix_ok rfl (by kernel_rfl) fun K hK => ?_; (conv => whnf)
  refine And.intro (Nat.le_of_ble_eq_true rfl) ?_; (conv => whnf)
  replace h := W_bd h
  refine clock_around_call h36 h (WkL.refl _) (fun _ h => ?_); (conv => whnf)
  refine getK_of rfl ?_; (conv => whnf)
  refine getK_of rfl ?_; (conv => whnf)
  refine hK _ _ _ ?_; clear hK K
  refine HT_ret ?_
  replace h := W_some h
  refine PostP_r DC_ok fun K hK => ?_; (conv => whnf)
  refine hK _ ?_; clear hK K
  cases h
  exact Wk.refl _
theorem clock_Reads_1_call {T : Tbl} (hT : T 39 = pureR clock_Reads_1_S) {args : List AV} {hp : Heap} {id : Nat} {k : AV → Prop} {a0 : Int} {c900 : TClock} {c901 : Int} {Φ : Bool → Prop} (h : W (clock_Reads_1_F a0 c900 c901) Φ) (hw : WkL args [eI a0, .ep [eI c900.Drift, (eL 3 eTReading default) c900.Readings] 0, .ep [eI c901] 0]) (hk : ∀ y, Φ y → k (eB y)) : callpK T 39 args hp id k := by
  obtain ⟨y, e, hy⟩ := W_inv h
  exact callpK_pure hT ⟨a0, c900, c901, rfl, W_of e rfl⟩ (by exact (loose_bool _)) hw (hk y hy)
theorem clock_Reads_1_calls {T : Tbl} (hT : T 39 = pureR clock_Reads_1_S) {args : List AV} {hp : Heap} {id : Nat} {k : AV → Heap → Prop} {a0 : Int} {c900 : TClock} {c901 : Int} {Φ : Bool → Prop} (h : W (clock_Reads_1_F a0 c900 c901) Φ) (hw : WkL args [eI a0, .ep [eI c900.Drift, (eL 3 eTReading default) c900.Readings] 0, .ep [eI c901] 0]) (hk : ∀ y, Φ y → k (eB y) hp) : callsK T 39 args hp id k := by
  obtain ⟨y, e, hy⟩ := W_inv h
  exact callsK_pure hT ⟨a0, c900, c901, rfl, W_of e rfl⟩ (by exact (loose_bool _)) hw (hk y hy)
/-! clock.Reads$2 -/
def clock_Reads_2_F (a0 : Int) (c900 : TClock) (c901 : Int) : Option Bool := bd (clock_around_F c900 a0) fun y1 => let v2 := (decide (y1.low_f > c901)); some v2
def clock_Reads_2_S : List AV → AV → Prop := fun args r => ∃ a0 c900 c901, args = [eI a0, .ep [eI c900.Drift, (eL 3 eTReading default) c900.Readings] 0, .ep [eI c901] 0] ∧ W (clock_Reads_2_F a0 c900 c901) fun y => r = (eB y)
theorem clock_Reads_2_ok {T : Tbl} (hT : TOk Try.prog T) (hpf : PfOk T PF) (h36 : T 36 = pureR clock_around_S) : FOk Try.prog 40 (pureR clock_Reads_2_S) := by
  refine FOk_pure hT hpf Try.func40 rfl Try.ntmps40 Try.results40 (by decide) ?_
  rintro args r ⟨a0, c900, c901, rfl, h⟩
  refine ⟨Nat.le_of_ble_eq_true rfl, ?_, ?_⟩
  · exact (loose_cons (loose_int _ _) (loose_cons (loose_ep (loose_cons (loose_int _ _) (loose_cons (loose_lst fun _ => (lo_TReading _)) loose_nil))) (loose_cons (loose_ep (loose_cons (loose_int _ _) loose_nil)) loose_nil)))
  rw [clock_Reads_2_F.eq_1] at h
  refine HT_fr DC_ok rfl fun K hK => ?_; (conv => whnf)
  refine hK _ _ _ ?_; clear hK K
  refine HT_fd DC_ok mix_ok rfl (by kernel_rfl) fun K hK => ?_; (conv => whnf)
  refine And.intro (Nat.le_of_ble_eq_true rfl) ?_; (conv => whnf)
  replace h := W_bd h
  refine clock_around_call h36 h (WkL.refl _) (fun _ h => ?_); (conv => whnf)
  refine getK_of rfl ?_; (conv => whnf)
  refine getK_of rfl ?_; (conv => whnf)
  refine hK _ _ _ ?_; clear hK K
  refine HT_ret ?_
  replace h := W_some h
  refine PostP_r DC_ok fun K hK => ?_; (conv => whnf)
  refine hK _ ?_; clear hK K
  cases h
  exact Wk.refl _
theorem clock_Reads_2_call {T : Tbl} (hT : T 40 = pureR clock_Reads_2_S) {args : List AV} {hp : Heap} {id : Nat} {k : AV → Prop} {a0 : Int} {c900 : TClock} {c901 : Int} {Φ : Bool → Prop} (h : W (clock_Reads_2_F a0 c900 c901) Φ) (hw : WkL args [eI a0, .ep [eI c900.Drift, (eL 3 eTReading default) c900.Readings] 0, .ep [eI c901] 0]) (hk : ∀ y, Φ y → k (eB y)) : callpK T 40 args hp id k := by
  obtain ⟨y, e, hy⟩ := W_inv h
  exact callpK_pure hT ⟨a0, c900, c901, rfl, W_of e rfl⟩ (by exact (loose_bool _)) hw (hk y hy)
theorem clock_Reads_2_calls {T : Tbl} (hT : T 40 = pureR clock_Reads_2_S) {args : List AV} {hp : Heap} {id : Nat} {k : AV → Heap → Prop} {a0 : Int} {c900 : TClock} {c901 : Int} {Φ : Bool → Prop} (h : W (clock_Reads_2_F a0 c900 c901) Φ) (hw : WkL args [eI a0, .ep [eI c900.Drift, (eL 3 eTReading default) c900.Readings] 0, .ep [eI c901] 0]) (hk : ∀ y, Φ y → k (eB y) hp) : callsK T 40 args hp id k := by
  obtain ⟨y, e, hy⟩ := W_inv h
  exact callsK_pure hT ⟨a0, c900, c901, rfl, W_of e rfl⟩ (by exact (loose_bool _)) hw (hk y hy)
/-! sort.Search -/
def sort_Search_39_b1 (c910 : TClock) (c911 : Int) (s1 : Int × Int) : Option (Ct (Int × Int) Int) := cn (decide (s1.1 < s1.2)) (let v2 :=
    (wr ((bshr .u64 (IntKind.u64.wrap ((wr (s1.1 + s1.2)))) 1))); bd (clock_Reads_1_F v2 c910 c911) fun y3 => jn (fun p4 : Int × Int => some (.nx (p4.1, p4.2))) fun k5 =>
    cn (!y3) (k5 ((wr (v2 + 1)), s1.2)) (k5 (s1.1, v2))) (some (.bk (s1.1, s1.2)))
theorem W_bsort_Search_39_b1 {c910 : TClock} {c911 : Int} {s1 : Int × Int} {Φ : Ct (Int × Int) Int → Prop} (h : W (sort_Search_39_b1 c910 c911 s1) Φ) : W (cn (decide (s1.1 < s1.2)) (let v2 := (wr ((bshr .u64 (IntKind.u64.wrap ((wr (s1.1 + s1.2)))) 1))); bd (clock_Reads_1_F v2 c910 c911) fun y3 => jn (fun p4 : Int × Int =>
    some (.nx (p4.1, p4.2))) fun k5 => cn (!y3) (k5 ((wr (v2 + 1)), s1.2)) (k5 (s1.1, v2))) (some (.bk (s1.1, s1.2)))) Φ := h
def sort_Search_39_F (a0 : Int) (c910 : TClock) (c911 : Int) : Option Int := bd (lp (sort_Search_39_b1 c910 c911) FU (0, a0)) fun c6 => smK c6 (fun s7 => some s7.1) (fun r8 =>
    some r8)
def sort_Search_39_S : List AV → AV → Prop := fun args r => ∃ a0 c910 c911, args = [eI a0, .fn 39 [] [.ep [eI c910.Drift, (eL 3 eTReading default) c910.Readings] 0, .ep [eI c911] 0]] ∧ W (sort_Search_39_F a0 c910 c911) fun y => r = (eI y)
theorem sort_Search_39_ok {T : Tbl} (hT : TOk Try.prog T) (hpf : PfOk T PF) (h39 : T 39 = pureR clock_Reads_1_S) : FOk Try.prog 38 (pureR sort_Search_39_S) := by
  refine FOk_pure hT hpf Try.func38 rfl Try.ntmps38 Try.results38 (by decide) ?_
  rintro args r ⟨a0, c910, c911, rfl, h⟩
  refine ⟨Nat.le_of_ble_eq_true rfl, ?_, ?_⟩
  · exact (loose_cons (loose_int _ _) (loose_cons (loose_fn loose_nil (loose_cons (loose_ep (loose_cons (loose_int _ _) (loose_cons (loose_lst fun _ => (lo_TReading _)) loose_nil))) (loose_cons (loose_ep (loose_cons (loose_int _ _) loose_nil)) loose_nil))) loose_nil))
  rw [sort_Search_39_F.eq_1] at h
  refine HT_fr DC_ok rfl fun K hK => ?_; (conv => whnf)
  refine hK _ _ _ ?_; clear hK K
  refine HT_fr DC_ok rfl fun K hK => ?_; (conv => whnf)
  refine hK _ _ _ ?_; clear hK K
  refine HT_seq ?_
  refine HT_block ?_
  replace h := W_bd h
  refine HT_lpK (body := sort_Search_39_b1 _ _) rfl h [1] [] [] (fun kl kh ids b s => ⟨ofL ([(5, eI s.1), (6, eI s.2)] ++ kl), ofH ([] ++ kh), b + 64⟩) ?_; (conv => whnf); refine And.intro ?_ (fun s m h => HT_st ?_)
  · refine weak_k ?_; (conv => whnf)
    exact And.intro rfl (And.intro (allL_c (WkR.wk (Wk.refl _) (loose_int _ _)) (allL_c (WkR.wk (Wk.refl _) (loose_int _ _)) (allL_c (WkR_fn VsR_nil (VsR_cons (WkR.wk (Wk.refl _) (loose_ep (loose_cons (loose_int _ _) (loose_cons (loose_lst fun _ => (lo_TReading _)) loose_nil)))) (VsR_cons (WkR.wk (Wk.refl _) (loose_ep (loose_cons (loose_int _ _) loose_nil))) VsR_nil))) allL_n))) allL_n)
  replace h := W_bsort_Search_39_b1 (W_bd h)
  refine HT_seq ?_
  refine HT_fr DC_ok rfl fun K hK => ?_; (conv => whnf)
  refine hK _ _ _ ?_; clear hK K
  refine HT_if fun K1 K2 hK1 hK2 => ?_; (conv => whnf)
  refine cond_lk h (fun _ h => ?_) (fun _ h => ?_)
  · refine hK1 ?_; clear hK1 hK2 K1 K2
    refine HT_skip ?_
    refine Then_n ?_
    refine HT_block ?_
    refine HT_fr DC_ok rfl fun K hK => ?_; (conv => whnf)
    refine And.intro (by decide) ?_; (conv => whnf)
    refine hK _ _ _ ?_; clear hK K
    refine HT_fr DC_ok rfl fun K hK => ?_; (conv => whnf)
    replace h := W_bd h
    refine clock_Reads_1_calls h39 h (WkL.refl _) (fun _ h => ?_); (conv => whnf)
    refine hK _ _ _ ?_; clear hK K
    replace h := W_jn h
    refine HT_if fun K1 K2 hK1 hK2 => ?_; (conv => whnf)
    refine cond_lk h (fun _ h => ?_) (fun _ h => ?_)
    · refine hK1 ?_; clear hK1 hK2 K1 K2
      refine HT_f DC_ok rfl fun K hK => ?_; (conv => whnf)
      refine hK _ _ _ ?_; clear hK K
      refine InBlock_n ?_
      refine Then_n ?_
      replace h := W_xnx h
      refine ⟨_, h, ?_⟩
      refine weak_k ?_; (conv => whnf)
      exact And.intro rfl (And.intro (allL_c (WkR.wk (Wk.refl _) (loose_int _ _)) (allL_c (WkR.wk (Wk.refl _) (loose_int _ _)) (allL_c (WkR_fn VsR_nil (VsR_cons (WkR.wk (Wk.refl _) (loose_ep (loose_cons (loose_int _ _) (loose_cons (loose_lst fun _ => (lo_TReading _)) loose_nil)))) (VsR_cons (WkR.wk (Wk.refl _) (loose_ep (loose_cons (loose_int _ _) loose_nil))) VsR_nil))) allL_n))) allL_n)
    refine hK2 ?_; clear hK1 hK2 K1 K2
    refine HT_f DC_ok rfl fun K hK => ?_; (conv => whnf)
    refine hK _ _ _ ?_; clear hK K
    refine InBlock_n ?_
    refine Then_n ?_
    replace h := W_xnx h
    refine ⟨_, h, ?_⟩
    refine weak_k ?_; (conv => whnf)
    exact And.intro rfl (And.intro (allL_c (WkR.wk (Wk.refl _) (loose_int _ _)) (allL_c (WkR.wk (Wk.refl _) (loose_int _ _)) (allL_c (WkR_fn VsR_nil (VsR_cons (WkR.wk (Wk.refl _) (loose_ep (loose_cons (loose_int _ _) (loose_cons (loose_lst fun _ => (lo_TReading _)) loose_nil)))) (VsR_cons (WkR.wk (Wk.refl _) (loose_ep (loose_cons (loose_int _ _) loose_nil))) VsR_nil))) allL_n))) allL_n)
  refine hK2 ?_; clear hK1 hK2 K1 K2
  refine HT_exit ?_
  refine Then_e ?_
  refine Then_e ?_
  refine InBlock_e ?_
  replace h := W_xbk h
  replace h := W_inl h
  refine Then_n ?_
  refine HT_fr DC_ok rfl fun K hK => ?_; (conv => whnf)
  refine hK _ _ _ ?_; clear hK K
  refine HT_ret ?_
  replace h := W_some h
  refine PostP_r DC_ok fun K hK => ?_; (conv => whnf)
  refine hK _ ?_; clear hK K
  cases h
  exact Wk.refl _
/-! sort.Search -/
def sort_Search_40_b1 (c910 : TClock) (c911 : Int) (s1 : Int × Int) : Option (Ct (Int × Int) Int) := cn (decide (s1.1 < s1.2)) (let v2 :=
    (wr ((bshr .u64 (IntKind.u64.wrap ((wr (s1.1 + s1.2)))) 1))); bd (clock_Reads_2_F v2 c910 c911) fun y3 => jn (fun p4 : Int × Int => some (.nx (p4.1, p4.2))) fun k5 =>
    cn (!y3) (k5 ((wr (v2 + 1)), s1.2)) (k5 (s1.1, v2))) (some (.bk (s1.1, s1.2)))
theorem W_bsort_Search_40_b1 {c910 : TClock} {c911 : Int} {s1 : Int × Int} {Φ : Ct (Int × Int) Int → Prop} (h : W (sort_Search_40_b1 c910 c911 s1) Φ) : W (cn (decide (s1.1 < s1.2)) (let v2 := (wr ((bshr .u64 (IntKind.u64.wrap ((wr (s1.1 + s1.2)))) 1))); bd (clock_Reads_2_F v2 c910 c911) fun y3 => jn (fun p4 : Int × Int =>
    some (.nx (p4.1, p4.2))) fun k5 => cn (!y3) (k5 ((wr (v2 + 1)), s1.2)) (k5 (s1.1, v2))) (some (.bk (s1.1, s1.2)))) Φ := h
def sort_Search_40_F (a0 : Int) (c910 : TClock) (c911 : Int) : Option Int := bd (lp (sort_Search_40_b1 c910 c911) FU (0, a0)) fun c6 => smK c6 (fun s7 => some s7.1) (fun r8 =>
    some r8)
def sort_Search_40_S : List AV → AV → Prop := fun args r => ∃ a0 c910 c911, args = [eI a0, .fn 40 [] [.ep [eI c910.Drift, (eL 3 eTReading default) c910.Readings] 0, .ep [eI c911] 0]] ∧ W (sort_Search_40_F a0 c910 c911) fun y => r = (eI y)
theorem sort_Search_40_ok {T : Tbl} (hT : TOk Try.prog T) (hpf : PfOk T PF) (h40 : T 40 = pureR clock_Reads_2_S) : FOk Try.prog 38 (pureR sort_Search_40_S) := by
  refine FOk_pure hT hpf Try.func38 rfl Try.ntmps38 Try.results38 (by decide) ?_
  rintro args r ⟨a0, c910, c911, rfl, h⟩
  refine ⟨Nat.le_of_ble_eq_true rfl, ?_, ?_⟩
  · exact (loose_cons (loose_int _ _) (loose_cons (loose_fn loose_nil (loose_cons (loose_ep (loose_cons (loose_int _ _) (loose_cons (loose_lst fun _ => (lo_TReading _)) loose_nil))) (loose_cons (loose_ep (loose_cons (loose_int _ _) loose_nil)) loose_nil))) loose_nil))
  rw [sort_Search_40_F.eq_1] at h
  refine HT_fr DC_ok rfl fun K hK => ?_; (conv => whnf)
  refine hK _ _ _ ?_; clear hK K
  refine HT_fr DC_ok rfl fun K hK => ?_; (conv => whnf)
  refine hK _ _ _ ?_; clear hK K
  refine HT_seq ?_
  refine HT_block ?_
  replace h := W_bd h
  refine HT_lpK (body := sort_Search_40_b1 _ _) rfl h [1] [] [] (fun kl kh ids b s => ⟨ofL ([(5, eI s.1), (6, eI s.2)] ++ kl), ofH ([] ++ kh), b + 64⟩) ?_; (conv => whnf); refine And.intro ?_ (fun s m h => HT_st ?_)
  · refine weak_k ?_; (conv => whnf)
    exact And.intro rfl (And.intro (allL_c (WkR.wk (Wk.refl _) (loose_int _ _)) (allL_c (WkR.wk (Wk.refl _) (loose_int _ _)) (allL_c (WkR_fn VsR_nil (VsR_cons (WkR.wk (Wk.refl _) (loose_ep (loose_cons (loose_int _ _) (loose_cons (loose_lst fun _ => (lo_TReading _)) loose_nil)))) (VsR_cons (WkR.wk (Wk.refl _) (loose_ep (loose_cons (loose_int _ _) loose_nil))) VsR_nil))) allL_n))) allL_n)
  replace h := W_bsort_Search_40_b1 (W_bd h)
  refine HT_seq ?_
  refine HT_fr DC_ok rfl fun K hK => ?_; (conv => whnf)
  refine hK _ _ _ ?_; clear hK K
  refine HT_if fun K1 K2 hK1 hK2 => ?_; (conv => whnf)
  refine cond_lk h (fun _ h => ?_) (fun _ h => ?_)
  · refine hK1 ?_; clear hK1 hK2 K1 K2
    refine HT_skip ?_
    refine Then_n ?_
    refine HT_block ?_
    refine HT_fr DC_ok rfl fun K hK => ?_; (conv => whnf)
    refine And.intro (by decide) ?_; (conv => whnf)
    refine hK _ _ _ ?_; clear hK K
    refine HT_fr DC_ok rfl fun K hK => ?_; (conv => whnf)
    replace h := W_bd h
    refine clock_Reads_2_calls h40 h (WkL.refl _) (fun _ h => ?_); (conv => whnf)
    refine hK _ _ _ ?_; clear hK K
    replace h := W_jn h
    refine HT_if fun K1 K2 hK1 hK2 => ?_; (conv => whnf)
    refine cond_lk h (fun _ h => ?_) (fun _ h => ?_)
    · refine hK1 ?_; clear hK1 hK2 K1 K2
      refine HT_f DC_ok rfl fun K hK => ?_; (conv => whnf)
      refine hK _ _ _ ?_; clear hK K
      refine InBlock_n ?_
      refine Then_n ?_
      replace h := W_xnx h
      refine ⟨_, h, ?_⟩
      refine weak_k ?_; (conv => whnf)
      exact And.intro rfl (And.intro (allL_c (WkR.wk (Wk.refl _) (loose_int _ _)) (allL_c (WkR.wk (Wk.refl _) (loose_int _ _)) (allL_c (WkR_fn VsR_nil (VsR_cons (WkR.wk (Wk.refl _) (loose_ep (loose_cons (loose_int _ _) (loose_cons (loose_lst fun _ => (lo_TReading _)) loose_nil)))) (VsR_cons (WkR.wk (Wk.refl _) (loose_ep (loose_cons (loose_int _ _) loose_nil))) VsR_nil))) allL_n))) allL_n)
    refine hK2 ?_; clear hK1 hK2 K1 K2
    refine HT_f DC_ok rfl fun K hK => ?_; (conv => whnf)
    refine hK _ _ _ ?_; clear hK K
    refine InBlock_n ?_
    refine Then_n ?_
    replace h := W_xnx h
    refine ⟨_, h, ?_⟩
    refine weak_k ?_; (conv => whnf)
    exact And.intro rfl (And.intro (allL_c (WkR.wk (Wk.refl _) (loose_int _ _)) (allL_c (WkR.wk (Wk.refl _) (loose_int _ _)) (allL_c (WkR_fn VsR_nil (VsR_cons (WkR.wk (Wk.refl _) (loose_ep (loose_cons (loose_int _ _) (loose_cons (loose_lst fun _ => (lo_TReading _)) loose_nil)))) (VsR_cons (WkR.wk (Wk.refl _) (loose_ep (loose_cons (loose_int _ _) loose_nil))) VsR_nil))) allL_n))) allL_n)
  refine hK2 ?_; clear hK1 hK2 K1 K2
  refine HT_exit ?_
  refine Then_e ?_
  refine Then_e ?_
  refine InBlock_e ?_
  replace h := W_xbk h
  replace h := W_inl h
  refine Then_n ?_
  refine HT_fr DC_ok rfl fun K hK => ?_; (conv => whnf)
  refine hK _ _ _ ?_; clear hK K
  refine HT_ret ?_
  replace h := W_some h
  refine PostP_r DC_ok fun K hK => ?_; (conv => whnf)
  refine hK _ ?_; clear hK K
  cases h
  exact Wk.refl _
def sort_Search_S : List AV → AV → Prop := fun args r => sort_Search_39_S args r ∨ sort_Search_40_S args r
theorem sort_Search_39_call {T : Tbl} (hT : T 38 = pureR sort_Search_S) {args : List AV} {hp : Heap} {id : Nat} {k : AV → Prop} {a0 : Int} {c910 : TClock} {c911 : Int} {Φ : Int → Prop} (h : W (sort_Search_39_F a0 c910 c911) Φ) (hw : WkL args [eI a0, .fn 39 [] [.ep [eI c910.Drift, (eL 3 eTReading default) c910.Readings] 0, .ep [eI c911] 0]]) (hk : ∀ y, Φ y → k (eI y)) : callpK T 38 args hp id k := by
  obtain ⟨y, e, hy⟩ := W_inv h
  exact callpK_pure hT (.inl ⟨a0, c910, c911, rfl, W_of e rfl⟩) (by exact (loose_int _ _)) hw (hk y hy)
theorem sort_Search_40_call {T : Tbl} (hT : T 38 = pureR sort_Search_S) {args : List AV} {hp : Heap} {id : Nat} {k : AV → Prop} {a0 : Int} {c910 : TClock} {c911 : Int} {Φ : Int → Prop} (h : W (sort_Search_40_F a0 c910 c911) Φ) (hw : WkL args [eI a0, .fn 40 [] [.ep [eI c910.Drift, (eL 3 eTReading default) c910.Readings] 0, .ep [eI c911] 0]]) (hk : ∀ y, Φ y → k (eI y)) : callpK T 38 args hp id k := by
  obtain ⟨y, e, hy⟩ := W_inv h
  exact callpK_pure hT (.inr ⟨a0, c910, c911, rfl, W_of e rfl⟩) (by exact (loose_int _ _)) hw (hk y hy)
theorem sort_Search_ok {T : Tbl} (hT : TOk Try.prog T) (hpf : PfOk T PF) (h39 : T 39 = pureR clock_Reads_1_S) (h40 : T 40 = pureR clock_Reads_2_S) : FOk Try.prog 38 (pureR sort_Search_S) := (FOk_or (sort_Search_39_ok hT hpf h39) (sort_Search_40_ok hT hpf h40))
/-! clock.Reads -/
def clock_Reads_F (a0 : TClock) (a1 : Int) : Option (Int × Int × Int) := jn (fun p1 : Bool × Int => cn p1.1 (some (0, 0, 50)) (bd (sort_Search_39_F 10000001 a0 p1.2) fun y4 =>
    bd (sort_Search_40_F 10000001 a0 p1.2) fun y5 => cn (decide (y4 ≥ y5)) (some (0, 0, 50)) (some (y4, (wr (y5 - 1)), 0)))) fun k2 => bd (clock_Valid_F a0) fun y3 =>
    cn (!y3) (k2 (true, a1)) (cn (decide (a1 < 0)) (k2 (true, a1)) (k2 ((decide (a1 > 10000000)), a1)))
def clock_Reads_S : List AV → AV → Prop := fun args r => ∃ a0 a1, args = [eTClock a0, eI a1] ∧ W (clock_Reads_F a0 a1) fun y => r = (.tup [eI y.1, eI y.2.1, eI y.2.2])
theorem clock_Reads_ok {T : Tbl} (hT : TOk Try.prog T) (hpf : PfOk T PF) (h17 : T 17 = pureR clock_Valid_S) (h38 : T 38 = pureR sort_Search_S) : FOk Try.prog 22 (pureR clock_Reads_S) := by
  refine FOk_pure hT hpf Try.func22 rfl Try.ntmps22 Try.results22 (by decide) ?_
  rintro args r ⟨a0, a1, rfl, h⟩
  refine ⟨Nat.le_of_ble_eq_true rfl, ?_, ?_⟩
  · exact (loose_cons (lo_TClock _) (loose_cons (loose_int _ _) loose_nil))
  rw [clock_Reads_F.eq_1] at h
  refine HT_fr DC_ok rfl fun K hK => ?_; (conv => whnf)
  refine hK _ _ _ ?_; clear hK K
  refine HT_seq ?_
  refine HT_fr DC_ok rfl fun K hK => ?_; (conv => whnf)
  replace h := W_jn h
  refine And.intro (Nat.le_of_ble_eq_true rfl) ?_; (conv => whnf)
  refine blkK_of rfl ?_; (conv => whnf)
  refine And.intro (Nat.le_of_ble_eq_true rfl) ?_; (conv => whnf)
  replace h := W_bd h
  refine clock_Valid_call h17 h (WkL.refl _) (fun _ h => ?_); (conv => whnf)
  refine cond_lk h (fun _ h => ?_) (fun _ h => ?_) <;> (conv => whnf)
  · refine hK _ _ _ ?_; clear hK K
    refine HT_if fun K1 K2 hK1 hK2 => ?_; (conv => whnf)
    refine hK1 ?_; clear hK1 hK2 K1 K2
    replace h := W_cnT h
    refine HT_fr DC_ok rfl fun K hK => ?_; (conv => whnf)
    refine hK _ _ _ ?_; clear hK K
    refine HT_ret ?_
    refine Then_r ?_
    replace h := W_some h
    refine PostP_r DC_ok fun K hK => ?_; (conv => whnf)
    refine hK _ ?_; clear hK K
    cases h
    exact Wk.refl _
  refine And.intro (Nat.le_of_ble_eq_true rfl) ?_; (conv => whnf)
  refine blkK_of rfl ?_; (conv => whnf)
  refine getK_of rfl ?_; (conv => whnf)
  refine cond_lk h (fun _ h => ?_) (fun _ h => ?_) <;> (conv => whnf)
  · refine hK _ _ _ ?_; clear hK K
    refine HT_if fun K1 K2 hK1 hK2 => ?_; (conv => whnf)
    refine hK1 ?_; clear hK1 hK2 K1 K2
    replace h := W_cnT h
    refine HT_fr DC_ok rfl fun K hK => ?_; (conv => whnf)
    refine hK _ _ _ ?_; clear hK K
    refine HT_ret ?_
    refine Then_r ?_
    replace h := W_some h
    refine PostP_r DC_ok fun K hK => ?_; (conv => whnf)
    refine hK _ ?_; clear hK K
    cases h
    exact Wk.refl _
  refine And.intro (Nat.le_of_ble_eq_true rfl) ?_; (conv => whnf)
  refine blkK_of rfl ?_; (conv => whnf)
  refine getK_of rfl ?_; (conv => whnf)
  refine hK _ _ _ ?_; clear hK K
  refine HT_if fun K1 K2 hK1 hK2 => ?_; (conv => whnf)
  refine cond_lk h (fun _ h => ?_) (fun _ h => ?_)
  · refine hK1 ?_; clear hK1 hK2 K1 K2
    refine HT_fr DC_ok rfl fun K hK => ?_; (conv => whnf)
    refine hK _ _ _ ?_; clear hK K
    refine HT_ret ?_
    refine Then_r ?_
    replace h := W_some h
    refine PostP_r DC_ok fun K hK => ?_; (conv => whnf)
    refine hK _ ?_; clear hK K
    cases h
    exact Wk.refl _
  refine hK2 ?_; clear hK1 hK2 K1 K2
  refine HT_skip ?_
  refine Then_n ?_
  refine HT_frzK 2 ?_; (conv => whnf); refine ⟨_, rfl, ?_⟩
  refine HT_frzK 3 ?_; (conv => whnf); refine ⟨_, rfl, ?_⟩
  refine HT_fr DC_ok rfl fun K hK => ?_; (conv => whnf)
  replace h := W_bd h
  refine sort_Search_39_call h38 h (WkL.refl _) (fun _ h => ?_); (conv => whnf)
  refine hK _ _ _ ?_; clear hK K
  refine HT_fr DC_ok rfl fun K hK => ?_; (conv => whnf)
  replace h := W_bd h
  refine sort_Search_40_call h38 h (WkL.refl _) (fun _ h => ?_); (conv => whnf)
  refine hK _ _ _ ?_; clear hK K
  refine HT_seq ?_
  refine HT_fr DC_ok rfl fun K hK => ?_; (conv => whnf)
  refine hK _ _ _ ?_; clear hK K
  refine HT_if fun K1 K2 hK1 hK2 => ?_; (conv => whnf)
  refine cond_lk h (fun _ h => ?_) (fun _ h => ?_)
  · refine hK1 ?_; clear hK1 hK2 K1 K2
    refine HT_fr DC_ok rfl fun K hK => ?_; (conv => whnf)
    refine hK _ _ _ ?_; clear hK K
    refine HT_ret ?_
    refine Then_r ?_
    replace h := W_some h
    refine PostP_r DC_ok fun K hK => ?_; (conv => whnf)
    refine hK _ ?_; clear hK K
    cases h
    exact Wk.refl _
  refine hK2 ?_; clear hK1 hK2 K1 K2
  refine HT_skip ?_
  refine Then_n ?_
  refine HT_fr DC_ok rfl fun K hK => ?_; (conv => whnf)
  refine hK _ _ _ ?_; clear hK K
  refine HT_ret ?_
  replace h := W_some h
  refine PostP_r DC_ok fun K hK => ?_; (conv => whnf)
  refine hK _ ?_; clear hK K
  cases h
  exact Wk.refl _
theorem clock_Reads_call {T : Tbl} (hT : T 22 = pureR clock_Reads_S) {args : List AV} {hp : Heap} {id : Nat} {k : AV → Prop} {a0 : TClock} {a1 : Int} {Φ : Int × Int × Int → Prop} (h : W (clock_Reads_F a0 a1) Φ) (hw : WkL args [eTClock a0, eI a1]) (hk : ∀ y, Φ y → k (.tup [eI y.1, eI y.2.1, eI y.2.2])) : callpK T 22 args hp id k := by
  obtain ⟨y, e, hy⟩ := W_inv h
  exact callpK_pure hT ⟨a0, a1, rfl, W_of e rfl⟩ (by exact loose_tup (loose_cons (loose_int _ _) (loose_cons (loose_int _ _) (loose_cons (loose_int _ _) loose_nil)))) hw (hk y hy)
end Go.Proofs.Ythbonailomfjlaa
