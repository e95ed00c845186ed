import Derived.Test.YthbonailomfjlaaW2
namespace Go.Proofs.Ythbonailomfjlaa
open Go Go.Eng
set_option maxHeartbeats 0
set_option maxRecDepth 100000
/-! dialtoneref05.At -/
def ref05_At_F (a0 : TClock) (a1 : Int) : Option (Int × Int × Int) := jn (fun p1 : Int × Bool => cn p1.2 (some (0, 0, 50)) (bd (ref05_bounds_F a0 p1.1) fun y4 => cn (decide (y4.1 >
    y4.2)) (some (0, 0, 50)) (some (y4.1, y4.2, 0)))) fun k2 => bd (ref05_Valid_F a0) fun y3 => cn (!y3) (k2 (a1, true)) (cn (decide (a1 < 0)) (k2 (a1, true)) (k2 (a1, (decide (a1 >
    10000000)))))
def ref05_At_S : List AV → AV → Prop := fun args r => ∃ a0 a1, args = [eTClock a0, eI a1] ∧ W (ref05_At_F a0 a1) fun y => r = (.tup [eI y.1, eI y.2.1, eI y.2.2])
theorem ref05_At_ok {T : Tbl} (hT : TOk Try.prog T) (hpf : PfOk T PF) (h18 : T 18 = pureR ref05_Valid_S) (h37 : T 37 = pureR ref05_bounds_S) : FOk Try.prog 21 (pureR ref05_At_S) := by
  refine FOk_pure hT hpf Try.func21 rfl Try.ntmps21 Try.results21 (by decide) ?_
  rintro args r ⟨a0, a1, rfl, h⟩
  refine ⟨Nat.le_of_ble_eq_true rfl, ?_, ?_⟩
  · exact (loose_cons (lo_TClock _) (loose_cons (loose_int _ _) loose_nil))
  rw [ref05_At_F.eq_1] at h
  refine HT_fr DC_ok rfl fun K hK => ?_; (conv => whnf)
  refine hK _ _ _ ?_; clear hK K
  refine HT_seq ?_
  refine HT_fr DC_ok rfl fun K hK => ?_; (conv => whnf)
  replace h := W_jn h
  refine And.intro (Nat.le_of_ble_eq_true rfl) ?_; (conv => whnf)
  refine blkK_of rfl ?_; (conv => whnf)
  refine And.intro (Nat.le_of_ble_eq_true rfl) ?_; (conv => whnf)
  replace h := W_bd h
  refine ref05_Valid_call h18 h (WkL.refl _) (fun _ h => ?_); (conv => whnf)
  refine cond_lk h (fun _ h => ?_) (fun _ h => ?_) <;> (conv => whnf)
  · refine hK _ _ _ ?_; clear hK K
    refine HT_if fun K1 K2 hK1 hK2 => ?_; (conv => whnf)
    refine hK1 ?_; clear hK1 hK2 K1 K2
    replace h := W_cnT h
    refine HT_fr DC_ok rfl fun K hK => ?_; (conv => whnf)
    refine hK _ _ _ ?_; clear hK K
    refine HT_ret ?_
    refine Then_r ?_
    replace h := W_some h
    refine PostP_r DC_ok fun K hK => ?_; (conv => whnf)
    refine hK _ ?_; clear hK K
    cases h
    exact Wk.refl _
  refine cond_lk h (fun _ h => ?_) (fun _ h => ?_) <;> (conv => whnf)
  · refine hK _ _ _ ?_; clear hK K
    refine HT_if fun K1 K2 hK1 hK2 => ?_; (conv => whnf)
    refine hK1 ?_; clear hK1 hK2 K1 K2
    replace h := W_cnT h
    refine HT_fr DC_ok rfl fun K hK => ?_; (conv => whnf)
    refine hK _ _ _ ?_; clear hK K
    refine HT_ret ?_
    refine Then_r ?_
    replace h := W_some h
    refine PostP_r DC_ok fun K hK => ?_; (conv => whnf)
    refine hK _ ?_; clear hK K
    cases h
    exact Wk.refl _
  refine hK _ _ _ ?_; clear hK K
  refine HT_if fun K1 K2 hK1 hK2 => ?_; (conv => whnf)
  refine cond_lk h (fun _ h => ?_) (fun _ h => ?_)
  · refine hK1 ?_; clear hK1 hK2 K1 K2
    refine HT_fr DC_ok rfl fun K hK => ?_; (conv => whnf)
    refine hK _ _ _ ?_; clear hK K
    refine HT_ret ?_
    refine Then_r ?_
    replace h := W_some h
    refine PostP_r DC_ok fun K hK => ?_; (conv => whnf)
    refine hK _ ?_; clear hK K
    cases h
    exact Wk.refl _
  refine hK2 ?_; clear hK1 hK2 K1 K2
  refine HT_skip ?_
  refine Then_n ?_
  refine HT_fr DC_ok rfl fun K hK => ?_; (conv => whnf)
  refine And.intro (Nat.le_of_ble_eq_true rfl) ?_; (conv => whnf)
  refine blkK_of rfl ?_; (conv => whnf)
  refine And.intro (Nat.le_of_ble_eq_true rfl) ?_; (conv => whnf)
  replace h := W_bd h
  refine ref05_bounds_call h37 h (WkL.refl _) (fun _ h => ?_); (conv => whnf)
  refine hK _ _ _ ?_; clear hK K
  refine HT_seq ?_
  refine HT_fr DC_ok rfl fun K hK => ?_; (conv => whnf)
  refine hK _ _ _ ?_; clear hK K
  refine HT_if fun K1 K2 hK1 hK2 => ?_; (conv => whnf)
  refine cond_lk h (fun _ h => ?_) (fun _ h => ?_)
  · refine hK1 ?_; clear hK1 hK2 K1 K2
    refine HT_fr DC_ok rfl fun K hK => ?_; (conv => whnf)
    refine hK _ _ _ ?_; clear hK K
    refine HT_ret ?_
    refine Then_r ?_
    replace h := W_some h
    refine PostP_r DC_ok fun K hK => ?_; (conv => whnf)
    refine hK _ ?_; clear hK K
    cases h
    exact Wk.refl _
  refine hK2 ?_; clear hK1 hK2 K1 K2
  refine HT_skip ?_
  refine Then_n ?_
  refine HT_fr DC_ok rfl fun K hK => ?_; (conv => whnf)
  refine hK _ _ _ ?_; clear hK K
  refine HT_ret ?_
  replace h := W_some h
  refine PostP_r DC_ok fun K hK => ?_; (conv => whnf)
  refine hK _ ?_; clear hK K
  cases h
  exact Wk.refl _
theorem ref05_At_call {T : Tbl} (hT : T 21 = pureR ref05_At_S) {args : List AV} {hp : Heap} {id : Nat} {k : AV → Prop} {a0 : TClock} {a1 : Int} {Φ : Int × Int × Int → Prop} (h : W (ref05_At_F a0 a1) Φ) (hw : WkL args [eTClock a0, eI a1]) (hk : ∀ y, Φ y → k (.tup [eI y.1, eI y.2.1, eI y.2.2])) : callpK T 21 args hp id k := by
  obtain ⟨y, e, hy⟩ := W_inv h
  exact callpK_pure hT ⟨a0, a1, rfl, W_of e rfl⟩ (by exact loose_tup (loose_cons (loose_int _ _) (loose_cons (loose_int _ _) (loose_cons (loose_int _ _) loose_nil)))) hw (hk y hy)
/-! dialtoneref05.Before -/
def ref05_Before_F (a0 : TClock) (a1 : Int) (a2 : Int) : Option Bool := bd (ref05_At_F a0 a1) fun y1 => jn (fun p2 : Bool => some p2) fun k3 => cn (y1.2.2 ==
    0) (k3 (decide (y1.2.1 < a2))) (k3 false)
def ref05_Before_S : List AV → AV → Prop := fun args r => ∃ a0 a1 a2, args = [eTClock a0, eI a1, eI a2] ∧ W (ref05_Before_F a0 a1 a2) fun y => r = (eB y)
theorem ref05_Before_ok {T : Tbl} (hT : TOk Try.prog T) (hpf : PfOk T PF) (h21 : T 21 = pureR ref05_At_S) : FOk Try.prog 25 (pureR ref05_Before_S) := by
  refine FOk_pure hT hpf Try.func25 rfl Try.ntmps25 Try.results25 (by decide) ?_
  rintro args r ⟨a0, a1, a2, rfl, h⟩
  refine ⟨Nat.le_of_ble_eq_true rfl, ?_, ?_⟩
  · exact (loose_cons (lo_TClock _) (loose_cons (loose_int _ _) (loose_cons (loose_int _ _) loose_nil)))
  rw [ref05_Before_F.eq_1] at h
  refine HT_fr DC_ok rfl fun K hK => ?_; (conv => whnf)
  refine hK _ _ _ ?_; clear hK K
  refine HT_fr DC_ok rfl fun K hK => ?_; (conv => whnf)
  refine And.intro (Nat.le_of_ble_eq_true rfl) ?_; (conv => whnf)
  refine blkK_of rfl ?_; (conv => whnf)
  refine And.intro (Nat.le_of_ble_eq_true rfl) ?_; (conv => whnf)
  replace h := W_bd h
  refine ref05_At_call h21 h (WkL.refl _) (fun _ h => ?_); (conv => whnf)
  refine hK _ _ _ ?_; clear hK K
  refine HT_fr DC_ok rfl fun K hK => ?_; (conv => whnf)
  replace h := W_jn h
  refine cond_lk h (fun _ h => ?_) (fun _ h => ?_) <;> (conv => whnf)
  · refine hK _ _ _ ?_; clear hK K
    refine HT_ret ?_
    replace h := W_some h
    refine PostP_r DC_ok fun K hK => ?_; (conv => whnf)
    refine hK _ ?_; clear hK K
    cases h
    exact Wk.refl _
  refine hK _ _ _ ?_; clear hK K
  refine HT_ret ?_
  replace h := W_some h
  refine PostP_r DC_ok fun K hK => ?_; (conv => whnf)
  refine hK _ ?_; clear hK K
  cases h
  exact Wk.refl _
theorem ref05_Before_call {T : Tbl} (hT : T 25 = pureR ref05_Before_S) {args : List AV} {hp : Heap} {id : Nat} {k : AV → Prop} {a0 : TClock} {a1 : Int} {a2 : Int} {Φ : Bool → Prop} (h : W (ref05_Before_F a0 a1 a2) Φ) (hw : WkL args [eTClock a0, eI a1, eI a2]) (hk : ∀ y, Φ y → k (eB y)) : callpK T 25 args hp id k := by
  obtain ⟨y, e, hy⟩ := W_inv h
  exact callpK_pure hT ⟨a0, a1, a2, rfl, W_of e rfl⟩ (by exact (loose_bool _)) hw (hk y hy)
/-! dialtoneref05.After -/
def ref05_After_F (a0 : TClock) (a1 : Int) (a2 : Int) : Option Bool := bd (ref05_At_F a0 a1) fun y1 => jn (fun p2 : Bool => some p2) fun k3 => cn (y1.2.2 == 0) (k3 (decide (y1.1 >
    a2))) (k3 false)
def ref05_After_S : List AV → AV → Prop := fun args r => ∃ a0 a1 a2, args = [eTClock a0, eI a1, eI a2] ∧ W (ref05_After_F a0 a1 a2) fun y => r = (eB y)
theorem ref05_After_ok {T : Tbl} (hT : TOk Try.prog T) (hpf : PfOk T PF) (h21 : T 21 = pureR ref05_At_S) : FOk Try.prog 27 (pureR ref05_After_S) := by
  refine FOk_pure hT hpf Try.func27 rfl Try.ntmps27 Try.results27 (by decide) ?_
  rintro args r ⟨a0, a1, a2, rfl, h⟩
  refine ⟨Nat.le_of_ble_eq_true rfl, ?_, ?_⟩
  · exact (loose_cons (lo_TClock _) (loose_cons (loose_int _ _) (loose_cons (loose_int _ _) loose_nil)))
  rw [ref05_After_F.eq_1] at h
  refine HT_fr DC_ok rfl fun K hK => ?_; (conv => whnf)
  refine hK _ _ _ ?_; clear hK K
  refine HT_fr DC_ok rfl fun K hK => ?_; (conv => whnf)
  refine And.intro (Nat.le_of_ble_eq_true rfl) ?_; (conv => whnf)
  refine blkK_of rfl ?_; (conv => whnf)
  refine And.intro (Nat.le_of_ble_eq_true rfl) ?_; (conv => whnf)
  replace h := W_bd h
  refine ref05_At_call h21 h (WkL.refl _) (fun _ h => ?_); (conv => whnf)
  refine hK _ _ _ ?_; clear hK K
  refine HT_fr DC_ok rfl fun K hK => ?_; (conv => whnf)
  replace h := W_jn h
  refine cond_lk h (fun _ h => ?_) (fun _ h => ?_) <;> (conv => whnf)
  · refine hK _ _ _ ?_; clear hK K
    refine HT_ret ?_
    replace h := W_some h
    refine PostP_r DC_ok fun K hK => ?_; (conv => whnf)
    refine hK _ ?_; clear hK K
    cases h
    exact Wk.refl _
  refine hK _ _ _ ?_; clear hK K
  refine HT_ret ?_
  replace h := W_some h
  refine PostP_r DC_ok fun K hK => ?_; (conv => whnf)
  refine hK _ ?_; clear hK K
  cases h
  exact Wk.refl _
theorem ref05_After_call {T : Tbl} (hT : T 27 = pureR ref05_After_S) {args : List AV} {hp : Heap} {id : Nat} {k : AV → Prop} {a0 : TClock} {a1 : Int} {a2 : Int} {Φ : Bool → Prop} (h : W (ref05_After_F a0 a1 a2) Φ) (hw : WkL args [eTClock a0, eI a1, eI a2]) (hk : ∀ y, Φ y → k (eB y)) : callpK T 27 args hp id k := by
  obtain ⟨y, e, hy⟩ := W_inv h
  exact callpK_pure hT ⟨a0, a1, a2, rfl, W_of e rfl⟩ (by exact (loose_bool _)) hw (hk y hy)
/-! dialtoneref05.Shown -/
def ref05_Shown_b1 (a2 : List Int) (a3 : Int) (y1 : Int) (s2 : Int × Int) : Option (Ct (Int × Int) Int) := jn (fun p3 : Int × Bool => cn p3.2 (ix a2 default s2.2 fun e5 =>
    bd (ref05_pick_F e5 (wr ((wr (2 * y1)) + 1))) fun y6 => let v7 := (wr (s2.1 + (wr ((wr (y6 - y1)) * (imin (wr (p3.1 - (wr (100 * s2.2)))) 100)))));
    some (.nx (v7, (wr (s2.2 + 1))))) (some (.bk (s2.1, s2.2)))) fun k4 => cn (decide (s2.2 < (a2.length : Int))) (cn (decide (s2.2 < 20)) (k4 (a3, (decide (a3 >
    (wr (100 * s2.2)))))) (k4 (a3, false))) (k4 (a3, false))
theorem W_bref05_Shown_b1 {a2 : List Int} {a3 : Int} {y1 : Int} {s2 : Int × Int} {Φ : Ct (Int × Int) Int → Prop} (h : W (ref05_Shown_b1 a2 a3 y1 s2) Φ) : W (jn (fun p3 : Int × Bool => cn p3.2 (ix a2 default s2.2 fun e5 => bd (ref05_pick_F e5 (wr ((wr (2 * y1)) + 1))) fun y6 => let v7 :=
    (wr (s2.1 + (wr ((wr (y6 - y1)) * (imin (wr (p3.1 - (wr (100 * s2.2)))) 100))))); some (.nx (v7, (wr (s2.2 + 1))))) (some (.bk (s2.1, s2.2)))) fun k4 =>
    cn (decide (s2.2 < (a2.length : Int))) (cn (decide (s2.2 < 20)) (k4 (a3, (decide (a3 > (wr (100 * s2.2)))))) (k4 (a3, false))) (k4 (a3, false))) Φ := h
def ref05_Shown_F (a0 : Int) (a1 : Int) (a2 : List Int) (a3 : Int) : Option Int := bd (ref05_pick_F a0 101) fun y1 => bd (lp (ref05_Shown_b1 a2 a3 y1) FU (0, 0)) fun c8 =>
    smK c8 (fun s9 => let v11 := (wr (s9.1 + (wr (1000 * a3)))); bd (ref05_pick_F a1 1000) fun y12 => let v13 := (wr (y12 + (wr (Int.tdiv v11 1000)))); some v13) (fun r10 =>
    some r10)
def ref05_Shown_S : List AV → AV → Prop := fun args r => ∃ a0 a1 a2 a3, args = [eI a0, eI a1, (eL 1 eI default) a2, eI a3] ∧ W (ref05_Shown_F a0 a1 a2 a3) fun y => r = (eI y)
theorem ref05_Shown_ok {T : Tbl} (hT : TOk Try.prog T) (hpf : PfOk T PF) (h35 : T 35 = pureR ref05_pick_S) : FOk Try.prog 28 (pureR ref05_Shown_S) := by
  refine FOk_pure hT hpf Try.func28 rfl Try.ntmps28 Try.results28 (by decide) ?_
  rintro args r ⟨a0, a1, a2, a3, rfl, h⟩
  refine ⟨Nat.le_of_ble_eq_true rfl, ?_, ?_⟩
  · exact (loose_cons (loose_int _ _) (loose_cons (loose_int _ _) (loose_cons (loose_lst fun _ => (loose_int _ _)) (loose_cons (loose_int _ _) loose_nil))))
  rw [ref05_Shown_F.eq_1] at h
  refine HT_fr DC_ok rfl fun K hK => ?_; (conv => whnf)
  refine hK _ _ _ ?_; clear hK K
  refine HT_fr DC_ok rfl fun K hK => ?_; (conv => whnf)
  replace h := W_bd h
  refine ref05_pick_call h35 h (WkL.refl _) (fun _ h => ?_); (conv => whnf)
  refine hK _ _ _ ?_; clear hK K
  refine HT_fr DC_ok rfl fun K hK => ?_; (conv => whnf)
  refine hK _ _ _ ?_; clear hK K
  refine HT_seq ?_
  refine HT_fr DC_ok rfl fun K hK => ?_; (conv => whnf)
  refine hK _ _ _ ?_; clear hK K
  refine HT_block ?_
  replace h := W_bd h
  refine HT_lpK (body := ref05_Shown_b1 _ _ _) rfl h [1, 2, 3, 9] [] [] (fun kl kh ids b s => ⟨ofL ([(10, eI s.1), (11, eI s.2)] ++ kl), ofH ([] ++ kh), b + 64⟩) ?_; (conv => whnf); refine And.intro ?_ (fun s m h => HT_st ?_)
  · refine weak_k ?_; (conv => whnf)
    exact And.intro rfl (And.intro (allL_c (WkR.wk (Wk.refl _) (loose_int _ _)) (allL_c (WkR.wk (Wk.refl _) (loose_int _ _)) (allL_c (WkR.wk (Wk.refl _) (loose_int _ _)) (allL_c (WkR.wk (Wk.refl _) (loose_lst fun _ => (loose_int _ _))) (allL_c (WkR.wk (Wk.refl _) (loose_int _ _)) (allL_c (WkR.wk (Wk.refl _) (loose_int _ _)) allL_n)))))) allL_n)
  replace h := W_bref05_Shown_b1 (W_bd h)
  refine HT_seq ?_
  refine HT_fr DC_ok rfl fun K hK => ?_; (conv => whnf)
  replace h := W_jn h
  refine cond_lk h (fun _ h => ?_) (fun _ h => ?_) <;> (conv => whnf)
  · refine cond_lk h (fun _ h => ?_) (fun _ h => ?_) <;> (conv => whnf)
    · refine hK _ _ _ ?_; clear hK K
      refine HT_if fun K1 K2 hK1 hK2 => ?_; (conv => whnf)
      refine cond_lk h (fun _ h => ?_) (fun _ h => ?_)
      · refine hK1 ?_; clear hK1 hK2 K1 K2
        refine HT_skip ?_
        refine Then_n ?_
        refine HT_seq ?_
        refine HT_block ?_
        refine HT_f DC_ok rfl fun K hK => ?_; (conv => whnf)
        refine ix_lk h fun _ h => ?_; (conv => whnf)
        refine getK_of rfl ?_; (conv => whnf)
        replace h := W_bd h
        refine ref05_pick_call h35 h (WkL.refl _) (fun _ h => ?_); (conv => whnf)
        refine hK _ _ _ ?_; clear hK K
        refine InBlock_n ?_
        refine Then_n ?_
        refine HT_f DC_ok rfl fun K hK => ?_; (conv => whnf)
        refine hK _ _ _ ?_; clear hK K
        refine Then_n ?_
        replace h := W_xnx h
        refine ⟨_, h, ?_⟩
        refine weak_k ?_; (conv => whnf)
        exact And.intro rfl (And.intro (allL_c (WkR.wk (Wk.refl _) (loose_int _ _)) (allL_c (WkR.wk (Wk.refl _) (loose_int _ _)) (allL_c (WkR.wk (Wk.refl _) (loose_int _ _)) (allL_c (WkR.wk (Wk.refl _) (loose_lst fun _ => (loose_int _ _))) (allL_c (WkR.wk (Wk.refl _) (loose_int _ _)) (allL_c (WkR.wk (Wk.refl _) (loose_int _ _)) allL_n)))))) allL_n)
      refine hK2 ?_; clear hK1 hK2 K1 K2
      refine HT_exit ?_
      refine Then_e ?_
      refine Then_e ?_
      refine InBlock_e ?_
      replace h := W_xbk h
      replace h := W_inl h
      refine Then_n ?_
      refine HT_fr DC_ok rfl fun K hK => ?_; (conv => whnf)
      refine hK _ _ _ ?_; clear hK K
      refine HT_fr DC_ok rfl fun K hK => ?_; (conv => whnf)
      replace h := W_bd h
      refine ref05_pick_call h35 h (WkL.refl _) (fun _ h => ?_); (conv => whnf)
      refine And.intro (by decide) ?_; (conv => whnf)
      refine hK _ _ _ ?_; clear hK K
      refine HT_ret ?_
      replace h := W_some h
      refine PostP_r DC_ok fun K hK => ?_; (conv => whnf)
      refine hK _ ?_; clear hK K
      cases h
      exact Wk.refl _
    refine hK _ _ _ ?_; clear hK K
    refine HT_if fun K1 K2 hK1 hK2 => ?_; (conv => whnf)
    refine hK2 ?_; clear hK1 hK2 K1 K2
    replace h := W_cnF h
    refine HT_exit ?_
    refine Then_e ?_
    refine Then_e ?_
    refine InBlock_e ?_
    replace h := W_xbk h
    replace h := W_inl h
    refine Then_n ?_
    refine HT_fr DC_ok rfl fun K hK => ?_; (conv => whnf)
    refine hK _ _ _ ?_; clear hK K
    refine HT_fr DC_ok rfl fun K hK => ?_; (conv => whnf)
    replace h := W_bd h
    refine ref05_pick_call h35 h (WkL.refl _) (fun _ h => ?_); (conv => whnf)
    refine And.intro (by decide) ?_; (conv => whnf)
    refine hK _ _ _ ?_; clear hK K
    refine HT_ret ?_
    replace h := W_some h
    refine PostP_r DC_ok fun K hK => ?_; (conv => whnf)
    refine hK _ ?_; clear hK K
    cases h
    exact Wk.refl _
  refine hK _ _ _ ?_; clear hK K
  refine HT_if fun K1 K2 hK1 hK2 => ?_; (conv => whnf)
  refine hK2 ?_; clear hK1 hK2 K1 K2
  replace h := W_cnF h
  refine HT_exit ?_
  refine Then_e ?_
  refine Then_e ?_
  refine InBlock_e ?_
  replace h := W_xbk h
  replace h := W_inl h
  refine Then_n ?_
  refine HT_fr DC_ok rfl fun K hK => ?_; (conv => whnf)
  refine hK _ _ _ ?_; clear hK K
  refine HT_fr DC_ok rfl fun K hK => ?_; (conv => whnf)
  replace h := W_bd h
  refine ref05_pick_call h35 h (WkL.refl _) (fun _ h => ?_); (conv => whnf)
  refine And.intro (by decide) ?_; (conv => whnf)
  refine hK _ _ _ ?_; clear hK K
  refine HT_ret ?_
  replace h := W_some h
  refine PostP_r DC_ok fun K hK => ?_; (conv => whnf)
  refine hK _ ?_; clear hK K
  cases h
  exact Wk.refl _
theorem ref05_Shown_call {T : Tbl} (hT : T 28 = pureR ref05_Shown_S) {args : List AV} {hp : Heap} {id : Nat} {k : AV → Prop} {a0 : Int} {a1 : Int} {a2 : List Int} {a3 : Int} {Φ : Int → Prop} (h : W (ref05_Shown_F a0 a1 a2 a3) Φ) (hw : WkL args [eI a0, eI a1, (eL 1 eI default) a2, eI a3]) (hk : ∀ y, Φ y → k (eI y)) : callpK T 28 args hp id k := by
  obtain ⟨y, e, hy⟩ := W_inv h
  exact callpK_pure hT ⟨a0, a1, a2, a3, rfl, W_of e rfl⟩ (by exact (loose_int _ _)) hw (hk y hy)
/-! dialtonelaw05.few -/
def law05_few_F (a0 : TClock) : Option TClock := slc a0.Readings 0 (imin (a0.Readings.length : Int) 13) fun l1 => some (⟨a0.Drift, l1⟩ : TClock)
def law05_few_S : List AV → AV → Prop := fun args r => ∃ a0, args = [eTClock a0] ∧ W (law05_few_F a0) fun y => r = (eTClock y)
theorem law05_few_ok {T : Tbl} (hT : TOk Try.prog T) (hpf : PfOk T PF) : FOk Try.prog 15 (pureR law05_few_S) := by
  refine FOk_pure hT hpf Try.func15 rfl Try.ntmps15 Try.results15 (by decide) ?_
  rintro args r ⟨a0, rfl, h⟩
  refine ⟨Nat.le_of_ble_eq_true rfl, ?_, ?_⟩
  · exact (loose_cons (lo_TClock _) loose_nil)
  rw [law05_few_F.eq_1] at h
  refine HT_fr DC_ok rfl fun K hK => ?_; (conv => whnf)
  refine hK _ _ _ ?_; clear hK K
  refine HT_fd DC_ok mix_ok rfl (by kernel_rfl) fun K hK => ?_; (conv => whnf)
  refine And.intro (Nat.le_of_ble_eq_true rfl) ?_; (conv => whnf)
  refine blkK_of rfl ?_; (conv => whnf)
  refine getK_of rfl ?_; (conv => whnf)
  refine And.intro (Nat.le_of_ble_eq_true rfl) ?_; (conv => whnf)
  refine blkK_of rfl ?_; (conv => whnf)
  refine getK_of rfl ?_; (conv => whnf)
  refine And.intro (Nat.le_of_ble_eq_true rfl) ?_; (conv => whnf)
  refine blkK_of rfl ?_; (conv => whnf)
  refine getK_of rfl ?_; (conv => whnf)
  refine sl_lk h (.inl ⟨rfl, rfl⟩) (.inr ⟨_, rfl⟩) (fun h => ?_); (conv => whnf)
  refine blkK_of rfl ?_; (conv => whnf)
  refine And.intro rfl (And.intro (Nat.le_of_ble_eq_true rfl) (And.intro rfl ?_)); (conv => whnf)
  refine hK _ _ _ ?_; clear hK K
  refine HT_ret ?_
  replace h := W_some h
  refine PostP_r DC_ok fun K hK => ?_; (conv => whnf)
  refine And.intro (Nat.le_of_ble_eq_true rfl) ?_; (conv => whnf)
  refine blkK_of rfl ?_; (conv => whnf)
  refine And.intro (Nat.le_of_ble_eq_true rfl) ?_; (conv => whnf)
  refine hK _ ?_; clear hK K
  cases h
  exact Wk.refl _
theorem law05_few_call {T : Tbl} (hT : T 15 = pureR law05_few_S) {args : List AV} {hp : Heap} {id : Nat} {k : AV → Prop} {a0 : TClock} {Φ : TClock → Prop} (h : W (law05_few_F a0) Φ) (hw : WkL args [eTClock a0]) (hk : ∀ y, Φ y → k (eTClock y)) : callpK T 15 args hp id k := by
  obtain ⟨y, e, hy⟩ := W_inv h
  exact callpK_pure hT ⟨a0, rfl, W_of e rfl⟩ (by exact (lo_TClock _)) hw (hk y hy)
/-! dialtoneref05.Reads -/
def ref05_Reads_b2 (a0 : TClock) (p1 : Int × Bool) (s12 : Int × Int) : Option (Ct (Int × Int) (Int × Int × Int)) := cn (decide ((wr (s12.2 + 1)) < s12.1)) (let v13 :=
    (wr (Int.tdiv (wr (s12.2 + s12.1)) 2)); bd (ref05_bounds_F a0 v13) fun y14 => jn (fun p15 : Int × Int => some (.nx (p15.1, p15.2))) fun k16 =>
    cn (decide (y14.1 ≤ p1.1)) (k16 (s12.1, v13)) (k16 (v13, s12.2))) (some (.bk (s12.1, s12.2)))
theorem W_bref05_Reads_b2 {a0 : TClock} {p1 : Int × Bool} {s12 : Int × Int} {Φ : Ct (Int × Int) (Int × Int × Int) → Prop} (h : W (ref05_Reads_b2 a0 p1 s12) Φ) : W (cn (decide ((wr (s12.2 + 1)) < s12.1)) (let v13 := (wr (Int.tdiv (wr (s12.2 + s12.1)) 2)); bd (ref05_bounds_F a0 v13) fun y14 => jn (fun p15 : Int × Int =>
    some (.nx (p15.1, p15.2))) fun k16 => cn (decide (y14.1 ≤ p1.1)) (k16 (s12.1, v13)) (k16 (v13, s12.2))) (some (.bk (s12.1, s12.2)))) Φ := h
def ref05_Reads_b1 (a0 : TClock) (p1 : Int × Bool) (s4 : Int × Int) : Option (Ct (Int × Int) (Int × Int × Int)) := cn (decide (s4.1 < s4.2)) (let v5 :=
    (wr (Int.tdiv (wr (s4.1 + s4.2)) 2)); bd (ref05_bounds_F a0 v5) fun y6 => jn (fun p7 : Int × Int => some (.nx (p7.1, p7.2))) fun k8 =>
    cn (decide (y6.2 ≥ p1.1)) (k8 (s4.1, v5)) (k8 ((wr (v5 + 1)), s4.2))) (some (.bk (s4.1, s4.2)))
theorem W_bref05_Reads_b1 {a0 : TClock} {p1 : Int × Bool} {s4 : Int × Int} {Φ : Ct (Int × Int) (Int × Int × Int) → Prop} (h : W (ref05_Reads_b1 a0 p1 s4) Φ) : W (cn (decide (s4.1 < s4.2)) (let v5 := (wr (Int.tdiv (wr (s4.1 + s4.2)) 2)); bd (ref05_bounds_F a0 v5) fun y6 => jn (fun p7 : Int × Int => some (.nx (p7.1, p7.2))) fun k8 =>
    cn (decide (y6.2 ≥ p1.1)) (k8 (s4.1, v5)) (k8 ((wr (v5 + 1)), s4.2))) (some (.bk (s4.1, s4.2)))) Φ := h
def ref05_Reads_F (a0 : TClock) (a1 : Int) : Option (Int × Int × Int) := jn (fun p1 : Int × Bool =>
    cn p1.2 (some (0, 0, 50)) (bd (lp (ref05_Reads_b1 a0 p1) FU (0, 10000001)) fun c9 => smK c9 (fun s10 => bd (lp (ref05_Reads_b2 a0 p1) FU (10000001, (-1))) fun c17 =>
    smK c17 (fun s18 => cn (decide (s10.1 > s18.2)) (some (0, 0, 50)) (some (s10.1, s18.2, 0))) (fun r19 => some r19)) (fun r11 => some r11))) fun k2 =>
    bd (ref05_Valid_F a0) fun y3 => cn (!y3) (k2 (a1, true)) (cn (decide (a1 < 0)) (k2 (a1, true)) (k2 (a1, (decide (a1 > 10000000)))))
def ref05_Reads_S : List AV → AV → Prop := fun args r => ∃ a0 a1, args = [eTClock a0, eI a1] ∧ W (ref05_Reads_F a0 a1) fun y => r = (.tup [eI y.1, eI y.2.1, eI y.2.2])
theorem ref05_Reads_ok {T : Tbl} (hT : TOk Try.prog T) (hpf : PfOk T PF) (h18 : T 18 = pureR ref05_Valid_S) (h37 : T 37 = pureR ref05_bounds_S) : FOk Try.prog 23 (pureR ref05_Reads_S) := by
  refine FOk_pure hT hpf Try.func23 rfl Try.ntmps23 Try.results23 (by decide) ?_
  rintro args r ⟨a0, a1, rfl, h⟩
  refine ⟨Nat.le_of_ble_eq_true rfl, ?_, ?_⟩
  · exact (loose_cons (lo_TClock _) (loose_cons (loose_int _ _) loose_nil))
  rw [ref05_Reads_F.eq_1] at h
  refine HT_fr DC_ok rfl fun K hK => ?_; (conv => whnf)
  refine hK _ _ _ ?_; clear hK K
  refine HT_seq ?_
  refine HT_fr DC_ok rfl fun K hK => ?_; (conv => whnf)
  replace h := W_jn h
  refine And.intro (Nat.le_of_ble_eq_true rfl) ?_; (conv => whnf)
  refine blkK_of rfl ?_; (conv => whnf)
  refine And.intro (Nat.le_of_ble_eq_true rfl) ?_; (conv => whnf)
  replace h := W_bd h
  refine ref05_Valid_call h18 h (WkL.refl _) (fun _ h => ?_); (conv => whnf)
  refine cond_lk h (fun _ h => ?_) (fun _ h => ?_) <;> (conv => whnf)
  · refine hK _ _ _ ?_; clear hK K
    refine HT_if fun K1 K2 hK1 hK2 => ?_; (conv => whnf)
    refine hK1 ?_; clear hK1 hK2 K1 K2
    replace h := W_cnT h
    refine HT_fr DC_ok rfl fun K hK => ?_; (conv => whnf)
    refine hK _ _ _ ?_; clear hK K
    refine HT_ret ?_
    refine Then_r ?_
    replace h := W_some h
    refine PostP_r DC_ok fun K hK => ?_; (conv => whnf)
    refine hK _ ?_; clear hK K
    cases h
    exact Wk.refl _
  refine cond_lk h (fun _ h => ?_) (fun _ h => ?_) <;> (conv => whnf)
  · refine hK _ _ _ ?_; clear hK K
    refine HT_if fun K1 K2 hK1 hK2 => ?_; (conv => whnf)
    refine hK1 ?_; clear hK1 hK2 K1 K2
    replace h := W_cnT h
    refine HT_fr DC_ok rfl fun K hK => ?_; (conv => whnf)
    refine hK _ _ _ ?_; clear hK K
    refine HT_ret ?_
    refine Then_r ?_
    replace h := W_some h
    refine PostP_r DC_ok fun K hK => ?_; (conv => whnf)
    refine hK _ ?_; clear hK K
    cases h
    exact Wk.refl _
  refine hK _ _ _ ?_; clear hK K
  refine HT_if fun K1 K2 hK1 hK2 => ?_; (conv => whnf)
  refine cond_lk h (fun _ h => ?_) (fun _ h => ?_)
  · refine hK1 ?_; clear hK1 hK2 K1 K2
    refine HT_fr DC_ok rfl fun K hK => ?_; (conv => whnf)
    refine hK _ _ _ ?_; clear hK K
    refine HT_ret ?_
    refine Then_r ?_
    replace h := W_some h
    refine PostP_r DC_ok fun K hK => ?_; (conv => whnf)
    refine hK _ ?_; clear hK K
    cases h
    exact Wk.refl _
  refine hK2 ?_; clear hK1 hK2 K1 K2
  refine HT_skip ?_
  refine Then_n ?_
  refine HT_fr DC_ok rfl fun K hK => ?_; (conv => whnf)
  refine hK _ _ _ ?_; clear hK K
  refine HT_fr DC_ok rfl fun K hK => ?_; (conv => whnf)
  refine hK _ _ _ ?_; clear hK K
  refine HT_seq ?_
  refine HT_block ?_
  replace h := W_bd h
  refine HT_lpK (body := ref05_Reads_b1 _ _) rfl h [1, 2] [2] [] (fun kl kh ids b s => ⟨ofL ([(7, eI s.1), (8, eI s.2)] ++ kl), ofH ([] ++ kh), b + 64⟩) ?_; (conv => whnf); refine And.intro ?_ (fun s m h => HT_st ?_)
  · refine weak_k ?_; (conv => whnf)
    exact And.intro rfl (And.intro (allL_c (WkR.wk (Wk.refl _) (loose_int _ _)) (allL_c (WkR.wk (Wk.refl _) (loose_int _ _)) (allL_c (WkR.wk (Wk.refl _) (loose_int _ _)) (allL_c (WkR.ptr (fun _ => rfl)) allL_n)))) (allL_c ⟨some _, rfl, BkR_c rfl (CkR_cons (WkR.wk (Wk.refl _) (loose_int _ _)) (CkR_cons (WkR.wk (Wk.refl _) (loose_lst fun _ => (lo_TReading _))) CkR_nil))⟩ allL_n))
  replace h := W_bref05_Reads_b1 (W_bd h)
  refine HT_seq ?_
  refine HT_fr DC_ok rfl fun K hK => ?_; (conv => whnf)
  refine hK _ _ _ ?_; clear hK K
  refine HT_if fun K1 K2 hK1 hK2 => ?_; (conv => whnf)
  refine cond_lk h (fun _ h => ?_) (fun _ h => ?_)
  · refine hK1 ?_; clear hK1 hK2 K1 K2
    refine HT_skip ?_
    refine Then_n ?_
    refine HT_block ?_
    refine HT_fr DC_ok rfl fun K hK => ?_; (conv => whnf)
    refine And.intro (by decide) ?_; (conv => whnf)
    refine hK _ _ _ ?_; clear hK K
    refine HT_fr DC_ok rfl fun K hK => ?_; (conv => whnf)
    refine And.intro (Nat.le_of_ble_eq_true rfl) ?_; (conv => whnf)
    refine blkK_of rfl ?_; (conv => whnf)
    refine And.intro (Nat.le_of_ble_eq_true rfl) ?_; (conv => whnf)
    replace h := W_bd h
    refine ref05_bounds_call h37 h (WkL.refl _) (fun _ h => ?_); (conv => whnf)
    refine hK _ _ _ ?_; clear hK K
    refine HT_fr DC_ok rfl fun K hK => ?_; (conv => whnf)
    refine hK _ _ _ ?_; clear hK K
    replace h := W_jn h
    refine HT_if fun K1 K2 hK1 hK2 => ?_; (conv => whnf)
    refine cond_lk h (fun _ h => ?_) (fun _ h => ?_)
    · refine hK1 ?_; clear hK1 hK2 K1 K2
      refine HT_f DC_ok rfl fun K hK => ?_; (conv => whnf)
      refine hK _ _ _ ?_; clear hK K
      refine InBlock_n ?_
      refine Then_n ?_
      replace h := W_xnx h
      refine ⟨_, h, ?_⟩
      refine weak_k ?_; (conv => whnf)
      exact And.intro rfl (And.intro (allL_c (WkR.wk (Wk.refl _) (loose_int _ _)) (allL_c (WkR.wk (Wk.refl _) (loose_int _ _)) (allL_c (WkR.wk (Wk.refl _) (loose_int _ _)) (allL_c (WkR.ptr (fun _ => rfl)) allL_n)))) (allL_c ⟨some _, rfl, BkR_c rfl (CkR_cons (WkR.wk (Wk.refl _) (loose_int _ _)) (CkR_cons (WkR.wk (Wk.refl _) (loose_lst fun _ => (lo_TReading _))) CkR_nil))⟩ allL_n))
    refine hK2 ?_; clear hK1 hK2 K1 K2
    refine HT_f DC_ok rfl fun K hK => ?_; (conv => whnf)
    refine hK _ _ _ ?_; clear hK K
    refine InBlock_n ?_
    refine Then_n ?_
    replace h := W_xnx h
    refine ⟨_, h, ?_⟩
    refine weak_k ?_; (conv => whnf)
    exact And.intro rfl (And.intro (allL_c (WkR.wk (Wk.refl _) (loose_int _ _)) (allL_c (WkR.wk (Wk.refl _) (loose_int _ _)) (allL_c (WkR.wk (Wk.refl _) (loose_int _ _)) (allL_c (WkR.ptr (fun _ => rfl)) allL_n)))) (allL_c ⟨some _, rfl, BkR_c rfl (CkR_cons (WkR.wk (Wk.refl _) (loose_int _ _)) (CkR_cons (WkR.wk (Wk.refl _) (loose_lst fun _ => (lo_TReading _))) CkR_nil))⟩ allL_n))
  refine hK2 ?_; clear hK1 hK2 K1 K2
  refine HT_exit ?_
  refine Then_e ?_
  refine Then_e ?_
  refine InBlock_e ?_
  replace h := W_xbk h
  replace h := W_inl h
  refine Then_n ?_
  refine HT_fr DC_ok rfl fun K hK => ?_; (conv => whnf)
  refine hK _ _ _ ?_; clear hK K
  refine HT_fr DC_ok rfl fun K hK => ?_; (conv => whnf)
  refine hK _ _ _ ?_; clear hK K
  refine HT_seq ?_
  refine HT_block ?_
  replace h := W_bd h
  refine HT_lpK (body := ref05_Reads_b2 _ _) rfl h [1, 2, 7] [2] [] (fun kl kh ids b s => ⟨ofL ([(8, eI s.1), (12, eI s.2)] ++ kl), ofH ([] ++ kh), b + 64⟩) ?_; (conv => whnf); refine And.intro ?_ (fun s m h => HT_st ?_)
  · refine weak_k ?_; (conv => whnf)
    exact And.intro rfl (And.intro (allL_c (WkR.wk (Wk.refl _) (loose_int _ _)) (allL_c (WkR.wk (Wk.refl _) (loose_int _ _)) (allL_c (WkR.wk (Wk.refl _) (loose_int _ _)) (allL_c (WkR.ptr (fun _ => rfl)) (allL_c (WkR.wk (Wk.refl _) (loose_int _ _)) allL_n))))) (allL_c ⟨some _, rfl, BkR_c rfl (CkR_cons (WkR.wk (Wk.refl _) (loose_int _ _)) (CkR_cons (WkR.wk (Wk.refl _) (loose_lst fun _ => (lo_TReading _))) CkR_nil))⟩ allL_n))
  replace h := W_bref05_Reads_b2 (W_bd h)
  refine HT_seq ?_
  refine HT_fr DC_ok rfl fun K hK => ?_; (conv => whnf)
  refine hK _ _ _ ?_; clear hK K
  refine HT_if fun K1 K2 hK1 hK2 => ?_; (conv => whnf)
  refine cond_lk h (fun _ h => ?_) (fun _ h => ?_)
  · refine hK1 ?_; clear hK1 hK2 K1 K2
    refine HT_skip ?_
    refine Then_n ?_
    refine HT_block ?_
    refine HT_fr DC_ok rfl fun K hK => ?_; (conv => whnf)
    refine And.intro (by decide) ?_; (conv => whnf)
    refine hK _ _ _ ?_; clear hK K
    refine HT_fr DC_ok rfl fun K hK => ?_; (conv => whnf)
    refine And.intro (Nat.le_of_ble_eq_true rfl) ?_; (conv => whnf)
    refine blkK_of rfl ?_; (conv => whnf)
    refine And.intro (Nat.le_of_ble_eq_true rfl) ?_; (conv => whnf)
    replace h := W_bd h
    refine ref05_bounds_call h37 h (WkL.refl _) (fun _ h => ?_); (conv => whnf)
    refine hK _ _ _ ?_; clear hK K
    refine HT_fr DC_ok rfl fun K hK => ?_; (conv => whnf)
    refine hK _ _ _ ?_; clear hK K
    replace h := W_jn h
    refine HT_if fun K1 K2 hK1 hK2 => ?_; (conv => whnf)
    refine cond_lk h (fun _ h => ?_) (fun _ h => ?_)
    · refine hK1 ?_; clear hK1 hK2 K1 K2
      refine HT_f DC_ok rfl fun K hK => ?_; (conv => whnf)
      refine hK _ _ _ ?_; clear hK K
      refine InBlock_n ?_
      refine Then_n ?_
      replace h := W_xnx h
      refine ⟨_, h, ?_⟩
      refine weak_k ?_; (conv => whnf)
      exact And.intro rfl (And.intro (allL_c (WkR.wk (Wk.refl _) (loose_int _ _)) (allL_c (WkR.wk (Wk.refl _) (loose_int _ _)) (allL_c (WkR.wk (Wk.refl _) (loose_int _ _)) (allL_c (WkR.ptr (fun _ => rfl)) (allL_c (WkR.wk (Wk.refl _) (loose_int _ _)) allL_n))))) (allL_c ⟨some _, rfl, BkR_c rfl (CkR_cons (WkR.wk (Wk.refl _) (loose_int _ _)) (CkR_cons (WkR.wk (Wk.refl _) (loose_lst fun _ => (lo_TReading _))) CkR_nil))⟩ allL_n))
    refine hK2 ?_; clear hK1 hK2 K1 K2
    refine HT_f DC_ok rfl fun K hK => ?_; (conv => whnf)
    refine hK _ _ _ ?_; clear hK K
    refine InBlock_n ?_
    refine Then_n ?_
    replace h := W_xnx h
    refine ⟨_, h, ?_⟩
    refine weak_k ?_; (conv => whnf)
    exact And.intro rfl (And.intro (allL_c (WkR.wk (Wk.refl _) (loose_int _ _)) (allL_c (WkR.wk (Wk.refl _) (loose_int _ _)) (allL_c (WkR.wk (Wk.refl _) (loose_int _ _)) (allL_c (WkR.ptr (fun _ => rfl)) (allL_c (WkR.wk (Wk.refl _) (loose_int _ _)) allL_n))))) (allL_c ⟨some _, rfl, BkR_c rfl (CkR_cons (WkR.wk (Wk.refl _) (loose_int _ _)) (CkR_cons (WkR.wk (Wk.refl _) (loose_lst fun _ => (lo_TReading _))) CkR_nil))⟩ allL_n))
  refine hK2 ?_; clear hK1 hK2 K1 K2
  refine HT_exit ?_
  refine Then_e ?_
  refine Then_e ?_
  refine InBlock_e ?_
  replace h := W_xbk h
  replace h := W_inl h
  refine Then_n ?_
  refine HT_seq ?_
  refine HT_fr DC_ok rfl fun K hK => ?_; (conv => whnf)
  refine hK _ _ _ ?_; clear hK K
  refine HT_if fun K1 K2 hK1 hK2 => ?_; (conv => whnf)
  refine cond_lk h (fun _ h => ?_) (fun _ h => ?_)
  · refine hK1 ?_; clear hK1 hK2 K1 K2
    refine HT_fr DC_ok rfl fun K hK => ?_; (conv => whnf)
    refine hK _ _ _ ?_; clear hK K
    refine HT_ret ?_
    refine Then_r ?_
    replace h := W_some h
    refine PostP_r DC_ok fun K hK => ?_; (conv => whnf)
    refine hK _ ?_; clear hK K
    cases h
    exact Wk.refl _
  refine hK2 ?_; clear hK1 hK2 K1 K2
  refine HT_skip ?_
  refine Then_n ?_
  refine HT_fr DC_ok rfl fun K hK => ?_; (conv => whnf)
  refine hK _ _ _ ?_; clear hK K
  refine HT_ret ?_
  replace h := W_some h
  refine PostP_r DC_ok fun K hK => ?_; (conv => whnf)
  refine hK _ ?_; clear hK K
  cases h
  exact Wk.refl _
theorem ref05_Reads_call {T : Tbl} (hT : T 23 = pureR ref05_Reads_S) {args : List AV} {hp : Heap} {id : Nat} {k : AV → Prop} {a0 : TClock} {a1 : Int} {Φ : Int × Int × Int → Prop} (h : W (ref05_Reads_F a0 a1) Φ) (hw : WkL args [eTClock a0, eI a1]) (hk : ∀ y, Φ y → k (.tup [eI y.1, eI y.2.1, eI y.2.2])) : callpK T 23 args hp id k := by
  obtain ⟨y, e, hy⟩ := W_inv h
  exact callpK_pure hT ⟨a0, a1, rfl, W_of e rfl⟩ (by exact loose_tup (loose_cons (loose_int _ _) (loose_cons (loose_int _ _) (loose_cons (loose_int _ _) loose_nil)))) hw (hk y hy)
end Go.Proofs.Ythbonailomfjlaa
