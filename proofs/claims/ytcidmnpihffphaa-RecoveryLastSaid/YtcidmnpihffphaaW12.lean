import Derived.Test.YtcidmnpihffphaaW11
import Derived.Test.YtcidmnpihffphaaEng1
namespace Go.Proofs.Ytcidmnpihffphaa
open Go Go.Eng
set_option maxHeartbeats 0
set_option maxRecDepth 100000
def okM (m : GM Int) : Prop := (∀ p ∈ m.es, p.1 < m.clk ∧ 0 ≤ p.2.1) ∧ (m.es.map (·.1)).Nodup
instance (m : GM Int) : Decidable (okM m) := by unfold okM; infer_instance
def safeStep (S s k v : Int) : Int := if v > S ∧ (s < 0 ∨ k < s) then k else s
def safe_b (S s k v : Int) : Option Int := jn (fun p : Bool => cn p (some k) (some s)) fun kk => cn (decide (v > S)) (cn (decide (s < 0)) (kk true) (kk (decide (k < s)))) (kk false)
theorem safe_b_eq (S s k v : Int) : safe_b S s k v = some (safeStep S s k v) := by
  unfold safe_b safeStep
  simp only [jn_d, cn_dec]
  by_cases h1 : v > S
  · by_cases h2 : s < 0
    · simp [h1, h2, cn]
    · by_cases h3 : k < s <;> simp [h1, h2, h3, cn]
  · simp [h1, cn]
theorem safe_comm {S : Int} {x y : Nat × Int × Int} (hx : 0 ≤ x.2.1) (hy : 0 ≤ y.2.1) (z : Int) : safeStep S (safeStep S z x.2.1 x.2.2) y.2.1 y.2.2 = safeStep S (safeStep S z y.2.1 y.2.2) x.2.1 x.2.2 := by
  unfold safeStep
  repeat' split
  all_goals omega
theorem safe_perm {S : Int} {m : GM Int} (hg : okM m) {L : List (Nat × Int × Int)} (h : L.Perm m.es) : L.foldl (fun s p => safeStep S s p.2.1 p.2.2) (-1) = m.es.foldl (fun s p => safeStep S s p.2.1 p.2.2) (-1) :=
  h.foldl_eq' (fun x hx y hy z => safe_comm (hg.1 x (h.mem_iff.1 hx)).2 (hg.1 y (h.mem_iff.1 hy)).2 z) _
def recovery_Safe_F (a0 : TRegion) (a1 : List TAttempt) : Option (Int × Bool) := bd (recovery_loads_F a0 a1) fun y => mo y (some ((-1), false)) fun m =>
  gd (okM m) (some (m.es.foldl (fun s p => safeStep a0.Signals s p.2.1 p.2.2) (-1), decide (m.es.foldl (fun s p => safeStep a0.Signals s p.2.1 p.2.2) (-1) < 0)))
def recovery_Safe_S : List AV → AV → Prop := fun args r => ∃ a0 a1, args = [eTRegion a0, (eL 3 eTAttempt default) a1] ∧ W (recovery_Safe_F a0 a1) fun y => r = (.tup [eI y.1, eB y.2])
theorem recovery_Safe_ok {T : Tbl} (hT : TOk Try.prog T) (hpf : PfOk T PF) (h44 : T 44 = loads_R) : FOk Try.prog 20 (pureR recovery_Safe_S) := by
  refine FOk_pure hT hpf Try.func20 rfl Try.ntmps20 Try.results20 (by decide) ?_
  rintro args r ⟨a0, a1, rfl, h⟩
  refine ⟨Nat.le_of_ble_eq_true rfl, ?_, ?_⟩
  · exact (loose_cons (lo_TRegion _) (loose_cons (loose_lst fun _ => (lo_TAttempt _)) loose_nil))
  rw [recovery_Safe_F.eq_1] at h
  refine HT_fr DC_ok rfl fun K hK => ?_; (conv => whnf)
  refine hK _ _ _ ?_; clear hK K
  refine HT_fr DC_ok rfl fun K hK => ?_; (conv => whnf)
  refine And.intro (Nat.le_of_ble_eq_true rfl) ?_; (conv => whnf)
  refine blkK_of rfl ?_; (conv => whnf)
  refine And.intro (Nat.le_of_ble_eq_true rfl) ?_; (conv => whnf)
  refine callsK_loads h44 h (WkL_cons (Wk.refl _) (WkL_cons (Wk.refl _) WkL_nil)) (fun h => ?_) (fun m h => ?_) <;> (conv => whnf)
  · refine hK _ _ _ ?_; clear hK K
    refine HT_fr DC_ok rfl fun K hK => ?_; (conv => whnf)
    refine hK _ _ _ ?_; clear hK K
    refine HT_seq ?_
    refine HT_rmapN ⟨rfl, rfl, rfl⟩ ⟨rfl, rfl, rfl⟩ ⟨rfl, rfl, rfl⟩ ⟨rfl, rfl, rfl⟩ Try.underlying72 (by decide) rfl ?_
    refine Then_n ?_
    refine HT_fr DC_ok rfl fun K hK => ?_; (conv => whnf)
    refine hK _ _ _ ?_; clear hK K
    refine HT_ret ?_
    replace h := W_some h
    refine PostP_r DC_ok fun K hK => ?_; (conv => whnf)
    refine hK _ ?_; clear hK K
    cases h
    exact Wk.refl _
  refine hK _ _ _ ?_; clear hK K
  refine HT_fr DC_ok rfl fun K hK => ?_; (conv => whnf)
  refine hK _ _ _ ?_; clear hK K
  refine HT_seq ?_
  refine gd_lk_u h fun hg h => ?_
  refine HT_rmap (m := m) (S := Int) rfl rfl ⟨rfl, rfl, rfl⟩ ⟨rfl, rfl, rfl⟩ ⟨rfl, rfl, rfl⟩ ⟨rfl, rfl, rfl⟩ ⟨rfl, rfl, rfl⟩ ⟨rfl, rfl, rfl⟩ ⟨rfl, rfl, rfl⟩ ⟨rfl, rfl, rfl⟩ ⟨rfl, rfl, rfl⟩ Try.underlying72 (by decide) (by decide) rfl rfl ⟨fun p hp => (hg.1 p hp).1, hg.2⟩
    (fun s => ⟨ofL [(2, .ptr 33 0), (7, eB true), (8, eI s), (18, .ptr 63 0)], ofH [(33, .cells [eL 2 eTGrowth default a0.Steps, eI a0.Signals])], 4096⟩) (-1) (safeStep a0.Signals) ?_ (fun _ => rfl) (fun _ => ⟨rfl, rfl, rfl, rfl, rfl⟩) ?_ ?_
  · refine weak_kN ?_; (conv => whnf)
    exact And.intro rfl (And.intro (allL_c (WkR.ptr (fun _ => rfl)) (allL_c (WkR.wk (Wk.refl _) (loose_bool _)) (allL_c (WkR.wk (Wk.refl _) (loose_int _ _)) (allL_c (WkR.ptr (fun _ => rfl)) allL_n)))) (allL_c ⟨some _, rfl, BkR_c rfl (CkR_cons (WkR.wk (Wk.refl _) (loose_lst fun _ => (lo_TGrowth _))) (CkR_cons (WkR.wk (Wk.refl _) (loose_int _ _)) CkR_nil))⟩ allL_n))
  · intro s b k v hp
    replace h : W (safe_b a0.Signals s k v) (fun z => z = safeStep a0.Signals s k v) := W_of (safe_b_eq _ _ _ _) rfl
    rw [safe_b.eq_1] at h
    refine HT_fr DC_ok rfl fun K hK => ?_; (conv => whnf)
    replace h := W_jn h
    refine And.intro (Nat.le_of_ble_eq_true rfl) ?_; (conv => whnf)
    refine blkK_of rfl ?_; (conv => whnf)
    refine getK_of rfl ?_; (conv => whnf)
    refine cond_lk h (fun _ h => ?_) (fun _ h => ?_) <;> (conv => whnf)
    · refine cond_lk h (fun _ h => ?_) (fun _ h => ?_) <;> (conv => whnf)
      · refine hK _ _ _ ?_; clear hK K
        refine HT_if fun K1 K2 hK1 hK2 => ?_; (conv => whnf)
        refine hK1 ?_; clear hK1 hK2 K1 K2
        replace h := W_cnT h
        replace h := W_some h
        refine HT_f DC_ok rfl fun K hK => ?_; (conv => whnf)
        refine hK _ _ _ ?_; clear hK K
        refine ⟨.inl rfl, ?_⟩
        rw [← h]
        refine weak_k ?_; (conv => whnf)
        exact And.intro rfl (And.intro (allL_c (WkR.ptr (fun _ => rfl)) (allL_c (WkR.wk (Wk.refl _) (loose_bool _)) (allL_c (WkR.wk (Wk.refl _) (loose_int _ _)) (allL_c (WkR.ptr (fun _ => rfl)) allL_n)))) (allL_c ⟨some _, rfl, BkR_c rfl (CkR_cons (WkR.wk (Wk.refl _) (loose_lst fun _ => (lo_TGrowth _))) (CkR_cons (WkR.wk (Wk.refl _) (loose_int _ _)) CkR_nil))⟩ allL_n))
      · refine hK _ _ _ ?_; clear hK K
        refine HT_if fun K1 K2 hK1 hK2 => ?_; (conv => whnf)
        refine cond_lk h (fun _ h => ?_) (fun _ h => ?_)
        · refine hK1 ?_; clear hK1 hK2 K1 K2
          replace h := W_some h
          refine HT_f DC_ok rfl fun K hK => ?_; (conv => whnf)
          refine hK _ _ _ ?_; clear hK K
          refine ⟨.inl rfl, ?_⟩
          rw [← h]
          refine weak_k ?_; (conv => whnf)
          exact And.intro rfl (And.intro (allL_c (WkR.ptr (fun _ => rfl)) (allL_c (WkR.wk (Wk.refl _) (loose_bool _)) (allL_c (WkR.wk (Wk.refl _) (loose_int _ _)) (allL_c (WkR.ptr (fun _ => rfl)) allL_n)))) (allL_c ⟨some _, rfl, BkR_c rfl (CkR_cons (WkR.wk (Wk.refl _) (loose_lst fun _ => (lo_TGrowth _))) (CkR_cons (WkR.wk (Wk.refl _) (loose_int _ _)) CkR_nil))⟩ allL_n))
        · refine hK2 ?_; clear hK1 hK2 K1 K2
          replace h := W_some h
          refine HT_skip ?_
          refine ⟨.inl rfl, ?_⟩
          rw [← h]
          refine weak_k ?_; (conv => whnf)
          exact And.intro rfl (And.intro (allL_c (WkR.ptr (fun _ => rfl)) (allL_c (WkR.wk (Wk.refl _) (loose_bool _)) (allL_c (WkR.wk (Wk.refl _) (loose_int _ _)) (allL_c (WkR.ptr (fun _ => rfl)) allL_n)))) (allL_c ⟨some _, rfl, BkR_c rfl (CkR_cons (WkR.wk (Wk.refl _) (loose_lst fun _ => (lo_TGrowth _))) (CkR_cons (WkR.wk (Wk.refl _) (loose_int _ _)) CkR_nil))⟩ allL_n))
    · refine hK _ _ _ ?_; clear hK K
      refine HT_if fun K1 K2 hK1 hK2 => ?_; (conv => whnf)
      refine hK2 ?_; clear hK1 hK2 K1 K2
      replace h := W_cnF h
      replace h := W_some h
      refine HT_skip ?_
      refine ⟨.inl rfl, ?_⟩
      rw [← h]
      refine weak_k ?_; (conv => whnf)
      exact And.intro rfl (And.intro (allL_c (WkR.ptr (fun _ => rfl)) (allL_c (WkR.wk (Wk.refl _) (loose_bool _)) (allL_c (WkR.wk (Wk.refl _) (loose_int _ _)) (allL_c (WkR.ptr (fun _ => rfl)) allL_n)))) (allL_c ⟨some _, rfl, BkR_c rfl (CkR_cons (WkR.wk (Wk.refl _) (loose_lst fun _ => (lo_TGrowth _))) (CkR_cons (WkR.wk (Wk.refl _) (loose_int _ _)) CkR_nil))⟩ allL_n))
  · intro L' hL
    refine Then_n ?_
    rw [safe_perm hg hL]
    refine HT_fr DC_ok rfl fun K hK => ?_; (conv => whnf)
    refine hK _ _ _ ?_; clear hK K
    refine HT_ret ?_
    replace h := W_some h
    refine PostP_r DC_ok fun K hK => ?_; (conv => whnf)
    refine hK _ ?_; clear hK K
    cases h
    exact Wk.refl _
theorem recovery_Safe_call {T : Tbl} (hT : T 20 = pureR recovery_Safe_S) {args : List AV} {hp : Heap} {id : Nat} {k : AV → Prop} {a0 : TRegion} {a1 : List TAttempt} {Φ : Int × Bool → Prop} (h : W (recovery_Safe_F a0 a1) Φ) (hw : WkL args [eTRegion a0, (eL 3 eTAttempt default) a1]) (hk : ∀ y, Φ y → k (.tup [eI y.1, eB y.2])) : callpK T 20 args hp id k := by
  obtain ⟨y, e, hy⟩ := W_inv h
  exact callpK_pure hT ⟨a0, a1, rfl, W_of e rfl⟩ (by exact loose_tup (loose_cons (loose_int _ _) (loose_cons (loose_bool _) loose_nil))) hw (hk y hy)
end Go.Proofs.Ytcidmnpihffphaa
