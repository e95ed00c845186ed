import Derived.Test.YtcidmnpihffphaaW3
namespace Go.Proofs.Ytcidmnpihffphaa
open Go Go.Eng
set_option maxHeartbeats 0
set_option maxRecDepth 100000
/-! recovery.ordered$1 -/
def recovery_ordered_1_F (a0 : TAttempt) (a1 : TAttempt) : Option Int := bd (cmp_Compare_int_F a0.At a1.At) fun y1 => bd (cmp_Compare_int_F a0.Caller a1.Caller) fun y2 =>
    lt ([y1, y2] : List Int) fun l3 => bd (cmp_Or_int_F l3) fun y4 => some y4
def recovery_ordered_1_S : List AV → AV → Prop := fun args r => ∃ a0 a1, args = [eTAttempt a0, eTAttempt a1] ∧ W (recovery_ordered_1_F a0 a1) fun y => r = (eI y)
theorem recovery_ordered_1_ok {T : Tbl} (hT : TOk Try.prog T) (hpf : PfOk T PF) (h50 : T 50 = pureR cmp_Compare_int_S) (h55 : T 55 = pureR cmp_Or_int_S) : FOk Try.prog 54 (pureR recovery_ordered_1_S) := by
  refine FOk_pure hT hpf Try.func54 rfl Try.ntmps54 Try.results54 (by decide) ?_
  rintro args r ⟨a0, a1, rfl, h⟩
  refine ⟨Nat.le_of_ble_eq_true rfl, ?_, ?_⟩
  · exact (loose_cons (lo_TAttempt _) (loose_cons (lo_TAttempt _) loose_nil))
  rw [recovery_ordered_1_F.eq_1] at h
  refine HT_fr DC_ok rfl fun K hK => ?_; (conv => whnf)
  refine hK _ _ _ ?_; clear hK K
  refine HT_fd DC_ok mix_ok rfl (by kernel_rfl) fun K hK => ?_; (conv => whnf)
  refine And.intro (Nat.le_of_ble_eq_true rfl) ?_; (conv => whnf)
  refine blkK_of rfl ?_; (conv => whnf)
  refine getK_of rfl ?_; (conv => whnf)
  refine And.intro (Nat.le_of_ble_eq_true rfl) ?_; (conv => whnf)
  refine blkK_of rfl ?_; (conv => whnf)
  refine getK_of rfl ?_; (conv => whnf)
  replace h := W_bd h
  refine cmp_Compare_int_call h50 h (WkL.refl _) (fun _ h => ?_); (conv => whnf)
  refine And.intro (Nat.le_of_ble_eq_true rfl) ?_; (conv => whnf)
  refine blkK_of rfl ?_; (conv => whnf)
  refine getK_of rfl ?_; (conv => whnf)
  refine And.intro (Nat.le_of_ble_eq_true rfl) ?_; (conv => whnf)
  refine blkK_of rfl ?_; (conv => whnf)
  refine getK_of rfl ?_; (conv => whnf)
  replace h := W_bd h
  refine cmp_Compare_int_call h50 h (WkL.refl _) (fun _ h => ?_); (conv => whnf)
  refine lt_lk (enc := eI) (d := default) DC_ok h rfl rfl rfl ⟨Nat.le_of_ble_eq_true rfl, Nat.le_of_ble_eq_true rfl, rfl⟩ rfl ⟨⟨rfl, rfl, rfl⟩, ⟨⟨rfl, rfl, rfl⟩, trivial⟩⟩ (fun h => ?_); (conv => whnf)
  replace h := W_bd h
  refine cmp_Or_int_call h55 h (WkL_cons Wk_free WkL_nil) (fun _ h => ?_); (conv => whnf)
  refine hK _ _ _ ?_; clear hK K
  refine HT_ret ?_
  replace h := W_some h
  refine PostP_r DC_ok fun K hK => ?_; (conv => whnf)
  refine hK _ ?_; clear hK K
  cases h
  exact Wk.refl _
theorem recovery_ordered_1_call {T : Tbl} (hT : T 54 = pureR recovery_ordered_1_S) {args : List AV} {hp : Heap} {id : Nat} {k : AV → Prop} {a0 : TAttempt} {a1 : TAttempt} {Φ : Int → Prop} (h : W (recovery_ordered_1_F a0 a1) Φ) (hw : WkL args [eTAttempt a0, eTAttempt a1]) (hk : ∀ y, Φ y → k (eI y)) : callpK T 54 args hp id k := by
  obtain ⟨y, e, hy⟩ := W_inv h
  exact callpK_pure hT ⟨a0, a1, rfl, W_of e rfl⟩ (by exact (loose_int _ _)) hw (hk y hy)
theorem recovery_ordered_1_calls {T : Tbl} (hT : T 54 = pureR recovery_ordered_1_S) {args : List AV} {hp : Heap} {id : Nat} {k : AV → Heap → Prop} {a0 : TAttempt} {a1 : TAttempt} {Φ : Int → Prop} (h : W (recovery_ordered_1_F a0 a1) Φ) (hw : WkL args [eTAttempt a0, eTAttempt a1]) (hk : ∀ y, Φ y → k (eI y) hp) : callsK T 54 args hp id k := by
  obtain ⟨y, e, hy⟩ := W_inv h
  exact callsK_pure hT ⟨a0, a1, rfl, W_of e rfl⟩ (by exact (loose_int _ _)) hw (hk y hy)
end Go.Proofs.Ytcidmnpihffphaa
