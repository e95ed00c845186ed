import Derived.Test.YtcidmnpihffphaaS
namespace Go.Proofs.Ytcidmnpihffphaa
open Go Go.Eng
set_option maxHeartbeats 0
set_option maxRecDepth 100000
/-! recovery.sorted[int] -/
def recovery_sorted_int_50_F (a0 : List Int) : Option (List Int) := gd (a0.length ≤ 1048576) (lt a0 fun m1 => gd (m1.length < 4611686018427387904) (lt (sortF cmpI m1) fun m2 =>
    some m2))
def recovery_sorted_int_50_S : List AV → AV → Prop := fun args r => ∃ a0, args = [(eL 1 eI default) a0, .fn 50 [] []] ∧ W (recovery_sorted_int_50_F a0) fun y => r = ((eL 1 eI default) y)
theorem recovery_sorted_int_50_ok {T : Tbl} (hT : TOk Try.prog T) (hpf : PfOk T PF) (h59 : T 59 = cloneR 1 eI default) (h60 : T 60 = blkR 1 (sortS eI (· = []) (fun _ => cmpI) 50)) : FOk Try.prog 49 (pureR recovery_sorted_int_50_S) := by
  refine FOk_pure hT hpf Try.func49 rfl Try.ntmps49 Try.results49 (by decide) ?_
  rintro args r ⟨a0, rfl, h⟩
  refine ⟨Nat.le_of_ble_eq_true rfl, ?_, ?_⟩
  · exact (loose_cons (loose_lst fun _ => (loose_int _ _)) (loose_cons (loose_fn loose_nil loose_nil) loose_nil))
  rw [recovery_sorted_int_50_F.eq_1] at h
  refine HT_fr DC_ok rfl fun K hK => ?_; (conv => whnf)
  refine hK _ _ _ ?_; clear hK K
  refine HT_fr DC_ok rfl fun K hK => ?_; (conv => whnf)
  refine gd_lk_u h fun hg h => ?_
  replace h := W_lt h
  refine callsK_clone h59 (WkL_cons (Wk.refl _) WkL_nil) hg ?_; (conv => whnf)
  refine hK _ _ _ ?_; clear hK K
  refine HT_fr DC_ok rfl fun K hK => ?_; (conv => whnf)
  refine gd_lk_u h fun hg h => ?_
  replace h := W_lt h
  refine callsK_blk h60 (WkL.refl _) rfl (⟨_, [], rfl, rfl, hg, rfl, rfl, rfl, rfl⟩) ?_; (conv => whnf)
  refine hK _ _ _ ?_; clear hK K
  refine HT_fr DC_ok rfl fun K hK => ?_; (conv => whnf)
  refine hK _ _ _ ?_; clear hK K
  refine HT_frzSK 4 (enc := eI) (e := 3) default (ElOk_one DC_ok rfl rfl rfl (fun _ => ⟨rfl, rfl⟩)) ?_; (conv => whnf); refine ⟨_, _, rfl, (sortF_len _ cmpI_swo _).symm, rfl, ?_⟩
  refine HT_ret ?_
  replace h := W_some h
  refine PostP_r DC_ok fun K hK => ?_; (conv => whnf)
  refine hK _ ?_; clear hK K
  cases h
  exact Wk.refl _
def recovery_sorted_int_S : List AV → AV → Prop := fun args r => recovery_sorted_int_50_S args r
theorem recovery_sorted_int_50_call {T : Tbl} (hT : T 49 = pureR recovery_sorted_int_S) {args : List AV} {hp : Heap} {id : Nat} {k : AV → Prop} {a0 : List Int} {Φ : List Int → Prop} (h : W (recovery_sorted_int_50_F a0) Φ) (hw : WkL args [(eL 1 eI default) a0, .fn 50 [] []]) (hk : ∀ y, Φ y → k ((eL 1 eI default) y)) : callpK T 49 args hp id k := by
  obtain ⟨y, e, hy⟩ := W_inv h
  exact callpK_pure hT ⟨a0, rfl, W_of e rfl⟩ (by exact (loose_lst fun _ => (loose_int _ _))) hw (hk y hy)
theorem recovery_sorted_int_ok {T : Tbl} (hT : TOk Try.prog T) (hpf : PfOk T PF) (h59 : T 59 = cloneR 1 eI default) (h60 : T 60 = blkR 1 (sortS eI (· = []) (fun _ => cmpI) 50)) : FOk Try.prog 49 (pureR recovery_sorted_int_S) := (recovery_sorted_int_50_ok hT hpf h59 h60)
/-! recovery.sorted[api.Attempt] -/
def recovery_sorted_Attempt_54_F (a0 : List TAttempt) : Option (List TAttempt) := gd (a0.length ≤ 1048576) (lt a0 fun m1 =>
    gd (m1.length < 4611686018427387904) (lt (sortF attCmp m1) fun m2 => some m2))
def recovery_sorted_Attempt_54_S : List AV → AV → Prop := fun args r => ∃ a0, args = [(eL 3 eTAttempt default) a0, .fn 54 [] []] ∧ W (recovery_sorted_Attempt_54_F a0) fun y => r = ((eL 3 eTAttempt default) y)
theorem recovery_sorted_Attempt_54_ok {T : Tbl} (hT : TOk Try.prog T) (hpf : PfOk T PF) (h62 : T 62 = cloneR 3 eTAttempt default) (h63 : T 63 = blkR 3 (sortS eTAttempt (· = []) (fun _ => attCmp) 54)) : FOk Try.prog 53 (pureR recovery_sorted_Attempt_54_S) := by
  refine FOk_pure hT hpf Try.func53 rfl Try.ntmps53 Try.results53 (by decide) ?_
  rintro args r ⟨a0, rfl, h⟩
  refine ⟨Nat.le_of_ble_eq_true rfl, ?_, ?_⟩
  · exact (loose_cons (loose_lst fun _ => (lo_TAttempt _)) (loose_cons (loose_fn loose_nil loose_nil) loose_nil))
  rw [recovery_sorted_Attempt_54_F.eq_1] at h
  refine HT_fr DC_ok rfl fun K hK => ?_; (conv => whnf)
  refine hK _ _ _ ?_; clear hK K
  refine HT_fr DC_ok rfl fun K hK => ?_; (conv => whnf)
  refine gd_lk_u h fun hg h => ?_
  replace h := W_lt h
  refine callsK_clone h62 (WkL_cons (Wk.refl _) WkL_nil) hg ?_; (conv => whnf)
  refine hK _ _ _ ?_; clear hK K
  refine HT_fr DC_ok rfl fun K hK => ?_; (conv => whnf)
  refine gd_lk_u h fun hg h => ?_
  replace h := W_lt h
  refine callsK_blk h63 (WkL.refl _) rfl (⟨_, [], rfl, rfl, hg, rfl, rfl, rfl, rfl⟩) ?_; (conv => whnf)
  refine hK _ _ _ ?_; clear hK K
  refine HT_fr DC_ok rfl fun K hK => ?_; (conv => whnf)
  refine hK _ _ _ ?_; clear hK K
  refine HT_frzSK 4 (enc := eTAttempt) (e := 58) default (ElOk_agg DC_ok rfl rfl (fun _ => rfl) (fun _ => rfl)) ?_; (conv => whnf); refine ⟨_, _, rfl, (sortF_len _ attCmp_swo _).symm, rfl, ?_⟩
  refine HT_ret ?_
  replace h := W_some h
  refine PostP_r DC_ok fun K hK => ?_; (conv => whnf)
  refine hK _ ?_; clear hK K
  cases h
  exact Wk.refl _
def recovery_sorted_Attempt_S : List AV → AV → Prop := fun args r => recovery_sorted_Attempt_54_S args r
theorem recovery_sorted_Attempt_54_call {T : Tbl} (hT : T 53 = pureR recovery_sorted_Attempt_S) {args : List AV} {hp : Heap} {id : Nat} {k : AV → Prop} {a0 : List TAttempt} {Φ : List TAttempt → Prop} (h : W (recovery_sorted_Attempt_54_F a0) Φ) (hw : WkL args [(eL 3 eTAttempt default) a0, .fn 54 [] []]) (hk : ∀ y, Φ y → k ((eL 3 eTAttempt default) y)) : callpK T 53 args hp id k := by
  obtain ⟨y, e, hy⟩ := W_inv h
  exact callpK_pure hT ⟨a0, rfl, W_of e rfl⟩ (by exact (loose_lst fun _ => (lo_TAttempt _))) hw (hk y hy)
theorem recovery_sorted_Attempt_ok {T : Tbl} (hT : TOk Try.prog T) (hpf : PfOk T PF) (h62 : T 62 = cloneR 3 eTAttempt default) (h63 : T 63 = blkR 3 (sortS eTAttempt (· = []) (fun _ => attCmp) 54)) : FOk Try.prog 53 (pureR recovery_sorted_Attempt_S) := (recovery_sorted_Attempt_54_ok hT hpf h62 h63)
/-! recovery.ordered -/
def recovery_ordered_F (a0 : List TAttempt) : Option (List TAttempt) := bd (recovery_sorted_Attempt_54_F a0) fun y1 => some y1
def recovery_ordered_S : List AV → AV → Prop := fun args r => ∃ a0, args = [(eL 3 eTAttempt default) a0] ∧ W (recovery_ordered_F a0) fun y => r = ((eL 3 eTAttempt default) y)
theorem recovery_ordered_ok {T : Tbl} (hT : TOk Try.prog T) (hpf : PfOk T PF) (h53 : T 53 = pureR recovery_sorted_Attempt_S) : FOk Try.prog 41 (pureR recovery_ordered_S) := by
  refine FOk_pure hT hpf Try.func41 rfl Try.ntmps41 Try.results41 (by decide) ?_
  rintro args r ⟨a0, rfl, h⟩
  refine ⟨Nat.le_of_ble_eq_true rfl, ?_, ?_⟩
  · exact (loose_cons (loose_lst fun _ => (lo_TAttempt _)) loose_nil)
  rw [recovery_ordered_F.eq_1] at h
  refine HT_fr DC_ok rfl fun K hK => ?_; (conv => whnf)
  refine hK _ _ _ ?_; clear hK K
  refine HT_fr DC_ok rfl fun K hK => ?_; (conv => whnf)
  replace h := W_bd h
  refine recovery_sorted_Attempt_54_call h53 h (WkL.refl _) (fun _ h => ?_); (conv => whnf)
  refine hK _ _ _ ?_; clear hK K
  refine HT_ret ?_
  replace h := W_some h
  refine PostP_r DC_ok fun K hK => ?_; (conv => whnf)
  refine hK _ ?_; clear hK K
  cases h
  exact Wk.refl _
theorem recovery_ordered_call {T : Tbl} (hT : T 41 = pureR recovery_ordered_S) {args : List AV} {hp : Heap} {id : Nat} {k : AV → Prop} {a0 : List TAttempt} {Φ : List TAttempt → Prop} (h : W (recovery_ordered_F a0) Φ) (hw : WkL args [(eL 3 eTAttempt default) a0]) (hk : ∀ y, Φ y → k ((eL 3 eTAttempt default) y)) : callpK T 41 args hp id k := by
  obtain ⟨y, e, hy⟩ := W_inv h
  exact callpK_pure hT ⟨a0, rfl, W_of e rfl⟩ (by exact (loose_lst fun _ => (lo_TAttempt _))) hw (hk y hy)
end Go.Proofs.Ytcidmnpihffphaa
