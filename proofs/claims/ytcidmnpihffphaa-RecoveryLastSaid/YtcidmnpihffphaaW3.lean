import Derived.Test.YtcidmnpihffphaaW2
namespace Go.Proofs.Ytcidmnpihffphaa
open Go Go.Eng
set_option maxHeartbeats 0
set_option maxRecDepth 100000
theorem clone_end {M : List (Nat × Nat)} {q k n : Nat} {b : AB} {α : Type} {ce : α → List AV} {l : List α} {hp : Heap} (h1 : [q][k]? = some n) (h2 : [AB.cells (flE ce l)][k]? = some b) (h : hp q = some (.cells (flE ce l))) (hl : ∀ x, ∀ a ∈ ce x, a.loose) : ∃ b0, hp n = some b0 ∧ BkX (WkB M) b0 b := by
  cases k with
  | zero => simp only [List.getElem?_cons_zero, Option.some.injEq] at h1 h2; subst h1 h2; exact ⟨_, h, BkX_fl hl l⟩
  | succ k => simp at h1
/-! slices.Clone: int -/
theorem slices_Clone_int_ok {T : Tbl} (hT : TOk Try.prog T) (hpf : PfOk T PF) : FOk Try.prog 59 (cloneR 1 eI default) := by
  refine FOk_anc hT hpf Try.func59 rfl Try.ntmps59 Try.results59 (by decide) ?_
  rintro args H base r H' ⟨l, rfl, hl, rfl, rfl⟩
  refine ⟨[], [eL 1 eI default l], [], [], [.cells (flE (ceE eI) l)], Nat.le_of_ble_eq_true rfl, Nat.zero_le _, Nat.le_of_ble_eq_true rfl, .nil, rfl, rfl, .cons (WkA_loose (loose_lst fun _ => (loose_int _ _))) .nil, (fun j i b h => by cases h), (fun k b h => ?_), (fun j => rfl), (fun i b h => ?_), ?_⟩
  · cases k with
    | zero => cases h; rfl
    | succ k => cases h
  · by_cases e : i = base
    · subst e; rw [upd_same] at h; exact .inr (.inr ⟨0, rfl, h⟩)
    · rw [upd_other _ _ e] at h; exact .inl ⟨by simp, h⟩
  refine HT_fr DC_ok rfl fun K hK => ?_; (conv => whnf)
  refine hK _ _ _ ?_; clear hK K
  refine HT_seq ?_
  refine HT_isnil rfl rfl rfl rfl rfl rfl Try.underlying47 rfl rfl fun b hb => ?_
  cases b
  · refine HT_if fun K1 K2 hK1 hK2 => ?_; (conv => whnf)
    refine hK2 ?_; clear hK1 hK2 K1 K2
    refine HT_skip ?_
    refine Then_n ?_
    refine HT_fr DC_ok rfl fun K hK => ?_; (conv => whnf)
    refine lt_lk (enc := eI) (d := default) (l := []) (f := some) (Φ := fun _ => True) DC_ok (W_of (a := []) (by unfold lt; rfl) trivial) rfl rfl rfl ⟨Nat.le_of_ble_eq_true rfl, Nat.le_of_ble_eq_true rfl, rfl⟩ rfl trivial (fun _ => ?_); (conv => whnf)
    refine apcf_lk (enc := eI) (d := default) DC_ok rfl rfl rfl ⟨rfl, Nat.le_of_ble_eq_true rfl, Nat.le_of_ble_eq_true rfl, Nat.le_of_ble_eq_true rfl, rfl⟩ (fun _ => rfl) (fun _ => nofun) hl ?_; (conv => whnf)
    refine hK _ _ _ ?_; clear hK K
    refine HT_ret ?_
    refine ⟨_, [256], rfl, by simp, by simp, rfl, WkB_so (by simp [mm]), fun j b h => by simp at h, fun k n b h1 h2 => ?_⟩; exact clone_end h1 h2 rfl (fun _ => (loose_cons (loose_int _ _) loose_nil))
  refine HT_if fun K1 K2 hK1 hK2 => ?_; (conv => whnf)
  refine hK1 ?_; clear hK1 hK2 K1 K2
  refine HT_fr DC_ok rfl fun K hK => ?_; (conv => whnf)
  refine hK _ _ _ ?_; clear hK K
  have hn := List.length_eq_zero_iff.1 (hb rfl)
  subst hn
  refine HT_weak rfl (σ' := ⟨ofL [(2, .so 64 0 0 1)], ofH [(64, .cells [])], 1024⟩) (weak_of [(64, none)] ⟨WkR.nilso (fun _ => rfl), trivial⟩ ⟨⟨_, rfl, BkR_n⟩, trivial⟩ rfl) ?_
  refine HT_ret ?_
  refine Then_r ?_
  refine ⟨_, [64], rfl, by simp, by simp, rfl, WkB_so (by simp [mm]), fun j b h => by simp at h, fun k n b h1 h2 => ?_⟩; exact clone_end h1 h2 rfl (fun _ => (loose_cons (loose_int _ _) loose_nil))

/-! slices.Clone: Attempt -/
theorem slices_Clone_Attempt_ok {T : Tbl} (hT : TOk Try.prog T) (hpf : PfOk T PF) : FOk Try.prog 62 (cloneR 3 eTAttempt default) := by
  refine FOk_anc hT hpf Try.func62 rfl Try.ntmps62 Try.results62 (by decide) ?_
  rintro args H base r H' ⟨l, rfl, hl, rfl, rfl⟩
  refine ⟨[], [eL 3 eTAttempt default l], [], [], [.cells (flE (ceE eTAttempt) l)], Nat.le_of_ble_eq_true rfl, Nat.zero_le _, Nat.le_of_ble_eq_true rfl, .nil, rfl, rfl, .cons (WkA_loose (loose_lst fun _ => (lo_TAttempt _))) .nil, (fun j i b h => by cases h), (fun k b h => ?_), (fun j => rfl), (fun i b h => ?_), ?_⟩
  · cases k with
    | zero => cases h; rfl
    | succ k => cases h
  · by_cases e : i = base
    · subst e; rw [upd_same] at h; exact .inr (.inr ⟨0, rfl, h⟩)
    · rw [upd_other _ _ e] at h; exact .inl ⟨by simp, h⟩
  refine HT_fr DC_ok rfl fun K hK => ?_; (conv => whnf)
  refine hK _ _ _ ?_; clear hK K
  refine HT_seq ?_
  refine HT_isnil rfl rfl rfl rfl rfl rfl Try.underlying29 rfl rfl fun b hb => ?_
  cases b
  · refine HT_if fun K1 K2 hK1 hK2 => ?_; (conv => whnf)
    refine hK2 ?_; clear hK1 hK2 K1 K2
    refine HT_skip ?_
    refine Then_n ?_
    refine HT_fr DC_ok rfl fun K hK => ?_; (conv => whnf)
    refine lt_lk (enc := eTAttempt) (d := default) (l := []) (f := some) (Φ := fun _ => True) DC_ok (W_of (a := []) (by unfold lt; rfl) trivial) rfl rfl rfl ⟨Nat.le_of_ble_eq_true rfl, Nat.le_of_ble_eq_true rfl, rfl⟩ rfl trivial (fun _ => ?_); (conv => whnf)
    refine apcf_lk (enc := eTAttempt) (d := default) DC_ok rfl rfl rfl ⟨rfl, Nat.le_of_ble_eq_true rfl, Nat.le_of_ble_eq_true rfl, Nat.le_of_ble_eq_true rfl, rfl⟩ (fun _ => rfl) (fun _ => nofun) hl ?_; (conv => whnf)
    refine hK _ _ _ ?_; clear hK K
    refine HT_ret ?_
    refine ⟨_, [256], rfl, by simp, by simp, rfl, WkB_so (by simp [mm]), fun j b h => by simp at h, fun k n b h1 h2 => ?_⟩; exact clone_end h1 h2 rfl (fun _ => (loose_cons (loose_int _ _) (loose_cons (loose_int _ _) (loose_cons (loose_bool _) loose_nil))))
  refine HT_if fun K1 K2 hK1 hK2 => ?_; (conv => whnf)
  refine hK1 ?_; clear hK1 hK2 K1 K2
  refine HT_fr DC_ok rfl fun K hK => ?_; (conv => whnf)
  refine hK _ _ _ ?_; clear hK K
  have hn := List.length_eq_zero_iff.1 (hb rfl)
  subst hn
  refine HT_weak rfl (σ' := ⟨ofL [(2, .so 64 0 0 3)], ofH [(64, .cells [])], 1024⟩) (weak_of [(64, none)] ⟨WkR.nilso (fun _ => rfl), trivial⟩ ⟨⟨_, rfl, BkR_n⟩, trivial⟩ rfl) ?_
  refine HT_ret ?_
  refine Then_r ?_
  refine ⟨_, [64], rfl, by simp, by simp, rfl, WkB_so (by simp [mm]), fun j b h => by simp at h, fun k n b h1 h2 => ?_⟩; exact clone_end h1 h2 rfl (fun _ => (loose_cons (loose_int _ _) (loose_cons (loose_int _ _) (loose_cons (loose_bool _) loose_nil))))

end Go.Proofs.Ytcidmnpihffphaa
