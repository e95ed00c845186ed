import Derived.Test.YtcidmnpihffphaaW6
namespace Go.Proofs.Ytcidmnpihffphaa
open Go Go.Eng
set_option maxHeartbeats 0
set_option maxRecDepth 100000
/-! recovery.open: what it hands back holds on to a map. -/
def capsO (a0 : TRegion) (i : Nat) (n : Int) : List AV := [.ep [eI n] 0, .ep [.mp i] 0, .ep [(eL 2 eTGrowth default) a0.Steps, eI a0.Signals] 0]
def open_R : FSpec := fun args H _ r H' => ∃ (a0 : TRegion) (i : Nat) (m : GM Int) (n : Int), args = [eTRegion a0, .mp i, eI n] ∧ H i = some (abM eI m) ∧ r = .fn 56 [] (capsO a0 i n) ∧ H' = H
theorem open_ok {T : Tbl} (hT : TOk Try.prog T) (hpf : PfOk T PF) : FOk Try.prog 42 open_R := by
  refine FOk_anc hT hpf Try.func42 rfl Try.ntmps42 Try.results42 (by decide) ?_
  rintro args H base r H' ⟨a0, i, m, n, rfl, hi, rfl, rfl⟩
  refine ⟨[i], [eTRegion a0, .mp 0, eI n], [abM eI m], [abM eI m], [], Nat.le_of_ble_eq_true rfl, Nat.le_of_ble_eq_true rfl, Nat.zero_le _, by simp, rfl, rfl, .cons (WkA_loose (lo_TRegion _)) (.cons (WkA_mp rfl) (.cons (WkA_loose (loose_int _ _)) .nil)), (fun j i' b h1 h2 => ?_), (fun k b h => by simp at h), (fun j => rfl), (fun i' b h => ?_), ?_⟩
  · cases j with
    | zero => cases h1; cases h2; exact ⟨_, hi, BkA_m fun _ => loose_int _ _⟩
    | succ j => simp at h1
  · by_cases e : i' = i
    · subst e; rw [hi] at h; cases h; exact .inr (.inl ⟨0, rfl, rfl⟩)
    · exact .inl ⟨by simpa using e, h⟩
  refine HT_fr DC_ok rfl fun K hK => ?_; (conv => whnf)
  refine hK _ _ _ ?_; clear hK K
  refine HT_frzK 3 ?_; (conv => whnf); refine ⟨_, rfl, ?_⟩
  refine HT_frzK 4 ?_; (conv => whnf); refine ⟨_, rfl, ?_⟩
  refine HT_frzK 5 ?_; (conv => whnf); refine ⟨_, rfl, ?_⟩
  refine HT_fr DC_ok rfl fun K hK => ?_; (conv => whnf)
  refine hK _ _ _ ?_; clear hK K
  refine HT_ret ?_
  refine ⟨_, [], rfl, by simp, by simp, rfl, WkB_fn VsB_nil (VsB_cons (WkB_ep (VsB_cons (WkB_loose (Wk.refl _) (loose_int _ _)) VsB_nil)) (VsB_cons (WkB_ep (VsB_cons (WkB_mp (by simp [mm])) VsB_nil)) (VsB_cons (WkB_ep (VsB_cons (WkB_loose (Wk.refl _) (loose_lst fun _ => lo_TGrowth _)) (VsB_cons (WkB_loose (Wk.refl _) (loose_int _ _)) VsB_nil))) VsB_nil))), fun j b h => ?_, fun k n b h1 h2 => by simp at h1⟩
  cases j with
  | zero => cases h; exact ⟨_, rfl, BkX_m fun _ => loose_int _ _⟩
  | succ j => simp at h
theorem callsK_open {T : Tbl} (hT : T 42 = open_R) {args : List AV} {hp : Heap} {id i : Nat} {k : AV → Heap → Prop} {a0 : TRegion} {m : GM Int} {n : Int} (hw : WkL args [eTRegion a0, .mp i, eI n]) (hi : hp i = some (abM eI m)) (hk : k (.fn 56 [] (capsO a0 i n)) hp) : callsK T 42 args hp id k :=
  callsK_of hw (by rw [hT]; exact ⟨a0, i, m, n, rfl, hi, rfl, rfl⟩) hk
/-! What it hands back: the first tick with room. -/
def open_b (a0 : TRegion) (m : GM Int) (t : Int) : Option (Ct Int Int) := bd (recovery_capacity_F a0 t) fun y => cn (decide ((m.get t 0) < y)) (some (.rt t)) (some (.nx (wr (t + 1))))
def open_F (a0 : TRegion) (m : GM Int) (n : Int) : Option Int := bd (lp (open_b a0 m) FU n) fun c => smK c (fun _ => none) (fun r => some r)
theorem W_open_b {a0 : TRegion} {m : GM Int} {t : Int} {Φ : Ct Int Int → Prop} (h : W (open_b a0 m t) Φ) : W (bd (recovery_capacity_F a0 t) fun y => cn (decide ((m.get t 0) < y)) (some (.rt t)) (some (.nx (wr (t + 1))))) Φ := h
def iter_R : FSpec := fun args H _ r H' => ∃ (S : Type) (G : Gh S) (s fin : S) (a0 : TRegion) (i b0 : Nat) (m : GM Int) (n k : Int), args = .yld b0 :: capsO a0 i n ∧ i ≠ b0 ∧ H b0 = some (.gh S G s) ∧ H i = some (abM eI m) ∧ G.P = Try.prog ∧ open_F a0 m n = some k ∧ G.Y [.int .i64 k] s false fin ∧ r = .tup [] ∧ H' = upd H b0 (some (.gh S G fin))
theorem iter_ok {T : Tbl} (hT : TOk Try.prog T) (hpf : PfOk T PF) (h48 : T 48 = pureR recovery_capacity_S) : FOk Try.prog 56 iter_R := by
  refine FOk_anc hT hpf Try.func56 rfl Try.ntmps56 Try.results56 (by decide) ?_
  rintro args H base r H' ⟨S, G, s, fin, a0, i, b0, m, n, k, rfl, hne, hb, hi, hP, hF, hY, rfl, rfl⟩
  refine ⟨[b0, i], .yld 0 :: capsO a0 1 n, [.gh S G s, abM eI m], [.gh S G fin, abM eI m], [], Nat.le_of_ble_eq_true rfl, Nat.le_of_ble_eq_true rfl, Nat.zero_le _, by simpa using Ne.symm hne, rfl, rfl, .cons (WkA_yld rfl) (.cons (WkA_loose (loose_ep (loose_cons (loose_int _ _) loose_nil))) (.cons (WkA_ep (VsA_cons (WkA_mp rfl) VsA_nil)) (.cons (WkA_loose (loose_ep (loose_cons (loose_lst fun _ => lo_TGrowth _) (loose_cons (loose_int _ _) loose_nil)))) .nil))), (fun j i' b h1 h2 => ?_), (fun k b h => by simp at h), (fun j => ?_), (fun i' b h => ?_), ?_⟩
  · match j with
    | 0 => cases h1; cases h2; exact ⟨_, hb, .gh⟩
    | 1 => cases h1; cases h2; exact ⟨_, hi, BkA_m fun _ => loose_int _ _⟩
    | j + 2 => simp at h1
  · match j with
    | 0 => rfl
    | 1 => rfl
    | j + 2 => rfl
  · by_cases e : i' = b0
    · subst e; rw [upd_same] at h; cases h; exact .inr (.inl ⟨0, rfl, rfl⟩)
    · rw [upd_other _ _ e] at h
      by_cases e' : i' = i
      · subst e'; rw [hi] at h; cases h; exact .inr (.inl ⟨1, rfl, rfl⟩)
      · exact .inl ⟨by simp [e, e'], h⟩
  have h : W (open_F a0 m n) (fun y => G.Y [.int .i64 y] s false fin) := W_of hF hY
  rw [open_F.eq_1] at h
  refine HT_fr DC_ok rfl fun K hK => ?_; (conv => whnf)
  refine getK_of rfl ?_; (conv => whnf)
  refine hK _ _ _ ?_; clear hK K
  refine HT_block ?_
  replace h := W_bd h
  refine HT_lpK (body := open_b _ _) rfl h [0, 1, 2, 3] [] [] (fun kl kh ids b t => ⟨ofL ([(5, eI t)] ++ kl), ofH [(0, .gh S G s), (1, abM eI m)], b + 64⟩) ?_; (conv => whnf); refine And.intro ?_ (fun t mm h => HT_st ?_)
  · refine weak_k ?_; (conv => whnf)
    exact And.intro rfl (And.intro (allL_c (WkR.wk (Wk.refl _) (loose_int _ _)) (allL_c (WkR_yld (fun _ => rfl)) (allL_c (WkR.wk (Wk.refl _) (loose_ep (loose_cons (loose_int _ _) loose_nil))) (allL_c (WkR_ep (VsR_cons (WkR.mp (fun _ => rfl)) VsR_nil)) (allL_c (WkR.wk (Wk.refl _) (loose_ep (loose_cons (loose_lst fun _ => lo_TGrowth _) (loose_cons (loose_int _ _) loose_nil)))) allL_n))))) (allL_c ⟨some _, rfl, BkR_g rfl⟩ (allL_c ⟨some _, rfl, BkR_m rfl (fun _ => loose_int _ _)⟩ allL_n)))
  replace h := W_open_b (W_bd h)
  refine HT_seq ?_
  refine HT_block ?_
  refine HT_fd DC_ok mix_ok rfl (by kernel_rfl) fun K hK => ?_; (conv => whnf)
  refine getK_of rfl ?_; (conv => whnf)
  refine mget_lk (enc := eI) DC_ok rfl (0 : Int) rfl rfl (Nat.le_of_ble_eq_true rfl) ?_; (conv => whnf)
  refine And.intro (Nat.le_of_ble_eq_true rfl) ?_; (conv => whnf)
  replace h := W_bd h
  refine recovery_capacity_call h48 h (WkL.refl _) (fun y h => ?_); (conv => whnf)
  refine cond_lk h (fun _ h => ?_) (fun _ h => ?_) <;> (conv => whnf)
  · have hy0 := W_some (W_inr (W_xrt h)); have hy : G.Y [.int .i64 t] s false fin := hy0
    refine yldK_of ⟨S, G, s, false, fin, [.int .i64 t], rfl, hP, fun β vs hv => ?_, hy, rfl, rfl⟩ ?_
    · simpa [Vs, V, eI] using hv
    (conv => whnf)
    refine hK _ _ _ ?_; clear hK K
    refine HT_if fun K1 K2 hK1 hK2 => ?_; (conv => whnf)
    refine hK1 ?_; clear hK1 hK2 K1 K2
    refine HT_ret ?_
    refine InBlock_r ?_
    refine Then_r ?_
    refine Then_r ?_
    refine InBlock_r ?_
    refine ⟨_, [], rfl, by simp, by simp, rfl, WkB_tup VsB_nil, fun j b h => ?_, fun k n b h1 h2 => by simp at h1⟩
    match j with
    | 0 => cases h; exact ⟨_, rfl, .gh⟩
    | 1 => cases h; exact ⟨_, rfl, BkX_m fun _ => loose_int _ _⟩
    | j + 2 => simp at h
  refine hK _ _ _ ?_; clear hK K
  refine HT_if fun K1 K2 hK1 hK2 => ?_; (conv => whnf)
  refine hK2 ?_; clear hK1 hK2 K1 K2
  refine HT_skip ?_
  refine InBlock_n ?_
  refine Then_n ?_
  refine HT_f DC_ok rfl fun K hK => ?_; (conv => whnf)
  refine hK _ _ _ ?_; clear hK K
  refine Then_n ?_
  replace h := W_xnx h
  refine ⟨_, h, ?_⟩
  refine weak_k ?_; (conv => whnf)
  exact And.intro rfl (And.intro (allL_c (WkR.wk (Wk.refl _) (loose_int _ _)) (allL_c (WkR_yld (fun _ => rfl)) (allL_c (WkR.wk (Wk.refl _) (loose_ep (loose_cons (loose_int _ _) loose_nil))) (allL_c (WkR_ep (VsR_cons (WkR.mp (fun _ => rfl)) VsR_nil)) (allL_c (WkR.wk (Wk.refl _) (loose_ep (loose_cons (loose_lst fun _ => lo_TGrowth _) (loose_cons (loose_int _ _) loose_nil)))) allL_n))))) (allL_c ⟨some _, rfl, BkR_g rfl⟩ (allL_c ⟨some _, rfl, BkR_m rfl (fun _ => loose_int _ _)⟩ allL_n)))
end Go.Proofs.Ytcidmnpihffphaa
