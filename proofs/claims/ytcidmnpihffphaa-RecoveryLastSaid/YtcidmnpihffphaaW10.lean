import Derived.Test.YtcidmnpihffphaaW9
namespace Go.Proofs.Ytcidmnpihffphaa
open Go Go.Eng
set_option maxHeartbeats 0
set_option maxRecDepth 100000
/-! recovery.loads: a new map -/

    def recovery_loads_b1 (y1 : (List TTicket) × Int) (y2 : List TAttempt) (s3 : Int × (GM Int)) : Option (Ct (Int × (GM Int)) (Option (GM Int))) := cn (decide (s3.1 < (y2.length : Int))) (jn (fun p4 : (GM Int) =>
    some (.nx ((wr (s3.1 + 1)), p4))) fun k5 => ix y2 default s3.1 fun e6 => cn e6.Urgent (k5 s3.2) (let m7 := s3.2.put e6.At (wr ((s3.2.get e6.At 0) + 1));
    ix y1.1 default s3.1 fun e8 => jn (fun p9 : (GM Int) => k5 p9) fun k10 => cn (decide (e8.At > e6.At)) (ix y1.1 default s3.1 fun e11 =>
    let m12 := m7.put e11.At (wr ((m7.get e11.At 0) + 1)); k10 m12) (k10 m7))) (some (.bk (s3.1, s3.2)))

    theorem W_brecovery_loads_b1 {y1 : (List TTicket) × Int} {y2 : List TAttempt} {s3 : Int × (GM Int)} {Φ : Ct (Int × (GM Int)) (Option (GM Int)) → Prop} (h : W (recovery_loads_b1 y1 y2 s3) Φ) : W (cn (decide (s3.1 < (y2.length : Int))) (jn (fun p4 : (GM Int) =>
    some (.nx ((wr (s3.1 + 1)), p4))) fun k5 => ix y2 default s3.1 fun e6 => cn e6.Urgent (k5 s3.2) (let m7 := s3.2.put e6.At (wr ((s3.2.get e6.At 0) + 1));
    ix y1.1 default s3.1 fun e8 => jn (fun p9 : (GM Int) => k5 p9) fun k10 => cn (decide (e8.At > e6.At)) (ix y1.1 default s3.1 fun e11 =>
    let m12 := m7.put e11.At (wr ((m7.get e11.At 0) + 1)); k10 m12) (k10 m7))) (some (.bk (s3.1, s3.2)))) Φ := h
def recovery_loads_F (a0 : TRegion) (a1 : List TAttempt) : Option (Option (GM Int)) := bd (recovery_Plan_F a0 a1) fun y1 => cn (y1.2 !=
    0) (some none) (bd (recovery_ordered_F a1) fun y2 => bd (lp (recovery_loads_b1 y1 y2) FU (0, (GM.mt Int))) fun c13 => smK c13 (fun s14 => some (some s14.2)) (fun r15 =>
    some r15))
def resM : Option (GM Int) → Nat → AV
  | none, _ => .tup [.nilm, eB false]
  | some _, b => .tup [.mp b, eB true]
def hpM : Option (GM Int) → Nat → Heap → Heap
  | none, _, H => H
  | some m, b, H => upd H b (some (abM eI m))
def nbM : Option (GM Int) → List AB
  | none => []
  | some m => [abM eI m]
def loads_R : FSpec := fun args H base r H' => ∃ a0 a1 y, args = [eTRegion a0, (eL 3 eTAttempt default) a1] ∧ recovery_loads_F a0 a1 = some y ∧ r = resM y base ∧ H' = hpM y base H
theorem loads_end {P : Program} {rs : Array ResultVar} {base g : Nat} {m : GM Int} {sl : Nat → AV} {hp : Heap} {b : Nat} (hr : resA P rs ⟨sl, hp, b⟩ = some (.tup [.mp g, eB true])) (hg : hp g = some (abM eI m)) (h64 : 64 ≤ g) : PostA P rs [] base (resM (some m) base) [] (nbM (some m)) .ret ⟨sl, hp, b⟩ :=
  ⟨_, [g], rfl, List.nodup_cons.2 ⟨by simp, List.nodup_nil⟩, fun n hn => by simp at hn; subst hn; exact h64, hr, WkB_tup (VsB_cons (WkB_mp (mm_ns (k := 0) rfl)) (VsB_cons (WkB_loose (Wk.refl _) (loose_bool _)) VsB_nil)), fun j b h => by simp at h, fun k n b h1 h2 => by
    cases k with
    | zero => simp [nbM] at h1 h2; subst h1 h2; exact ⟨_, hg, BkX_m fun _ => loose_int _ _⟩
    | succ k => simp at h1⟩
theorem recovery_loads_ok {T : Tbl} (hT : TOk Try.prog T) (hpf : PfOk T PF) (h18 : T 18 = pureR recovery_Plan_S) (h41 : T 41 = pureR recovery_ordered_S) : FOk Try.prog 44 loads_R := by
  refine FOk_anc hT hpf Try.func44 rfl Try.ntmps44 Try.results44 (by decide) ?_
  rintro args H base r H' ⟨a0, a1, y, rfl, hy, rfl, rfl⟩
  have h : W (recovery_loads_F a0 a1) (fun z => z = y) := W_of hy rfl
  refine ⟨[], [eTRegion a0, (eL 3 eTAttempt default) a1], [], [], nbM y, Nat.le_of_ble_eq_true rfl, Nat.zero_le _, by cases y <;> simp [nbM], .nil, rfl, rfl, .cons (WkA_loose (lo_TRegion _)) (.cons (WkA_loose (loose_lst fun _ => lo_TAttempt _)) .nil), (fun j i b h1 h2 => by simp at h1), (fun k b h => ?_), (fun j => rfl), (fun i b h => ?_), ?_⟩
  · cases y with
    | none => simp [nbM] at h
    | some m => cases k with
      | zero => simp [nbM] at h; subst h; rfl
      | succ k => simp [nbM] at h
  · cases y with
    | none => exact .inl ⟨by simp, h⟩
    | some m =>
      simp only [hpM] at h
      by_cases e : i = base
      · subst e; rw [upd_same] at h; exact .inr (.inr ⟨0, rfl, h⟩)
      · rw [upd_other _ _ e] at h; exact .inl ⟨by simp, h⟩
  rw [recovery_loads_F.eq_1] at h
  refine HT_fr DC_ok rfl fun K hK => ?_; (conv => whnf)
  refine hK _ _ _ ?_; clear hK K
  refine HT_fr DC_ok rfl fun K hK => ?_; (conv => whnf)
  refine And.intro (Nat.le_of_ble_eq_true rfl) ?_; (conv => whnf)
  refine blkK_of rfl ?_; (conv => whnf)
  refine And.intro (Nat.le_of_ble_eq_true rfl) ?_; (conv => whnf)
  replace h := W_bd h
  refine recovery_Plan_call h18 h (WkL.refl _) (fun _ h => ?_); (conv => whnf)
  refine hK _ _ _ ?_; clear hK K
  refine HT_seq ?_
  refine HT_fr DC_ok rfl fun K hK => ?_; (conv => whnf)
  refine hK _ _ _ ?_; clear hK K
  refine HT_if fun K1 K2 hK1 hK2 => ?_; (conv => whnf)
  refine cond_lk h (fun _ h => ?_) (fun _ h => ?_)
  · refine hK1 ?_; clear hK1 hK2 K1 K2
    refine HT_fr DC_ok rfl fun K hK => ?_; (conv => whnf)
    refine hK _ _ _ ?_; clear hK K
    refine HT_ret ?_
    refine Then_r ?_
    replace h := W_some h
    cases h
    exact ⟨_, [], rfl, by simp, by simp, rfl, WkB_loose (Wk.refl _) (loose_tup (loose_cons loose_nilm (loose_cons (loose_bool _) loose_nil))), fun j b h => by simp at h, fun k n b h1 h2 => by simp at h1⟩
  refine hK2 ?_; clear hK1 hK2 K1 K2
  refine HT_skip ?_
  refine Then_n ?_
  refine HT_fr DC_ok rfl fun K hK => ?_; (conv => whnf)
  refine hK _ _ _ ?_; clear hK K
  refine HT_seq ?_
  refine HT_fr DC_ok rfl fun K hK => ?_; (conv => whnf)
  replace h := W_bd h
  refine recovery_ordered_call h41 h (WkL.refl _) (fun _ h => ?_); (conv => whnf)
  refine hK _ _ _ ?_; clear hK K
  refine HT_block ?_
  replace h := W_bd h
  refine HT_lpK (body := recovery_loads_b1 _ _) rfl h [6, 8, 21, 22] [] [8] (fun kl kh ids b s => ⟨ofL ([(23, eI s.1)] ++ kl), ofH ([(nthN ids 0, abM eI s.2)] ++ kh), b + 64⟩) ?_; (conv => whnf); refine And.intro ?_ (fun s m h => HT_st ?_)
  · refine weak_k ?_; (conv => whnf)
    exact And.intro rfl (And.intro (allL_c (WkR.wk (Wk.refl _) (loose_int _ _)) (allL_c (WkR.wk (Wk.refl _) (loose_lst fun _ => (lo_TTicket _))) (allL_c (WkR.mp (fun _ => rfl)) (allL_c (WkR.wk (Wk.refl _) (loose_lst fun _ => (lo_TAttempt _))) (allL_c (WkR.wk (Wk.refl _) (loose_int _ _)) allL_n))))) (allL_c ⟨some _, rfl, BkR_m (enc := eI) rfl (fun _ => (loose_int _ _))⟩ allL_n))
  replace h := W_brecovery_loads_b1 (W_bd h)
  refine HT_fr DC_ok rfl fun K hK => ?_; (conv => whnf)
  refine hK _ _ _ ?_; clear hK K
  refine HT_seq ?_
  refine HT_if fun K1 K2 hK1 hK2 => ?_; (conv => whnf)
  refine cond_lk h (fun _ h => ?_) (fun _ h => ?_)
  · refine hK1 ?_; clear hK1 hK2 K1 K2
    refine HT_skip ?_
    refine Then_n ?_
    refine HT_seq ?_
    replace h := W_jn h
    refine HT_block ?_
    refine HT_fr DC_ok rfl fun K hK => ?_; (conv => whnf)
    refine ix_lk h fun _ h => ?_; (conv => whnf)
    refine And.intro (Nat.le_of_ble_eq_true rfl) ?_; (conv => whnf)
    refine blkK_of rfl ?_; (conv => whnf)
    refine And.intro rfl (And.intro (Nat.le_of_ble_eq_true rfl) (And.intro rfl ?_)); (conv => whnf)
    refine hK _ _ _ ?_; clear hK K
    refine HT_seq ?_
    refine HT_fr DC_ok rfl fun K hK => ?_; (conv => whnf)
    refine And.intro (Nat.le_of_ble_eq_true rfl) ?_; (conv => whnf)
    refine blkK_of rfl ?_; (conv => whnf)
    refine getK_of rfl ?_; (conv => whnf)
    refine hK _ _ _ ?_; clear hK K
    refine HT_if fun K1 K2 hK1 hK2 => ?_; (conv => whnf)
    refine cond_lk h (fun _ h => ?_) (fun _ h => ?_)
    · refine hK1 ?_; clear hK1 hK2 K1 K2
      refine HT_exit ?_
      refine Then_e ?_
      refine InBlock_e ?_
      refine Then_n ?_
      refine HT_f DC_ok rfl fun K hK => ?_; (conv => whnf)
      refine hK _ _ _ ?_; clear hK K
      refine Then_n ?_
      replace h := W_xnx h
      refine ⟨_, h, ?_⟩
      refine weak_k ?_; (conv => whnf)
      exact And.intro rfl (And.intro (allL_c (WkR.wk (Wk.refl _) (loose_int _ _)) (allL_c (WkR.wk (Wk.refl _) (loose_lst fun _ => (lo_TTicket _))) (allL_c (WkR.mp (fun _ => rfl)) (allL_c (WkR.wk (Wk.refl _) (loose_lst fun _ => (lo_TAttempt _))) (allL_c (WkR.wk (Wk.refl _) (loose_int _ _)) allL_n))))) (allL_c ⟨some _, rfl, BkR_m (enc := eI) rfl (fun _ => (loose_int _ _))⟩ allL_n))
    refine hK2 ?_; clear hK1 hK2 K1 K2
    refine HT_skip ?_
    refine Then_n ?_
    refine HT_fr DC_ok rfl fun K hK => ?_; (conv => whnf)
    refine And.intro (Nat.le_of_ble_eq_true rfl) ?_; (conv => whnf)
    refine blkK_of rfl ?_; (conv => whnf)
    refine getK_of rfl ?_; (conv => whnf)
    refine mget_lk (enc := eI) DC_ok rfl (0 : Int) rfl rfl (Nat.le_of_ble_eq_true rfl) ?_; (conv => whnf)
    refine mput_lk (enc := eI) DC_ok rfl rfl ?_; (conv => whnf)
    refine hK _ _ _ ?_; clear hK K
    refine HT_fd DC_ok mix_ok rfl (by kernel_rfl) fun K hK => ?_; (conv => whnf)
    refine ix_lk h fun _ h => ?_; (conv => whnf)
    refine getK_of rfl ?_; (conv => whnf)
    refine And.intro (Nat.le_of_ble_eq_true rfl) ?_; (conv => whnf)
    refine blkK_of rfl ?_; (conv => whnf)
    refine getK_of rfl ?_; (conv => whnf)
    refine hK _ _ _ ?_; clear hK K
    replace h := W_jn h
    refine HT_if fun K1 K2 hK1 hK2 => ?_; (conv => whnf)
    refine cond_lk h (fun _ h => ?_) (fun _ h => ?_)
    · refine hK1 ?_; clear hK1 hK2 K1 K2
      refine HT_f DC_ok rfl fun K hK => ?_; (conv => whnf)
      refine ix_lk h fun _ h => ?_; (conv => whnf)
      refine getK_of rfl ?_; (conv => whnf)
      refine mget_lk (enc := eI) DC_ok rfl (0 : Int) rfl rfl (Nat.le_of_ble_eq_true rfl) ?_; (conv => whnf)
      refine mput_lk (enc := eI) DC_ok rfl rfl ?_; (conv => whnf)
      refine hK _ _ _ ?_; clear hK K
      refine InBlock_n ?_
      refine Then_n ?_
      refine HT_f DC_ok rfl fun K hK => ?_; (conv => whnf)
      refine hK _ _ _ ?_; clear hK K
      refine Then_n ?_
      replace h := W_xnx h
      refine ⟨_, h, ?_⟩
      refine weak_k ?_; (conv => whnf)
      exact And.intro rfl (And.intro (allL_c (WkR.wk (Wk.refl _) (loose_int _ _)) (allL_c (WkR.wk (Wk.refl _) (loose_lst fun _ => (lo_TTicket _))) (allL_c (WkR.mp (fun _ => rfl)) (allL_c (WkR.wk (Wk.refl _) (loose_lst fun _ => (lo_TAttempt _))) (allL_c (WkR.wk (Wk.refl _) (loose_int _ _)) allL_n))))) (allL_c ⟨some _, rfl, BkR_m (enc := eI) rfl (fun _ => (loose_int _ _))⟩ allL_n))
    refine hK2 ?_; clear hK1 hK2 K1 K2
    refine HT_skip ?_
    refine InBlock_n ?_
    refine Then_n ?_
    refine HT_f DC_ok rfl fun K hK => ?_; (conv => whnf)
    refine hK _ _ _ ?_; clear hK K
    refine Then_n ?_
    replace h := W_xnx h
    refine ⟨_, h, ?_⟩
    refine weak_k ?_; (conv => whnf)
    exact And.intro rfl (And.intro (allL_c (WkR.wk (Wk.refl _) (loose_int _ _)) (allL_c (WkR.wk (Wk.refl _) (loose_lst fun _ => (lo_TTicket _))) (allL_c (WkR.mp (fun _ => rfl)) (allL_c (WkR.wk (Wk.refl _) (loose_lst fun _ => (lo_TAttempt _))) (allL_c (WkR.wk (Wk.refl _) (loose_int _ _)) allL_n))))) (allL_c ⟨some _, rfl, BkR_m (enc := eI) rfl (fun _ => (loose_int _ _))⟩ allL_n))
  refine hK2 ?_; clear hK1 hK2 K1 K2
  refine HT_exit ?_
  refine Then_e ?_
  refine Then_e ?_
  refine InBlock_e ?_
  replace h := W_xbk h
  replace h := W_inl h
  refine Then_n ?_
  refine HT_fr DC_ok rfl fun K hK => ?_; (conv => whnf)
  refine hK _ _ _ ?_; clear hK K
  refine HT_ret ?_
  replace h := W_some h
  cases h
  exact loads_end rfl rfl (Nat.le_of_ble_eq_true rfl)
theorem callsK_loads {T : Tbl} (hT : T 44 = loads_R) {β : Type} {args : List AV} {hp : Heap} {id : Nat} {k : AV → Heap → Prop} {a0 : TRegion} {a1 : List TAttempt} {x : Option β} {f : GM Int → Option β} {Φ : β → Prop} (h : W (bd (recovery_loads_F a0 a1) fun y => mo y x f) Φ) (hw : WkL args [eTRegion a0, (eL 3 eTAttempt default) a1])
    (hn : W x Φ → k (.tup [.nilm, eB false]) hp) (hs : ∀ m, W (f m) Φ → k (.tup [.mp id, eB true]) (upd hp id (some (abM eI m)))) : callsK T 44 args hp id k := by
  obtain ⟨y, e, hy⟩ := W_inv (W_bd h)
  cases y with
  | none => exact callsK_of (r := .tup [.nilm, eB false]) (H' := hp) hw (by rw [hT]; exact ⟨a0, a1, none, rfl, e, rfl, rfl⟩) (hn (W_mo_n hy))
  | some m => exact callsK_of (r := .tup [.mp id, eB true]) (H' := upd hp id (some (abM eI m))) hw (by rw [hT]; exact ⟨a0, a1, some m, rfl, e, rfl, rfl⟩) (hs m (W_mo_s hy))
/-! recovery.Load -/
def recovery_Load_F (a0 : TRegion) (a1 : List TAttempt) (a2 : Int) : Option (Int × Int) := bd (recovery_loads_F a0 a1) fun y1 => mo y1 (some (0, 340)) fun m2 =>
    cn (decide (a2 < 0)) (some (0, 340)) (some ((m2.get a2 0), 0))
def recovery_Load_S : List AV → AV → Prop := fun args r => ∃ a0 a1 a2, args = [eTRegion a0, (eL 3 eTAttempt default) a1, eI a2] ∧ W (recovery_Load_F a0 a1 a2) fun y => r = (.tup [eI y.1, eI y.2])
theorem recovery_Load_ok {T : Tbl} (hT : TOk Try.prog T) (hpf : PfOk T PF) (h44 : T 44 = loads_R) : FOk Try.prog 30 (pureR recovery_Load_S) := by
  refine FOk_pure hT hpf Try.func30 rfl Try.ntmps30 Try.results30 (by decide) ?_
  rintro args r ⟨a0, a1, a2, rfl, h⟩
  refine ⟨Nat.le_of_ble_eq_true rfl, ?_, ?_⟩
  · exact (loose_cons (lo_TRegion _) (loose_cons (loose_lst fun _ => (lo_TAttempt _)) (loose_cons (loose_int _ _) loose_nil)))
  rw [recovery_Load_F.eq_1] at h
  refine HT_fr DC_ok rfl fun K hK => ?_; (conv => whnf)
  refine hK _ _ _ ?_; clear hK K
  refine HT_fr DC_ok rfl fun K hK => ?_; (conv => whnf)
  refine And.intro (Nat.le_of_ble_eq_true rfl) ?_; (conv => whnf)
  refine blkK_of rfl ?_; (conv => whnf)
  refine And.intro (Nat.le_of_ble_eq_true rfl) ?_; (conv => whnf)
  refine callsK_loads h44 h (WkL_cons (Wk.refl _) (WkL_cons (Wk.refl _) WkL_nil)) (fun h => ?_) (fun m h => ?_) <;> (conv => whnf)
  · refine hK _ _ _ ?_; clear hK K
    refine HT_seq ?_
    refine HT_fr DC_ok rfl fun K hK => ?_; (conv => whnf)
    refine hK _ _ _ ?_; clear hK K
    refine HT_if fun K1 K2 hK1 hK2 => ?_; (conv => whnf)
    refine hK1 ?_; clear hK1 hK2 K1 K2
    refine HT_fr DC_ok rfl fun K hK => ?_; (conv => whnf)
    refine hK _ _ _ ?_; clear hK K
    refine HT_ret ?_
    refine Then_r ?_
    replace h := W_some h
    refine PostP_r DC_ok fun K hK => ?_; (conv => whnf)
    refine hK _ ?_; clear hK K
    cases h
    exact Wk.refl _
  refine hK _ _ _ ?_; clear hK K
  refine HT_seq ?_
  refine HT_fr DC_ok rfl fun K hK => ?_; (conv => whnf)
  refine hK _ _ _ ?_; clear hK K
  refine HT_if fun K1 K2 hK1 hK2 => ?_; (conv => whnf)
  refine cond_lk h (fun _ h => ?_) (fun _ h => ?_)
  · refine hK1 ?_; clear hK1 hK2 K1 K2
    refine HT_fr DC_ok rfl fun K hK => ?_; (conv => whnf)
    refine hK _ _ _ ?_; clear hK K
    refine HT_ret ?_
    refine Then_r ?_
    replace h := W_some h
    refine PostP_r DC_ok fun K hK => ?_; (conv => whnf)
    refine hK _ ?_; clear hK K
    cases h
    exact Wk.refl _
  refine hK2 ?_; clear hK1 hK2 K1 K2
  refine HT_skip ?_
  refine Then_n ?_
  refine HT_fr DC_ok rfl fun K hK => ?_; (conv => whnf)
  refine mget_lk (enc := eI) DC_ok rfl (0 : Int) rfl rfl (Nat.le_of_ble_eq_true rfl) ?_; (conv => whnf)
  refine hK _ _ _ ?_; clear hK K
  refine HT_ret ?_
  replace h := W_some h
  refine PostP_r DC_ok fun K hK => ?_; (conv => whnf)
  refine hK _ ?_; clear hK K
  cases h
  exact Wk.refl _
theorem recovery_Load_call {T : Tbl} (hT : T 30 = pureR recovery_Load_S) {args : List AV} {hp : Heap} {id : Nat} {k : AV → Prop} {a0 : TRegion} {a1 : List TAttempt} {a2 : Int} {Φ : Int × Int → Prop} (h : W (recovery_Load_F a0 a1 a2) Φ) (hw : WkL args [eTRegion a0, (eL 3 eTAttempt default) a1, eI a2]) (hk : ∀ y, Φ y → k (.tup [eI y.1, eI y.2])) : callpK T 30 args hp id k := by
  obtain ⟨y, e, hy⟩ := W_inv h
  exact callpK_pure hT ⟨a0, a1, a2, rfl, W_of e rfl⟩ (by exact loose_tup (loose_cons (loose_int _ _) (loose_cons (loose_int _ _) loose_nil))) hw (hk y hy)
end Go.Proofs.Ytcidmnpihffphaa
