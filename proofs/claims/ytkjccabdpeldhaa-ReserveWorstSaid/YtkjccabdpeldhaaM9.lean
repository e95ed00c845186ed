import Derived.Test.YtkjccabdpeldhaaM6
import Derived.Test.YtkjccabdpeldhaaM7
import Derived.Test.YtkjccabdpeldhaaM5
import Derived.Test.YtkjccabdpeldhaaM8
set_option linter.unusedVariables false
set_option linter.unusedSimpArgs false
set_option linter.unusedSectionVars false
namespace Go.Proofs.Ytkjccabdpeldhaa
open Go Go.Eng
set_option maxHeartbeats 0
set_option maxRecDepth 100000
def law33_ReserveWorst_F (a0 : TNumbers) (a1 : Int) (a2 : Int) : Option Bool := bd (law33_sane_F ) fun y1 => cn (!y1) (some false) (bd (ref33_Made_F a0) fun y2 =>
    gd (0 ≤ (y2.Calls.length : Int)) (bd (law33_pick_F a1 (bshl .i64 1 (y2.Calls.length : Int))) fun y3 => bd (reserve_Left_F y2 y3) fun y4 => bd (reserve_Slack_F y2 y3) fun y5 =>
    cn (y4.2.2 != y5.2) (some false) (cn (y4.2.2 != 0) (some true) (bd (law33_pick_F a2 y2.Net.N) fun y6 => bd (flow_Worst_F y4.1 y6 y2.Net.N y2.Faults) fun y7 =>
    jn (fun p8 : Bool => some p8) fun k9 => cn (y7.2 == 0) (bd (flow_CheckWorst_F y4.1 y6 y2.Net.N y2.Faults y7.1) fun y10 => cn y10 (ix y2.Urgent default y6 fun e11 =>
    let v12 := (decide (y7.1.Value ≥ (wr (e11 + y5.1)))); k9 v12) (k9 false)) (k9 false)))))
def law33_ReserveWorst_S : List AV → AV → Prop := fun args r => ∃ a0 a1 a2, args = [eTNumbers a0, eI a1, eI a2] ∧ W (law33_ReserveWorst_F a0 a1 a2) fun y => r = (eB y)
theorem law33_ReserveWorst_ok {T : Tbl} (hT : TOk Try.prog T) (hpf : PfOk T PF) (h11 : T 11 = pureR law33_sane_S) (h12 : T 12 = pureR ref33_Made_S) (h16 : T 16 = pureR law33_pick_S) (h18 : T 18 = pureR reserve_Slack_S) (h20 : T 20 = pureR reserve_Left_S) (h21 : T 21 = pureR flow_Worst_S) (h22 : T 22 = pureR flow_CheckWorst_S) : FOk Try.prog 8 (pureR law33_ReserveWorst_S) := by
  refine FOk_pure hT hpf Try.func8 rfl Try.ntmps8 Try.results8 (by decide) ?_
  rintro args r ⟨a0, a1, a2, rfl, h⟩
  refine ⟨nle rfl, ?_, ?_⟩
  · exact (loose_cons (lo_TNumbers _) (loose_cons (loose_int _ _) (loose_cons (loose_int _ _) loose_nil)))
  rw [law33_ReserveWorst_F.eq_1] at h
  refine HT_fr DC_ok rfl fun K hK => ?_; (conv => whnf)
  refine hK _ _ _ ?_; clear hK K
  refine HT_seq ?_
  refine HT_fr DC_ok rfl fun K hK => ?_; (conv => whnf)
  replace h := W_bd h
  refine law33_sane_call h11 h (WkL.refl _) (fun _ h => ?_); (conv => whnf)
  refine hK _ _ _ ?_; clear hK K
  refine HT_if fun K1 K2 hK1 hK2 => ?_; (conv => whnf)
  refine cond_lk h (fun _ h => ?_) (fun _ h => ?_)
  · refine hK1 ?_; clear hK1 hK2 K1 K2
    refine HT_fr DC_ok rfl fun K hK => ?_; (conv => whnf)
    refine hK _ _ _ ?_; clear hK K
    refine HT_ret ?_
    refine Then_r ?_
    replace h := W_some h
    refine PostP_r DC_ok fun K hK => ?_; (conv => whnf)
    refine hK _ ?_; clear hK K
    cases h
    exact Wk.refl _
  refine hK2 ?_; clear hK1 hK2 K1 K2
  refine HT_skip ?_
  refine Then_n ?_
  refine HT_fr DC_ok rfl fun K hK => ?_; (conv => whnf)
  refine nlA rfl ?_; (conv => whnf)
  refine blkK_of rfl ?_; (conv => whnf)
  refine nlA rfl ?_; (conv => whnf)
  replace h := W_bd h
  refine ref33_Made_call h12 h (WkL.refl _) (fun _ h => ?_); (conv => whnf)
  refine blkK_of rfl ?_; (conv => whnf)
  refine And.intro rfl (And.intro (nle rfl) (And.intro rfl ?_)); (conv => whnf)
  refine hK _ _ _ ?_; clear hK K
  refine HT_fr DC_ok rfl fun K hK => ?_; (conv => whnf)
  refine nlA rfl ?_; (conv => whnf)
  refine blkK_of rfl ?_; (conv => whnf)
  refine getK_of rfl ?_; (conv => whnf)
  refine gd_lk h fun _ h => ?_; (conv => whnf)
  replace h := W_bd h
  refine law33_pick_call h16 h (WkL.refl _) (fun _ h => ?_); (conv => whnf)
  refine hK _ _ _ ?_; clear hK K
  refine HT_fr DC_ok rfl fun K hK => ?_; (conv => whnf)
  refine nlA rfl ?_; (conv => whnf)
  refine blkK_of rfl ?_; (conv => whnf)
  refine nlA rfl ?_; (conv => whnf)
  replace h := W_bd h
  refine reserve_Left_call h20 h (WkL.refl _) (fun _ h => ?_); (conv => whnf)
  refine blkK_of rfl ?_; (conv => whnf)
  refine And.intro rfl (And.intro (nle rfl) (And.intro rfl ?_)); (conv => whnf)
  refine hK _ _ _ ?_; clear hK K
  refine HT_fr DC_ok rfl fun K hK => ?_; (conv => whnf)
  refine nlA rfl ?_; (conv => whnf)
  refine blkK_of rfl ?_; (conv => whnf)
  refine nlA rfl ?_; (conv => whnf)
  replace h := W_bd h
  refine reserve_Slack_call h18 h (WkL.refl _) (fun _ h => ?_); (conv => whnf)
  refine hK _ _ _ ?_; clear hK K
  refine HT_seq ?_
  refine HT_fr DC_ok rfl fun K hK => ?_; (conv => whnf)
  refine hK _ _ _ ?_; clear hK K
  refine HT_if fun K1 K2 hK1 hK2 => ?_; (conv => whnf)
  refine cond_lk h (fun _ h => ?_) (fun _ h => ?_)
  · refine hK1 ?_; clear hK1 hK2 K1 K2
    refine HT_fr DC_ok rfl fun K hK => ?_; (conv => whnf)
    refine hK _ _ _ ?_; clear hK K
    refine HT_ret ?_
    refine Then_r ?_
    replace h := W_some h
    refine PostP_r DC_ok fun K hK => ?_; (conv => whnf)
    refine hK _ ?_; clear hK K
    cases h
    exact Wk.refl _
  refine hK2 ?_; clear hK1 hK2 K1 K2
  refine HT_skip ?_
  refine Then_n ?_
  refine HT_seq ?_
  refine HT_fr DC_ok rfl fun K hK => ?_; (conv => whnf)
  refine hK _ _ _ ?_; clear hK K
  refine HT_if fun K1 K2 hK1 hK2 => ?_; (conv => whnf)
  refine cond_lk h (fun _ h => ?_) (fun _ h => ?_)
  · refine hK1 ?_; clear hK1 hK2 K1 K2
    refine HT_fr DC_ok rfl fun K hK => ?_; (conv => whnf)
    refine hK _ _ _ ?_; clear hK K
    refine HT_ret ?_
    refine Then_r ?_
    replace h := W_some h
    refine PostP_r DC_ok fun K hK => ?_; (conv => whnf)
    refine hK _ ?_; clear hK K
    cases h
    exact Wk.refl _
  refine hK2 ?_; clear hK1 hK2 K1 K2
  refine HT_skip ?_
  refine Then_n ?_
  refine HT_fr DC_ok rfl fun K hK => ?_; (conv => whnf)
  refine nlA rfl ?_; (conv => whnf)
  refine blkK_of rfl ?_; (conv => whnf)
  refine getK_of rfl ?_; (conv => whnf)
  replace h := W_bd h
  refine law33_pick_call h16 h (WkL.refl _) (fun _ h => ?_); (conv => whnf)
  refine hK _ _ _ ?_; clear hK K
  refine HT_fr DC_ok rfl fun K hK => ?_; (conv => whnf)
  refine nlA rfl ?_; (conv => whnf)
  refine blkK_of rfl ?_; (conv => whnf)
  refine nlA rfl ?_; (conv => whnf)
  refine nlA rfl ?_; (conv => whnf)
  refine blkK_of rfl ?_; (conv => whnf)
  refine getK_of rfl ?_; (conv => whnf)
  refine nlA rfl ?_; (conv => whnf)
  refine blkK_of rfl ?_; (conv => whnf)
  refine getK_of rfl ?_; (conv => whnf)
  replace h := W_bd h
  refine flow_Worst_call h21 h (WkL.refl _) (fun _ h => ?_); (conv => whnf)
  refine blkK_of rfl ?_; (conv => whnf)
  refine And.intro rfl (And.intro (nle rfl) (And.intro rfl ?_)); (conv => whnf)
  refine hK _ _ _ ?_; clear hK K
  refine HT_fd DC_ok mix_ok rfl (by kernel_rfl) fun K hK => ?_; (conv => whnf)
  replace h := W_jn h
  refine cond_lk h (fun _ h => ?_) (fun _ h => ?_) <;> (conv => whnf)
  · refine nlA rfl ?_; (conv => whnf)
    refine blkK_of rfl ?_; (conv => whnf)
    refine nlA rfl ?_; (conv => whnf)
    refine nlA rfl ?_; (conv => whnf)
    refine blkK_of rfl ?_; (conv => whnf)
    refine getK_of rfl ?_; (conv => whnf)
    refine nlA rfl ?_; (conv => whnf)
    refine blkK_of rfl ?_; (conv => whnf)
    refine getK_of rfl ?_; (conv => whnf)
    refine nlA rfl ?_; (conv => whnf)
    refine blkK_of rfl ?_; (conv => whnf)
    refine nlA rfl ?_; (conv => whnf)
    replace h := W_bd h
    refine flow_CheckWorst_call h22 h (WkL.refl _) (fun _ h => ?_); (conv => whnf)
    refine cond_lk h (fun _ h => ?_) (fun _ h => ?_) <;> (conv => whnf)
    · refine nlA rfl ?_; (conv => whnf)
      refine blkK_of rfl ?_; (conv => whnf)
      refine getK_of rfl ?_; (conv => whnf)
      refine nlA rfl ?_; (conv => whnf)
      refine blkK_of rfl ?_; (conv => whnf)
      refine getK_of rfl ?_; (conv => whnf)
      refine ix_lk h fun _ h => ?_; (conv => whnf)
      refine getK_of rfl ?_; (conv => whnf)
      refine hK _ _ _ ?_; clear hK K
      refine HT_ret ?_
      replace h := W_some h
      refine PostP_r DC_ok fun K hK => ?_; (conv => whnf)
      refine hK _ ?_; clear hK K
      cases h
      exact Wk.refl _
    refine hK _ _ _ ?_; clear hK K
    refine HT_ret ?_
    replace h := W_some h
    refine PostP_r DC_ok fun K hK => ?_; (conv => whnf)
    refine hK _ ?_; clear hK K
    cases h
    exact Wk.refl _
  refine hK _ _ _ ?_; clear hK K
  refine HT_ret ?_
  replace h := W_some h
  refine PostP_r DC_ok fun K hK => ?_; (conv => whnf)
  refine hK _ ?_; clear hK K
  cases h
  exact Wk.refl _
end Go.Proofs.Ytkjccabdpeldhaa
namespace Go.Proofs.Ytkjccabdpeldhaa
open Go Go.Eng
set_option maxRecDepth 100000
theorem plain8 (a0 : TNumbers) (a1 a2 : Int) (o0 : okTNumbers a0) (o1 : okI a1) (o2 : okI a2) : law33_ReserveWorst_F a0 a1 a2 = some true := by
  unfold law33_ReserveWorst_F
  rw [sane_ok, bd_s]
  simp only [Bool.not_true, cn_f, jn_d]
  obtain ⟨r, e, hr⟩ := made_ok a0 o0
  have h := hr.toRV
  obtain ⟨s, hs, e2⟩ := set_of h o1
  have hn := h.n; have hul := h.ul; have hcl := h.cl; have hft := h.ft
  rw [e, bd_s, gd_p _ (by omega), e2, bd_s]
  rcases Slack_ok h hs with ⟨h1, h2⟩ | ⟨h1, nd, n1, n2, h2, h3⟩
  · rcases Left_ok h hs with ⟨_, k2⟩ | ⟨k1, _⟩
    · rw [k2, bd_s, h2, bd_s, cn_bne, if_pos rfl, cn_bne, if_neg (by simp only; omega)]
    · exact absurd k1 h1
  rcases Left_ok h hs with ⟨k1, _⟩ | ⟨_, k2⟩
  · exact absurd h1 k1
  rw [k2, bd_s, h2, bd_s, cn_bne, if_pos rfl, cn_bne, if_pos rfl, pick_law a2 _ o2 (by omega), bd_s]
  obtain ⟨p1, p2⟩ := pickZ_lt a2 (n := r.Net.N) (by omega)
  obtain ⟨k, hk⟩ : ∃ k : Nat, pickZ a2 r.Net.N = (k : Int) := ⟨_, (Int.toNat_of_nonneg p1).symm⟩
  rw [hk] at p2 ⊢
  have hNu : r.Net.N = (r.Urgent.length : Int) := hul.symm
  have hf : r.Faults = (r.Faults.toNat : Int) := (Int.toNat_of_nonneg hft.1).symm
  have hE : Fl.EndsV (netL r s) k r.Urgent.length := ⟨net_nv h h1, by show (k : Int) < r.Net.N + 1; omega, by show _ < r.Net.N + 1; omega, by omega⟩
  obtain ⟨w, g, ew, hw⟩ := Fl.Worst_ok (f := r.Faults.toNat) hE (by omega)
  have hc := Fl.Worst_checked hE (Nat.le_trans (net_len h s) (by omega)) (f := r.Faults.toNat) (by omega) g
  rw [← hf, ← hNu] at ew hc
  rw [ew, bd_s, cn_beq, if_pos rfl, hc, bd_s, cn_t, ix_n (by omega)]
  have hv : (Fl.wF (netL r s) r.Faults.toNat w).Value = mgR r s w + usum (lsu r) w r.Urgent.length := wV_mg r s w
  obtain ⟨g1, g2, g3⟩ := g
  rw [net_N h s] at g1
  have hw2 : w < 2 ^ r.Urgent.length := by
    rcases Nat.lt_or_ge w (2 ^ r.Urgent.length) with q | q
    · exact q
    · have := Nat.testBit_eq_decide_div_mod_eq (x := w) (i := r.Urgent.length)
      rw [g3] at this
      have h3 : w / 2 ^ r.Urgent.length = 1 := by
        rw [Nat.pow_succ] at g1
        refine Nat.div_eq_of_lt_le (by omega) (by omega)
      rw [h3] at this
      simp at this
  have hw1 : 1 ≤ w := by
    rcases Nat.eq_zero_or_pos w with q | q
    · subst q; simp at g2
    · exact q
  have h5 := h3 w hw1 hw2
  have h6 := usum_one h g2 r.Urgent.length (Nat.le_refl _) (by omega)
  have h7 := h.uv _ (getD_mem (l := r.Urgent) (k := k) (by omega))
  have hC := cn_ok h h1
  have h8 := usum_bd hC nd r.Urgent.length (Nat.le_refl _)
  have h9 := restf_bd hC r.Faults.toNat nd
  have h10 : mgR r s nd = rest r.Faults.toNat ((outI (netL r s).Edges nd).map (capI (netL r s).Edges)) - usum (lsu r) nd r.Urgent.length := rfl
  have hul8 : (r.Urgent.length : Int) * 1000 ≤ 8000 := by omega
  generalize mgR r s nd = G at *
  simp only
  rw [wr_id (by omega) (by omega), hv]
  refine congrArg some (decide_eq_true ?_)
  omega
end Go.Proofs.Ytkjccabdpeldhaa
