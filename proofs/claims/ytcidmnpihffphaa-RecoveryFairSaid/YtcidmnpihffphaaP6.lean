import Derived.Test.YtcidmnpihffphaaPD
import Derived.Test.YtcidmnpihffphaaV6
namespace Go.Proofs.Ytcidmnpihffphaa
open Go Go.Eng
set_option maxRecDepth 100000
theorem plain6 (a0 : List (Int × Int)) (a1 : Int) (a2 : List (Int × Int)) (o0 : okL okA71 a0) (o1 : okI a1) (o2 : okL okA71 a2) : law34_RecoveryFair_F a0 a1 a2 = some true := by
  unfold law34_RecoveryFair_F
  rw [sane_ok, bd_s]
  simp only [Bool.not_true, cn_f, jn_d]
  obtain ⟨r, e, hr⟩ := made_ok a0 a1 o0 o1
  obtain ⟨l, e2, hla⟩ := attempts_ok a2 o2
  have hl := hla.lv
  rw [e2, bd_s, e, bd_s]
  obtain ⟨ts, e3, hp, hs⟩ := plan_ok hr hl
  rw [e3, bd_s, refOrdered_ok hl, bd_s]
  generalize sortF attCmp l = ys at hs hp ⊢
  have hy := hs.lv hl
  have htl := hp.len
  have hyl := hy.len
  simp only [bne_self_eq_false, cn_f]
  rw [show ((ts.length : Int) != (ys.length : Int)) = false by simp; omega]
  simp only [cn_f]
  obtain ⟨s, e4, h1, h2⟩ := lp_fold (body := law34_RecoveryFair_b1 (ts, 0) ys) (fun k s => s.2 = (k : Int) ∧ ∀ j, k ≤ j → j < ys.length → (ys.getD j default).Urgent = false → s.1 ≤ (ts.getD j default).At) ys.length (by omega) (fun k s hk ⟨h1, h2⟩ => by
    obtain ⟨c, i⟩ := s
    simp only at h1 h2
    subst h1
    have hk' : k < ts.length := by omega
    have hcf := hp.cf k hk
    unfold law34_RecoveryFair_b1
    simp only [jn_d, cn_dec]
    rw [if_pos (by omega), ix_n hk', ix_n hk, cn_bne, if_pos hcf.1, ix_n hk', ix_n hk]
    rw [show ((ts.getD k default).First != (ys.getD k default).At) = false by rw [hcf.2]; simp]
    simp only [cn_f]
    rw [ix_n hk, wr_id (x := (k : Int) + 1) (by omega) (by omega)]
    cases hu : (ys.getD k default).Urgent
    · simp only [Bool.not_false, cn_t]
      have h3 := h2 k (Nat.le_refl _) hk hu
      rw [ix_n hk', if_neg (by omega), ix_n hk']
      refine ⟨_, rfl, by simp, fun j hj1 hj2 hju => ?_⟩
      exact hp.mono k j (by omega) hj2 hu hju
    · simp only [Bool.not_true, cn_f]
      exact ⟨_, rfl, by simp, fun j hj1 hj2 hju => h2 j (by omega) hj2 hju⟩) (fun s ⟨h1, _⟩ => by
    unfold law34_RecoveryFair_b1
    simp only [cn_dec]
    rw [if_neg (by rw [h1]; omega)]) (-1, 0) ⟨rfl, fun j _ hj _ => by
    have := hp.ge j hj
    have h5 := hy.rg _ (List.getElem_mem hj)
    rw [getD_lt hj] at this
    simp only; omega⟩
  rw [e4, bd_s, smK_l]
end Go.Proofs.Ytcidmnpihffphaa
