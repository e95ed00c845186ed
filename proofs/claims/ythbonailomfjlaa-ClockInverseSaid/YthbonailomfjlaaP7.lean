import Derived.Test.YthbonailomfjlaaL7
import Derived.Test.YthbonailomfjlaaPR
namespace Go.Proofs.Ythbonailomfjlaa
open Go Go.Eng
set_option maxRecDepth 100000
theorem inverse_body (c : TClock) (t f b : Int) (hv : VC c) (hp : ReadsP c t f b) (l : List Int) (hl : l.length < 1000) (k : Nat) (hk : k < l.length) : law05_ClockInverse_b1 l c t (readsZ f b) (k : Int) = some (.nx ((k : Int) + 1)) := by
  have w1 : wr ((k : Int) + 1) = (k : Int) + 1 := wr_id (by omega) (by omega)
  unfold law05_ClockInverse_b1
  simp only [cn_dec, jn_d, cn_beq, w1]
  rw [if_pos (by omega)]
  simp only [ix_n hk, at_ok, bd_s]
  generalize l.getD k default = e
  by_cases h1 : e < 0
  · rw [if_pos h1, cn_t]
  rw [if_neg h1]
  by_cases h2 : e > 10000000
  · rw [if_pos h2]
  rw [if_neg h2]
  have he : inL e := ⟨by omega, by omega⟩
  have q1 := hp.hf e he
  have q2 := hp.hb e he
  unfold readsZ
  by_cases g1 : aLow c.Drift c.Readings e ≤ aHigh c.Drift c.Readings e
  · have hA : atZ c e = (aLow c.Drift c.Readings e, aHigh c.Drift c.Readings e, 0) := by unfold atZ; rw [if_pos ⟨hv, he, g1⟩]
    rw [hA]
    by_cases g2 : f < b
    · rw [if_pos g2]
      simp only [if_true]
      by_cases c1 : aLow c.Drift c.Readings e ≤ t <;> by_cases c2 : t ≤ aHigh c.Drift c.Readings e <;> by_cases c3 : f ≤ e <;> by_cases c4 : e ≤ b - 1 <;> first | (exfalso; omega) | simp only [c1, c2, c3, c4, if_true, if_false, decide_true, decide_false, Bool.true_beq, Bool.false_beq, Bool.not_true, Bool.not_false, cn_t, cn_f]
    · rw [if_neg g2]
      simp only [if_true, show ¬ (50 : Int) = 0 by decide, if_false]
      by_cases c1 : aLow c.Drift c.Readings e ≤ t <;> by_cases c2 : t ≤ aHigh c.Drift c.Readings e <;> first | (exfalso; omega) | simp only [c1, c2, if_true, if_false, decide_true, decide_false, Bool.true_beq, Bool.false_beq, Bool.not_true, Bool.not_false, cn_t, cn_f]
  · have hA : atZ c e = (0, 0, 50) := by unfold atZ; rw [if_neg (fun h => g1 h.2.2)]
    rw [hA]
    simp only [show ¬ (50 : Int) = 0 by decide, if_false]
    by_cases g2 : f < b
    · rw [if_pos g2]
      simp only [if_true]
      by_cases c3 : f ≤ e <;> by_cases c4 : e ≤ b - 1 <;> first | (exfalso; omega) | simp only [c3, c4, if_true, if_false, decide_true, decide_false, Bool.true_beq, Bool.false_beq, Bool.not_true, Bool.not_false, cn_t, cn_f]
    · rw [if_neg g2]
      simp only [show ¬ (50 : Int) = 0 by decide, if_false, Bool.false_beq, Bool.not_false, Bool.not_true, cn_f]
theorem plain7 (a0 a1 : Int) (a2 : List Int) (a3 : List (Int × Int × Int)) (a4 a5 : Int) (o0 : okI a0) (o1 : okI a1) (o2 : okL okI a2) (o3 : okL okA60 a3) (o4 : okI a4) (o5 : okI a5) : law05_ClockInverse_F a0 a1 a2 a3 a4 a5 = some true := by
  unfold law05_ClockInverse_F
  rw [sane_ok, bd_s]
  simp only [Bool.not_true, cn_f]
  obtain ⟨c, e, hm, hc⟩ := made_ok a0 a1 a2 a3 o0 o1 o2 o3
  rw [e, bd_s, pick_law a4 5000 o4 (by omega), bd_s, pick_law a5 5000 o5 (by omega), bd_s]
  obtain ⟨t0, t1⟩ := pickZ_lt a5 (n := 5000) (by omega)
  generalize pickZ a5 5000 = t at t0 t1 ⊢
  obtain ⟨f, b, hp, e2⟩ := reads_ok c t hc ⟨t0, by omega⟩
  rw [e2, bd_s, shown_ok a0 a1 a2 t o0 o1 o2 t0 (by omega), bd_s, pick_law a4 21 o4 (by omega), bd_s, lt_d]
  generalize hL : [pickZ a4 5000, wr ((readsZ f b).1 - 1), (readsZ f b).1, (readsZ f b).2.1, wr ((readsZ f b).2.1 + 1), wr (wr (shownZ a0 a1 a2 t + pickZ a4 21) - 10)] = L
  have hlen : L.length = 6 := by rw [← hL]; rfl
  obtain ⟨s', e3, _⟩ := lp_fold (body := law05_ClockInverse_b1 L c t (readsZ f b)) (fun k s => s = (k : Int)) 6 (by decide)
    (fun k s hk hs => by
      subst hs
      exact ⟨_, inverse_body c t f b hc hp L (by omega) k (by omega), by push_cast; rfl⟩)
    (fun s hs => by
      subst hs
      unfold law05_ClockInverse_b1
      simp only [cn_dec]
      rw [if_neg (by omega)]) 0 rfl
  rw [e3, bd_s, smK_l]
end Go.Proofs.Ythbonailomfjlaa
