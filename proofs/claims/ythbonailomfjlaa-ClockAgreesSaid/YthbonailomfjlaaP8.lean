import Derived.Test.YthbonailomfjlaaL8
import Derived.Test.YthbonailomfjlaaPH
namespace Go.Proofs.Ythbonailomfjlaa
open Go Go.Eng
set_option maxRecDepth 100000
theorem in_ok (l : List TSpell) (s : Int) (hl : l.length ≤ 1000) : law05_in_F l s = some (cov l s) := by
  unfold law05_in_F
  obtain ⟨s', e, hs⟩ := lp_fold (body := law05_in_b1 l s) (fun k st => st = (cov (l.take k) s, (k : Int))) l.length (by omega)
    (fun k st hk hs => by
      subst hs
      have b1 := cov_le (l.take k) s
      have b2 := cov_nonneg (l.take k) s
      rw [List.length_take] at b1
      have w1 : wr ((k : Int) + 1) = (k : Int) + 1 := wr_id (by omega) (by omega)
      have w2 : wr (cov (l.take k) s + 1) = cov (l.take k) s + 1 := wr_id (by omega) (by omega)
      have tk : cov (l.take (k + 1)) s = cov (l.take k) s + (if (l.getD k default).From ≤ s ∧ s < (l.getD k default).To then 1 else 0) := by
        rw [take_getD l default k hk, cov_app, cov_cons, cov_nil]; omega
      unfold law05_in_b1
      simp only [jn_d, cn_dec, w1, w2]
      rw [if_pos (by omega)]
      simp only [ix_n hk]
      rw [tk]
      by_cases c1 : (l.getD k default).From ≤ s
      · rw [if_pos c1]
        by_cases c2 : s < (l.getD k default).To
        · rw [if_pos c2, if_pos ⟨c1, c2⟩]; exact ⟨_, rfl, by push_cast; rfl⟩
        · rw [if_neg c2, if_neg (fun h => c2 h.2)]; exact ⟨_, rfl, by push_cast; simp⟩
      · rw [if_neg c1, if_neg (fun h => c1 h.1)]; simp only [cn_f]; exact ⟨_, rfl, by push_cast; simp⟩)
    (fun st hs => by
      subst hs
      unfold law05_in_b1
      simp only [cn_dec]
      rw [if_neg (by omega)]) (0, 0) rfl
  subst hs
  rw [e, bd_s, smK_l, List.take_length]
theorem agrees_ok (l : List TSpell) (s : Int) (hl : l.length ≤ 1000) : law05_agrees_F l s = some true := by
  unfold law05_agrees_F
  obtain ⟨o, k, e, h⟩ := agree_ok l hl
  rw [e, bd_s, lt_d]
  obtain ⟨s', e1, hs⟩ := lp_fold (body := law05_agrees_b1 l) (fun k st => st.2 = (k : Int) ∧ st.1.length = 1 + 2 * k) l.length (by omega)
    (fun k st hk ⟨h1, h2⟩ => by
      obtain ⟨a, i⟩ := st
      dsimp only at h1 h2
      subst h1
      have w1 : wr ((k : Int) + 1) = (k : Int) + 1 := wr_id (by omega) (by omega)
      unfold law05_agrees_b1
      simp only [cn_dec, w1]
      rw [if_pos (by omega)]
      simp only [ix_n hk]
      rw [lt_d, ap_p (by simp; omega)]
      exact ⟨_, rfl, by push_cast; rfl, by simp; omega⟩)
    (fun st ⟨h1, h2⟩ => by
      obtain ⟨a, i⟩ := st
      dsimp only at h1
      subst h1
      unfold law05_agrees_b1
      simp only [cn_dec]
      rw [if_neg (by omega)]) ([s], 0) ⟨rfl, rfl⟩
  obtain ⟨a, i⟩ := s'
  obtain ⟨_, ha⟩ := hs
  dsimp only at ha
  rw [e1, bd_s, smK_l]
  simp only [jn_d, cn_dec, cn_beq, cn_bne]
  rcases h with ⟨rfl, rfl, h⟩ | ⟨h0, h1, h2, h3, h4, h5⟩
  · rw [if_pos rfl]
    obtain ⟨s', e2, hs⟩ := lp_fold (body := law05_agrees_b2 l) (fun k st => st = (k : Int)) l.length (by omega)
      (fun k st hk hs => by
        subst hs
        have w1 : wr ((k : Int) + 1) = (k : Int) + 1 := wr_id (by omega) (by omega)
        unfold law05_agrees_b2
        simp only [cn_dec, w1]
        rw [if_pos (by omega)]
        simp only [ix_n hk]
        by_cases c1 : (l.getD k default).From < (l.getD k default).To
        · exfalso
          have hx := h (l.getD k default).From
          have : l = l.take k ++ l.getD k default :: l.drop (k + 1) := by
            rw [List.getD_eq_getElem?_getD, List.getElem?_eq_getElem hk]; simp
          rw [this, cov_app, cov_cons] at hx
          rw [if_pos (by rw [← this]; omega)] at hx
          have a1 := cov_nonneg (l.take k) (l.getD k default).From
          have a2 := cov_nonneg (l.drop (k + 1)) (l.getD k default).From
          rw [← this] at hx
          omega
        · rw [if_neg c1]; exact ⟨_, rfl, by push_cast; rfl⟩)
      (fun st hs => by
        subst hs
        unfold law05_agrees_b2
        simp only [cn_dec]
        rw [if_neg (by omega)]) 0 rfl
    rw [e2, bd_s, smK_l]
    rfl
  · rw [if_neg (by omega), if_neg (by omega), if_neg (by omega), in_ok l _ hl, bd_s, h4 _ (Int.le_refl _) h1, if_pos rfl, in_ok l _ hl, bd_s, if_neg (by omega)]
    obtain ⟨s', e3, hs⟩ := lp_fold (body := law05_agrees_b3 l (a, i) (o, k)) (fun j st => st = (j : Int)) a.length (by omega)
      (fun j st hj hs => by
        subst hs
        have w1 : wr ((j : Int) + 1) = (j : Int) + 1 := wr_id (by omega) (by omega)
        unfold law05_agrees_b3
        simp only [jn_d, cn_dec, cn_bne, w1]
        rw [if_pos (by omega)]
        simp only [ix_n hj, in_ok l _ hl, bd_s]
        generalize a.getD j default = x
        have g1 := h2 x
        have g2 := h3 x
        have g3 := h4 x
        rw [if_neg (show ¬ cov l x > k by omega)]
        refine ⟨_, ?_, show ((j : Int) + 1) = ((j + 1 : Nat) : Int) by push_cast; rfl⟩
        by_cases c1 : o.From ≤ x
        · rw [if_pos c1]
          by_cases c2 : x < o.To
          · have := g3 c1 c2
            simp only [decide_eq_true c2, cn_t, if_pos this]
            rw [if_neg (show ¬ x < o.From by omega), cn_f, if_pos c2]
          · simp only [decide_eq_false c2, cn_f]
            rw [if_neg (show ¬ x < o.From by omega), if_neg c2]
        · rw [if_neg c1]
          have := g2 (by omega)
          simp only [cn_f]
          rw [if_pos (show x < o.From by omega), cn_beq, if_neg (by omega), if_neg (by omega)])
      (fun st hs => by
        subst hs
        unfold law05_agrees_b3
        simp only [cn_dec]
        rw [if_neg (by omega)]) 0 rfl
    rw [e3, bd_s, smK_l]
theorem plain8 (a0 : List TSpell) (a1 : Int) (o0 : okL okTSpell a0) (o1 : okI a1) : law05_ClockAgrees_F a0 a1 = some true := by
  unfold law05_ClockAgrees_F
  rw [sane_ok, bd_s]
  simp only [Bool.not_true, cn_f]
  rw [imin_eq, slc_p (by omega) (by omega) (by omega)]
  obtain ⟨hln, hget⟩ := sub_get (l := a0) (lo := 0) (hi := min (a0.length : Int) 12) (by omega) (by omega) (by omega)
  have hsub : sub a0 0 (min (a0.length : Int) 12) = a0.take (min (a0.length : Int) 12).toNat := by unfold sub; simp
  have hok : ∀ x ∈ sub a0 0 (min (a0.length : Int) 12), okTSpell x := fun x hx => by
    rw [hsub] at hx; exact o0.1 x (List.mem_of_mem_take hx)
  generalize sub a0 0 (min (a0.length : Int) 12) = l at hln hok
  have hl : l.length ≤ 12 := by rw [hln]; omega
  obtain ⟨s', e, hs⟩ := lp_fold (body := law05_ClockAgrees_b1 l) (fun k st => st.2 = (k : Int) ∧ st.1.length = k) l.length (by omega)
    (fun k st hk ⟨h1, h2⟩ => by
      obtain ⟨a, i⟩ := st
      dsimp only at h1 h2
      subst h1
      have w1 : wr ((k : Int) + 1) = (k : Int) + 1 := wr_id (by omega) (by omega)
      have hx : okTSpell (l.getD k default) := by
        rw [List.getD_eq_getElem?_getD, List.getElem?_eq_getElem hk]; exact hok _ (List.getElem_mem hk)
      unfold law05_ClockAgrees_b1
      simp only [cn_dec, w1]
      rw [if_pos (by omega)]
      simp only [ix_n hk]
      rw [pick_law _ 40 hx.1 (by omega), bd_s, pick_law _ 40 hx.2 (by omega), bd_s, lt_d, ap_p (by simp; omega)]
      exact ⟨_, rfl, by push_cast; rfl, by simp; omega⟩)
    (fun st ⟨h1, h2⟩ => by
      obtain ⟨a, i⟩ := st
      dsimp only at h1
      subst h1
      unfold law05_ClockAgrees_b1
      simp only [cn_dec]
      rw [if_neg (by omega)]) ([], 0) ⟨rfl, rfl⟩
  rw [e, bd_s, smK_l]
  simp only [jn_d]
  rw [agrees_ok l a1 (by omega), bd_s, cn_t, pick_law a1 42 o1 (by omega), bd_s, agrees_ok s'.1 _ (by rw [hs.2]; omega), bd_s]
end Go.Proofs.Ythbonailomfjlaa
