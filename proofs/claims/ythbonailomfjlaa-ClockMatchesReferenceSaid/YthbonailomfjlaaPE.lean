import Derived.Test.YthbonailomfjlaaPD
/-! Chapter 5, plainly: Made gives a valid clock with readings of the course. -/
namespace Go.Proofs.Ythbonailomfjlaa
open Go Go.Eng
set_option maxRecDepth 100000
/-- A reading of the course. -/
def ofCourse (a0 a1 : Int) (a2 : List Int) (r : TReading) : Prop := ∃ tr : Int, 0 ≤ tr ∧ tr < 3000 ∧ r.Local = shownZ a0 a1 a2 tr ∧ r.Low ≤ tr ∧ tr ≤ r.High ∧ r.High ≤ 3050
structure MadeP (a0 a1 : Int) (a2 : List Int) (c : TClock) : Prop where
  drift : c.Drift = pickZ a0 101
  ok : okRs (-1) c.Readings
  course : ∀ r ∈ c.Readings, ofCourse a0 a1 a2 r
theorem shownZ_bd (a0 a1 : Int) (a2 : List Int) {t : Int} (h0 : 0 ≤ t) (h1 : t ≤ 10000) : 0 ≤ shownZ a0 a1 a2 t ∧ shownZ a0 a1 a2 t ≤ 12000 := by
  obtain ⟨d1, d2⟩ := pickZ_lt a0 (n := 101) (by omega)
  obtain ⟨q1, q2⟩ := pickZ_lt a1 (n := 1000) (by omega)
  have := rawT_bd d1 (by omega) a2 h0
  unfold shownZ
  omega
/-- When the readings are taken. -/
def whens (a3 : List (Int × Int × Int)) : List Int := (a3.take 12).map fun x => pickZ x.1 3000
theorem whens_len (a3 : List (Int × Int × Int)) : (whens a3).length = min a3.length 12 := by simp [whens, Nat.min_comm]
theorem whens_get (a3 : List (Int × Int × Int)) (k : Nat) (h : k < a3.length) (h2 : k < 12) : (whens a3).getD k default = pickZ (a3.getD k default).1 3000 := by
  unfold whens
  simp only [List.getD_eq_getElem?_getD, List.getElem?_map, List.getElem?_take_of_lt h2, List.getElem?_eq_getElem h]
  rfl
theorem cnt_step (l : List Int) (t : Int) : (l.filter fun x => decide (x < t + 1)).length = (l.filter fun x => decide (x < t)).length + (l.filter fun x => decide (x = t)).length := by
  induction l with
  | nil => rfl
  | cons x l ih =>
    simp only [List.filter_cons]
    by_cases h1 : x < t
    · rw [if_pos (by simp; omega), if_pos (by simp; omega), if_neg (by simp; omega)]; simp; omega
    · by_cases h2 : x = t
      · rw [if_pos (by simp; omega), if_neg (by simp; omega), if_pos (by simp; omega)]; simp; omega
      · rw [if_neg (by simp; omega), if_neg (by simp; omega), if_neg (by simp; omega)]; exact ih
theorem made_in (a0 a1 : Int) (a2 : List Int) (a3 : List (Int × Int × Int)) (o0 : okI a0) (o1 : okI a1) (o2 : okL okI a2) (o3 : okL okA60 a3) (t : Int) (t0 : 0 ≤ t) (t1 : t < 3000) (c : TClock) (x : TClock) (hc : MadeP a0 a1 a2 c)
    (hn : c.Readings.length ≤ ((whens a3).filter fun x => decide (x < t)).length) :
    ∃ i c', lp (ref05_Made_b2 a0 a1 a2 a3 (t, x)) FU (0, c) = some (.inl (i, c')) ∧ MadeP a0 a1 a2 c' ∧ c'.Readings.length ≤ ((whens a3).filter fun x => decide (x < t + 1)).length := by
  have hw := whens_len a3
  obtain ⟨s', e, hs⟩ := lp_fold (body := ref05_Made_b2 a0 a1 a2 a3 (t, x)) (fun k s => s.1 = (k : Int) ∧ MadeP a0 a1 a2 s.2 ∧ s.2.Readings.length ≤ ((whens a3).filter fun x => decide (x < t)).length + (((whens a3).take k).filter fun x => decide (x = t)).length) (min a3.length 12) (by omega)
    (fun k s hk ⟨e1, e2, e3⟩ => by
      obtain ⟨i, c⟩ := s
      simp only at e1 e2 e3
      subst e1
      have hk1 : k < a3.length := by omega
      have hk2 : k < 12 := by omega
      have hx : okA60 (a3.getD k default) := by
        rw [List.getD_eq_getElem?_getD, List.getElem?_eq_getElem hk1]; exact o3.1 _ (List.getElem_mem hk1)
      have tk : (whens a3).take (k + 1) = (whens a3).take k ++ [pickZ (a3.getD k default).1 3000] := by
        rw [take_getD (whens a3) default k (by omega), whens_get a3 k hk1 hk2]
      have hlen : c.Readings.length ≤ 24 := by
        have q1 := List.length_filter_le (fun x => decide (x < t)) (whens a3)
        have q2 := List.length_filter_le (fun x => decide (x = t)) ((whens a3).take k)
        rw [List.length_take] at q2
        omega
      have w1 : wr ((k : Int) + 1) = (k : Int) + 1 := wr_id (by omega) (by omega)
      unfold ref05_Made_b2
      simp only [jn_d, cn_dec, cn_bne, cn_beq, w1]
      rw [if_pos (by omega), if_pos (by omega), tk, List.filter_append]
      simp only [ix_n hk1]
      generalize a3.getD k default = at_ at hx ⊢
      rw [pick_ref at_.1 3000 hx.1 (by omega), bd_s]
      generalize hy : pickZ at_.1 3000 = y
      by_cases c1 : y = t
      · subst c1
        have w2 : (List.filter (fun x => decide (x = y)) [y]).length = 1 := by simp
        rw [if_pos rfl, shown_ok a0 a1 a2 y o0 o1 o2 t0 (by omega), bd_s, pick_ref at_.2.1 51 hx.2.1 (by omega), bd_s, pick_ref at_.2.2 51 hx.2.2 (by omega), bd_s, List.length_append, w2]
        obtain ⟨p1, p2⟩ := pickZ_lt at_.2.1 (n := 51) (by omega)
        obtain ⟨q1, q2⟩ := pickZ_lt at_.2.2 (n := 51) (by omega)
        generalize pickZ at_.2.1 51 = p at p1 p2 ⊢
        generalize pickZ at_.2.2 51 = q at q1 q2 ⊢
        have w3 : wr (y - p) = y - p := wr_id (by omega) (by omega)
        have w4 : wr (y + q) = y + q := wr_id (by omega) (by omega)
        rw [w3, w4, imax_eq]
        have hsh := shownZ_bd a0 a1 a2 (t := y) t0 (by omega)
        have happ : ∀ (hlast : lastLoc (-1) c.Readings < shownZ a0 a1 a2 y), ∃ s', (lt ([(⟨shownZ a0 a1 a2 y, max (y - p) 0, y + q⟩ : TReading)] : List TReading) fun l21 => ap c.Readings l21 fun l22 => (some (Ct.nx ((k : Int) + 1, (⟨c.Drift, l22⟩ : TClock))) : Option (Ct (Int × TClock) TClock))) = some (.nx s') ∧ s'.1 = ((k + 1 : Nat) : Int) ∧ MadeP a0 a1 a2 s'.2 ∧ s'.2.Readings.length ≤ ((whens a3).filter fun x => decide (x < y)).length + ((((whens a3).take k).filter fun x => decide (x = y)).length + 1) := fun hlast => by
          rw [lt_d, ap_p (by simp; omega)]
          refine ⟨_, rfl, by push_cast; rfl, ⟨e2.drift, ?_, fun r hr => ?_⟩, by simp; omega⟩
          · simp only
            rw [okRs_app]
            exact ⟨e2.ok, hlast, by dsimp only; omega, by dsimp only; omega, by dsimp only; omega, by dsimp only; omega⟩
          · simp only [List.mem_append, List.mem_singleton] at hr
            rcases hr with hr | rfl
            · exact e2.course r hr
            · exact ⟨y, t0, t1, rfl, by dsimp only; omega, by dsimp only; omega, by dsimp only; omega⟩
        by_cases c2 : (c.Readings.length : Int) = 0
        · rw [if_pos c2]
          simp only [cn_t]
          have : c.Readings = [] := List.length_eq_zero_iff.1 (by omega)
          exact happ (by rw [this]; simp only [lastLoc]; omega)
        · rw [if_neg c2]
          have w5 : wr ((c.Readings.length : Int) - 1) = ((c.Readings.length - 1 : Nat) : Int) := by rw [wr_id (by omega) (by omega)]; omega
          rw [w5, ix_n (by omega)]
          have hll := getLast_take c.Readings c.Readings.length (Nat.le_refl _)
          rw [List.take_length] at hll
          have hl2 : lastL c.Readings c.Readings.length = (c.Readings.getD (c.Readings.length - 1) default).Local := by unfold lastL; rw [if_neg (by omega)]
          rw [hl2] at hll
          by_cases c3 : (c.Readings.getD (c.Readings.length - 1) default).Local < shownZ a0 a1 a2 y
          · rw [if_pos c3]; exact happ (by rw [hll]; exact c3)
          · rw [if_neg c3]
            exact ⟨_, rfl, by push_cast; rfl, e2, by simp only; omega⟩
      · rw [if_neg c1]
        have w2 : (List.filter (fun x => decide (x = t)) [y]) = [] := by simp [c1]
        rw [w2, List.append_nil]
        exact ⟨_, rfl, by push_cast; rfl, e2, e3⟩)
    (fun s ⟨e1, e2⟩ => by
      obtain ⟨i, c⟩ := s
      simp only at e1
      subst e1
      unfold ref05_Made_b2
      simp only [jn_d, cn_dec]
      by_cases h1 : a3.length < 12
      · rw [if_neg (by omega)]; simp only [cn_f]
      · by_cases h2 : a3.length = 12
        · rw [if_neg (by omega)]; simp only [cn_f]
        · rw [if_pos (by omega), if_neg (by omega)]) (0, c) ⟨rfl, hc, by simpa using hn⟩
  obtain ⟨i, c'⟩ := s'
  refine ⟨i, c', e, hs.2.1, ?_⟩
  have := hs.2.2
  rw [show (whens a3).take (min a3.length 12) = whens a3 by rw [← hw, List.take_length]] at this
  rw [cnt_step]; exact this
theorem made_ok (a0 a1 : Int) (a2 : List Int) (a3 : List (Int × Int × Int)) (o0 : okI a0) (o1 : okI a1) (o2 : okL okI a2) (o3 : okL okA60 a3) : ∃ c, ref05_Made_F a0 a1 a2 a3 = some c ∧ MadeP a0 a1 a2 c ∧ VC c := by
  unfold ref05_Made_F
  rw [pick_ref a0 101 o0 (by omega), bd_s]
  obtain ⟨d1, d2⟩ := pickZ_lt a0 (n := 101) (by omega)
  obtain ⟨s', e, hs⟩ := lp_fold (body := ref05_Made_b1 a0 a1 a2 a3) (fun k s => s.1 = (k : Int) ∧ MadeP a0 a1 a2 s.2 ∧ s.2.Readings.length ≤ ((whens a3).filter fun x => decide (x < (k : Int))).length) 3000 (by decide)
    (fun k s hk ⟨e1, e2, e3⟩ => by
      obtain ⟨i, c⟩ := s
      simp only at e1 e2 e3
      subst e1
      unfold ref05_Made_b1
      simp only [cn_dec]
      rw [if_pos (by omega)]
      obtain ⟨i, c', g1, g2, g3⟩ := made_in a0 a1 a2 a3 o0 o1 o2 o3 k (by omega) (by omega) c c e2 e3
      rw [g1, bd_s, smK_l]
      have w1 : wr ((k : Int) + 1) = (k : Int) + 1 := wr_id (by omega) (by omega)
      rw [w1]
      exact ⟨_, rfl, by push_cast; rfl, g2, by push_cast; exact g3⟩)
    (fun s ⟨e1, e2⟩ => by
      obtain ⟨i, c⟩ := s
      simp only at e1
      subst e1
      unfold ref05_Made_b1
      simp only [cn_dec]
      rw [if_neg (by omega)]) (0, ⟨pickZ a0 101, []⟩) ⟨rfl, ⟨rfl, trivial, fun r hr => by simp at hr⟩, by simp⟩
  rw [e, bd_s, smK_l]
  refine ⟨s'.2, rfl, hs.2.1, ?_, ?_, ?_, hs.2.1.ok⟩
  · rw [hs.2.1.drift]; omega
  · rw [hs.2.1.drift]; omega
  · have q1 := List.length_filter_le (fun x => decide (x < ((3000 : Nat) : Int))) (whens a3)
    have q2 := whens_len a3
    have := hs.2.2
    omega
end Go.Proofs.Ythbonailomfjlaa
