import Derived.Test.YthbonailomfjlaaL9
import Derived.Test.YthbonailomfjlaaPE
namespace Go.Proofs.Ythbonailomfjlaa
open Go Go.Eng
set_option maxRecDepth 100000
def mvR (n : Int) (r : TReading) : TReading := ⟨r.Local, r.Low + n, r.High + n⟩
theorem cLow_mv (d n l : Int) (r : TReading) : cLow d (mvR n r) l = cLow d r l + n := by
  unfold cLow mvR; dsimp only; omega
theorem cHigh_mv (d n l : Int) (r : TReading) : cHigh d (mvR n r) l = cHigh d r l + n := by
  unfold cHigh mvR; dsimp only; omega
theorem moves_loop (c : TClock) (n : Int) (hc : VC c) (n0 : 0 ≤ n) (n1 : n < 100000) : ∃ i, lp (law05_ClockMoves_b1 c n) FU (0, ⟨c.Drift, []⟩) = some (.inl (i, ⟨c.Drift, c.Readings.map (mvR n)⟩)) := by
  obtain ⟨_, _, hl, hr⟩ := hc
  obtain ⟨s', e, hs⟩ := lp_fold (body := law05_ClockMoves_b1 c n) (fun k s => s = ((k : Int), ⟨c.Drift, (c.Readings.take k).map (mvR n)⟩)) c.Readings.length (by omega)
    (fun k s hk hs => by
      subst hs
      have hb := okRs_bd hr k hk
      unfold law05_ClockMoves_b1
      simp only [cn_dec]
      rw [if_pos (by omega), ix_n hk, lt_d, ap_p (by simp; omega), take_getD c.Readings default k hk, List.map_append]
      have w1 : wr ((k : Int) + 1) = (k : Int) + 1 := wr_id (by omega) (by omega)
      have w2 : wr ((c.Readings.getD k default).Low + n) = (c.Readings.getD k default).Low + n := wr_id (by omega) (by omega)
      have w3 : wr ((c.Readings.getD k default).High + n) = (c.Readings.getD k default).High + n := wr_id (by omega) (by omega)
      rw [w1, w2, w3]
      exact ⟨_, rfl, by push_cast; rfl⟩)
    (fun s hs => by
      subst hs
      unfold law05_ClockMoves_b1
      simp only [cn_dec]
      rw [if_neg (by omega)]) (0, ⟨c.Drift, []⟩) (by simp)
  subst hs
  rw [List.take_length] at e
  exact ⟨_, e⟩
theorem course_high {a0 a1 : Int} {a2 : List Int} {c : TClock} (hm : MadeP a0 a1 a2 c) (hc : VC c) {l : Int} (l0 : 0 ≤ l) (l1 : l < 5000) {r : TReading} (hr : r ∈ c.Readings) : cHigh c.Drift r l ≤ 20000 := by
  obtain ⟨tr, t0, t1, e, b1, b2, b3⟩ := hm.course r hr
  have hs := shownZ_bd a0 a1 a2 t0 (by omega)
  rw [← e] at hs
  have hd : 0 ≤ c.Drift ∧ c.Drift ≤ 100 := ⟨hc.1, hc.2.1⟩
  have hrl : inL r.Local := (okRs_mem hm.ok hr).1
  unfold cHigh
  split
  · have := loS_nonneg (inS_sub hd hrl (show inL l from ⟨l0, by omega⟩) (by omega)); omega
  · have hs := inS_sub hd (show inL l from ⟨l0, by omega⟩) hrl (by omega)
    have h1 := (le_hiS hs).1 (Int.le_refl _)
    have h2 : hiS c.Drift (l - r.Local) * 900 ≤ hiS c.Drift (l - r.Local) * (1000 - c.Drift) := Int.mul_le_mul_of_nonneg_left (by omega) (by have := (loS_le_hiS hs).2; omega)
    omega
theorem plain9 (a0 a1 : Int) (a2 : List Int) (a3 : List (Int × Int × Int)) (a4 a5 : Int) (o0 : okI a0) (o1 : okI a1) (o2 : okL okI a2) (o3 : okL okA60 a3) (o4 : okI a4) (o5 : okI a5) : law05_ClockMoves_F a0 a1 a2 a3 a4 a5 = some true := by
  unfold law05_ClockMoves_F
  rw [sane_ok, bd_s]
  simp only [Bool.not_true, cn_f]
  obtain ⟨c, e, hm, hc⟩ := made_ok a0 a1 a2 a3 o0 o1 o2 o3
  rw [e, bd_s, pick_law a4 100000 o4 (by omega), bd_s, pick_law a5 5000 o5 (by omega), bd_s]
  obtain ⟨n0, n1⟩ := pickZ_lt a4 (n := 100000) (by omega)
  obtain ⟨l0, l1⟩ := pickZ_lt a5 (n := 5000) (by omega)
  generalize pickZ a4 100000 = n at n0 n1 ⊢
  generalize pickZ a5 5000 = l at l0 l1 ⊢
  obtain ⟨i, e2⟩ := moves_loop c n hc n0 n1
  rw [e2, bd_s, smK_l]
  simp only [at_ok, bd_s, jn_d, cn_beq, cn_bne, cn_t]
  have hl : inL l := ⟨l0, by omega⟩
  by_cases h0 : (c.Readings.length : Int) = 0
  · rw [if_pos h0]
  rw [if_neg h0]
  by_cases h1 : (atZ c l).2.2 = 0
  rotate_left
  · rw [if_neg h1]
  rw [if_pos h1]
  by_cases h2 : (atZ ⟨c.Drift, c.Readings.map (mvR n)⟩ l).2.2 = 0
  rotate_left
  · rw [if_neg h2]
  rw [if_pos h2]
  by_cases h3 : (atZ c l).1 = 0
  · rw [if_pos h3]
  rw [if_neg h3]
  by_cases h4 : (atZ ⟨c.Drift, c.Readings.map (mvR n)⟩ l).1 = 0
  · rw [if_pos h4]
  rw [if_neg h4]
  unfold atZ at h1 h2 h3 h4 ⊢
  have g1 : VC c ∧ inL l ∧ aLow c.Drift c.Readings l ≤ aHigh c.Drift c.Readings l := by
    by_cases g : VC c ∧ inL l ∧ aLow c.Drift c.Readings l ≤ aHigh c.Drift c.Readings l
    · exact g
    · rw [if_neg g] at h1; simp at h1
  rw [if_pos g1] at h3 ⊢
  have g2 : VC ⟨c.Drift, c.Readings.map (mvR n)⟩ ∧ inL l ∧ aLow c.Drift (c.Readings.map (mvR n)) l ≤ aHigh c.Drift (c.Readings.map (mvR n)) l := by
    by_cases g : VC ⟨c.Drift, c.Readings.map (mvR n)⟩ ∧ inL l ∧ aLow c.Drift (c.Readings.map (mvR n)) l ≤ aHigh c.Drift (c.Readings.map (mvR n)) l
    · exact g
    · rw [if_neg g] at h2; simp at h2
  rw [if_pos g2] at h4 ⊢
  dsimp only at h3 h4 ⊢
  have hd : 0 ≤ c.Drift ∧ c.Drift ≤ 100 := ⟨hc.1, hc.2.1⟩
  have b1 := aLow_bd hd hm.ok hl
  have b2 := aHigh_bd hd hm.ok hl
  have p1 := (aLow_le c.Drift c.Readings l _).1 (Int.le_refl _)
  have p2 := (aLow_le c.Drift (c.Readings.map (mvR n)) l _).1 (Int.le_refl _)
  have p3 := (le_aHigh c.Drift c.Readings l _).1 (Int.le_refl _)
  have p4 := (le_aHigh c.Drift (c.Readings.map (mvR n)) l _).1 (Int.le_refl _)
  have q1 : ∀ r ∈ c.Readings, cLow c.Drift r l + n ≤ aLow c.Drift (c.Readings.map (mvR n)) l := fun r hr => by
    rw [← cLow_mv]; exact p2.2 _ (List.mem_map_of_mem hr)
  have q2 : ∀ r ∈ c.Readings, aHigh c.Drift (c.Readings.map (mvR n)) l ≤ cHigh c.Drift r l + n := fun r hr => by
    rw [← cHigh_mv]; exact p4.2 _ (List.mem_map_of_mem hr)
  have k1 : aLow c.Drift (c.Readings.map (mvR n)) l ≤ aLow c.Drift c.Readings l + n := (aLow_le _ _ _ _).2 ⟨by omega, fun r1 hr1 => by
    obtain ⟨r, hr, rfl⟩ := List.mem_map.1 hr1
    rw [cLow_mv]; have := p1.2 r hr; omega⟩
  have k2 : aLow c.Drift c.Readings l + n ≤ aLow c.Drift (c.Readings.map (mvR n)) l := by
    by_cases hge : 0 ≤ aLow c.Drift (c.Readings.map (mvR n)) l - n
    · have := (aLow_le c.Drift c.Readings l (aLow c.Drift (c.Readings.map (mvR n)) l - n)).2 ⟨hge, fun r hr => by have := q1 r hr; omega⟩
      omega
    · have := (aLow_le c.Drift c.Readings l 0).2 ⟨Int.le_refl _, fun r hr => by have := q1 r hr; omega⟩
      omega
  obtain ⟨r0, hr0⟩ : ∃ r, r ∈ c.Readings := by
    cases hrs : c.Readings with
    | nil => rw [hrs] at h0; simp at h0
    | cons r rs => exact ⟨r, by simp⟩
  have hh := course_high hm hc l0 l1 hr0
  have hh2 := p3.2 r0 hr0
  have k3 : aHigh c.Drift c.Readings l + n ≤ aHigh c.Drift (c.Readings.map (mvR n)) l := (le_aHigh _ _ _ _).2 ⟨by omega, fun r1 hr1 => by
    obtain ⟨r, hr, rfl⟩ := List.mem_map.1 hr1
    rw [cHigh_mv]; have := p3.2 r hr; omega⟩
  have k4 : aHigh c.Drift (c.Readings.map (mvR n)) l - n ≤ aHigh c.Drift c.Readings l := (le_aHigh _ _ _ _).2 ⟨by omega, fun r hr => by have := q2 r hr; omega⟩
  rw [wr_id (x := aLow c.Drift c.Readings l + n) (by omega) (by omega), wr_id (x := aHigh c.Drift c.Readings l + n) (by omega) (by omega), if_pos (by omega)]
  congr 1
  rw [beq_iff_eq]; omega
end Go.Proofs.Ythbonailomfjlaa
