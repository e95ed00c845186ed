import Derived.Test.YthbonailomfjlaaL4
import Derived.Test.YthbonailomfjlaaPR
namespace Go.Proofs.Ythbonailomfjlaa
open Go Go.Eng
set_option maxRecDepth 100000
/-- Two points of a course: the true seconds between them are among those that Spread gives. -/
theorem shown_spread (a0 a1 : Int) (a2 : List Int) {t u : Int} (t0 : 0 ≤ t) (h : t ≤ u) (u1 : u ≤ 10000) :
    0 ≤ shownZ a0 a1 a2 u - shownZ a0 a1 a2 t ∧ inS (pickZ a0 101) (shownZ a0 a1 a2 u - shownZ a0 a1 a2 t) ∧ loS (pickZ a0 101) (shownZ a0 a1 a2 u - shownZ a0 a1 a2 t) ≤ u - t ∧ u - t ≤ hiS (pickZ a0 101) (shownZ a0 a1 a2 u - shownZ a0 a1 a2 t) := by
  obtain ⟨d1, d2⟩ := pickZ_lt a0 (n := 101) (by omega)
  have hd := rawT_diff d1 (by omega) a2 t0 h
  have b1 := shownZ_bd a0 a1 a2 t0 (by omega)
  have b2 := shownZ_bd a0 a1 a2 (t := u) (by omega) u1
  unfold shownZ at b1 b2 ⊢
  generalize pickZ a0 101 = d at *
  have p1 : 0 ≤ (1000 - d) * (u - t) := Int.mul_nonneg (by omega) (by omega)
  have n0 : 0 ≤ pickZ a1 1000 + rawT d a2 u / 1000 - (pickZ a1 1000 + rawT d a2 t / 1000) := by omega
  have hi : inS d (pickZ a1 1000 + rawT d a2 u / 1000 - (pickZ a1 1000 + rawT d a2 t / 1000)) := ⟨d1, by omega, n0, by omega⟩
  refine ⟨n0, hi, (loS_le hi).2 ⟨by omega, ?_⟩, (le_hiS hi).2 ?_⟩
  · rw [Int.mul_comm (u - t)]; omega
  · rw [Int.mul_comm (u - t)]; omega
theorem sound_in {a0 a1 : Int} {a2 : List Int} {c : TClock} (hm : MadeP a0 a1 a2 c) (hc : VC c) {t : Int} (t0 : 0 ≤ t) (t1 : t < 5000) : aLow c.Drift c.Readings (shownZ a0 a1 a2 t) ≤ t ∧ t ≤ aHigh c.Drift c.Readings (shownZ a0 a1 a2 t) := by
  have key : ∀ r ∈ c.Readings, cLow c.Drift r (shownZ a0 a1 a2 t) ≤ t ∧ t ≤ cHigh c.Drift r (shownZ a0 a1 a2 t) := fun r hr => by
    obtain ⟨tr, q0, q1, e, b1, b2, b3⟩ := hm.course r hr
    rw [hm.drift]
    unfold cLow cHigh
    rw [e]
    by_cases h : tr ≤ t
    · obtain ⟨n0, hi, s1, s2⟩ := shown_spread a0 a1 a2 q0 h (by omega)
      simp only [if_neg (show ¬ shownZ a0 a1 a2 t < shownZ a0 a1 a2 tr by omega)]
      by_cases h2 : shownZ a0 a1 a2 t = shownZ a0 a1 a2 tr
      · rw [if_pos h2]
        have z := (loS_le_hiS (inS_0 (d := pickZ a0 101) ⟨hi.1, hi.2.1⟩)).2
        omega
      · rw [if_neg h2]; omega
    · obtain ⟨n0, hi, s1, s2⟩ := shown_spread a0 a1 a2 t0 (show t ≤ tr by omega) (by omega)
      by_cases h2 : shownZ a0 a1 a2 t = shownZ a0 a1 a2 tr
      · have z := loS_le_hiS (inS_0 (d := pickZ a0 101) ⟨hi.1, hi.2.1⟩)
        rw [h2, Int.sub_self] at s2
        rw [if_neg (by omega), if_pos h2, if_neg (by omega), h2, Int.sub_self]; omega
      · rw [if_pos (by omega), if_pos (by omega)]; omega
  exact ⟨(aLow_le _ _ _ _).2 ⟨t0, fun r hr => (key r hr).1⟩, (le_aHigh _ _ _ _).2 ⟨by omega, fun r hr => (key r hr).2⟩⟩
theorem plain4 (a0 a1 : Int) (a2 : List Int) (a3 : List (Int × Int × Int)) (a4 a5 : Int) (o0 : okI a0) (o1 : okI a1) (o2 : okL okI a2) (o3 : okL okA60 a3) (o4 : okI a4) (o5 : okI a5) : law05_ClockSound_F a0 a1 a2 a3 a4 a5 = some true := by
  unfold law05_ClockSound_F
  rw [sane_ok, bd_s]
  simp only [Bool.not_true, cn_f]
  obtain ⟨c, e, hm, hc⟩ := made_ok a0 a1 a2 a3 o0 o1 o2 o3
  rw [e, bd_s, pick_law a4 5000 o4 (by omega), bd_s]
  obtain ⟨t0, t1⟩ := pickZ_lt a4 (n := 5000) (by omega)
  generalize pickZ a4 5000 = t at t0 t1 ⊢
  rw [shown_ok a0 a1 a2 t o0 o1 o2 t0 (by omega), bd_s]
  have hsb := shownZ_bd a0 a1 a2 t0 (by omega)
  have hin := sound_in hm hc t0 t1
  generalize shownZ a0 a1 a2 t = l at hsb hin ⊢
  have hl : inL l := ⟨hsb.1, by omega⟩
  obtain ⟨f, b, hp, e2⟩ := reads_ok c t hc ⟨t0, by omega⟩
  have hA : atZ c l = (aLow c.Drift c.Readings l, aHigh c.Drift c.Readings l, 0) := by unfold atZ; rw [if_pos ⟨hc, hl, by omega⟩]
  have q1 := (hp.hf l hl).2 hin.2
  have q2 : l < b := Int.not_le.1 fun h => by have := (hp.hb l hl).1 h; omega
  have hR : readsZ f b = (f, b - 1, 0) := by unfold readsZ; rw [if_pos (by omega)]
  rw [at_ok, bd_s, e2, bd_s, hA, hR]
  simp only [before_ok, after_ok, valid_ok, bd_s, hA, jn_d, cn_dec, cn_bne, cn_beq, if_true, decide_eq_true hc, Bool.not_true, cn_f, true_and]
  rw [pick_law a5 201 o5 (by omega), bd_s]
  generalize wr (wr (t + pickZ a5 201) - 100) = v
  by_cases c1 : aHigh c.Drift c.Readings l < a5 <;> by_cases c2 : aLow c.Drift c.Readings l > a5 <;> by_cases c3 : aHigh c.Drift c.Readings l < v <;> by_cases c4 : aLow c.Drift c.Readings l > v <;> by_cases c5 : t ≥ a5 <;> by_cases c6 : t ≤ a5 <;> by_cases c7 : t ≥ v <;> by_cases c8 : t ≤ v <;>
    first | (exfalso; omega) | (simp only [c1, c2, c3, c4, c5, c6, c7, c8, if_true, if_false, decide_true, decide_false, cn_t, cn_f]; rw [if_pos hin.1, if_pos hin.2, if_pos q1]; congr 1; exact decide_eq_true (by omega))
end Go.Proofs.Ythbonailomfjlaa
