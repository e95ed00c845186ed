import Derived.Test.YthbonailomfjlaaPC
/-! Chapter 5, plainly: the course of a clock (Shown), and the clock that integers make of it (Made). -/
namespace Go.Proofs.Ythbonailomfjlaa
open Go Go.Eng
set_option maxRecDepth 100000
/-- How many of the seconds of step i lie before t. -/
def clampT (t i : Int) : Int := max 0 (min (t - 100 * i) 100)
/-- What the first n steps add, in thousandths. -/
def sumT (d : Int) (rates : List Int) (t : Int) : Nat → Int
  | 0 => 0
  | n + 1 => sumT d rates t n + (pickZ (rates.getD n default) (2 * d + 1) - d) * clampT t n
def steps (rates : List Int) : Nat := min rates.length 20
def rawT (d : Int) (rates : List Int) (t : Int) : Int := sumT d rates t (steps rates) + 1000 * t
def shownZ (d0 st : Int) (rates : List Int) (t : Int) : Int := pickZ st 1000 + rawT (pickZ d0 101) rates t / 1000
theorem sumT_bd {d : Int} (h0 : 0 ≤ d) (h1 : d ≤ 100) (rates : List Int) (t : Int) : ∀ n : Nat, -(10000 * (n : Int)) ≤ sumT d rates t n ∧ sumT d rates t n ≤ 10000 * n
  | 0 => by simp [sumT]
  | n + 1 => by
    have ih := sumT_bd h0 h1 rates t n
    have hp := pickZ_lt (rates.getD n default) (n := 2 * d + 1) (by omega)
    have hc : 0 ≤ clampT t n ∧ clampT t n ≤ 100 := by unfold clampT; omega
    have hm := mul_bd (a := pickZ (rates.getD n default) (2 * d + 1) - d) (b := clampT t n) (A := 100) (B := 100) (by omega) (by omega) (by omega) (by omega)
    simp only [sumT]
    push_cast
    omega
theorem sumT_diff {d : Int} (h0 : 0 ≤ d) (rates : List Int) {t u : Int} (h : t ≤ u) : ∀ n : Nat, ∃ m : Int, 0 ≤ m ∧ m ≤ max 0 (min u (100 * n)) - max 0 (min t (100 * n)) ∧ -(d * m) ≤ sumT d rates u n - sumT d rates t n ∧ sumT d rates u n - sumT d rates t n ≤ d * m
  | 0 => ⟨0, by omega, by omega, by simp [sumT], by simp [sumT]⟩
  | n + 1 => by
    obtain ⟨m, m0, m1, m2, m3⟩ := sumT_diff h0 rates h n
    have hp := pickZ_lt (rates.getD n default) (n := 2 * d + 1) (by omega)
    have hc : 0 ≤ clampT u n - clampT t n := by unfold clampT; omega
    refine ⟨m + (clampT u n - clampT t n), by omega, ?_, ?_, ?_⟩
    · unfold clampT; push_cast; omega
    all_goals
      simp only [sumT]
      have hm := mul_bd (a := pickZ (rates.getD n default) (2 * d + 1) - d) (b := clampT u n - clampT t n) (A := d) (B := clampT u n - clampT t n) (by omega) (by omega) (by omega) (by omega)
      rw [Int.mul_sub (pickZ (rates.getD n default) (2 * d + 1) - d)] at hm
      rw [Int.mul_add]
      omega
/-- A course stays within its drift. -/
theorem rawT_diff {d : Int} (h0 : 0 ≤ d) (h1 : d ≤ 100) (rates : List Int) {t u : Int} (ht : 0 ≤ t) (h : t ≤ u) : (1000 - d) * (u - t) ≤ rawT d rates u - rawT d rates t ∧ rawT d rates u - rawT d rates t ≤ (1000 + d) * (u - t) := by
  obtain ⟨m, m0, m1, m2, m3⟩ := sumT_diff h0 rates h (steps rates)
  unfold rawT
  have hm : d * m ≤ d * (u - t) := Int.mul_le_mul_of_nonneg_left (by omega) h0
  rw [Int.sub_mul, Int.add_mul]
  omega
theorem rawT_bd {d : Int} (h0 : 0 ≤ d) (h1 : d ≤ 100) (rates : List Int) {t : Int} (ht : 0 ≤ t) : 900 * t ≤ rawT d rates t ∧ rawT d rates t ≤ 1100 * t := by
  have hz : rawT d rates 0 = 0 := by
    have : ∀ n, sumT d rates 0 n = 0 := fun n => by
      induction n with
      | zero => rfl
      | succ n ih => simp only [sumT, ih]; have : clampT 0 n = 0 := by unfold clampT; omega
                     rw [this]; simp
    unfold rawT; rw [this]; simp
  have := rawT_diff h0 h1 rates (Int.le_refl 0) ht
  rw [hz] at this
  have a : 0 ≤ d * t := Int.mul_nonneg h0 ht
  have b : d * t ≤ 100 * t := Int.mul_le_mul_of_nonneg_right h1 ht
  rw [Int.sub_mul, Int.add_mul] at this
  simp only [Int.sub_zero] at this
  omega
theorem shown_ok (a0 a1 : Int) (a2 : List Int) (a3 : Int) (o0 : okI a0) (o1 : okI a1) (o2 : okL okI a2) (h3 : 0 ≤ a3) (h4 : a3 ≤ 10000) : ref05_Shown_F a0 a1 a2 a3 = some (shownZ a0 a1 a2 a3) := by
  unfold ref05_Shown_F
  rw [pick_ref a0 101 o0 (by omega), bd_s]
  obtain ⟨d1, d2⟩ := pickZ_lt a0 (n := 101) (by omega)
  unfold shownZ
  generalize pickZ a0 101 = d at d1 d2 ⊢
  have hlp : ∃ o, lp (ref05_Shown_b1 a2 a3 d) FU (0, 0) = some o ∧ ∃ i, o = .inl (sumT d a2 a3 (steps a2), i) := by
    refine lp_runF (fun s => ∃ k : Nat, s = (sumT d a2 a3 k, (k : Int)) ∧ k ≤ steps a2) (fun s => 20 - s.2.toNat) _ ?_ _ ⟨0, by simp [sumT], by omega⟩ (by simp)
    rintro _ ⟨k, rfl, hk⟩
    have hs : steps a2 ≤ a2.length ∧ steps a2 ≤ 20 := by unfold steps; omega
    have hb := sumT_bd d1 (by omega) a2 a3 k
    have w1 : wr (100 * (k : Int)) = 100 * k := wr_id (by omega) (by omega)
    unfold ref05_Shown_b1
    simp only [jn_d, cn_dec, w1]
    by_cases h1 : k < a2.length
    · by_cases h2 : k < 20
      · rw [if_pos (by omega), if_pos (by omega)]
        by_cases h5 : a3 > 100 * (k : Int)
        · left
          refine ⟨(sumT d a2 a3 (k + 1), ((k + 1 : Nat) : Int)), ?_, ⟨k + 1, rfl, by unfold steps; omega⟩, by simp; omega⟩
          rw [if_pos h5, ix_n h1]
          have hr : okI (a2.getD k default) := by
            rw [List.getD_eq_getElem?_getD, List.getElem?_eq_getElem h1]; exact o2.1 _ (List.getElem_mem h1)
          have w2 : wr (2 * d) = 2 * d := wr_id (by omega) (by omega)
          have w3 : wr (2 * d + 1) = 2 * d + 1 := wr_id (by omega) (by omega)
          rw [w2, w3, pick_ref _ _ hr (by omega), bd_s]
          obtain ⟨p1, p2⟩ := pickZ_lt (a2.getD k default) (n := 2 * d + 1) (by omega)
          simp only [sumT]
          generalize pickZ (a2.getD k default) (2 * d + 1) = p at p1 p2 ⊢
          have w4 : wr (a3 - 100 * (k : Int)) = a3 - 100 * k := wr_id (by omega) (by omega)
          have w5 : wr (p - d) = p - d := wr_id (by omega) (by omega)
          rw [w4, w5, imin_eq]
          have hc : clampT a3 k = min (a3 - 100 * (k : Int)) 100 := by unfold clampT; omega
          rw [← hc]
          have hc2 : 0 ≤ clampT a3 k ∧ clampT a3 k ≤ 100 := by unfold clampT; omega
          have hm := mul_bd (a := p - d) (b := clampT a3 k) (A := 100) (B := 100) (by omega) (by omega) (by omega) (by omega)
          rw [wr_id (x := (p - d) * clampT a3 k) (by omega) (by omega), wr_id (x := sumT d a2 a3 k + (p - d) * clampT a3 k) (by omega) (by omega), wr_id (x := (k : Int) + 1) (by omega) (by omega)]
          push_cast
          rfl
        · right; left
          refine ⟨_, by rw [if_neg h5], (k : Int), ?_⟩
          have : ∀ n, k ≤ n → sumT d a2 a3 n = sumT d a2 a3 k := fun n hn => by
            induction n with
            | zero => have : k = 0 := by omega
                      subst this; rfl
            | succ n ih =>
              by_cases e : k ≤ n
              · have hc : clampT a3 n = 0 := by unfold clampT; omega
                simp only [sumT, ih e, hc]; simp
              · have : k = n + 1 := by omega
                subst this; rfl
          rw [this _ hk]
      · right; left
        refine ⟨(sumT d a2 a3 k, (k : Int)), by rw [if_pos (by omega), if_neg (by omega)]; simp only [cn_f], (k : Int), ?_⟩
        have : k = steps a2 := by unfold steps at *; omega
        rw [this]
    · right; left
      refine ⟨(sumT d a2 a3 k, (k : Int)), by rw [if_neg (by omega)]; simp only [cn_f], (k : Int), ?_⟩
      have : k = steps a2 := by unfold steps at *; omega
      rw [this]
  obtain ⟨o, e, i, rfl⟩ := hlp
  rw [e, bd_s, smK_l]
  have hb := rawT_bd d1 (by omega) a2 (t := a3) h3
  have hs := sumT_bd d1 (by omega) a2 a3 (steps a2)
  have hst : steps a2 ≤ 20 := by unfold steps; omega
  unfold rawT at hb
  simp only
  rw [wr_id (x := 1000 * a3) (by omega) (by omega), wr_id (x := sumT d a2 a3 (steps a2) + 1000 * a3) (by omega) (by omega), pick_ref a1 1000 o1 (by omega), bd_s]
  obtain ⟨q1, q2⟩ := pickZ_lt a1 (n := 1000) (by omega)
  rw [Int.tdiv_eq_ediv_of_nonneg (by omega)]
  unfold rawT
  rw [wr_id (x := (sumT d a2 a3 (steps a2) + 1000 * a3) / 1000) (by omega) (by omega), wr_id (by omega) (by omega)]
end Go.Proofs.Ythbonailomfjlaa
