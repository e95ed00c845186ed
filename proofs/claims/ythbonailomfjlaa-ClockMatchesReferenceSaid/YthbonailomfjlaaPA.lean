import Derived.Test.YthbonailomfjlaaW10
import Derived.Test.YthbonailomfjlaaO
import Derived.Test.YthbonailomfjlaaEngP
import Derived.KernelRfl
/-! Chapter 5, plainly: what Spread and pick give. -/
namespace Go.Proofs.Ythbonailomfjlaa
open Go Go.Eng
set_option maxRecDepth 100000
theorem sane_ok : law05_sane_F = some true := by kernel_rfl
theorem pick_law (c n : Int) (hc : okI c) (hn : 0 < n) : law05_pick_F c n = some (pickZ c n) := by
  unfold law05_pick_F
  simp only [jn_d, cn_if, decide_eq_true_eq]
  rw [gd_p _ (by simpa using Int.ne_of_gt hn), gd_p _ (by simpa using Int.ne_of_gt hn)]
  rw [← pickZ_eq c n hc.1 hc.2 hn]
  split <;> rfl
theorem pick_ref (c n : Int) (hc : okI c) (hn : 0 < n) : ref05_pick_F c n = some (pickZ c n) := pick_law c n hc hn
/-- The least and the greatest number of true seconds. -/
def loS (d n : Int) : Int := if 0 < n then 1000 * (n - 1) / (1000 + d) + 1 else 0
def hiS (d n : Int) : Int := (1000 * (n + 1) - 1) / (1000 - d)
def inS (d n : Int) : Prop := 0 ≤ d ∧ d ≤ 100 ∧ 0 ≤ n ∧ n ≤ 10000000
theorem le_hiS {d n x : Int} (h : inS d n) : x ≤ hiS d n ↔ x * (1000 - d) ≤ 1000 * (n + 1) - 1 := by
  unfold inS at h; unfold hiS
  exact Int.le_ediv_iff_mul_le (by omega)
theorem loS_le {d n x : Int} (h : inS d n) : loS d n ≤ x ↔ (0 ≤ x ∧ 1000 * n < x * (1000 + d) + 1000) := by
  unfold inS at h; unfold loS
  split
  · have h1 : 1000 * (n - 1) / (1000 + d) < x ↔ 1000 * (n - 1) < x * (1000 + d) := Int.ediv_lt_iff_lt_mul (by omega)
    constructor
    · intro h2
      have h3 := h1.1 (by omega)
      have h4 : 0 ≤ 1000 * (n - 1) / (1000 + d) := Int.ediv_nonneg (by omega) (by omega)
      exact ⟨by omega, by omega⟩
    · rintro ⟨_, h2⟩
      have := h1.2 (by omega)
      omega
  · have : n = 0 := by omega
    subst this
    constructor
    · intro h2
      have : 0 ≤ x * (1000 + d) := Int.mul_nonneg h2 (by omega)
      exact ⟨h2, by omega⟩
    · exact fun h2 => h2.1
theorem loS_nonneg {d n : Int} (h : inS d n) : 0 ≤ loS d n := ((loS_le h).1 (Int.le_refl _)).1
theorem loS_le_hiS {d n : Int} (h : inS d n) : loS d n ≤ n ∧ n ≤ hiS d n := by
  refine ⟨(loS_le h).2 ⟨h.2.2.1, ?_⟩, (le_hiS h).2 ?_⟩
  · have : n * (1000 + d) = 1000 * n + n * d := by rw [Int.mul_add]; omega
    have h1 := Int.mul_nonneg h.2.2.1 h.1
    omega
  · have : n * (1000 - d) = 1000 * n - n * d := by rw [Int.mul_sub]; omega
    have h1 := Int.mul_nonneg h.2.2.1 h.1
    omega
theorem hiS_bd {d n : Int} (h : inS d n) : hiS d n ≤ 11111112 := by
  have h1 := (le_hiS h).1 (Int.le_refl _)
  unfold inS at h
  have h2 : hiS d n * 900 ≤ hiS d n * (1000 - d) := Int.mul_le_mul_of_nonneg_left (by omega) (by have := (loS_le_hiS h).2; omega)
  omega
theorem spread_ok (d n : Int) (h : inS d n) : clock_Spread_F d n = some (loS d n, hiS d n) := by
  have hb := h
  unfold inS at hb
  unfold clock_Spread_F
  simp only [jn_d, cn_if, decide_eq_true_eq]
  rw [if_neg (by omega), if_neg (by omega), if_neg (by omega)]
  simp only [show ¬ n > 10000000 by omega, if_false]
  unfold loS hiS
  have e1 : wr (1000 - d) = 1000 - d := wr_id (by omega) (by omega)
  have e2 : wr (1000 + d) = 1000 + d := wr_id (by omega) (by omega)
  have e3 : wr (n + 1) = n + 1 := wr_id (by omega) (by omega)
  have e4 : wr (n - 1) = n - 1 := wr_id (by omega) (by omega)
  have e5 : wr (1000 * (n + 1)) = 1000 * (n + 1) := wr_id (by omega) (by omega)
  have e6 : wr (1000 * (n - 1)) = 1000 * (n - 1) := wr_id (by omega) (by omega)
  have e7 : wr (1000 * (n + 1) - 1) = 1000 * (n + 1) - 1 := wr_id (by omega) (by omega)
  simp only [e1, e2, e3, e4, e5, e6, e7]
  have hh := hiS_bd h
  have hl := loS_le_hiS h
  have hn := loS_nonneg h
  unfold loS at hn hl
  unfold hiS at hh hl
  rw [gd_p _ (by omega), gd_p _ (by omega)]
  have t1 : (1000 * (n + 1) - 1).tdiv (1000 - d) = (1000 * (n + 1) - 1) / (1000 - d) := Int.tdiv_eq_ediv_of_nonneg (by omega)
  rw [t1]
  split
  · rename_i hn0
    have hn0 : 0 < n := hn0
    have t2 : (1000 * (n - 1)).tdiv (1000 + d) = 1000 * (n - 1) / (1000 + d) := Int.tdiv_eq_ediv_of_nonneg (by omega)
    rw [if_pos hn0] at hn hl
    rw [t2, wr_id (x := 1000 * (n - 1) / (1000 + d)) (by omega) (by omega), wr_id (by omega) (by omega), wr_id (by omega) (by omega)]
  · rename_i hn0
    rw [if_neg hn0] at hn hl
    rw [wr_id (by omega) (by omega), gd_p _ (by omega)]
theorem spread_out (d n : Int) (h : ¬ inS d n) : clock_Spread_F d n = some (0, 0) := by
  unfold inS at h
  unfold clock_Spread_F
  simp only [jn_d, cn_if, decide_eq_true_eq]
  split
  · rfl
  · split
    · rfl
    · split
      · rfl
      · simp only [show n > 10000000 by omega, decide_true, if_true]
end Go.Proofs.Ythbonailomfjlaa
