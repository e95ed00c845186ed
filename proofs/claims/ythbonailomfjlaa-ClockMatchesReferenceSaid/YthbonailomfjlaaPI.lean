import Derived.Test.YthbonailomfjlaaPR
/-! Chapter 5, plainly: the reference's Valid, Spread, bounds, At, Before, After, Reads. -/
namespace Go.Proofs.Ythbonailomfjlaa
open Go Go.Eng
set_option maxRecDepth 100000
theorem lastL_nonneg {l : List TReading} {k : Nat} (hk : k ≤ l.length) (h : okRs (-1) (l.take k)) (h0 : k ≠ 0) : 0 ≤ lastL l k := by
  unfold lastL
  rw [if_neg h0]
  have h2 := okRs_bd h (k - 1) (by rw [List.length_take]; omega)
  have e : (l.take k).getD (k - 1) default = l.getD (k - 1) default := by
    simp only [List.getD_eq_getElem?_getD]
    rw [List.getElem?_take_of_lt (by omega)]
  rw [e] at h2
  exact h2.1
theorem valid_ref (c : TClock) : ref05_Valid_F c = some (decide (VC c)) := by
  unfold ref05_Valid_F
  simp only [jn_d, cn_dec, cn_t]
  by_cases h1 : c.Drift < 0
  · rw [if_pos h1]; congr 1; symm; exact decide_eq_false fun h => by unfold VC at h; omega
  rw [if_neg h1]
  by_cases h2 : c.Drift > 100
  · rw [if_pos h2]; congr 1; symm; exact decide_eq_false fun h => by unfold VC at h; omega
  rw [if_neg h2]
  by_cases h3 : (c.Readings.length : Int) > 12
  · rw [if_pos h3]; congr 1; symm; exact decide_eq_false fun h => by unfold VC at h; omega
  rw [if_neg h3]
  have hl : c.Readings.length ≤ 12 := by omega
  have hlp : ∃ o, lp (ref05_Valid_b1 c) FU 0 = some o ∧ ((∃ s, o = .inl s) ∧ okRs (-1) c.Readings ∨ o = .inr false ∧ ¬ okRs (-1) c.Readings) := by
    refine lp_runF (fun s => ∃ k : Nat, s = (k : Int) ∧ k ≤ c.Readings.length ∧ okRs (-1) (c.Readings.take k)) (fun s => (c.Readings.length - s.toNat)) _ ?_ _ ⟨0, rfl, by omega, by simp [okRs]⟩ (by simp; omega)
    rintro _ ⟨k, rfl, hk, e2⟩
    have w1 : wr ((k : Int) + 1) = ((k + 1 : Nat) : Int) := by rw [wr_id (by omega) (by omega)]; push_cast; rfl
    unfold ref05_Valid_b1
    simp only [jn_d, cn_dec, w1, cn_t, cn_f]
    by_cases hlt : (k : Int) < (c.Readings.length : Int)
    · rw [if_pos hlt, ix_n (by omega)]
      have hst := okRs_step c.Readings k (by omega)
      obtain ⟨r, hr⟩ : ∃ r, r = c.Readings.getD k default := ⟨_, rfl⟩
      rw [← hr] at hst ⊢
      have good : okR (lastL c.Readings k) r → (∃ s', (some (Ct.nx ((k + 1 : Nat) : Int)) : Option (Ct Int Bool)) = some (.nx s') ∧ (∃ j : Nat, s' = (j : Int) ∧ j ≤ c.Readings.length ∧ okRs (-1) (c.Readings.take j)) ∧ c.Readings.length - s'.toNat < c.Readings.length - ((k : Int)).toNat) := fun hok =>
        ⟨_, rfl, ⟨k + 1, rfl, by omega, hst.2 ⟨e2, hok⟩⟩, by omega⟩
      have bad : ¬ okR (lastL c.Readings k) r → (∃ q, (some (Ct.rt false) : Option (Ct Int Bool)) = some (.rt q) ∧ ((∃ s, (Sum.inr q : Int ⊕ Bool) = .inl s) ∧ okRs (-1) c.Readings ∨ (Sum.inr q : Int ⊕ Bool) = .inr false ∧ ¬ okRs (-1) c.Readings)) := fun hok =>
        ⟨false, rfl, .inr ⟨rfl, fun h => hok ((hst.1 (okRs_take _ _ _ h)).2)⟩⟩
      by_cases g1 : r.Local < 0
      · rw [if_pos g1]
        right; right
        refine bad fun h => ?_
        have h := h.1
        by_cases k0 : k = 0
        · subst k0; simp only [lastL, if_true] at h; omega
        · have := lastL_nonneg hk e2 k0; omega
      rw [if_neg g1]
      by_cases g2 : r.Local > 10000000
      · rw [if_pos g2]; right; right; exact bad fun h => by have := h.2.1; omega
      rw [if_neg g2]
      by_cases g3 : r.Low < 0
      · rw [if_pos g3]; right; right; exact bad fun h => by have := h.2.2.1; omega
      rw [if_neg g3]
      by_cases g4 : r.High < r.Low
      · rw [if_pos g4]; right; right; exact bad fun h => by have := h.2.2.2.1; omega
      rw [if_neg g4]
      by_cases g5 : r.High > 10000000
      · rw [if_pos g5]; right; right; exact bad fun h => by have := h.2.2.2.2; omega
      rw [if_neg g5]
      by_cases k0 : k = 0
      · subst k0
        rw [if_neg (by omega)]
        left
        exact good ⟨by simp only [lastL, if_true]; omega, by omega, by omega, by omega, by omega⟩
      · have w2 : wr ((k : Int) - 1) = ((k - 1 : Nat) : Int) := by rw [wr_id (by omega) (by omega)]; omega
        rw [if_pos (by omega), w2, ix_n (by omega)]
        have hll : lastL c.Readings k = (c.Readings.getD (k - 1) default).Local := by unfold lastL; rw [if_neg k0]
        by_cases g6 : r.Local ≤ (c.Readings.getD (k - 1) default).Local
        · rw [if_pos g6]; right; right; exact bad fun h => by have := h.1; omega
        · rw [if_neg g6]; left; exact good ⟨by omega, by omega, by omega, by omega, by omega⟩
    · right; left
      have : k = c.Readings.length := by omega
      subst this
      rw [List.take_length] at e2
      exact ⟨_, by rw [if_neg (by omega)], .inl ⟨⟨_, rfl⟩, e2⟩⟩
  obtain ⟨o, e, h⟩ := hlp
  rw [e, bd_s]
  rcases h with ⟨⟨s, rfl⟩, h⟩ | ⟨rfl, h⟩
  · rw [smK_l]; congr 1; symm; exact decide_eq_true ⟨by omega, by omega, hl, h⟩
  · rw [smK_r]; congr 1; symm; exact decide_eq_false fun k => h k.2.2.2
/-! Spread. -/
theorem fits_ok {d n x : Int} (h : inS d n) (h0 : 0 ≤ x) (h1 : x ≤ 100000000) : ref05_Fits_F d x n = some (decide (loS d n ≤ x ∧ x ≤ hiS d n)) := by
  have hb := h
  unfold inS at hb
  unfold ref05_Fits_F
  have m1 := mul_bd (a := 1000 - d) (b := x) (A := 1000) (B := 100000000) (by omega) (by omega) (by omega) (by omega)
  have m2 := mul_bd (a := 1000 + d) (b := x) (A := 1100) (B := 100000000) (by omega) (by omega) (by omega) (by omega)
  have e1 : wr (1000 - d) = 1000 - d := wr_id (by omega) (by omega)
  have e2 : wr (1000 + d) = 1000 + d := wr_id (by omega) (by omega)
  have e3 : wr (1000 * n) = 1000 * n := wr_id (by omega) (by omega)
  have e5 : wr ((1000 - d) * x) = (1000 - d) * x := wr_id (by omega) (by omega)
  have e6 : wr ((1000 + d) * x) = (1000 + d) * x := wr_id (by omega) (by omega)
  have e7 : wr ((1000 - d) * x - 1000) = (1000 - d) * x - 1000 := wr_id (by omega) (by omega)
  have e8 : wr ((1000 + d) * x + 1000) = (1000 + d) * x + 1000 := wr_id (by omega) (by omega)
  simp only [jn_d, cn_dec, e1, e2, e3, e5, e6, e7, e8]
  have h1 := le_hiS (x := x) h
  have h2 := loS_le (x := x) h
  rw [Int.mul_comm x] at h1 h2
  generalize (1000 - d) * x = p at h1 ⊢
  generalize (1000 + d) * x = q at h2 ⊢
  generalize loS d n = lo at h2 ⊢
  generalize hiS d n = hi at h1 ⊢
  by_cases c1 : p - 1000 < 1000 * n
  · rw [if_pos c1]; congr 1; exact decide_eq_decide.2 ⟨fun c2 => ⟨h2.2 ⟨h0, c2⟩, h1.2 (by omega)⟩, fun c2 => (h2.1 c2.1).2⟩
  · rw [if_neg c1]; congr 1; symm; exact decide_eq_false fun c2 => c1 (by have := h1.1 c2.2; omega)
theorem spread_ref (d n : Int) (h : inS d n) : ref05_Spread_F d n = some (loS d n, hiS d n) := by
  have hb := h
  unfold inS at hb
  have hh := hiS_bd h
  have hl := loS_le_hiS h
  have hn := loS_nonneg h
  unfold ref05_Spread_F
  simp only [jn_d, cn_dec, cn_t]
  rw [if_neg (by omega), if_neg (by omega), if_neg (by omega), if_neg (by omega)]
  have e1 : wr (1000 - d) = 1000 - d := wr_id (by omega) (by omega)
  have e2 : wr (1000 + d) = 1000 + d := wr_id (by omega) (by omega)
  have e4 : wr (n - 1) = n - 1 := wr_id (by omega) (by omega)
  have e5 : wr (1000 * n) = 1000 * n := wr_id (by omega) (by omega)
  have e6 : wr (1000 * (n - 1)) = 1000 * (n - 1) := wr_id (by omega) (by omega)
  simp only [e1, e2, e4, e5, e6]
  rw [gd_p _ (by omega)]
  obtain ⟨v, hv, v0, v1⟩ : ∃ v, imax (wr (wr ((1000 * (n - 1)).tdiv (1000 + d)) - 1)) 0 = v ∧ 0 ≤ v ∧ v ≤ loS d n := by
    refine ⟨_, rfl, by rw [imax_eq]; omega, ?_⟩
    rw [imax_eq]
    by_cases n0 : 0 < n
    · have t2 : (1000 * (n - 1)).tdiv (1000 + d) = 1000 * (n - 1) / (1000 + d) := Int.tdiv_eq_ediv_of_nonneg (by omega)
      have : loS d n = 1000 * (n - 1) / (1000 + d) + 1 := by unfold loS; rw [if_pos n0]
      rw [t2, wr_id (x := 1000 * (n - 1) / (1000 + d)) (by omega) (by omega), wr_id (by omega) (by omega)]
      omega
    · have : n = 0 := by omega
      subst this
      have t2 : (1000 * (0 - 1) : Int).tdiv (1000 + d) ≤ 0 ∧ -1000 ≤ (1000 * (0 - 1) : Int).tdiv (1000 + d) := by
        have : (1000 * (0 - 1) : Int) = -1000 := by omega
        rw [this, Int.neg_tdiv]
        have := Int.tdiv_eq_ediv_of_nonneg (a := 1000) (b := 1000 + d) (by omega)
        rw [this]
        have a := Int.ediv_nonneg (a := 1000) (b := 1000 + d) (by omega) (by omega)
        have b : (1000 : Int) / (1000 + d) ≤ 1000 := Int.ediv_le_self _ (by omega)
        omega
      rw [wr_id (x := (1000 * (0 - 1) : Int).tdiv (1000 + d)) (by omega) (by omega), wr_id (by omega) (by omega)]
      omega
  rw [hv]
  obtain ⟨o, e, hs⟩ := lp_runF (body := ref05_Spread_b1 d (n, decide (n > 10000000))) (fun s => 0 ≤ s ∧ s ≤ loS d n) (fun s => (loS d n - s).toNat) (fun o => o = .inl (loS d n))
    (fun s ⟨s0, s1⟩ => by
      unfold ref05_Spread_b1
      dsimp only
      rw [fits_ok h s0 (by omega), bd_s]
      have w : wr (s + 1) = s + 1 := wr_id (by omega) (by omega)
      simp only [cn_not, cn_dec, w]
      by_cases c : s = loS d n
      · right; left
        exact ⟨_, by rw [if_pos (by omega)], by rw [c]⟩
      · left
        exact ⟨_, by rw [if_neg (by omega)], ⟨by omega, by omega⟩, by omega⟩) v ⟨v0, v1⟩ (by omega)
  subst hs
  rw [e, bd_s, smK_l, gd_p _ (by omega)]
  obtain ⟨u, hu, u0, u1⟩ : ∃ u, imax (wr (wr ((1000 * n).tdiv (1000 - d)) - 1)) (loS d n) = u ∧ loS d n ≤ u ∧ u ≤ hiS d n := by
    refine ⟨_, rfl, by rw [imax_eq]; omega, ?_⟩
    have t2 : (1000 * n).tdiv (1000 - d) = 1000 * n / (1000 - d) := Int.tdiv_eq_ediv_of_nonneg (by omega)
    have a := Int.ediv_nonneg (a := 1000 * n) (b := 1000 - d) (by omega) (by omega)
    have b : 1000 * n / (1000 - d) ≤ hiS d n := by unfold hiS; exact Int.ediv_le_ediv (by omega) (by omega)
    rw [imax_eq, t2, wr_id (x := 1000 * n / (1000 - d)) (by omega) (by omega), wr_id (by omega) (by omega)]
    omega
  rw [hu]
  obtain ⟨o, e, hs⟩ := lp_runF (body := ref05_Spread_b2 d (n, decide (n > 10000000))) (fun s => loS d n ≤ s ∧ s ≤ hiS d n) (fun s => (hiS d n - s).toNat) (fun o => o = .inl (hiS d n))
    (fun s ⟨s0, s1⟩ => by
      unfold ref05_Spread_b2
      have w : wr (s + 1) = s + 1 := wr_id (by omega) (by omega)
      dsimp only
      rw [w, fits_ok h (by omega) (by omega), bd_s]
      simp only [cn_dec]
      by_cases c : s = hiS d n
      · right; left
        exact ⟨_, by rw [if_neg (by omega)], by rw [c]⟩
      · left
        exact ⟨_, by rw [if_pos (by omega)], ⟨by omega, by omega⟩, by omega⟩) u ⟨u0, u1⟩ (by omega)
  subst hs
  rw [e, bd_s, smK_l]
theorem spread_ref_out (d n : Int) (h : ¬ inS d n) : ref05_Spread_F d n = some (0, 0) := by
  unfold inS at h
  unfold ref05_Spread_F
  simp only [jn_d, cn_dec, cn_t]
  by_cases h1 : d < 0
  · rw [if_pos h1]
  rw [if_neg h1]
  by_cases h2 : d > 100
  · rw [if_pos h2]
  rw [if_neg h2]
  by_cases h3 : n < 0
  · rw [if_pos h3]
  rw [if_neg h3, if_pos (by omega)]
theorem spread_both (d n : Int) : clock_Spread_F d n = ref05_Spread_F d n := by
  by_cases h : inS d n
  · rw [spread_ok d n h, spread_ref d n h]
  · rw [spread_out d n h, spread_ref_out d n h]
/-! bounds. -/
theorem bounds_ok (c : TClock) (l : Int) (hv : VC c) (hl : inL l) : ref05_bounds_F c l = some (aLow c.Drift c.Readings l, aHigh c.Drift c.Readings l) := by
  obtain ⟨d0, d1, hn, hr⟩ := hv
  have hd : 0 ≤ c.Drift ∧ c.Drift ≤ 100 := ⟨d0, d1⟩
  unfold ref05_bounds_F
  obtain ⟨s', e, hs⟩ := lp_fold (body := ref05_bounds_b1 c l) (fun k s => s = (aLow c.Drift (c.Readings.take k) l, aHigh c.Drift (c.Readings.take k) l, (k : Int))) c.Readings.length (by omega)
    (fun k s hk hs => by
      subst hs
      have hb := okRs_bd hr k hk
      have ht := take_okRs hr k
      have b1 := aLow_bd hd ht hl
      have b2 := aHigh_bd hd ht hl
      have tk := take_getD c.Readings default k hk
      have w3 : wr ((k : Int) + 1) = (k : Int) + 1 := wr_id (by omega) (by omega)
      unfold ref05_bounds_b1
      simp only [jn_d, cn_dec, cn_beq, w3]
      rw [if_pos (by omega), ix_n hk, tk]
      have hrl : inL (c.Readings.getD k default).Local := ⟨hb.1, hb.2.1⟩
      have b3 := cLow_bd hd hl hrl
      have b4 := cHigh_bd hd hl hrl
      have f1 : aLow c.Drift (c.Readings.take k ++ [c.Readings.getD k default]) l = max (aLow c.Drift (c.Readings.take k) l) (cLow c.Drift (c.Readings.getD k default) l) := by simp [aLow]
      have f2 : aHigh c.Drift (c.Readings.take k ++ [c.Readings.getD k default]) l = min (aHigh c.Drift (c.Readings.take k) l) (cHigh c.Drift (c.Readings.getD k default) l) := by simp [aHigh]
      rw [f1, f2]
      generalize c.Readings.getD k default = r at hb hrl b3 b4 ⊢
      have hl2 := hl
      unfold inL at hl2
      by_cases c1 : l = r.Local
      · subst c1
        have hs := inS_0 hd
        have x1 := hiS_bd hs; have x2 := loS_le_hiS hs; have x3 := loS_nonneg hs
        rw [if_pos rfl, spread_ref _ _ hs, bd_s]
        simp only [imax_eq, imin_eq]
        have q1 : cLow c.Drift r r.Local = r.Low - hiS c.Drift 0 := by unfold cLow; rw [if_neg (by omega), if_pos rfl]; omega
        have q2 : cHigh c.Drift r r.Local = r.High + hiS c.Drift 0 := by unfold cHigh; rw [if_neg (by omega), Int.sub_self]
        rw [wr_id (by omega) (by omega), wr_id (by omega) (by omega), ← q1, ← q2]
        exact ⟨_, rfl, by push_cast; rfl⟩
      · rw [if_neg c1]
        by_cases c2 : l > r.Local
        · have hs := inS_sub hd hl hrl (by omega)
          have x1 := hiS_bd hs; have x2 := loS_le_hiS hs; have x3 := loS_nonneg hs
          rw [if_pos c2, wr_id (x := l - r.Local) (by omega) (by omega), spread_ref _ _ hs, bd_s]
          simp only [imax_eq, imin_eq]
          have q1 : cLow c.Drift r l = r.Low + loS c.Drift (l - r.Local) := by unfold cLow; rw [if_neg (by omega), if_neg c1]
          have q2 : cHigh c.Drift r l = r.High + hiS c.Drift (l - r.Local) := by unfold cHigh; rw [if_neg (by omega)]
          unfold inS at hs
          rw [wr_id (by omega) (by omega), wr_id (by omega) (by omega), ← q1, ← q2]
          exact ⟨_, rfl, by push_cast; rfl⟩
        · have hs := inS_sub hd hrl hl (by omega)
          have x1 := hiS_bd hs; have x2 := loS_le_hiS hs; have x3 := loS_nonneg hs
          rw [if_neg c2, wr_id (x := r.Local - l) (by omega) (by omega), spread_ref _ _ hs, bd_s]
          simp only [imax_eq, imin_eq]
          have q1 : cLow c.Drift r l = r.Low - hiS c.Drift (r.Local - l) := by unfold cLow; rw [if_pos (by omega)]; omega
          have q2 : cHigh c.Drift r l = r.High - loS c.Drift (r.Local - l) := by unfold cHigh; rw [if_pos (by omega)]; omega
          unfold inS at hs
          rw [wr_id (by omega) (by omega), wr_id (by omega) (by omega), ← q1, ← q2]
          exact ⟨_, rfl, by push_cast; rfl⟩)
    (fun s hs => by
      subst hs
      unfold ref05_bounds_b1
      simp only [cn_dec]
      rw [if_neg (by omega)]) (0, 10000000, 0) rfl
  subst hs
  rw [e, bd_s, smK_l, List.take_length]
theorem at_ref (c : TClock) (l : Int) : ref05_At_F c l = some (atZ c l) := by
  unfold ref05_At_F atZ
  simp only [jn_d, valid_ref, bd_s, cn_not, cn_dec, cn_t, cn_f]
  by_cases hv : VC c
  · rw [if_pos hv]
    by_cases h1 : l < 0
    · rw [if_pos h1, if_neg (by unfold inL; omega)]
    rw [if_neg h1]
    by_cases h2 : l > 10000000
    · rw [if_pos h2, if_neg (by unfold inL; omega)]
    have hl : inL l := ⟨by omega, by omega⟩
    rw [if_neg h2, bounds_ok c l hv hl, bd_s]
    by_cases h3 : aLow c.Drift c.Readings l ≤ aHigh c.Drift c.Readings l
    · rw [if_neg (Int.not_lt.2 h3), if_pos ⟨hv, hl, h3⟩]
    · rw [if_pos (Int.not_le.1 h3), if_neg (fun h => h3 h.2.2)]
  · rw [if_neg hv, if_neg (fun h => hv h.1)]
theorem before_ref (c : TClock) (l t : Int) : ref05_Before_F c l t = some (decide ((atZ c l).2.2 = 0 ∧ (atZ c l).2.1 < t)) := by
  unfold ref05_Before_F
  rw [at_ref, bd_s]
  simp only [jn_d, cn_beq]
  by_cases h : (atZ c l).2.2 = 0 <;> simp [h]
theorem after_ref (c : TClock) (l t : Int) : ref05_After_F c l t = some (decide ((atZ c l).2.2 = 0 ∧ (atZ c l).1 > t)) := by
  unfold ref05_After_F
  rw [at_ref, bd_s]
  simp only [jn_d, cn_beq]
  by_cases h : (atZ c l).2.2 = 0 <;> simp [h]
/-! Reads. -/
theorem reads_ref (c : TClock) (t : Int) (hv : VC c) (ht : inL t) : ∃ f b, ReadsP c t f b ∧ ref05_Reads_F c t = some (readsZ f b) := by
  have hd : 0 ≤ c.Drift ∧ c.Drift ≤ 100 := ⟨hv.1, hv.2.1⟩
  have ht2 := ht
  unfold inL at ht2
  unfold ref05_Reads_F
  simp only [jn_d, valid_ref, bd_s, cn_not, cn_dec]
  rw [if_pos hv, if_neg (by omega), if_neg (by omega)]
  obtain ⟨f, e, f0, f1, hf⟩ := search_lp (body := ref05_Reads_b1 c (t, decide (t > 10000000))) (fun l => t ≤ aHigh c.Drift c.Readings l) 10000001 (by omega) (by omega)
    (fun a b h0 h1 h2 h => Int.le_trans h (aHigh_mono hd hv.2.2.2 ⟨h0, by omega⟩ ⟨by omega, by omega⟩ h1))
    (fun i j h0 h1 h2 => by
      unfold ref05_Reads_b1
      have w : wr ((wr (i + j)).tdiv 2) = (i + j) / 2 := by
        rw [wr_id (x := i + j) (by omega) (by omega), Int.tdiv_eq_ediv_of_nonneg (by omega), wr_id (by omega) (by omega)]
      simp only [jn_d, cn_dec, w]
      rw [if_pos h1, bounds_ok c _ hv ⟨by omega, by omega⟩, bd_s, wr_id (x := (i + j) / 2 + 1) (by omega) (by omega)]
      by_cases h : t ≤ aHigh c.Drift c.Readings ((i + j) / 2)
      · rw [if_pos h, if_pos h]
      · rw [if_neg h, if_neg h])
    (fun i => by
      unfold ref05_Reads_b1
      simp only [cn_dec]
      rw [if_neg (by omega)])
  rw [e, bd_s, smK_l]
  obtain ⟨o, e2, b, rfl, b0, b1, hb⟩ := lp_runF (body := ref05_Reads_b2 c (t, decide (t > 10000000))) (fun s => -1 ≤ s.2 ∧ s.2 < s.1 ∧ s.1 ≤ 10000001 ∧ (∀ l, inL l → l ≤ s.2 → ¬ t < aLow c.Drift c.Readings l) ∧ ∀ l, inL l → s.1 ≤ l → t < aLow c.Drift c.Readings l) (fun s => (s.1 - s.2).toNat)
    (fun o => ∃ b, o = .inl (b, b - 1) ∧ 0 ≤ b ∧ b ≤ 10000001 ∧ ∀ l, inL l → (b ≤ l ↔ t < aLow c.Drift c.Readings l))
    (fun s ⟨h0, h1, h2, h3, h4⟩ => by
      obtain ⟨j, i⟩ := s
      dsimp only at h0 h1 h2 h3 h4
      unfold ref05_Reads_b2
      have w2 : wr (i + 1) = i + 1 := wr_id (by omega) (by omega)
      simp only [jn_d, cn_dec, w2]
      by_cases c1 : i + 1 < j
      · left
        have w : wr ((wr (i + j)).tdiv 2) = (i + j) / 2 := by
          rw [wr_id (x := i + j) (by omega) (by omega), Int.tdiv_eq_ediv_of_nonneg (by omega), wr_id (by omega) (by omega)]
        simp only [w]
        rw [if_pos c1, bounds_ok c _ hv ⟨by omega, by omega⟩, bd_s]
        by_cases c2 : aLow c.Drift c.Readings ((i + j) / 2) ≤ t
        · rw [if_pos c2]
          refine ⟨_, rfl, ⟨by dsimp only; omega, by dsimp only; omega, h2, fun l hl hle => ?_, h4⟩, by dsimp only; omega⟩
          dsimp only at hle
          have := aLow_mono hd hv.2.2.2 hl ⟨by omega, by omega⟩ hle
          omega
        · rw [if_neg c2]
          refine ⟨_, rfl, ⟨by dsimp only; omega, by dsimp only; omega, by dsimp only; omega, h3, fun l hl hle => ?_⟩, by dsimp only; omega⟩
          dsimp only at hle
          have := aLow_mono hd hv.2.2.2 ⟨by omega, by omega⟩ hl hle
          omega
      · right; left
        have : j = i + 1 := by omega
        subst this
        refine ⟨_, by rw [if_neg c1], i + 1, by congr 2; omega, by omega, h2, fun l hl => ⟨fun h => h4 l hl h, fun h => ?_⟩⟩
        rcases Int.lt_or_le l (i + 1) with h' | h'
        · exact absurd h (h3 l hl (by omega))
        · exact h') (10000001, -1) ⟨by dsimp only; omega, by dsimp only; omega, by dsimp only; omega, fun l hl h => by unfold inL at hl; dsimp only at h; omega, fun l hl h => by unfold inL at hl; dsimp only at h; omega⟩ (by dsimp only; omega)
  rw [e2, bd_s, smK_l]
  refine ⟨f, b, ⟨f0, f1, b0, b1, fun l hl => hf l hl.1 (by unfold inL at hl; omega), hb⟩, ?_⟩
  unfold readsZ
  by_cases h : f < b
  · rw [if_pos h, if_neg (by dsimp only; omega)]
  · rw [if_neg h, if_pos (by dsimp only; omega)]
theorem reads_ref_bad (c : TClock) (t : Int) (h : ¬ (VC c ∧ inL t)) : ref05_Reads_F c t = some (0, 0, 50) := by
  unfold ref05_Reads_F
  simp only [jn_d, valid_ref, bd_s, cn_not, cn_dec, cn_t]
  by_cases hv : VC c
  · rw [if_pos hv]
    have h2 : ¬ inL t := fun k => h ⟨hv, k⟩
    unfold inL at h2
    by_cases h1 : t < 0
    · rw [if_pos h1]
    · rw [if_neg h1, if_pos (by omega)]
  · rw [if_neg hv]
theorem reads_both (c : TClock) (t : Int) : ∃ z, clock_Reads_F c t = some z ∧ ref05_Reads_F c t = some z := by
  by_cases h : VC c ∧ inL t
  · obtain ⟨f, b, p, e⟩ := reads_ok c t h.1 h.2
    obtain ⟨f', b', p', e'⟩ := reads_ref c t h.1 h.2
    obtain ⟨rfl, rfl⟩ := p.unique p'
    exact ⟨_, e, e'⟩
  · exact ⟨_, reads_bad c t h, reads_ref_bad c t h⟩
end Go.Proofs.Ythbonailomfjlaa
