import Derived.Test.YthbonailomfjlaaPB
/-! Chapter 5, plainly: around, At, Before, After. -/
namespace Go.Proofs.Ythbonailomfjlaa
open Go Go.Eng
set_option maxRecDepth 100000
/-- Between which true seconds a reading lets a local second be shown. -/
def cLow (d : Int) (r : TReading) (l : Int) : Int := r.Low + (if l < r.Local then -(hiS d (r.Local - l)) else if l = r.Local then -(hiS d 0) else loS d (l - r.Local))
def cHigh (d : Int) (r : TReading) (l : Int) : Int := r.High + (if l < r.Local then -(loS d (r.Local - l)) else hiS d (l - r.Local))
def aLow (d : Int) (rs : List TReading) (l : Int) : Int := rs.foldl (fun a r => max a (cLow d r l)) 0
def aHigh (d : Int) (rs : List TReading) (l : Int) : Int := rs.foldl (fun a r => min a (cHigh d r l)) 10000000
theorem loS_mono {d n m : Int} (h : inS d n) (hm : inS d m) (k : n ≤ m) : loS d n ≤ loS d m := by
  have e := (loS_le (x := loS d m) hm).1 (Int.le_refl _)
  exact (loS_le h).2 ⟨e.1, by omega⟩
theorem hiS_mono {d n m : Int} (h : inS d n) (hm : inS d m) (k : n ≤ m) : hiS d n ≤ hiS d m := by
  have e := (le_hiS (x := hiS d n) h).1 (Int.le_refl _)
  exact (le_hiS hm).2 (by omega)
def inL (l : Int) : Prop := 0 ≤ l ∧ l ≤ 10000000
theorem inS_sub {d a b : Int} (hd : 0 ≤ d ∧ d ≤ 100) (ha : inL a) (hb : inL b) (h : b ≤ a) : inS d (a - b) := by
  unfold inL at *; unfold inS; omega
theorem inS_0 {d : Int} (hd : 0 ≤ d ∧ d ≤ 100) : inS d 0 := by unfold inS; omega
theorem cLow_bd {d l : Int} {r : TReading} (hd : 0 ≤ d ∧ d ≤ 100) (hl : inL l) (hr : inL r.Local) : r.Low - 11111112 ≤ cLow d r l ∧ cLow d r l ≤ r.Low + 10000000 := by
  unfold cLow
  split
  · have h := inS_sub hd hr hl (by omega)
    have := hiS_bd h; have := loS_le_hiS h; unfold inS at h; omega
  · split
    · have h := inS_0 hd
      have := hiS_bd h; have := loS_le_hiS h; unfold inS at h; omega
    · have h := inS_sub hd hl hr (by omega)
      have := loS_nonneg h; have := loS_le_hiS h; unfold inS at h; omega
theorem cHigh_bd {d l : Int} {r : TReading} (hd : 0 ≤ d ∧ d ≤ 100) (hl : inL l) (hr : inL r.Local) : r.High - 10000000 ≤ cHigh d r l ∧ cHigh d r l ≤ r.High + 11111112 := by
  unfold cHigh
  split
  · have h := inS_sub hd hr hl (by omega)
    have := loS_nonneg h; have := loS_le_hiS h; unfold inS at h; omega
  · have h := inS_sub hd hl hr (by omega)
    have := hiS_bd h; have := loS_le_hiS h; unfold inS at h; omega
theorem cLow_mono {d l m : Int} {r : TReading} (hd : 0 ≤ d ∧ d ≤ 100) (hl : inL l) (hm : inL m) (hr : inL r.Local) (k : l ≤ m) : cLow d r l ≤ cLow d r m := by
  have h0 := inS_0 hd
  unfold cLow
  have p0 := (loS_le_hiS h0).2
  by_cases h1 : l < r.Local
  · rw [if_pos h1]
    have a := inS_sub hd hr hl (by omega)
    have pa := (loS_le_hiS a).2
    by_cases h2 : m < r.Local
    · rw [if_pos h2]
      have := hiS_mono (inS_sub hd hr hm (by omega)) a (by omega)
      omega
    · rw [if_neg h2]
      by_cases h3 : m = r.Local
      · rw [if_pos h3]
        have := hiS_mono h0 a (by unfold inS at a; omega)
        omega
      · rw [if_neg h3]
        have := loS_nonneg (inS_sub hd hm hr (by omega))
        unfold inS at a; omega
  · rw [if_neg h1]
    by_cases h3 : l = r.Local
    · rw [if_pos h3, if_neg (by omega)]
      by_cases h4 : m = r.Local
      · rw [if_pos h4]; omega
      · rw [if_neg h4]
        have := loS_nonneg (inS_sub hd hm hr (by omega))
        omega
    · rw [if_neg h3, if_neg (by omega), if_neg (by omega)]
      have := loS_mono (inS_sub hd hl hr (by omega)) (inS_sub hd hm hr (by omega)) (by omega)
      omega
theorem cHigh_mono {d l m : Int} {r : TReading} (hd : 0 ≤ d ∧ d ≤ 100) (hl : inL l) (hm : inL m) (hr : inL r.Local) (k : l ≤ m) : cHigh d r l ≤ cHigh d r m := by
  unfold cHigh
  by_cases h1 : l < r.Local
  · rw [if_pos h1]
    have a := inS_sub hd hr hl (by omega)
    by_cases h2 : m < r.Local
    · rw [if_pos h2]
      have := loS_mono (inS_sub hd hr hm (by omega)) a (by omega)
      omega
    · rw [if_neg h2]
      have := loS_nonneg a
      have b := inS_sub hd hm hr (by omega)
      have := (loS_le_hiS b).2
      unfold inS at b; omega
  · rw [if_neg h1, if_neg (by omega)]
    have := hiS_mono (inS_sub hd hl hr (by omega)) (inS_sub hd hm hr (by omega)) (by omega)
    omega
theorem fold_max_le {α : Type} (f : α → Int) : ∀ (l : List α) (a b : Int), l.foldl (fun a r => max a (f r)) a ≤ b ↔ a ≤ b ∧ ∀ r ∈ l, f r ≤ b
  | [], a, b => by simp
  | x :: l, a, b => by
    rw [List.foldl_cons, fold_max_le f l]
    simp only [List.mem_cons, forall_eq_or_imp, Int.max_le, and_assoc]
theorem le_fold_min {α : Type} (f : α → Int) : ∀ (l : List α) (a b : Int), b ≤ l.foldl (fun a r => min a (f r)) a ↔ b ≤ a ∧ ∀ r ∈ l, b ≤ f r
  | [], a, b => by simp
  | x :: l, a, b => by
    rw [List.foldl_cons, le_fold_min f l]
    simp only [List.mem_cons, forall_eq_or_imp, Int.le_min, and_assoc]
theorem aLow_le (d : Int) (rs : List TReading) (l b : Int) : aLow d rs l ≤ b ↔ 0 ≤ b ∧ ∀ r ∈ rs, cLow d r l ≤ b := fold_max_le _ rs 0 b
theorem le_aHigh (d : Int) (rs : List TReading) (l b : Int) : b ≤ aHigh d rs l ↔ b ≤ 10000000 ∧ ∀ r ∈ rs, b ≤ cHigh d r l := le_fold_min _ rs 10000000 b
theorem okRs_mem {l : List TReading} (h : okRs (-1) l) {r : TReading} (hr : r ∈ l) : inL r.Local ∧ 0 ≤ r.Low ∧ r.Low ≤ r.High ∧ r.High ≤ 10000000 := by
  obtain ⟨k, hk, rfl⟩ := List.getElem_of_mem hr
  have := okRs_bd h k hk
  rw [List.getD_eq_getElem?_getD, List.getElem?_eq_getElem hk] at this
  simp only [Option.getD_some] at this
  exact ⟨⟨this.1, this.2.1⟩, this.2.2⟩
theorem aLow_mono {d l m : Int} {rs : List TReading} (hd : 0 ≤ d ∧ d ≤ 100) (hr : okRs (-1) rs) (hl : inL l) (hm : inL m) (k : l ≤ m) : aLow d rs l ≤ aLow d rs m := by
  have h := (aLow_le d rs m (aLow d rs m)).1 (Int.le_refl _)
  exact (aLow_le d rs l _).2 ⟨h.1, fun r hx => Int.le_trans (cLow_mono hd hl hm (okRs_mem hr hx).1 k) (h.2 r hx)⟩
theorem aHigh_mono {d l m : Int} {rs : List TReading} (hd : 0 ≤ d ∧ d ≤ 100) (hr : okRs (-1) rs) (hl : inL l) (hm : inL m) (k : l ≤ m) : aHigh d rs l ≤ aHigh d rs m := by
  have h := (le_aHigh d rs l (aHigh d rs l)).1 (Int.le_refl _)
  exact (le_aHigh d rs m _).2 ⟨h.1, fun r hx => Int.le_trans (h.2 r hx) (cHigh_mono hd hl hm (okRs_mem hr hx).1 k)⟩
theorem aLow_bd {d l : Int} {rs : List TReading} (hd : 0 ≤ d ∧ d ≤ 100) (hr : okRs (-1) rs) (hl : inL l) : 0 ≤ aLow d rs l ∧ aLow d rs l ≤ 20000000 := by
  refine ⟨((aLow_le d rs l _).1 (Int.le_refl _)).1, (aLow_le d rs l _).2 ⟨by omega, fun r hx => ?_⟩⟩
  have h1 := okRs_mem hr hx
  have := cLow_bd hd hl h1.1
  omega
theorem aHigh_bd {d l : Int} {rs : List TReading} (hd : 0 ≤ d ∧ d ≤ 100) (hr : okRs (-1) rs) (hl : inL l) : -10000000 ≤ aHigh d rs l ∧ aHigh d rs l ≤ 10000000 := by
  refine ⟨(le_aHigh d rs l _).2 ⟨by omega, fun r hx => ?_⟩, ((le_aHigh d rs l _).1 (Int.le_refl _)).1⟩
  have h1 := okRs_mem hr hx
  have := cHigh_bd hd hl h1.1
  omega
theorem take_okRs {l : List TReading} (h : okRs (-1) l) (k : Nat) : okRs (-1) (l.take k) := okRs_take _ _ _ h
/-- around. -/
theorem around_ok (c : TClock) (l : Int) (hv : VC c) (hl : inL l) : clock_around_F c l = some ⟨aLow c.Drift c.Readings l, aHigh c.Drift c.Readings l⟩ := by
  obtain ⟨d0, d1, hn, hr⟩ := hv
  have hd : 0 ≤ c.Drift ∧ c.Drift ≤ 100 := ⟨d0, d1⟩
  unfold clock_around_F
  obtain ⟨s', e, hs⟩ := lp_fold (body := clock_around_b1 c l) (fun k s => s.1 = (k : Int) ∧ s.2 = ⟨aLow c.Drift (c.Readings.take k) l, aHigh c.Drift (c.Readings.take k) l⟩) c.Readings.length (by omega)
    (fun k s hk ⟨e1, e2⟩ => by
      obtain ⟨i, w⟩ := s
      simp only at e1 e2
      subst e1 e2
      have hb := okRs_bd hr k hk
      have ht := take_okRs hr k
      have b1 := aLow_bd hd ht hl
      have b2 := aHigh_bd hd ht hl
      have tk := take_getD c.Readings default k hk
      unfold clock_around_b1
      simp only [cn_dec, cn_beq]
      rw [if_pos (by omega), ix_n hk, tk]
      have hrl : inL (c.Readings.getD k default).Local := ⟨hb.1, hb.2.1⟩
      have b3 := cLow_bd hd hl hrl
      have b4 := cHigh_bd hd hl hrl
      have f1 : aLow c.Drift (c.Readings.take k ++ [c.Readings.getD k default]) l = max (aLow c.Drift (c.Readings.take k) l) (cLow c.Drift (c.Readings.getD k default) l) := by simp [aLow]
      have f2 : aHigh c.Drift (c.Readings.take k ++ [c.Readings.getD k default]) l = min (aHigh c.Drift (c.Readings.take k) l) (cHigh c.Drift (c.Readings.getD k default) l) := by simp [aHigh]
      rw [f1, f2]
      generalize c.Readings.getD k default = r at hb hrl b3 b4 ⊢
      have hl2 := hl
      unfold inL at hl2
      have w1 : wr (l - r.Local) = l - r.Local := wr_id (by omega) (by omega)
      have w2 : wr (r.Local - l) = r.Local - l := wr_id (by omega) (by omega)
      have w3 : wr ((k : Int) + 1) = (k : Int) + 1 := wr_id (by omega) (by omega)
      rw [w1, w2, imax_eq]
      simp only [w3]
      by_cases c1 : l < r.Local
      · have hs := inS_sub hd hrl hl (by omega)
        have x1 := hiS_bd hs; have x2 := loS_le_hiS hs; have x3 := loS_nonneg hs
        rw [show max (l - r.Local) (r.Local - l) = r.Local - l by omega, spread_ok _ _ hs, bd_s]
        simp only [jn_d, if_pos c1]
        have w4 : wr (0 - hiS c.Drift (r.Local - l)) = -(hiS c.Drift (r.Local - l)) := by rw [wr_id (by omega) (by unfold inS at hs; omega)]; omega
        have w5 : wr (0 - loS c.Drift (r.Local - l)) = -(loS c.Drift (r.Local - l)) := by rw [wr_id (by unfold inS at hs; omega) (by omega)]; omega
        rw [w4, w5, imax_eq, imin_eq]
        have q1 : cLow c.Drift r l = r.Low + -(hiS c.Drift (r.Local - l)) := by unfold cLow; rw [if_pos c1]
        have q2 : cHigh c.Drift r l = r.High + -(loS c.Drift (r.Local - l)) := by unfold cHigh; rw [if_pos c1]
        rw [wr_id (by omega) (by omega), wr_id (by omega) (by omega), ← q1, ← q2]
        exact ⟨_, rfl, by omega, rfl⟩
      · by_cases c2 : l = r.Local
        · subst c2
          have hs := inS_0 hd
          have x1 := hiS_bd hs; have x2 := loS_le_hiS hs; have x3 := loS_nonneg hs
          rw [show max (r.Local - r.Local) (r.Local - r.Local) = 0 by omega, spread_ok _ _ hs, bd_s]
          simp only [jn_d, if_neg c1, if_true]
          have w4 : wr (0 - hiS c.Drift 0) = -(hiS c.Drift 0) := by rw [wr_id (by omega) (by omega)]; omega
          rw [w4, imax_eq, imin_eq]
          have q1 : cLow c.Drift r r.Local = r.Low + -(hiS c.Drift 0) := by unfold cLow; rw [if_neg c1, if_pos rfl]
          have q2 : cHigh c.Drift r r.Local = r.High + hiS c.Drift 0 := by unfold cHigh; rw [if_neg c1, Int.sub_self]
          rw [wr_id (by omega) (by omega), wr_id (by omega) (by omega), ← q1, ← q2]
          exact ⟨_, rfl, by omega, rfl⟩
        · have hs := inS_sub hd hl hrl (by omega)
          have x1 := hiS_bd hs; have x2 := loS_le_hiS hs; have x3 := loS_nonneg hs
          rw [show max (l - r.Local) (r.Local - l) = l - r.Local by omega, spread_ok _ _ hs, bd_s]
          simp only [jn_d, if_neg c1, if_neg c2]
          rw [imax_eq, imin_eq]
          have q1 : cLow c.Drift r l = r.Low + loS c.Drift (l - r.Local) := by unfold cLow; rw [if_neg c1, if_neg c2]
          have q2 : cHigh c.Drift r l = r.High + hiS c.Drift (l - r.Local) := by unfold cHigh; rw [if_neg c1]
          unfold inS at hs
          rw [wr_id (by omega) (by omega), wr_id (by omega) (by omega), ← q1, ← q2]
          exact ⟨_, rfl, by omega, rfl⟩)
    (fun s ⟨e1, e2⟩ => by
      obtain ⟨i, w⟩ := s
      simp only at e1 e2
      subst e1
      unfold clock_around_b1
      simp only [cn_dec]
      rw [if_neg (by omega)]) (0, ⟨0, 10000000⟩) ⟨rfl, by simp [aLow, aHigh]⟩
  rw [e, bd_s, smK_l]
  rw [List.take_length] at hs
  rw [hs.2]
instance (l : Int) : Decidable (inL l) := by unfold inL; infer_instance
/-- What At gives. -/
def atZ (c : TClock) (l : Int) : Int × Int × Int := if VC c ∧ inL l ∧ aLow c.Drift c.Readings l ≤ aHigh c.Drift c.Readings l then (aLow c.Drift c.Readings l, aHigh c.Drift c.Readings l, 0) else (0, 0, 50)
theorem at_ok (c : TClock) (l : Int) : clock_At_F c l = some (atZ c l) := by
  unfold clock_At_F atZ
  simp only [jn_d, valid_ok, bd_s, cn_not, cn_dec, cn_t, cn_f]
  by_cases hv : VC c
  · rw [if_pos hv]
    by_cases h1 : l < 0
    · rw [if_pos h1, if_neg (by unfold inL; omega)]
    rw [if_neg h1]
    by_cases h2 : l > 10000000
    · rw [if_pos h2, if_neg (by unfold inL; omega)]
    have hl : inL l := ⟨by omega, by omega⟩
    rw [if_neg h2, around_ok c l hv hl, bd_s]
    by_cases h3 : aLow c.Drift c.Readings l ≤ aHigh c.Drift c.Readings l
    · rw [if_neg (Int.not_lt.2 h3), if_pos ⟨hv, hl, h3⟩]
    · rw [if_pos (Int.not_le.1 h3), if_neg (fun h => h3 h.2.2)]
  · rw [if_neg hv, if_neg (fun h => hv h.1)]
theorem before_ok (c : TClock) (l t : Int) : clock_Before_F c l t = some (decide ((atZ c l).2.2 = 0 ∧ (atZ c l).2.1 < t)) := by
  unfold clock_Before_F
  rw [at_ok, bd_s]
  simp only [jn_d, cn_beq]
  by_cases h : (atZ c l).2.2 = 0 <;> simp [h]
theorem after_ok (c : TClock) (l t : Int) : clock_After_F c l t = some (decide ((atZ c l).2.2 = 0 ∧ (atZ c l).1 > t)) := by
  unfold clock_After_F
  rw [at_ok, bd_s]
  simp only [jn_d, cn_beq]
  by_cases h : (atZ c l).2.2 = 0 <;> simp [h]
end Go.Proofs.Ythbonailomfjlaa
