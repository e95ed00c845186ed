import Derived.Test.YthbonailomfjlaaPA
/-! Chapter 5, plainly: Valid, around, At, Before, After, Reads, and what the reference computes. -/
namespace Go.Proofs.Ythbonailomfjlaa
open Go Go.Eng
set_option maxRecDepth 100000
theorem take_getD {α : Type} (l : List α) (d : α) (k : Nat) (h : k < l.length) : l.take (k + 1) = l.take k ++ [l.getD k d] := by
  rw [List.take_add_one, List.getD_eq_getElem?_getD, List.getElem?_eq_getElem h]; rfl
theorem imax_eq (x y : Int) : imax x y = max x y := by
  show (if y > x then y else x) = _
  rw [Int.max_def]; split <;> split <;> omega
theorem imin_eq (x y : Int) : imin x y = min x y := by
  show (if y < x then y else x) = _
  rw [Int.min_def]; split <;> split <;> omega
/-! Valid. -/
def okR (last : Int) (r : TReading) : Prop := last < r.Local ∧ r.Local ≤ 10000000 ∧ 0 ≤ r.Low ∧ r.Low ≤ r.High ∧ r.High ≤ 10000000
instance (last : Int) (r : TReading) : Decidable (okR last r) := by unfold okR; infer_instance
def okRs : Int → List TReading → Prop
  | _, [] => True
  | last, r :: l => okR last r ∧ okRs r.Local l
def decRs : (last : Int) → (l : List TReading) → Decidable (okRs last l)
  | _, [] => .isTrue trivial
  | last, r :: l => @instDecidableAnd _ _ _ (decRs r.Local l)
instance (last : Int) (l : List TReading) : Decidable (okRs last l) := decRs last l
def VC (c : TClock) : Prop := 0 ≤ c.Drift ∧ c.Drift ≤ 100 ∧ c.Readings.length ≤ 12 ∧ okRs (-1) c.Readings
instance (c : TClock) : Decidable (VC c) := by unfold VC; infer_instance
def lastLoc : Int → List TReading → Int
  | last, [] => last
  | _, r :: l => lastLoc r.Local l
theorem okRs_app : ∀ (l : List TReading) (x : TReading) (last : Int), okRs last (l ++ [x]) ↔ okRs last l ∧ okR (lastLoc last l) x
  | [], x, last => by simp [okRs, lastLoc]
  | r :: l, x, last => by
    have ih := okRs_app l x r.Local
    simp only [List.cons_append, okRs, ih, lastLoc, and_assoc]
theorem lastLoc_app : ∀ (l : List TReading) (x : TReading) (last : Int), lastLoc last (l ++ [x]) = x.Local
  | [], x, last => rfl
  | r :: l, x, last => lastLoc_app l x r.Local
theorem okRs_take (last : Int) : ∀ (l : List TReading) (k : Nat), okRs last l → okRs last (l.take k)
  | [], k, _ => by simp [okRs]
  | r :: l, 0, _ => trivial
  | r :: l, k + 1, h => ⟨h.1, okRs_take r.Local l k h.2⟩
def lastL (l : List TReading) (k : Nat) : Int := if k = 0 then -1 else (l.getD (k - 1) default).Local
theorem getLast_take (l : List TReading) (k : Nat) (h : k ≤ l.length) : lastLoc (-1) (l.take k) = lastL l k := by
  cases k with
  | zero => simp [lastL, lastLoc]
  | succ k =>
    rw [take_getD l default k (by omega), lastLoc_app]
    simp [lastL]
theorem okRs_step (l : List TReading) (k : Nat) (h : k < l.length) : okRs (-1) (l.take (k + 1)) ↔ okRs (-1) (l.take k) ∧ okR (lastL l k) (l.getD k default) := by
  rw [take_getD l default k h, okRs_app, getLast_take l k (by omega)]
theorem okRs_at {l : List TReading} (h : okRs (-1) l) (k : Nat) (hk : k < l.length) : okR (lastL l k) (l.getD k default) := by
  have := okRs_take (-1) l (k + 1) h
  exact ((okRs_step l k hk).1 this).2
theorem okRs_bd {l : List TReading} (h : okRs (-1) l) (k : Nat) (hk : k < l.length) : 0 ≤ (l.getD k default).Local ∧ (l.getD k default).Local ≤ 10000000 ∧ 0 ≤ (l.getD k default).Low ∧ (l.getD k default).Low ≤ (l.getD k default).High ∧ (l.getD k default).High ≤ 10000000 := by
  have h1 := okRs_at h k hk
  refine ⟨?_, h1.2⟩
  have h2 := h1.1
  unfold lastL at h2
  split at h2
  · omega
  · rename_i h0
    have : ∀ n, n < l.length → 0 ≤ (l.getD n default).Local := fun n => by
      induction n with
      | zero => intro hn; have := (okRs_at h 0 hn).1; simp [lastL] at this; simp; omega
      | succ n ih => intro hn; have h3 := (okRs_at h (n + 1) hn).1; have h4 := ih (by omega); simp [lastL] at h3; simp at h4 ⊢; omega
    have := this (k - 1) (by omega)
    omega
theorem valid_ok (c : TClock) : clock_Valid_F c = some (decide (VC c)) := by
  unfold clock_Valid_F
  simp only [jn_d, cn_if, decide_eq_true_eq]
  by_cases h1 : c.Drift < 0
  · rw [if_pos h1, if_pos trivial]; congr 1; symm; exact decide_eq_false fun h => by unfold VC at h; omega
  rw [if_neg h1]
  by_cases h2 : c.Drift > 100
  · rw [if_pos h2, if_pos trivial]; congr 1; symm; exact decide_eq_false fun h => by unfold VC at h; omega
  rw [if_neg h2]
  by_cases h3 : (c.Readings.length : Int) > 12
  · rw [if_pos (by simpa using h3)]; congr 1; symm; exact decide_eq_false fun h => by unfold VC at h; omega
  rw [if_neg (by simpa using h3)]
  have hl : c.Readings.length ≤ 12 := by omega
  have hlp : ∃ o, lp (clock_Valid_b1 c) FU (-1, 0) = some o ∧ ((∃ s, o = .inl s) ∧ okRs (-1) c.Readings ∨ o = .inr false ∧ ¬ okRs (-1) c.Readings) := by
    refine lp_runF (fun s => 0 ≤ s.2 ∧ s.2 ≤ (c.Readings.length : Int) ∧ s.1 = lastL c.Readings s.2.toNat ∧ okRs (-1) (c.Readings.take s.2.toNat)) (fun s => (c.Readings.length - s.2.toNat)) _ ?_ _ ⟨by decide, by simp, by simp [lastL], by simp [okRs]⟩ (by simp; omega)
    rintro ⟨last, i⟩ ⟨i0, i1, e1, e2⟩
    simp only at i0 i1 e1 e2
    obtain ⟨k, rfl⟩ := Int.eq_ofNat_of_zero_le i0
    simp only [Int.ofNat_eq_natCast, Int.toNat_natCast] at e1 e2 i1
    have hk : k ≤ c.Readings.length := by omega
    unfold clock_Valid_b1
    simp only [cn_if, decide_eq_true_eq]
    by_cases hlt : (k : Int) < (c.Readings.length : Int)
    · rw [if_pos hlt, ix_n (by omega)]
      have hst := okRs_step c.Readings k (by omega)
      simp only [jn_d, if_true]
      obtain ⟨r, hr⟩ : ∃ r, r = c.Readings.getD k default := ⟨_, rfl⟩
      simp only [← hr] at hst ⊢
      subst e1
      by_cases hok : okR (lastL c.Readings k) r
      · left
        refine ⟨(r.Local, wr ((k : Int) + 1)), ?_, ⟨?_, ?_, ?_, ?_⟩, ?_⟩
        · unfold okR at hok
          rw [if_neg (by omega), if_neg (by omega), if_neg (by omega), if_neg (by omega)]
          simp only [show ¬ r.High > 10000000 by omega, decide_false, Bool.false_eq_true, if_false]
        · show 0 ≤ wr ((k : Int) + 1)
          rw [wr_id (by omega) (by omega)]; omega
        · show wr ((k : Int) + 1) ≤ _
          rw [wr_id (by omega) (by omega)]; omega
        · show r.Local = lastL _ (wr ((k : Int) + 1)).toNat
          rw [wr_id (by omega) (by omega), show ((k : Int) + 1).toNat = k + 1 by omega]
          simp only [lastL, Nat.add_sub_cancel, ← hr]
          simp
        · show okRs (-1) (c.Readings.take (wr ((k : Int) + 1)).toNat)
          rw [wr_id (by omega) (by omega), show ((k : Int) + 1).toNat = k + 1 by omega]
          exact hst.2 ⟨e2, hok⟩
        · show c.Readings.length - (wr ((k : Int) + 1)).toNat < _
          rw [wr_id (by omega) (by omega)]; simp; omega
      · right; right
        have hbad : ¬ okRs (-1) c.Readings := fun h => hok ((hst.1 (okRs_take _ _ _ h)).2)
        refine ⟨false, ?_, .inr ⟨rfl, hbad⟩⟩
        unfold okR at hok
        by_cases g1 : r.Local ≤ lastL c.Readings k
        · rw [if_pos g1]
        rw [if_neg g1]
        by_cases g2 : r.Local > 10000000
        · rw [if_pos g2]
        rw [if_neg g2]
        by_cases g3 : r.Low < 0
        · rw [if_pos g3]
        rw [if_neg g3]
        by_cases g4 : r.Low > r.High
        · rw [if_pos g4]
        rw [if_neg g4, if_pos (decide_eq_true (by omega))]
    · right; left
      have : k = c.Readings.length := by omega
      subst this
      rw [List.take_length] at e2
      exact ⟨_, by rw [if_neg (by omega)], .inl ⟨⟨_, rfl⟩, e2⟩⟩
  obtain ⟨o, e, h⟩ := hlp
  rw [e, bd_s]
  rcases h with ⟨⟨s, rfl⟩, h⟩ | ⟨rfl, h⟩
  · rw [smK_l]; congr 1; symm; exact decide_eq_true ⟨by omega, by omega, hl, h⟩
  · rw [smK_r]; congr 1; symm; exact decide_eq_false fun k => h k.2.2.2
end Go.Proofs.Ythbonailomfjlaa
