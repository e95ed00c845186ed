import Derived.Test.YthbonailomfjlaaPE
/-! Chapter 5, plainly: Reads, of the program and of the reference. -/
namespace Go.Proofs.Ythbonailomfjlaa
open Go Go.Eng
set_option maxRecDepth 100000
/-- A search by halves. -/
theorem search_lp {R : Type} {body : Int × Int → Option (Ct (Int × Int) R)} (p : Int → Prop) [DecidablePred p] (n : Int) (hn : 0 ≤ n) (hn2 : n ≤ 100000000) (mono : ∀ a b, 0 ≤ a → a ≤ b → b < n → p a → p b)
    (step : ∀ i j, 0 ≤ i → i < j → j ≤ n → body (i, j) = some (.nx (if p ((i + j) / 2) then (i, (i + j) / 2) else ((i + j) / 2 + 1, j)))) (stop : ∀ i, body (i, i) = some (.bk (i, i))) :
    ∃ f, lp body FU (0, n) = some (.inl (f, f)) ∧ 0 ≤ f ∧ f ≤ n ∧ ∀ l, 0 ≤ l → l < n → (f ≤ l ↔ p l) := by
  obtain ⟨o, e, f, rfl, h⟩ := lp_runF (body := body) (fun s => 0 ≤ s.1 ∧ s.1 ≤ s.2 ∧ s.2 ≤ n ∧ (∀ l, 0 ≤ l → l < s.1 → ¬ p l) ∧ ∀ l, s.2 ≤ l → l < n → p l) (fun s => (s.2 - s.1).toNat) (fun o => ∃ f, o = .inl (f, f) ∧ 0 ≤ f ∧ f ≤ n ∧ ∀ l, 0 ≤ l → l < n → (f ≤ l ↔ p l))
    (fun s ⟨h0, h1, h2, h3, h4⟩ => by
      obtain ⟨i, j⟩ := s
      dsimp only at h0 h1 h2 h3 h4
      by_cases hij : i < j
      · left
        rw [step i j h0 hij h2]
        by_cases hp : p ((i + j) / 2)
        · rw [if_pos hp]
          exact ⟨_, rfl, ⟨h0, by dsimp only; omega, by dsimp only; omega, h3, fun l hl hln => mono _ l (by omega) hl hln hp⟩, by dsimp only; omega⟩
        · rw [if_neg hp]
          exact ⟨_, rfl, ⟨by dsimp only; omega, by dsimp only; omega, h2, fun l hl hln hpl => hp (mono l _ hl (by dsimp only at hln; omega) (by omega) hpl), h4⟩, by dsimp only; omega⟩
      · right; left
        have : i = j := by omega
        subst this
        exact ⟨_, stop i, i, rfl, h0, h2, fun l hl hln => ⟨fun hf => h4 l hf hln, fun hp => by
          rcases Int.lt_or_le l i with hlt | hle
          · exact absurd hp (h3 l hl hlt)
          · exact hle⟩⟩) (0, n) ⟨by dsimp only; omega, hn, by dsimp only; omega, fun l a b => by dsimp only at b; omega, fun l a b => by dsimp only at a; omega⟩ (by dsimp only; omega)
  exact ⟨f, e, h⟩
/-- From which local second on 'high' is not less than t; from which on 'low' is greater. -/
structure ReadsP (c : TClock) (t f b : Int) : Prop where
  f0 : 0 ≤ f
  f1 : f ≤ 10000001
  b0 : 0 ≤ b
  b1 : b ≤ 10000001
  hf : ∀ l, inL l → (f ≤ l ↔ t ≤ aHigh c.Drift c.Readings l)
  hb : ∀ l, inL l → (b ≤ l ↔ t < aLow c.Drift c.Readings l)
theorem ReadsP.unique {c : TClock} {t f b f' b' : Int} (h : ReadsP c t f b) (k : ReadsP c t f' b') : f = f' ∧ b = b' := by
  have a1 := h.f0; have a2 := h.f1; have a3 := h.b0; have a4 := h.b1
  have c1 := k.f0; have c2 := k.f1; have c3 := k.b0; have c4 := k.b1
  constructor
  · by_cases h1 : f < f'
    · have q := (h.hf f ⟨a1, by omega⟩).trans (k.hf f ⟨a1, by omega⟩).symm; omega
    · by_cases h2 : f' < f
      · have q := (h.hf f' ⟨c1, by omega⟩).trans (k.hf f' ⟨c1, by omega⟩).symm; omega
      · omega
  · by_cases h1 : b < b'
    · have q := (h.hb b ⟨a3, by omega⟩).trans (k.hb b ⟨a3, by omega⟩).symm; omega
    · by_cases h2 : b' < b
      · have q := (h.hb b' ⟨c3, by omega⟩).trans (k.hb b' ⟨c3, by omega⟩).symm; omega
      · omega
theorem half_u {i j : Int} (h0 : 0 ≤ i) (h1 : i ≤ 10000001) (h2 : 0 ≤ j) (h3 : j ≤ 10000001) : wr (bshr .u64 (IntKind.u64.wrap (wr (i + j))) 1) = (i + j) / 2 := by
  rw [wr_id (x := i + j) (by omega) (by omega)]
  have e : IntKind.u64.wrap (i + j) = i + j := by
    simp [IntKind.wrap, IntKind.bits, IntKind.signed]; omega
  have e2 : (min (1 : Int).toNat IntKind.u64.bits) = 1 := by decide
  show wr ((IntKind.u64.wrap (i + j)).fdiv (2 ^ (min (1 : Int).toNat IntKind.u64.bits))) = _
  rw [e, e2, Int.fdiv_eq_ediv_of_nonneg _ (by decide), wr_id (by omega) (by omega)]
  rfl
theorem search39 (c : TClock) (t : Int) (hv : VC c) : ∃ f, sort_Search_39_F 10000001 c t = some f ∧ 0 ≤ f ∧ f ≤ 10000001 ∧ ∀ l, inL l → (f ≤ l ↔ t ≤ aHigh c.Drift c.Readings l) := by
  have hd : 0 ≤ c.Drift ∧ c.Drift ≤ 100 := ⟨hv.1, hv.2.1⟩
  obtain ⟨f, e, f0, f1, hf⟩ := search_lp (body := sort_Search_39_b1 c t) (fun l => t ≤ aHigh c.Drift c.Readings l) 10000001 (by omega) (by omega)
    (fun a b h0 h1 h2 h => Int.le_trans h (aHigh_mono hd hv.2.2.2 ⟨h0, by omega⟩ ⟨by omega, by omega⟩ h1))
    (fun i j h0 h1 h2 => by
      unfold sort_Search_39_b1 clock_Reads_1_F
      simp only [cn_dec]
      rw [if_pos h1]
      rw [half_u h0 (by omega) (by omega) (by omega), around_ok c _ hv ⟨by omega, by omega⟩, bd_s, bd_s, jn_d, cn_not, cn_dec]
      rw [wr_id (x := (i + j) / 2 + 1) (by omega) (by omega)]
      by_cases h : t ≤ aHigh c.Drift c.Readings ((i + j) / 2)
      · rw [if_pos h, if_pos h]
      · rw [if_neg h, if_neg h])
    (fun i => by
      unfold sort_Search_39_b1
      simp only [cn_dec]
      rw [if_neg (by omega)])
  unfold sort_Search_39_F
  rw [e, bd_s, smK_l]
  exact ⟨f, rfl, f0, f1, fun l hl => hf l hl.1 (by unfold inL at hl; omega)⟩
theorem search40 (c : TClock) (t : Int) (hv : VC c) : ∃ f, sort_Search_40_F 10000001 c t = some f ∧ 0 ≤ f ∧ f ≤ 10000001 ∧ ∀ l, inL l → (f ≤ l ↔ t < aLow c.Drift c.Readings l) := by
  have hd : 0 ≤ c.Drift ∧ c.Drift ≤ 100 := ⟨hv.1, hv.2.1⟩
  obtain ⟨f, e, f0, f1, hf⟩ := search_lp (body := sort_Search_40_b1 c t) (fun l => t < aLow c.Drift c.Readings l) 10000001 (by omega) (by omega)
    (fun a b h0 h1 h2 h => Int.lt_of_lt_of_le h (aLow_mono hd hv.2.2.2 ⟨h0, by omega⟩ ⟨by omega, by omega⟩ h1))
    (fun i j h0 h1 h2 => by
      unfold sort_Search_40_b1 clock_Reads_2_F
      simp only [cn_dec]
      rw [if_pos h1]
      rw [half_u h0 (by omega) (by omega) (by omega), around_ok c _ hv ⟨by omega, by omega⟩, bd_s, bd_s, jn_d, cn_not, cn_dec]
      rw [wr_id (x := (i + j) / 2 + 1) (by omega) (by omega)]
      by_cases h : t < aLow c.Drift c.Readings ((i + j) / 2)
      · rw [if_pos h, if_pos h]
      · rw [if_neg h, if_neg h])
    (fun i => by
      unfold sort_Search_40_b1
      simp only [cn_dec]
      rw [if_neg (by omega)])
  unfold sort_Search_40_F
  rw [e, bd_s, smK_l]
  exact ⟨f, rfl, f0, f1, fun l hl => hf l hl.1 (by unfold inL at hl; omega)⟩
/-- What Reads gives. -/
def readsZ (f b : Int) : Int × Int × Int := if f < b then (f, b - 1, 0) else (0, 0, 50)
theorem reads_ok (c : TClock) (t : Int) (hv : VC c) (ht : inL t) : ∃ f b, ReadsP c t f b ∧ clock_Reads_F c t = some (readsZ f b) := by
  obtain ⟨f, e1, f0, f1, hf⟩ := search39 c t hv
  obtain ⟨b, e2, b0, b1, hb⟩ := search40 c t hv
  refine ⟨f, b, ⟨f0, f1, b0, b1, hf, hb⟩, ?_⟩
  unfold inL at ht
  unfold clock_Reads_F readsZ
  simp only [jn_d, valid_ok, bd_s, cn_not, cn_dec]
  rw [if_pos hv, if_neg (by omega), if_neg (by omega), e1, bd_s, e2, bd_s]
  by_cases h : f < b
  · rw [if_neg (by omega), if_pos h, wr_id (by omega) (by omega)]
  · rw [if_pos (by omega), if_neg h]
theorem reads_bad (c : TClock) (t : Int) (h : ¬ (VC c ∧ inL t)) : clock_Reads_F c t = some (0, 0, 50) := by
  unfold clock_Reads_F
  simp only [jn_d, valid_ok, bd_s, cn_not, cn_dec, cn_t]
  by_cases hv : VC c
  · rw [if_pos hv]
    have h2 : ¬ inL t := fun k => h ⟨hv, k⟩
    unfold inL at h2
    by_cases h1 : t < 0
    · rw [if_pos h1]
    · rw [if_neg h1, if_pos (by omega)]
  · rw [if_neg hv]
end Go.Proofs.Ythbonailomfjlaa
