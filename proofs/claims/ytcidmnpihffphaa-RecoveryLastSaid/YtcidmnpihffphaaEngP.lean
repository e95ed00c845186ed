import Derived.Test.YtcidmnpihffphaaEngX
/-! What is computed, plainly: the combinators as equations; loops by what stays true. -/
namespace Go.Eng
section
variable {α β : Type} {S R : Type}
theorem bd_s (a : α) (f : α → Option β) : bd (some a) f = f a := by unfold bd; rfl
theorem bd_n (f : α → Option β) : bd (none : Option α) f = none := by unfold bd; rfl
theorem cn_t (x y : Option α) : cn true x y = x := by unfold cn; rfl
theorem cn_f (x y : Option α) : cn false x y = y := by unfold cn; rfl
theorem cn_if (b : Bool) (x y : Option α) : cn b x y = if b = true then x else y := by unfold cn; cases b <;> rfl
theorem cn_dec (p : Prop) [Decidable p] (x y : Option α) : cn (decide p) x y = if p then x else y := by
  by_cases h : p
  · rw [if_pos h, decide_eq_true h, cn_t]
  · rw [if_neg h, decide_eq_false h, cn_f]
theorem cn_beq (a b : Int) (x y : Option α) : cn (a == b) x y = if a = b then x else y := by
  by_cases h : a = b
  · rw [if_pos h, beq_iff_eq.2 h, cn_t]
  · rw [if_neg h, beq_false_of_ne h, cn_f]
theorem cn_not (b : Bool) (x y : Option α) : cn (!b) x y = cn b y x := by cases b <;> simp [cn_t, cn_f]
theorem cn_bne (a b : Int) (x y : Option α) : cn (a != b) x y = if a = b then y else x := by
  show cn (!(a == b)) x y = _
  rw [cn_not, cn_beq]
theorem gd_p {G : Prop} [Decidable G] (x : Option α) (h : G) : gd G x = x := by unfold gd; rw [if_pos h]
theorem jn_d {V : Type} (f : V → Option β) (g : (V → Option β) → Option β) : jn f g = g f := by unfold jn; rfl
theorem ctK_n (s : S) (f g : S → Option β) (h : R → Option β) : ctK (.nx s) f g h = f s := by unfold ctK; rfl
theorem ctK_b (s : S) (f g : S → Option β) (h : R → Option β) : ctK (.bk s) f g h = g s := by unfold ctK; rfl
theorem ctK_r (r : R) (f g : S → Option β) (h : R → Option β) : ctK (.rt r) f g h = h r := by unfold ctK; rfl
theorem smK_l (s : S) (f : S → Option β) (g : R → Option β) : smK (.inl s) f g = f s := by unfold smK; rfl
theorem smK_r (r : R) (f : S → Option β) (g : R → Option β) : smK (.inr r) f g = g r := by unfold smK; rfl
theorem ix_p {l : List α} {d : α} {i : Int} {f : α → Option β} (h0 : 0 ≤ i) (h1 : i < (l.length : Int)) : ix l d i f = f (l.getD i.toNat d) := by unfold ix; exact gd_p _ ⟨h0, h1⟩
theorem ix_n {l : List α} {d : α} {k : Nat} {f : α → Option β} (h : k < l.length) : ix l d (k : Int) f = f (l.getD k d) := by rw [ix_p (by omega) (by omega), Int.toNat_natCast]
theorem lt_d (l : List α) (f : List α → Option β) : lt l f = f l := by unfold lt; rfl
theorem ap_p {l x : List α} {f : List α → Option β} (h : l.length + x.length ≤ 1048576) : ap l x f = f (l ++ x) := by unfold ap; exact gd_p _ h
theorem slc_p {l : List α} {lo hi : Int} {f : List α → Option β} (h0 : 0 ≤ lo) (h1 : lo ≤ hi) (h2 : hi ≤ (l.length : Int)) : slc l lo hi f = f (sub l lo hi) := by unfold slc; exact gd_p _ ⟨h0, h1, h2⟩
theorem FU_val : FU = 18446744073709551616 := by unfold FU; rfl
/-- A loop that stays within what is told of it, and ends. -/
theorem lp_run {body : S → Option (Ct S R)} (I : S → Prop) (μ : S → Nat) (Q : S ⊕ R → Prop)
    (step : ∀ s, I s → (∃ s', body s = some (.nx s') ∧ I s' ∧ μ s' < μ s) ∨ (∃ s', body s = some (.bk s') ∧ Q (.inl s')) ∨ (∃ r, body s = some (.rt r) ∧ Q (.inr r))) :
    ∀ (n : Nat) (s : S), I s → μ s < n → ∃ o, lp body n s = some o ∧ Q o
  | 0, s, _, h => by omega
  | n + 1, s, hI, hm => by
    unfold lp
    rcases step s hI with ⟨s', e, hI', hm'⟩ | ⟨s', e, q⟩ | ⟨r, e, q⟩
    · rw [e, bd_s, ctK_n]; exact lp_run I μ Q step n s' hI' (by omega)
    · rw [e, bd_s, ctK_b]; exact ⟨_, rfl, q⟩
    · rw [e, bd_s, ctK_r]; exact ⟨_, rfl, q⟩
/-- The same, at the fuel that the walk gives. -/
theorem lp_runF {body : S → Option (Ct S R)} (I : S → Prop) (μ : S → Nat) (Q : S ⊕ R → Prop)
    (step : ∀ s, I s → (∃ s', body s = some (.nx s') ∧ I s' ∧ μ s' < μ s) ∨ (∃ s', body s = some (.bk s') ∧ Q (.inl s')) ∨ (∃ r, body s = some (.rt r) ∧ Q (.inr r))) (s : S) (hI : I s) (hm : μ s < 18446744073709551616) :
    ∃ o, lp body FU s = some o ∧ Q o := lp_run I μ Q step FU s hI (by rw [FU_val]; exact hm)
/-- A counted loop that only computes: the state's next value is a function of it. -/
theorem lp_fold {body : S → Option (Ct S R)} (I : Nat → S → Prop) (N : Nat) (hN : N < 18446744073709551616)
    (step : ∀ k s, k < N → I k s → ∃ s', body s = some (.nx s') ∧ I (k + 1) s') (stop : ∀ s, I N s → body s = some (.bk s)) (s : S) (hI : I 0 s) :
    ∃ s', lp body FU s = some (.inl s') ∧ I N s' := by
  have key : ∀ (m n k : Nat) (s : S), k + m = N → I k s → m < n → ∃ s', lp body n s = some (.inl s') ∧ I N s' := by
    intro m
    induction m with
    | zero =>
      intro n k s hk hI hn
      obtain ⟨n', rfl⟩ : ∃ n', n = n' + 1 := ⟨n - 1, by omega⟩
      have : k = N := by omega
      subst this
      unfold lp
      rw [stop s hI, bd_s, ctK_b]; exact ⟨_, rfl, hI⟩
    | succ m ih =>
      intro n k s hk hI hn
      obtain ⟨n', rfl⟩ : ∃ n', n = n' + 1 := ⟨n - 1, by omega⟩
      obtain ⟨s', e, hI'⟩ := step k s (by omega) hI
      unfold lp
      rw [e, bd_s, ctK_n]
      exact ih n' (k + 1) s' (by omega) hI' (by omega)
  exact key N FU 0 s (by omega) hI (by rw [FU_val]; exact hN)
end
theorem wr_id {x : Int} (h1 : -9223372036854775808 ≤ x) (h2 : x ≤ 9223372036854775807) : wr x = x := wrap64 h1 h2
theorem mul_bd {a b A B : Int} (ha1 : -A ≤ a) (ha2 : a ≤ A) (hb1 : -B ≤ b) (hb2 : b ≤ B) : -(A * B) ≤ a * b ∧ a * b ≤ A * B := by
  have hA : 0 ≤ A := by omega
  have hB : 0 ≤ B := by omega
  rcases Int.le_total 0 a with h | h <;> rcases Int.le_total 0 b with h' | h'
  · have := Int.mul_le_mul ha2 hb2 h' hA
    have h0 := Int.mul_nonneg h h'
    have h1 := Int.mul_nonneg hA hB
    omega
  · have h2 : a * (-b) ≤ A * B := Int.mul_le_mul ha2 (by omega) (by omega) hA
    have h0 : 0 ≤ a * (-b) := Int.mul_nonneg h (by omega)
    have h1 := Int.mul_nonneg hA hB
    rw [Int.mul_neg] at h2 h0
    omega
  · have h2 : (-a) * b ≤ A * B := Int.mul_le_mul (by omega) hb2 h' hA
    have h0 : 0 ≤ (-a) * b := Int.mul_nonneg (by omega) h'
    have h1 := Int.mul_nonneg hA hB
    rw [Int.neg_mul] at h2 h0
    omega
  · have h2 : (-a) * (-b) ≤ A * B := Int.mul_le_mul (by omega) (by omega) (by omega) hA
    have h0 : 0 ≤ (-a) * (-b) := Int.mul_nonneg (by omega) (by omega)
    have h1 := Int.mul_nonneg hA hB
    rw [Int.neg_mul_neg] at h2 h0
    omega
theorem wr_mul {a b : Int} (A B : Int) (ha1 : -A ≤ a) (ha2 : a ≤ A) (hb1 : -B ≤ b) (hb2 : b ≤ B) (h : A * B ≤ 9223372036854775807) : wr (a * b) = a * b := by
  have := mul_bd ha1 ha2 hb1 hb2
  exact wr_id (by omega) (by omega)
/-- What 'pick' gives. -/
def pickZ (c n : Int) : Int := (if c < 0 then -(c + 1) else c) % n
theorem pickZ_lt (c : Int) {n : Int} (h : 0 < n) : 0 ≤ pickZ c n ∧ pickZ c n < n := ⟨Int.emod_nonneg _ (by omega), Int.emod_lt_of_pos _ h⟩
theorem pickZ_eq (c n : Int) (hc : -9223372036854775808 ≤ c) (hc2 : c ≤ 9223372036854775807) (_hn : 0 < n) : (if c < 0 then Int.tmod (wr (0 - wr (c + 1))) n else Int.tmod c n) = pickZ c n := by
  unfold pickZ
  split
  · rw [wr_id (x := c + 1) (by omega) (by omega), wr_id (by omega) (by omega), Int.tmod_eq_emod_of_nonneg (by omega)]
    congr 1; omega
  · rw [Int.tmod_eq_emod_of_nonneg (by omega)]
end Go.Eng
