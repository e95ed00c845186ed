import Derived.Test.YtcidmnpihffphaaPD
/-! Chapter 34, plainly: sums of capacities; the block before the last ticket. -/
namespace Go.Proofs.Ytcidmnpihffphaa
open Go Go.Eng
set_option maxRecDepth 100000
theorem countP_split {p q r : Nat → Bool} : ∀ (l : List Nat), (∀ j ∈ l, r j = (p j || q j)) → (∀ j ∈ l, p j = true → q j = false) → l.countP r = l.countP p + l.countP q
  | [], _, _ => rfl
  | x :: l, h1, h2 => by
    rw [List.countP_cons, List.countP_cons, List.countP_cons, countP_split l (fun j hj => h1 j (List.mem_cons_of_mem _ hj)) (fun j hj => h2 j (List.mem_cons_of_mem _ hj)), h1 x List.mem_cons_self]
    have := h2 x List.mem_cons_self
    cases hp : p x
    · cases hq : q x <;> simp <;> omega
    · rw [this hp]; simp; omega
def sumZ (f : Int → Int) (s : Int) : Nat → Int
  | 0 => 0
  | k + 1 => sumZ f s k + f (s + k)
theorem sumZ_le {f g : Int → Int} {s : Int} : ∀ {k : Nat}, (∀ i : Nat, i < k → f (s + i) ≤ g (s + i)) → sumZ f s k ≤ sumZ g s k
  | 0, _ => Int.le_refl _
  | k + 1, h => by
    have h1 := sumZ_le (k := k) fun i hi => h i (by omega)
    have h2 := h k (by omega)
    simp only [sumZ]; omega
theorem sumZ_mono {f : Int → Int} {s : Int} (h : ∀ i : Nat, 0 ≤ f (s + i)) {a b : Nat} (hab : a ≤ b) : sumZ f s a ≤ sumZ f s b := by
  induction b with
  | zero => have : a = 0 := by omega
            subst this; exact Int.le_refl _
  | succ b ih =>
    by_cases e : a = b + 1
    · subst e; exact Int.le_refl _
    · have h1 := ih (by omega)
      have h2 := h b
      simp only [sumZ]; omega
/-- Tickets of those who are not urgent, at ticks from s on, before s + k. -/
theorem sum_cnt (ys : List TAttempt) (ts : List TTicket) (n : Nat) (s : Int) : ∀ k : Nat, sumZ (fun z => (cnt ys ts n z : Int)) s k = (((List.range n).countP fun j => !(ys.getD j default).Urgent && decide (s ≤ (ts.getD j default).At ∧ (ts.getD j default).At < s + k) : Nat) : Int)
  | 0 => by
    simp only [sumZ]
    have : (List.range n).countP (fun j => !(ys.getD j default).Urgent && decide (s ≤ (ts.getD j default).At ∧ (ts.getD j default).At < s + ((0 : Nat) : Int))) = 0 := by
      rw [List.countP_eq_zero]
      intro j _
      simp only [Bool.and_eq_true, decide_eq_true_eq, not_and]
      omega
    rw [this]; rfl
  | k + 1 => by
    simp only [sumZ]
    rw [sum_cnt ys ts n s k]
    have := countP_split (p := fun j => !(ys.getD j default).Urgent && decide (s ≤ (ts.getD j default).At ∧ (ts.getD j default).At < s + k)) (q := fun j => !(ys.getD j default).Urgent && ((ts.getD j default).At == s + k)) (r := fun j => !(ys.getD j default).Urgent && decide (s ≤ (ts.getD j default).At ∧ (ts.getD j default).At < s + ((k + 1 : Nat) : Int))) (List.range n) (fun j _ => by
      cases (ys.getD j default).Urgent
      · simp only [Bool.not_false, Bool.true_and]
        rw [Bool.eq_iff_iff]
        simp only [Bool.or_eq_true, decide_eq_true_eq, beq_iff_eq]
        omega
      · rfl) (fun j _ h => by
      simp only [Bool.and_eq_true, decide_eq_true_eq] at h
      have : ¬ (ts.getD j default).At = s + k := by omega
      have h2 : ((ts.getD j default).At == s + k) = false := by simpa using this
      rw [h2, Bool.and_false])
    rw [this]
    unfold cnt
    omega
/-- How many who are not urgent try first from s on. -/
def need (ys : List TAttempt) (s : Int) : Nat := (List.range ys.length).countP fun j => !(ys.getD j default).Urgent && decide (s ≤ (ys.getD j default).At)
section
variable {r : TRegion} {B : Int} {ys : List TAttempt} {ts : List TTicket} (hy : LV ys) (h : PL r B ys ts ys.length)
include h in
theorem need_le {s M : Int} (hs : 0 ≤ s) (hM : ∀ j, j < ys.length → (ys.getD j default).Urgent = false → (ts.getD j default).At ≤ M) {k : Nat} (hk : s + k = M + 1) : (need ys s : Int) ≤ sumZ (capZ r) s k := by
  have h1 : sumZ (fun z => (cnt ys ts ys.length z : Int)) s k ≤ sumZ (capZ r) s k := sumZ_le fun i _ => h.cap _ (by omega)
  rw [sum_cnt] at h1
  have h2 : need ys s ≤ (List.range ys.length).countP fun j => !(ys.getD j default).Urgent && decide (s ≤ (ts.getD j default).At ∧ (ts.getD j default).At < s + k) := by
    unfold need
    refine List.countP_mono_left fun j hj hp => ?_
    simp only [Bool.and_eq_true, decide_eq_true_eq, Bool.not_eq_true'] at hp ⊢
    have hj := List.mem_range.1 hj
    have := h.ge j hj
    have := hM j hj hp.1
    exact ⟨hp.1, by omega, by omega⟩
  omega
include hy h in
theorem block {j : Nat} (hj : j < ys.length) (hu : (ys.getD j default).Urgent = false) (hM : ∀ i, i < ys.length → (ys.getD i default).Urgent = false → (ts.getD i default).At ≤ (ts.getD j default).At) :
    ∃ i, i < ys.length ∧ (ys.getD i default).Urgent = false ∧ ∃ k : Nat, (ys.getD i default).At + k = (ts.getD j default).At ∧ sumZ (capZ r) (ys.getD i default).At k < need ys (ys.getD i default).At := by
  generalize hT : (ts.getD j default).At = T at hM
  have h0 : ∀ i, i < ys.length → 0 ≤ (ys.getD i default).At := fun i hi => by rw [getD_lt hi]; exact (hy.rg _ (List.getElem_mem hi)).2.2.1
  -- the least first attempt from which on all is full
  have key : ∀ (m : Nat) (i : Nat), i < ys.length → (ys.getD i default).Urgent = false → (ys.getD i default).At ≤ T → (∀ z, (ys.getD i default).At ≤ z → z < T → (cnt ys ts ys.length z : Int) = capZ r z) → (ys.getD i default).At ≤ m →
      ∃ i, i < ys.length ∧ (ys.getD i default).Urgent = false ∧ (ys.getD i default).At ≤ T ∧ (∀ z, (ys.getD i default).At ≤ z → z < T → (cnt ys ts ys.length z : Int) = capZ r z) ∧ ∀ k, k < ys.length → (ys.getD k default).Urgent = false → (ys.getD i default).At ≤ (ts.getD k default).At → (ys.getD i default).At ≤ (ys.getD k default).At := by
    intro m
    induction m with
    | zero =>
      intro i hi hiu hiT hG hm
      have := h0 i hi
      exact ⟨i, hi, hiu, hiT, hG, fun k hk _ _ => by have := h0 k hk; omega⟩
    | succ m ih =>
      intro i hi hiu hiT hG hm
      by_cases hx : ∃ k, k < ys.length ∧ (ys.getD k default).Urgent = false ∧ (ys.getD i default).At ≤ (ts.getD k default).At ∧ (ys.getD k default).At < (ys.getD i default).At
      · obtain ⟨k, k1, k2, k3, k4⟩ := hx
        refine ih k k1 k2 (by omega) (fun z hz1 hz2 => ?_) (by omega)
        by_cases e : z < (ts.getD k default).At
        · exact h.full k k1 k2 z hz1 e
        · exact hG z (by omega) hz2
      · refine ⟨i, hi, hiu, hiT, hG, fun k hk hku hkt => ?_⟩
        rcases Int.lt_or_le (ys.getD k default).At (ys.getD i default).At with e | e
        · exact absurd ⟨k, hk, hku, hkt, e⟩ hx
        · exact e
  have hge := h.ge j hj
  rw [hT] at hge
  obtain ⟨i, hi, hiu, hiT, hG, hmin⟩ := key (ys.getD j default).At.toNat j hj hu hge (fun z hz1 hz2 => h.full j hj hu z hz1 (by omega)) (by have := h0 j hj; omega)
  refine ⟨i, hi, hiu, (T - (ys.getD i default).At).toNat, by omega, ?_⟩
  generalize hs : (ys.getD i default).At = s at *
  have e1 : sumZ (capZ r) s (T - s).toNat ≤ sumZ (fun z => (cnt ys ts ys.length z : Int)) s (T - s).toNat := sumZ_le fun x hx => by rw [hG (s + x) (by omega) (by omega)]; exact Int.le_refl _
  have e2 := sum_cnt ys ts ys.length s ((T - s).toNat + 1)
  simp only [sumZ] at e2
  have e3 : (1 : Int) ≤ (cnt ys ts ys.length (s + ((T - s).toNat : Nat)) : Int) := by
    have : 0 < cnt ys ts ys.length (s + ((T - s).toNat : Nat)) := by
      unfold cnt
      rw [List.countP_pos_iff]
      refine ⟨j, List.mem_range.2 hj, ?_⟩
      rw [hu, hT]
      simp; omega
    omega
  have e4 : (List.range ys.length).countP (fun j => !(ys.getD j default).Urgent && decide (s ≤ (ts.getD j default).At ∧ (ts.getD j default).At < s + (((T - s).toNat + 1 : Nat) : Int))) ≤ need ys s := by
    unfold need
    refine List.countP_mono_left fun k hk hp => ?_
    simp only [Bool.and_eq_true, decide_eq_true_eq, Bool.not_eq_true'] at hp ⊢
    exact ⟨hp.1, hmin k (List.mem_range.1 hk) hp.1 hp.2.1⟩
  omega
end
end Go.Proofs.Ytcidmnpihffphaa
