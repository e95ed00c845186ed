import Derived.Test.YtcidmnpihffphaaPs
import Derived.Test.YtcidmnpihffphaaO
import Derived.Test.YtcidmnpihffphaaEngP
/-! Chapter 34, plainly: regions, attempts, capacities. -/
namespace Go.Proofs.Ytcidmnpihffphaa
open Go Go.Eng
set_option maxRecDepth 100000
theorem pick_law (c n : Int) (hc : okI c) (hn : 0 < n) : law34_pick_F c n = some (pickZ c n) := by
  unfold law34_pick_F
  simp only [jn_d, cn_if, decide_eq_true_eq]
  rw [gd_p _ (by simpa using Int.ne_of_gt hn), gd_p _ (by simpa using Int.ne_of_gt hn)]
  rw [← pickZ_eq c n hc.1 hc.2 hn]
  split <;> rfl
theorem pick_ref (c n : Int) (hc : okI c) (hn : 0 < n) : ref34_pick_F c n = some (pickZ c n) := pick_law c n hc hn
/-- A region that is valid. -/
structure RV (r : TRegion) : Prop where
  ne : r.Steps ≠ []
  len : r.Steps.length ≤ 10
  sg : 1 ≤ r.Signals ∧ r.Signals ≤ 100
  h0 : ∀ g, r.Steps.head? = some g → g.From = 0
  pw : r.Steps.Pairwise (fun x y => x.From < y.From ∧ x.Capacity ≤ y.Capacity)
  rg : ∀ g ∈ r.Steps, 0 ≤ g.From ∧ g.From ≤ 1000 ∧ 0 ≤ g.Capacity ∧ g.Capacity ≤ 20
  ps : ∃ g ∈ r.Steps, 1 ≤ g.Capacity
theorem okL_get {α : Type} [Inhabited α] {ok : α → Prop} {l : List α} (h : okL ok l) {k : Nat} (hk : k < l.length) : ok (l.getD k default) := by
  have e : l.getD k default = l[k] := by simp [hk]
  rw [e]; exact h.1 _ (List.getElem_mem hk)
/-- Of the steps laid so far. -/
structure MI (k : Nat) (s : Int × Int × Int × TRegion) : Prop where
  i : s.2.2.1 = k
  len : s.2.2.2.Steps.length = k
  fr : 0 ≤ s.1 ∧ s.1 ≤ 8 * k
  cp : 0 ≤ s.2.1 ∧ s.2.1 ≤ 20
  z : k = 0 → s.1 = 0 ∧ s.2.1 = 0
  h0 : ∀ g, s.2.2.2.Steps.head? = some g → g.From = 0
  pw : s.2.2.2.Steps.Pairwise (fun x y => x.From < y.From ∧ x.Capacity ≤ y.Capacity)
  rg : ∀ g ∈ s.2.2.2.Steps, 0 ≤ g.From ∧ g.From ≤ s.1 ∧ 0 ≤ g.Capacity ∧ g.Capacity ≤ s.2.1
  lst : 0 < k → ∃ g ∈ s.2.2.2.Steps, g.Capacity = s.2.1
theorem made_ok' (a0 : List (Int × Int)) (a1 : Int) (o0 : okL okA71 a0) (o1 : okI a1) : ∃ r, ref34_Made_F a0 a1 = some r ∧ RV r ∧ ∀ g ∈ r.Steps, g.From ≤ 41 := by
  unfold ref34_Made_F
  rw [pick_ref a1 12 o1 (by omega), bd_s]
  obtain ⟨p1, p2⟩ := pickZ_lt a1 (n := 12) (by omega)
  have e1 : wr (1 + pickZ a1 12) = 1 + pickZ a1 12 := wr_id (by omega) (by omega)
  rw [e1]
  obtain ⟨s, hs, hI, hsg⟩ := lp_fold (body := ref34_Made_b1 a0) (fun k s => MI k s ∧ s.2.2.2.Signals = 1 + pickZ a1 12) (min a0.length 5) (by omega) (fun k s hk ⟨h, hg⟩ => by
    have hk1 : k < a0.length := by omega
    obtain ⟨f, c, i, r⟩ := s
    have hi : i = (k : Int) := h.i
    subst hi
    obtain ⟨oa, ob⟩ := okL_get o0 hk1
    obtain ⟨q1, q2⟩ := pickZ_lt (a0.getD k default).1 (n := 8) (by omega)
    obtain ⟨q3, q4⟩ := pickZ_lt (a0.getD k default).2 (n := 4) (by omega)
    have hf := h.fr; have hc := h.cp
    simp only at hf hc
    unfold ref34_Made_b1
    simp only [jn_d, cn_dec]
    rw [if_pos (by omega)]
    simp only [show ((k : Int) < 5) by omega, decide_true, cn_t]
    have hl : r.Steps.length = k := h.len
    by_cases h0 : (k : Int) > 0
    · rw [if_pos h0, ix_n hk1, pick_ref _ _ oa (by omega), bd_s, ix_n hk1, pick_ref _ _ ob (by omega), bd_s, lt_d, ap_p (by simp; omega)]
      generalize pickZ (a0.getD k default).1 8 = u at q1 q2 ⊢
      generalize pickZ (a0.getD k default).2 4 = v at q3 q4 ⊢
      simp only [wr_id (x := f + 1) (by omega) (by omega), wr_id (x := f + 1 + u) (by omega) (by omega), wr_id (x := c + v) (by omega) (by omega), wr_id (x := (k : Int) + 1) (by omega) (by omega)]
      refine ⟨_, rfl, ⟨by simp, by simp [hl], by simp only; omega, by simp only [imin]; split <;> omega, fun h => by omega, ?_, ?_, ?_, ?_⟩, hg⟩
      · intro g hg'
        refine h.h0 g ?_
        have hne : r.Steps ≠ [] := fun e => by rw [e] at hl; simp at hl; omega
        simp only at hg' ⊢
        obtain ⟨x, xs, e⟩ := List.exists_cons_of_ne_nil hne
        rw [e] at hg' ⊢
        simpa using hg'
      · simp only
        rw [List.pairwise_append]
        refine ⟨h.pw, by simp, fun x hx y hy => ?_⟩
        simp at hy; subst hy
        have := h.rg x hx
        simp only at this ⊢
        simp only [imin]
        split <;> omega
      · intro g hg'
        simp only at hg' ⊢
        rcases List.mem_append.1 hg' with h1 | h1
        · have := h.rg g h1
          simp only at this
          simp only [imin]
          split <;> omega
        · simp at h1; subst h1
          simp only [imin]
          split <;> omega
      · exact fun _ => ⟨_, by simp only; exact List.mem_append_right _ (List.mem_singleton.2 rfl), rfl⟩
    · have hk0 : k = 0 := by omega
      subst hk0
      obtain ⟨z1, z2⟩ := h.z rfl
      simp only at z1 z2
      subst z1; subst z2
      have hnil : r.Steps = [] := List.length_eq_zero_iff.1 hl
      rw [if_neg h0, ix_n hk1, pick_ref _ _ ob (by omega), bd_s, lt_d, ap_p (by simp; omega)]
      generalize pickZ (a0.getD 0 default).2 4 = v at q3 q4 ⊢
      simp only [wr_id (x := (0 : Int) + v) (by omega) (by omega), wr_id (x := ((0 : Nat) : Int) + 1) (by omega) (by omega)]
      refine ⟨_, rfl, ⟨by simp, by simp [hnil], by simp, by simp only [imin]; split <;> omega, fun h => by omega, ?_, ?_, ?_, ?_⟩, hg⟩
      · intro g hg'
        rw [hnil] at hg'
        simp at hg'
        rw [← hg']
      · simp [hnil]
      · intro g hg'
        rw [hnil] at hg'
        simp at hg'
        subst hg'
        simp only [imin]
        split <;> omega
      · exact fun _ => ⟨_, by simp only; exact List.mem_append_right _ (List.mem_singleton.2 rfl), rfl⟩) (fun s ⟨h, _⟩ => by
    obtain ⟨f, c, i, r⟩ := s
    have hi : i = ((min a0.length 5 : Nat) : Int) := h.i
    subst hi
    unfold ref34_Made_b1
    simp only [jn_d, cn_dec]
    by_cases h1 : ((min a0.length 5 : Nat) : Int) < (a0.length : Int)
    · rw [if_pos h1]
      have : ¬ ((min a0.length 5 : Nat) : Int) < 5 := by omega
      simp only [this, if_false]
    · rw [if_neg h1]; simp only [cn_f]) (0, 0, 0, (⟨[], 1 + pickZ a1 12⟩ : TRegion)) ⟨⟨rfl, rfl, by simp, by simp, fun _ => ⟨rfl, rfl⟩, by simp, by simp, by simp, fun h => by omega⟩, rfl⟩
  rw [hs, bd_s, smK_l]
  obtain ⟨f, c, i, r⟩ := s
  have hf := hI.fr; have hc := hI.cp; have hl := hI.len
  simp only at hf hc hl hsg ⊢
  simp only [jn_d, cn_beq, cn_dec]
  have hk5 : min a0.length 5 ≤ 5 := by omega
  generalize min a0.length 5 = k at hI hl hf hk5
  by_cases h0 : c = 0
  · rw [if_pos h0]
    by_cases h1 : (r.Steps.length : Int) > 0
    · rw [if_pos h1, lt_d, ap_p (by simp; omega), wr_id (by omega) (by omega)]
      refine ⟨_, rfl, ⟨by simp, by simp; omega, by simp only; omega, ?_, ?_, ?_, ⟨⟨f + 1, 1⟩, by simp, by simp⟩⟩, fun g hg' => ?_⟩
      · intro g hg'
        have hne : r.Steps ≠ [] := fun e => by rw [e] at h1; simp at h1
        simp only at hg'
        refine hI.h0 g ?_
        simp only
        obtain ⟨x, xs, e⟩ := List.exists_cons_of_ne_nil hne
        rw [e] at hg' ⊢
        simpa using hg'
      · simp only
        rw [List.pairwise_append]
        refine ⟨hI.pw, by simp, fun x hx y hy => ?_⟩
        simp at hy; subst hy
        have := hI.rg x hx
        simp only at this ⊢
        omega
      · intro g hg'
        simp only at hg'
        rcases List.mem_append.1 hg' with h1 | h1
        · have := hI.rg g h1
          simp only at this
          omega
        · simp at h1; subst h1
          simp only; omega
      · simp only at hg'
        rcases List.mem_append.1 hg' with h1 | h1
        · have := hI.rg g h1
          simp only at this
          omega
        · simp at h1; subst h1
          simp only; omega
    · have hk0 : k = 0 := by omega
      obtain ⟨z1, z2⟩ := hI.z hk0
      simp only at z1
      have hnil : r.Steps = [] := List.length_eq_zero_iff.1 (by omega)
      rw [if_neg h1, lt_d, ap_p (by simp; omega)]
      refine ⟨_, rfl, ⟨by simp, by simp [hnil], by simp only; omega, ?_, ?_, ?_, ⟨⟨f, 1⟩, by simp, by simp⟩⟩, fun g hg' => ?_⟩
      · intro g hg'
        rw [hnil] at hg'
        simp at hg'
        rw [← hg']; exact z1
      · simp [hnil]
      · intro g hg'
        rw [hnil] at hg'
        simp at hg'
        subst hg'
        simp only; omega
      · rw [hnil] at hg'
        simp at hg'
        subst hg'
        simp only; omega
  · rw [if_neg h0]
    have hk0 : k ≠ 0 := fun e => h0 (hI.z e).2
    refine ⟨_, rfl, ⟨fun e => by rw [e] at hl; simp at hl; omega, by omega, by omega, hI.h0, hI.pw, fun g hg' => ?_, ?_⟩, fun g hg' => ?_⟩
    · have := hI.rg g hg'
      simp only at this
      omega
    · obtain ⟨g, hg, e⟩ := hI.lst (by omega)
      exact ⟨g, hg, by simp only at e; omega⟩
    · have := hI.rg g hg'
      simp only at this
      omega
theorem made_ok (a0 : List (Int × Int)) (a1 : Int) (o0 : okL okA71 a0) (o1 : okI a1) : ∃ r, ref34_Made_F a0 a1 = some r ∧ RV r :=
  let ⟨r, h1, h2, _⟩ := made_ok' a0 a1 o0 o1
  ⟨r, h1, h2⟩
end Go.Proofs.Ytcidmnpihffphaa
