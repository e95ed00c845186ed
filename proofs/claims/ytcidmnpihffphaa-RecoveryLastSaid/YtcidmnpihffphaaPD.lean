import Derived.Test.YtcidmnpihffphaaPC
/-! Chapter 34, plainly: the reference's order. -/
namespace Go.Proofs.Ytcidmnpihffphaa
open Go Go.Eng
set_option maxRecDepth 100000
def ltA (x y : TAttempt) : Prop := x.At < y.At ∨ (x.At = y.At ∧ x.Caller < y.Caller)
instance (x y : TAttempt) : Decidable (ltA x y) := by unfold ltA; infer_instance
theorem before_ok (x y : TAttempt) : ref34_Before_F x y = some (decide (ltA x y)) := by
  unfold ref34_Before_F ltA
  simp only [jn_d, cn_dec, cn_beq]
  by_cases h1 : x.At < y.At
  · simp [h1]
  · rw [if_neg h1]
    by_cases h2 : x.At = y.At
    · rw [if_pos h2]; simp [h2]
    · rw [if_neg h2]; simp [h1, h2]
theorem SA.unique {l a b : List TAttempt} (h : SA l a) (k : SA l b) : a = b := by
  refine List.Perm.eq_of_pairwise (le := fun x y => ltA x y) (fun x y _ _ h1 h2 => ?_) h.asc k.asc (h.perm.trans k.perm.symm)
  unfold ltA at h1 h2
  omega
theorem insert_at {x : TAttempt} {o : List TAttempt} (hd : ∀ y ∈ o, y.Caller ≠ x.Caller) (ho : o.length ≤ 1000000) (ho2 : o.Pairwise ltA) (a0 : List TAttempt) {i : Nat} (hi : i < a0.length) (hx : a0.getD i default = x) :
    ∃ p : Nat, lp (ref34_Ordered_b2 a0 (o, (i : Int))) FU (o.length : Int) = some (.inl (p : Int)) ∧ p ≤ o.length ∧ (∀ j, j < p → ltA (o.getD j default) x) ∧ ∀ j, p ≤ j → j < o.length → ltA x (o.getD j default) := by
  obtain ⟨r, e, q⟩ := lp_runF (body := ref34_Ordered_b2 a0 (o, (i : Int))) (fun s => ∃ p : Nat, s = (p : Int) ∧ p ≤ o.length ∧ ∀ j, p ≤ j → j < o.length → ltA x (o.getD j default)) (fun s => s.toNat) (fun r => ∃ p : Nat, r = .inl (p : Int) ∧ p ≤ o.length ∧ (∀ j, j < p → ltA (o.getD j default) x) ∧ ∀ j, p ≤ j → j < o.length → ltA x (o.getD j default)) (fun s ⟨p, hs, hp, hq⟩ => by
    subst hs
    unfold ref34_Ordered_b2
    simp only [jn_d, cn_dec]
    by_cases h0 : (p : Int) > 0
    · rw [if_pos h0, ix_n hi, hx, wr_id (x := (p : Int) - 1) (by omega) (by omega), show (p : Int) - 1 = ((p - 1 : Nat) : Int) by omega, ix_n (show p - 1 < o.length by omega), before_ok, bd_s]
      simp only [cn_dec]
      by_cases hb : ltA x (o.getD (p - 1) default)
      · rw [if_pos hb]
        refine .inl ⟨_, rfl, ⟨p - 1, rfl, by omega, fun j h1 h2 => ?_⟩, by omega⟩
        by_cases e : j = p - 1
        · subst e; exact hb
        · exact hq j (by omega) h2
      · rw [if_neg hb]
        refine .inr (.inl ⟨_, rfl, p, rfl, hp, fun j hj => ?_, hq⟩)
        have hdj := hd (o.getD (p - 1) default) (by rw [getD_lt (show p - 1 < o.length by omega)]; exact List.getElem_mem _)
        have hb2 : ltA (o.getD (p - 1) default) x := by unfold ltA at hb ⊢; omega
        by_cases e : j = p - 1
        · subst e; exact hb2
        · have := (List.pairwise_iff_getElem.1 ho2) j (p - 1) (by omega) (by omega) (by omega)
          rw [← getD_lt, ← getD_lt] at this
          unfold ltA at this hb2 ⊢
          omega
    · rw [if_neg h0]
      simp only [cn_f]
      exact .inr (.inl ⟨_, rfl, p, rfl, hp, fun j hj => by omega, hq⟩)) (o.length : Int) ⟨o.length, rfl, Nat.le_refl _, fun j h1 h2 => by omega⟩ (by omega)
  obtain ⟨p, rfl, q⟩ := q
  exact ⟨p, e, q⟩
theorem refOrdered_ok {l : List TAttempt} (h : LV l) : ref34_Ordered_F l = some (sortF attCmp l) := by
  unfold ref34_Ordered_F
  have hlen := h.len
  obtain ⟨s, e, h1, h2, h3⟩ := lp_fold (body := ref34_Ordered_b1 l) (fun k s => s.2 = (k : Int) ∧ s.1.Perm (l.take k) ∧ s.1.Pairwise ltA) l.length (by omega) (fun k s hk ⟨h1, h2, h3⟩ => by
    obtain ⟨o, i⟩ := s
    simp only at h1 h2 h3
    subst h1
    have hol : o.length = k := by rw [h2.length_eq]; simp; omega
    have hd : ∀ y ∈ o, y.Caller ≠ (l[k]).Caller := fun y hy hc => by
      have hnd := h.nd
      rw [← List.take_append_drop k l, List.map_append, List.nodup_append] at hnd
      exact hnd.2.2 _ (List.mem_map_of_mem (h2.mem_iff.1 hy)) (l[k]).Caller (List.mem_map_of_mem (by rw [List.drop_eq_getElem_cons hk]; exact List.mem_cons_self)) hc
    obtain ⟨p, q1, q2, q3, q4⟩ := insert_at (x := l[k]) hd (by omega) h3 l hk (getD_lt hk)
    unfold ref34_Ordered_b1
    simp only [cn_dec]
    rw [if_pos (by omega), q1, bd_s, smK_l, slc_p (by omega) (by omega) (by omega), ix_n hk, getD_lt hk, lt_d, slc_p (by omega) (by omega) (by omega)]
    have s1 : sub o 0 (p : Int) = o.take p := by simp [sub]
    have s2 : sub o (p : Int) (o.length : Int) = o.drop p := by simp [sub]
    rw [s1, s2, ap_p (by simp; omega), ap_p (by simp; omega), wr_id (by omega) (by omega)]
    refine ⟨_, rfl, by simp, ?_, ?_⟩
    · simp only
      rw [List.take_succ_eq_append_getElem hk]
      have e1 : (o.take p ++ ([l[k]] ++ o.drop p)).Perm (l[k] :: (o.take p ++ o.drop p)) := List.perm_middle
      rw [List.take_append_drop] at e1
      exact e1.trans ((h2.cons _).trans (List.perm_append_singleton _ _).symm)
    · simp only
      rw [List.pairwise_append]
      refine ⟨h3.sublist (List.take_sublist _ _), ?_, fun x hx y hy => ?_⟩
      · rw [List.singleton_append, List.pairwise_cons]
        refine ⟨fun y hy => ?_, h3.sublist (List.drop_sublist _ _)⟩
        obtain ⟨j, hj, e⟩ := List.getElem_of_mem hy
        rw [List.getElem_drop] at e
        have hj' : p + j < o.length := by simp at hj; omega
        have := q4 (p + j) (by omega) hj'
        rw [getD_lt hj', e] at this
        exact this
      · obtain ⟨j, hj, e⟩ := List.getElem_of_mem hx
        rw [List.getElem_take] at e
        have hj' : j < p := by simp at hj; omega
        have hxk := q3 j hj'
        rw [getD_lt (by omega), e] at hxk
        rcases List.mem_append.1 hy with hy | hy
        · simp at hy; subst hy; exact hxk
        · obtain ⟨i, hi, e2⟩ := List.getElem_of_mem hy
          rw [List.getElem_drop] at e2
          have hi' : p + i < o.length := by simp at hi; omega
          have hky := q4 (p + i) (by omega) hi'
          rw [getD_lt hi', e2] at hky
          unfold ltA at hxk hky ⊢
          omega) (fun s ⟨h1, _⟩ => by
    unfold ref34_Ordered_b1
    simp only [cn_dec]
    rw [if_neg (by rw [h1]; omega)]) ([], 0) ⟨rfl, by simp, by simp⟩
  rw [e, bd_s, smK_l]
  rw [List.take_length] at h2
  exact congrArg some (SA.unique ⟨h2, h3⟩ (sorted_att h))
end Go.Proofs.Ytcidmnpihffphaa
