import Derived.Test.YthbonailomfjlaaPG
/-! Chapter 5, plainly: what Agree gives, of the program and of the reference. -/
namespace Go.Proofs.Ythbonailomfjlaa
open Go Go.Eng
set_option maxRecDepth 100000
theorem edges_loop (l : List TSpell) (hl : l.length ≤ 1000) : ∃ i, lp (clock_Agree_b1 l) FU ([], 0) = some (.inl (edges l, i)) := by
  obtain ⟨s', e, hs⟩ := lp_fold (body := clock_Agree_b1 l) (fun k s => s = (edges (l.take k), (k : Int))) l.length (by omega)
    (fun k s hk hs => by
      subst hs
      have he := edges_len (l.take k)
      rw [List.length_take] at he
      have w1 : wr ((k : Int) + 1) = (k : Int) + 1 := wr_id (by omega) (by omega)
      have tk : edges (l.take (k + 1)) = edges (l.take k) ++ edgesOf (l.getD k default) := by
        rw [take_getD l default k hk]; simp [edges]
      unfold clock_Agree_b1
      simp only [jn_d, cn_dec, w1]
      rw [if_pos (by omega), ix_n hk, tk]
      unfold edgesOf
      by_cases h : (l.getD k default).From < (l.getD k default).To
      · rw [if_pos h, if_pos h, lt_d, ap_p (by simp; omega)]
        exact ⟨_, rfl, by push_cast; rfl⟩
      · rw [if_neg h, if_neg h, List.append_nil]
        exact ⟨_, rfl, by push_cast; rfl⟩)
    (fun s hs => by
      subst hs
      unfold clock_Agree_b1
      simp only [cn_dec]
      rw [if_neg (by omega)]) ([], 0) rfl
  subst hs
  rw [List.take_length] at e
  exact ⟨_, e⟩
theorem bsum_bd (m : List TEdge) (h : ∀ e ∈ m, e.by_f = 1 ∨ e.by_f = -1) : -(m.length : Int) ≤ bsum m ∧ bsum m ≤ m.length := by
  induction m with
  | nil => simp [bsum]
  | cons e m ih =>
    have := ih fun x hx => h x (by simp [hx])
    have := h e (by simp)
    simp only [bsum, List.length_cons]
    push_cast
    omega
theorem by_edges (l : List TSpell) : ∀ e ∈ edges l, e.by_f = 1 ∨ e.by_f = -1 := fun e he => by
  unfold edges at he
  obtain ⟨x, _, hx⟩ := List.mem_flatMap.1 he
  unfold edgesOf at hx
  split at hx
  · simp at hx; rcases hx with rfl | rfl <;> simp
  · simp at hx
theorem sweep_step (l : List TSpell) (m : List TEdge) (S : SortedE l m) (hm : m.length ≤ 10000) (k : Nat) (hk : k < m.length) (most : Int) (op : Bool) (o : TSpell) (h0 : 0 ≤ most) (h : SweepP l m k most op o) :
    ∃ most' op' o', clock_Agree_b2 m (most, bsum (m.take k), op, (k : Int), o) = some (.nx (most', bsum (m.take (k + 1)), op', ((k + 1 : Nat) : Int), o')) ∧ 0 ≤ most' ∧ SweepP l m (k + 1) most' op' o' := by
  have hby : ∀ e ∈ m, e.by_f = 1 ∨ e.by_f = -1 := fun e he => by_edges l e (S.perm.subset he)
  have hb := bsum_bd (m.take k) fun e he => hby e (List.mem_of_mem_take he)
  rw [List.length_take] at hb
  have he : (m.getD k default).by_f = 1 ∨ (m.getD k default).by_f = -1 := by
    rw [List.getD_eq_getElem?_getD, List.getElem?_eq_getElem hk]; exact hby _ (List.getElem_mem hk)
  have tk : bsum (m.take (k + 1)) = bsum (m.take k) + (m.getD k default).by_f := by
    rw [take_getD m default k hk, bsum_app]; simp [bsum]
  have w1 : wr ((k : Int) + 1) = ((k + 1 : Nat) : Int) := by rw [wr_id (by omega) (by omega)]; push_cast; rfl
  have w2 : wr (bsum (m.take k) + (m.getD k default).by_f) = bsum (m.take (k + 1)) := by rw [tk]; exact wr_id (by omega) (by omega)
  unfold clock_Agree_b2
  simp only [jn_d, cn_dec, cn_beq, w1]
  rw [if_pos (by omega), ix_n hk]
  simp only [w2]
  have body : GE m k → ∃ most' op' o', (if bsum (m.take (k + 1)) > most then (some (Ct.nx (bsum (m.take (k + 1)), bsum (m.take (k + 1)), true, ((k + 1 : Nat) : Int), (⟨(m.getD k default).at_f, o.To⟩ : TSpell))) : Option (Ct (Int × Int × Bool × Int × TSpell) (TSpell × Int)))
      else cn op (if bsum (m.take (k + 1)) < most then some (Ct.nx (most, bsum (m.take (k + 1)), false, ((k + 1 : Nat) : Int), (⟨o.From, (m.getD k default).at_f⟩ : TSpell))) else some (Ct.nx (most, bsum (m.take (k + 1)), op, ((k + 1 : Nat) : Int), o)))
        (some (Ct.nx (most, bsum (m.take (k + 1)), op, ((k + 1 : Nat) : Int), o)))) = some (.nx (most', bsum (m.take (k + 1)), op', ((k + 1 : Nat) : Int), o')) ∧ 0 ≤ most' ∧ SweepP l m (k + 1) most' op' o' := fun hg => by
    have hc := cov_at S hg
    by_cases c1 : bsum (m.take (k + 1)) > most
    · rw [if_pos c1]
      exact ⟨_, _, _, rfl, by omega, by rw [← hc]; exact h.more hg (by omega)⟩
    · rw [if_neg c1]
      cases op with
      | true =>
        rw [cn_t]
        by_cases c2 : bsum (m.take (k + 1)) < most
        · rw [if_pos c2]
          exact ⟨_, _, _, rfl, h0, h.shut hg (by omega)⟩
        · rw [if_neg c2]
          exact ⟨_, _, _, rfl, h0, h.keep hg (by omega) fun _ => by omega⟩
      | false =>
        rw [cn_f]
        exact ⟨_, _, _, rfl, h0, h.keep hg (by omega) fun h => by cases h⟩
  have nobody : ¬ GE m k → ∃ most' op' o', (some (Ct.nx (most, bsum (m.take (k + 1)), op, ((k + 1 : Nat) : Int), o)) : Option (Ct (Int × Int × Bool × Int × TSpell) (TSpell × Int))) = some (.nx (most', bsum (m.take (k + 1)), op', ((k + 1 : Nat) : Int), o')) ∧ 0 ≤ most' ∧ SweepP l m (k + 1) most' op' o' := fun hg => ⟨_, _, _, rfl, h0, h.skip hg⟩
  by_cases c1 : k + 1 < m.length
  · rw [if_pos (by omega), ix_n c1]
    by_cases c2 : (m.getD (k + 1) default).at_f = (m.getD k default).at_f
    · rw [if_pos c2]
      exact nobody fun hg => by
        rcases hg.2 with h | h
        · omega
        · exact h c2
    · rw [if_neg c2]
      have := body ⟨hk, .inr c2⟩
      cases op <;> simpa only [cn_t, cn_f] using this
  · rw [if_neg (by omega)]
    have := body ⟨hk, .inl (by omega)⟩
    cases op <;> simpa only [cn_t, cn_f] using this
theorem agree_ok (l : List TSpell) (hl : l.length ≤ 1000) : ∃ o k, clock_Agree_F l = some (o, k) ∧ AgreeP l o k := by
  unfold clock_Agree_F
  obtain ⟨i, e1⟩ := edges_loop l hl
  rw [e1, bd_s, smK_l]
  have S := sorted_edges l
  have hlen : (sortF edgeCmp (edges l)).length ≤ 10000 := by rw [sortF_len edgeCmp edgeCmp_swo]; have := edges_len l; omega
  rw [gd_p _ (by have := edges_len l; dsimp only; omega), lt_d]
  generalize sortF edgeCmp (edges l) = m at S hlen
  obtain ⟨s', e, hs⟩ := lp_fold (body := clock_Agree_b2 m) (fun k s => ∃ most op o, s = (most, bsum (m.take k), op, (k : Int), o) ∧ 0 ≤ most ∧ SweepP l m k most op o) m.length (by omega)
    (fun k s hk hs => by
      obtain ⟨most, op, o, rfl, h0, h⟩ := hs
      obtain ⟨most', op', o', e, h0', h'⟩ := sweep_step l m S hlen k hk most op o h0 h
      exact ⟨_, e, most', op', o', rfl, h0', h'⟩)
    (fun s hs => by
      obtain ⟨most, op, o, rfl, h0, h⟩ := hs
      unfold clock_Agree_b2
      simp only [cn_dec]
      rw [if_neg (by omega)]) (0, 0, false, 0, ⟨0, 0⟩) ⟨0, false, ⟨0, 0⟩, by simp [bsum], Int.le_refl _, .inl ⟨rfl, rfl, rfl, fun j hj => by omega⟩⟩
  obtain ⟨most, op, o, rfl, h0, h⟩ := hs
  rw [e, bd_s, smK_l]
  exact ⟨o, most, rfl, h.fin S⟩
end Go.Proofs.Ythbonailomfjlaa
