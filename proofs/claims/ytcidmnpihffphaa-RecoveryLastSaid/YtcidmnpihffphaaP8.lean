import Derived.Test.YtcidmnpihffphaaPE
import Derived.Test.YtcidmnpihffphaaV8
namespace Go.Proofs.Ytcidmnpihffphaa
open Go Go.Eng
set_option maxRecDepth 100000
theorem Capacity_ok {r : TRegion} (h : RV r) {t : Int} (ht : 0 ≤ t) : recovery_Capacity_F r t = some (capZ r t, 0) := by
  unfold recovery_Capacity_F
  simp only [jn_d]
  rw [valid_ok h, bd_s]
  simp only [Bool.not_true, cn_f]
  rw [show decide (t < 0) = false by simp; omega]
  simp only [cn_f]
  rw [capacity_ok h ht, bd_s]
/-- The greatest ticket. -/
def LastP (ys : List TAttempt) (ts : List TTicket) (M : Int) : Prop := (∀ j, j < ys.length → (ts.getD j default).At ≤ M) ∧ (M = -1 ∨ ∃ j, j < ys.length ∧ (ts.getD j default).At = M)
theorem last_loop {ts : List TTicket} {y : (List TTicket) × Int} (hy : y.1 = ts) (hl : ts.length ≤ 1000) (hb : ∀ j, j < ts.length → 0 ≤ (ts.getD j default).At) : ∃ M, lp (recovery_Last_b1 y) FU (-1, 0) = some (.inl (M, (ts.length : Int))) ∧ (∀ j, j < ts.length → (ts.getD j default).At ≤ M) ∧ (M = -1 ∨ ∃ j, j < ts.length ∧ (ts.getD j default).At = M) := by
  subst hy
  obtain ⟨s, e, h1, h2, h3⟩ := lp_fold (body := recovery_Last_b1 y) (fun k s => s.2 = (k : Int) ∧ (∀ j, j < k → (y.1.getD j default).At ≤ s.1) ∧ (s.1 = -1 ∨ ∃ j, j < k ∧ (y.1.getD j default).At = s.1)) y.1.length (by omega) (fun k s hk ⟨h1, h2, h3⟩ => by
    obtain ⟨m, i⟩ := s
    simp only at h1 h2 h3
    subst h1
    unfold recovery_Last_b1
    simp only [cn_dec]
    rw [if_pos (by omega), ix_n hk, wr_id (by omega) (by omega)]
    have hm : imax m (y.1.getD k default).At = max m (y.1.getD k default).At := by unfold imax; omega
    rw [hm]
    refine ⟨_, rfl, by simp, fun j hj => ?_, ?_⟩
    · simp only
      by_cases e : j < k
      · have := h2 j e; omega
      · have : j = k := by omega
        subst this; omega
    · simp only
      rcases Int.le_total m (y.1.getD k default).At with e | e
      · exact .inr ⟨k, by omega, by omega⟩
      · rcases h3 with h3 | ⟨j, hj, h3⟩
        · have := hb k hk; omega
        · exact .inr ⟨j, by omega, by omega⟩) (fun s ⟨h1, _⟩ => by
    unfold recovery_Last_b1
    simp only [cn_dec]
    rw [if_neg (by rw [h1]; omega)]) (-1, 0) ⟨rfl, fun j h => by omega, .inl rfl⟩
  exact ⟨s.1, by rw [e, ← h1], h2, h3⟩
/-- The tick that results for a first attempt. -/
def isF (r : TRegion) (ys : List TAttempt) (s x : Int) : Prop := ∃ k : Nat, 1 ≤ k ∧ x = s - 1 + k ∧ (need ys s : Int) ≤ sumZ (capZ r) s k ∧ sumZ (capZ r) s (k - 1) < need ys s
theorem cap_nn {r : TRegion} (hr : RV r) {s : Int} (hs : 0 ≤ s) (i : Nat) : 0 ≤ capZ r (s + i) := (capZ_bd hr (by omega)).1
theorem f_loop {r : TRegion} (hr : RV r) {ys : List TAttempt} (hyl : ys.length ≤ 40) {s : Int} (hs : 0 ≤ s ∧ s ≤ 1000) (hn : 1 ≤ need ys s) {K : Nat} (hK : s + K ≤ 1000) (hF : (need ys s : Int) ≤ sumZ (capZ r) s K) :
    ∃ o x, lp (law34_RecoveryLast_b3 r) FU ((need ys s : Int), s - 1) = some (.inl (o, x)) ∧ isF r ys s x := by
  have hnl : need ys s ≤ 40 := Nat.le_trans (Nat.le_trans List.countP_le_length (by simp)) hyl
  obtain ⟨o, e, q⟩ := lp_runF (body := law34_RecoveryLast_b3 r) (fun st => ∃ k : Nat, st.2 = s - 1 + k ∧ st.1 = (need ys s : Int) - sumZ (capZ r) s k ∧ k ≤ K ∧ (k = 0 ∨ sumZ (capZ r) s (k - 1) < need ys s)) (fun st => (s + K - st.2).toNat) (fun o => ∃ p x, o = .inl (p, x) ∧ isF r ys s x) (fun st ⟨k, h1, h2, h3, h4⟩ => by
    obtain ⟨nd, f⟩ := st
    simp only at h1 h2
    subst h1; subst h2
    unfold law34_RecoveryLast_b3
    simp only [jn_d, cn_dec]
    by_cases hp : (need ys s : Int) - sumZ (capZ r) s k > 0
    · have hkK : k < K := by
        rcases Nat.lt_or_ge k K with e | e
        · exact e
        · have := sumZ_mono (f := capZ r) (s := s) (cap_nn hr hs.1) e
          omega
      have hsz : 0 ≤ sumZ (capZ r) s k := by
        have := sumZ_mono (f := capZ r) (s := s) (cap_nn hr hs.1) (Nat.zero_le k)
        simpa [sumZ] using this
      have hcb := capZ_bd hr (t := s - 1 + k + 1) (by omega)
      rw [if_pos hp]
      simp only [show s - 1 + (k : Int) < 1000 by omega, decide_true, cn_t]
      rw [wr_id (x := s - 1 + (k : Int) + 1) (by omega) (by omega), Capacity_ok hr (by omega), bd_s]
      simp only [bne_self_eq_false, cn_f]
      rw [wr_id (by omega) (by omega)]
      refine .inl ⟨_, rfl, ⟨k + 1, by simp only; omega, ?_, by omega, .inr (by simp only [Nat.add_sub_cancel]; omega)⟩, by simp only; omega⟩
      simp only [sumZ]
      rw [show s + (k : Int) = s - 1 + k + 1 by omega]
      omega
    · rw [if_neg hp]
      simp only [cn_f]
      refine .inr (.inl ⟨_, rfl, _, _, rfl, k, ?_, rfl, by omega, ?_⟩)
      · rcases Nat.eq_zero_or_pos k with e | e
        · subst e; simp only [sumZ] at hp; omega
        · exact e
      · rcases h4 with e | e
        · subst e; simp only [sumZ] at hp; omega
        · exact e) ((need ys s : Int), s - 1) ⟨0, by simp, by simp [sumZ], Nat.zero_le _, .inl rfl⟩ (by simp only; omega)
  obtain ⟨p, x, rfl, q⟩ := q
  exact ⟨p, x, e, q⟩
theorem need_loop {l ys : List TAttempt} (hs : SA l ys) (hl : l.length ≤ 40) {w : Int} {i : Nat} (hi : i < l.length) : ∃ x, lp (law34_RecoveryLast_b2 (w, (i : Int)) l) FU (0, 0) = some (.inl ((need ys (l.getD i default).At : Int), x)) := by
  have e0 : l.countP (fun a => !a.Urgent && decide ((l.getD i default).At ≤ a.At)) = need ys (l.getD i default).At := by
    rw [← hs.perm.countP_eq]
    conv => lhs; rw [list_map ys]
    rw [List.countP_map]; rfl
  obtain ⟨s, e, h1, h2⟩ := lp_fold (body := law34_RecoveryLast_b2 (w, (i : Int)) l) (fun k s => s.2 = (k : Int) ∧ s.1 = (((l.take k).countP (fun a => !a.Urgent && decide ((l.getD i default).At ≤ a.At)) : Nat) : Int)) l.length (by omega) (fun k s hk ⟨h1, h2⟩ => by
    obtain ⟨c, j⟩ := s
    simp only at h1 h2
    subst h1
    have hcl : (l.take k).countP (fun a => !a.Urgent && decide ((l.getD i default).At ≤ a.At)) ≤ k := Nat.le_trans List.countP_le_length (by simp; omega)
    unfold law34_RecoveryLast_b2
    simp only [jn_d, cn_dec]
    rw [if_pos (by omega), ix_n hk, wr_id (x := (k : Int) + 1) (by omega) (by omega), wr_id (x := c + 1) (by omega) (by omega), ix_n hk, ix_n hi]
    rw [List.take_succ_eq_append_getElem hk, List.countP_append, List.countP_cons, List.countP_nil, ← getD_lt hk]
    generalize l.getD k default = a
    cases hu : a.Urgent
    · simp only [Bool.not_false, cn_t, ge_iff_le, Bool.true_and, decide_eq_true_eq]
      by_cases q : (l.getD i default).At ≤ a.At
      · simp only [q, decide_true, cn_t, if_true]
        exact ⟨_, rfl, by simp, by simp only; omega⟩
      · simp only [q, decide_false, cn_f, if_false]
        exact ⟨_, rfl, by simp, by simp only; omega⟩
    · simp only [Bool.not_true, cn_f, Bool.false_and]
      exact ⟨_, rfl, by simp, by simp only [Bool.false_eq_true, if_false]; omega⟩) (fun s ⟨h1, _⟩ => by
    unfold law34_RecoveryLast_b2
    simp only [cn_dec]
    rw [if_neg (by rw [h1]; omega)]) (0, 0) ⟨rfl, by simp⟩
  rw [List.take_length, e0] at h2
  exact ⟨s.2, by rw [e, ← h2]⟩
/-- What results for an attempt. -/
def Wf (r : TRegion) (ys : List TAttempt) (a : TAttempt) (x : Int) : Prop := (a.Urgent = true → x = a.At) ∧ (a.Urgent = false → isF r ys a.At x)
theorem plain8 (a0 : List (Int × Int)) (a1 : Int) (a2 : List (Int × Int)) (o0 : okL okA71 a0) (o1 : okI a1) (o2 : okL okA71 a2) : law34_RecoveryLast_F a0 a1 a2 = some true := by
  unfold law34_RecoveryLast_F
  rw [sane_ok, bd_s]
  simp only [Bool.not_true, cn_f]
  obtain ⟨r, e, hr, hrB⟩ := made_ok' a0 a1 o0 o1
  obtain ⟨l, e2, hla⟩ := attempts_ok a2 o2
  have hl := hla.lv
  rw [e, bd_s, e2, bd_s]
  obtain ⟨ts, e3, hp, hs⟩ := planB_ok (B := 41) hr hl ⟨hrB, fun a ha => by
    obtain ⟨j, hj, e⟩ := List.getElem_of_mem ha
    have := (hla.at_ j hj).2.2
    rw [getD_lt hj, e] at this
    omega, by omega, by omega⟩
  generalize sortF attCmp l = ys at hs hp
  have hy := hs.lv hl
  have hyl := hy.len
  have hll : ys.length = l.length := hs.perm.length_eq
  have htl := hp.len
  have hat : ∀ j, j < ys.length → 0 ≤ (ys.getD j default).At ∧ (ys.getD j default).At ≤ 1000 := fun j hj => by
    rw [getD_lt hj]; exact (hy.rg _ (List.getElem_mem hj)).2.2
  obtain ⟨M, e4, hM1, hM2⟩ := last_loop (ts := ts) (y := (ts, (0 : Int))) rfl (by omega) (fun j hj => by
    have := hp.ge j (by omega)
    have := hat j (by omega)
    omega)
  have eL : recovery_Last_F r l = some (M, 0) := by
    unfold recovery_Last_F
    rw [e3, bd_s]
    simp only [bne_self_eq_false, cn_f]
    rw [e4, bd_s, smK_l]
  rw [eL, bd_s]
  simp only [bne_self_eq_false, cn_f]
  have hMB : M ≤ 200 := by
    rcases hM2 with h | ⟨j, hj, h⟩
    · omega
    · have := hp.le j (by omega); omega
  have inl : ∀ {j}, j < ys.length → ∃ i, i < l.length ∧ l.getD i default = ys.getD j default := fun {j} hj => by
    have : ys.getD j default ∈ l := hs.perm.mem_iff.1 (by rw [getD_lt hj]; exact List.getElem_mem hj)
    obtain ⟨i, hi, e⟩ := List.getElem_of_mem this
    exact ⟨i, hi, by rw [getD_lt hi]; exact e⟩
  have iny : ∀ {i}, i < l.length → ∃ j, j < ys.length ∧ ys.getD j default = l.getD i default := fun {i} hi => by
    have : l.getD i default ∈ ys := hs.perm.mem_iff.2 (by rw [getD_lt hi]; exact List.getElem_mem hi)
    obtain ⟨j, hj, e⟩ := List.getElem_of_mem this
    exact ⟨j, hj, by rw [getD_lt hj]; exact e⟩
  have hmax : ∀ j, j < ys.length → (ys.getD j default).Urgent = false → (ts.getD j default).At ≤ M := fun j hj _ => hM1 j (by omega)
  obtain ⟨s, e5, h1, h2, h3⟩ := lp_fold (body := law34_RecoveryLast_b1 r l) (fun k s => s.2 = (k : Int) ∧ (∀ i, i < k → ∃ x, Wf r ys (l.getD i default) x ∧ x ≤ s.1) ∧ (s.1 = -1 ∨ ∃ i, i < k ∧ Wf r ys (l.getD i default) s.1)) l.length (by omega) (fun k s hk ⟨h1, h2, h3⟩ => by
    obtain ⟨w, i⟩ := s
    simp only at h1 h2 h3
    subst h1
    obtain ⟨j, hj, hje⟩ := iny hk
    have haj := hat j hj
    rw [hje] at haj
    have fin : ∀ x, -1 ≤ x → Wf r ys (l.getD k default) x → ∃ s', (some (.nx (imax w x, wr ((k : Int) + 1))) : Option (Ct (Int × Int) Bool)) = some (.nx s') ∧ s'.2 = ((k + 1 : Nat) : Int) ∧ (∀ i, i < k + 1 → ∃ x, Wf r ys (l.getD i default) x ∧ x ≤ s'.1) ∧ (s'.1 = -1 ∨ ∃ i, i < k + 1 ∧ Wf r ys (l.getD i default) s'.1) := fun x hx0 hx => by
      have hm : imax w x = max w x := by unfold imax; omega
      rw [hm, wr_id (by omega) (by omega)]
      refine ⟨_, rfl, by simp, fun i hi => ?_, ?_⟩
      · simp only
        by_cases e : i < k
        · obtain ⟨x', q1, q2⟩ := h2 i e
          exact ⟨x', q1, Int.le_trans q2 (Int.le_max_left _ _)⟩
        · have : i = k := by omega
          subst this
          exact ⟨x, hx, Int.le_max_right _ _⟩
      · simp only
        rcases Int.le_total w x with e | e
        · exact .inr ⟨k, by omega, by rw [show max w x = x by omega]; exact hx⟩
        · rw [show max w x = w by omega]
          rcases h3 with h3 | ⟨i, hi, h3⟩
          · exact .inl h3
          · exact .inr ⟨i, by omega, h3⟩
    unfold law34_RecoveryLast_b1
    simp only [jn_d, cn_dec]
    rw [if_pos (by omega), ix_n hk]
    cases hu : (l.getD k default).Urgent
    · simp only [cn_f]
      obtain ⟨x, q1⟩ := need_loop hs (by omega) (w := w) hk
      have huj : (ys.getD j default).Urgent = false := by rw [hje]; exact hu
      have htj := hp.ge j hj
      rw [hje] at htj
      have hMj := hmax j hj huj
      have hn1 : 1 ≤ need ys (l.getD k default).At := by
        have : 0 < need ys (l.getD k default).At := by
          unfold need
          rw [List.countP_pos_iff]
          refine ⟨j, List.mem_range.2 hj, ?_⟩
          rw [hje, hu]; simp
        omega
      obtain ⟨o, x2, q2, q3⟩ := f_loop hr hyl haj hn1 (K := (M + 1 - (l.getD k default).At).toNat) (by omega) (need_le hp haj.1 hmax (by omega))
      rw [q1, bd_s, smK_l, ix_n hk, wr_id (x := (l.getD k default).At - 1) (by omega) (by omega), q2, bd_s, smK_l]
      refine fin x2 ?_ ⟨fun h => (by rw [hu] at h; cases h), fun _ => q3⟩
      obtain ⟨k', p1, p2, _⟩ := q3
      omega
    · simp only [cn_t]
      rw [ix_n hk]
      exact fin (l.getD k default).At (by omega) ⟨fun _ => rfl, fun h => by rw [hu] at h; cases h⟩) (fun s ⟨h1, _⟩ => by
    unfold law34_RecoveryLast_b1
    simp only [cn_dec]
    rw [if_neg (by rw [h1]; omega)]) (-1, 0) ⟨rfl, fun i h => by omega, .inl rfl⟩
  rw [e5, bd_s, smK_l]
  have hge : -1 ≤ s.1 := by
    rcases h3 with h | ⟨i, hi, h⟩
    · omega
    · obtain ⟨j, hj, hje⟩ := iny hi
      have := hat j hj
      rw [hje] at this
      cases hu : (l.getD i default).Urgent
      · obtain ⟨k, q1, q2, _⟩ := h.2 hu
        omega
      · have := h.1 hu; omega
  have hA : M ≤ s.1 := by
    rcases hM2 with h | ⟨j, hj, h⟩
    · omega
    · have hj' : j < ys.length := by omega
      cases hu : (ys.getD j default).Urgent
      · obtain ⟨i, hi, hiu, k, q1, q2⟩ := block hy hp hj' hu (fun i hi hiu => by rw [h]; exact hmax i hi hiu)
        obtain ⟨i', hi', e6⟩ := inl hi
        obtain ⟨x, p1, p2⟩ := h2 i' hi'
        rw [e6] at p1
        obtain ⟨k', z1, z2, z3, z4⟩ := p1.2 hiu
        have hkk : k < k' := by
          rcases Nat.lt_or_ge k k' with e | e
          · exact e
          · have := sumZ_mono (f := capZ r) (s := (ys.getD i default).At) (cap_nn hr (hat i hi).1) e
            omega
        omega
      · obtain ⟨i', hi', e6⟩ := inl hj'
        obtain ⟨x, p1, p2⟩ := h2 i' hi'
        rw [e6] at p1
        have := p1.1 hu
        have := hp.ur j hj' hu
        omega
  have hB : s.1 ≤ M := by
    rcases h3 with h | ⟨i, hi, h⟩
    · rcases hM2 with h' | ⟨j, hj, h'⟩
      · omega
      · have := hp.ge j (by omega)
        have := hat j (by omega)
        omega
    · obtain ⟨j, hj, hje⟩ := iny hi
      rw [← hje] at h
      cases hu : (ys.getD j default).Urgent
      · obtain ⟨k, z1, z2, z3, z4⟩ := h.2 hu
        have hMj := hmax j hj hu
        have htj := hp.ge j hj
        have hn := need_le hp (hat j hj).1 hmax (k := (M + 1 - (ys.getD j default).At).toNat) (by omega)
        have : k - 1 < (M + 1 - (ys.getD j default).At).toNat := by
          rcases Nat.lt_or_ge (k - 1) (M + 1 - (ys.getD j default).At).toNat with e | e
          · exact e
          · have := sumZ_mono (f := capZ r) (s := (ys.getD j default).At) (cap_nn hr (hat j hj).1) e
            omega
        omega
      · have h5 := h.1 hu
        have h6 := hp.ur j hj hu
        have h7 := hM1 j (by omega)
        omega
  have : M = s.1 := by omega
  simp [this]
end Go.Proofs.Ytcidmnpihffphaa
