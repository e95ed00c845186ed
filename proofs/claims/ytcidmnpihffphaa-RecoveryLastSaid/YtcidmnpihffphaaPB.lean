import Derived.Test.YtcidmnpihffphaaPA
import Derived.Test.YtcidmnpihffphaaEng2
/-! Chapter 34, plainly: attempts; what is valid; capacities. -/
namespace Go.Proofs.Ytcidmnpihffphaa
open Go Go.Eng
set_option maxRecDepth 100000
/-- Attempts that are ready. -/
structure LV (l : List TAttempt) : Prop where
  len : l.length ≤ 40
  rg : ∀ a ∈ l, 0 ≤ a.Caller ∧ a.Caller ≤ 99 ∧ 0 ≤ a.At ∧ a.At ≤ 1000
  nd : (l.map (·.Caller)).Nodup
theorem getD_lt {α : Type} [Inhabited α] {l : List α} {k : Nat} (hk : k < l.length) : l.getD k default = l[k] := by simp [hk]
theorem getD_app {α : Type} [Inhabited α] (l : List α) (x : α) (j : Nat) : (l ++ [x]).getD j default = if j < l.length then l.getD j default else if j = l.length then x else default := by
  by_cases h : j < l.length
  · rw [if_pos h, getD_lt h, getD_lt (by simp; omega), List.getElem_append_left h]
  · rw [if_neg h]
    by_cases h2 : j = l.length
    · subst h2; simp
    · rw [if_neg h2]
      have : (l ++ [x]).length ≤ j := by simp; omega
      simp [List.getElem?_eq_none this]
/-- The attempts that the laws lay. -/
structure LA (l : List TAttempt) : Prop where
  len : l.length ≤ 20
  at_ : ∀ j, j < l.length → (l.getD j default).Caller = (7 * ((j : Int) + 1)) % 100 ∧ 0 ≤ (l.getD j default).At ∧ (l.getD j default).At ≤ 24
theorem LA.lv {l : List TAttempt} (h : LA l) : LV l := by
  refine ⟨by have := h.len; omega, fun a ha => ?_, ?_⟩
  · obtain ⟨j, hj, e⟩ := List.getElem_of_mem ha
    have := h.at_ j hj
    rw [getD_lt hj, e] at this
    omega
  · rw [List.nodup_iff_pairwise_ne, List.pairwise_map, List.pairwise_iff_getElem]
    intro i j hi hj hij e
    have h1 := (h.at_ i hi).1
    have h2 := (h.at_ j hj).1
    rw [getD_lt hi] at h1
    rw [getD_lt hj] at h2
    have := h.len
    omega
theorem attempts_ok (a0 : List (Int × Int)) (o0 : okL okA71 a0) : ∃ l, ref34_Attempts_F a0 = some l ∧ LA l := by
  unfold ref34_Attempts_F
  obtain ⟨s, hs, hI, hl, hat⟩ := lp_fold (body := ref34_Attempts_b1 a0) (fun k s => s.2 = (k : Int) ∧ s.1.length = k ∧ ∀ j, j < k → (s.1.getD j default).Caller = (7 * ((j : Int) + 1)) % 100 ∧ 0 ≤ (s.1.getD j default).At ∧ (s.1.getD j default).At ≤ 24) (min a0.length 20) (by omega) (fun k s hk ⟨h1, h2, h3⟩ => by
    have hk1 : k < a0.length := by omega
    obtain ⟨l, i⟩ := s
    simp only at h1 h2 h3
    subst h1
    obtain ⟨oa, ob⟩ := okL_get o0 hk1
    obtain ⟨q1, q2⟩ := pickZ_lt (a0.getD k default).1 (n := 25) (by omega)
    unfold ref34_Attempts_b1
    simp only [jn_d, cn_dec]
    rw [if_pos (by omega)]
    simp only [show ((k : Int) < 20) by omega, decide_true, cn_t]
    rw [ix_n hk1, pick_ref _ _ oa (by omega), bd_s, ix_n hk1, pick_ref _ _ ob (by omega), bd_s, lt_d, ap_p (by simp; omega)]
    generalize pickZ (a0.getD k default).1 25 = u at q1 q2 ⊢
    simp only [wr_id (x := (k : Int) + 1) (by omega) (by omega), wr_id (x := 7 * ((k : Int) + 1)) (by omega) (by omega)]
    rw [Int.tmod_eq_emod_of_nonneg (by omega)]
    refine ⟨_, rfl, by simp, by simp [h2], fun j hj => ?_⟩
    simp only
    rw [getD_app]
    by_cases e : j < l.length
    · rw [if_pos e]; exact h3 j (by omega)
    · rw [if_neg e, if_pos (by omega)]
      have : j = k := by omega
      subst this
      exact ⟨rfl, by simp only; omega, by simp only; omega⟩) (fun s ⟨h, _⟩ => by
    obtain ⟨l, i⟩ := s
    simp only at h
    subst h
    unfold ref34_Attempts_b1
    simp only [jn_d, cn_dec]
    by_cases h1 : ((min a0.length 20 : Nat) : Int) < (a0.length : Int)
    · rw [if_pos h1]
      have : ¬ ((min a0.length 20 : Nat) : Int) < 20 := by omega
      simp only [this, if_false]
    · rw [if_neg h1]; simp only [cn_f]) ([], 0) ⟨rfl, rfl, fun j h => by omega⟩
  rw [hs, bd_s, smK_l]
  exact ⟨_, rfl, by omega, fun j hj => hat j (by omega)⟩
theorem within_ok (a lo hi : Int) : recovery_isWithin_F a lo hi = some (decide (lo ≤ a ∧ a ≤ hi)) := by
  unfold recovery_isWithin_F
  simp only [jn_d, cn_dec]
  by_cases h : lo ≤ a <;> simp [h]
theorem in_ok (a lo hi : Int) : ref34_in_F a lo hi = some (decide (lo ≤ a ∧ a ≤ hi)) := by
  unfold ref34_in_F
  simp only [jn_d, cn_dec]
  by_cases h : lo ≤ a
  · rw [if_pos (by omega)]; simp [h]
  · rw [if_neg (by omega)]; simp [h]
theorem ready_ok {l : List TAttempt} (h : LV l) : recovery_Ready_F l = some true := by
  unfold recovery_Ready_F
  have hlen := h.len
  obtain ⟨s, hs, h1, h2⟩ := lp_fold (body := recovery_Ready_b1 l) (fun k s => s.1 = (k : Int) ∧ s.2.es.map (·.2.1) = (l.take k).map (·.Caller)) l.length (by omega) (fun k s hk ⟨h1, h2⟩ => by
    obtain ⟨i, m⟩ := s
    simp only at h1 h2
    subst h1
    have hg := h.rg l[k] (List.getElem_mem hk)
    unfold recovery_Ready_b1
    simp only [jn_d, cn_dec]
    rw [if_pos (by omega), ix_n hk, getD_lt hk, within_ok, bd_s]
    simp only [show (0 ≤ l[k].Caller ∧ l[k].Caller ≤ 99) = True by simp; omega, decide_true, Bool.not_true, cn_f]
    rw [within_ok, bd_s]
    simp only [show (0 ≤ l[k].At ∧ l[k].At ≤ 1000) = True by simp; omega, decide_true, Bool.not_true, cn_f]
    rw [wr_id (by omega) (by omega)]
    refine ⟨_, rfl, by simp, ?_⟩
    show (mput l[k].Caller true m.es m.clk).map (·.2.1) = _
    rw [mput_keys, List.take_succ_eq_append_getElem hk, List.map_append, if_neg]
    · rw [h2]; rfl
    · rw [mfind_keys, h2]
      intro hm
      have hnd := h.nd
      rw [← List.take_append_drop k l, List.map_append, List.nodup_append] at hnd
      have := hnd.2.2 _ hm l[k].Caller (List.mem_map_of_mem (by rw [List.drop_eq_getElem_cons hk]; exact List.mem_cons_self))
      exact this rfl) (fun s ⟨h1, _⟩ => by
    obtain ⟨i, m⟩ := s
    simp only at h1
    subst h1
    unfold recovery_Ready_b1
    simp only [jn_d, cn_dec]
    rw [if_neg (by omega)]) (0, GM.mt Bool) ⟨rfl, rfl⟩
  rw [hs, bd_s, smK_l]
  simp only [jn_d, cn_dec]
  rw [if_pos (by omega)]
  have := congrArg List.length h2
  simp at this
  simp [GM.len, this]
/-- What is free at a tick. -/
def capL (st : List TGrowth) (t : Int) : Int := (st.getD ((st.takeWhile fun g => decide (g.From ≤ t)).length - 1) default).Capacity
def capZ (r : TRegion) (t : Int) : Int := capL r.Steps t
theorem tw_lt {α : Type} {p : α → Bool} : ∀ {l : List α} {k : Nat}, k < (l.takeWhile p).length → ∃ h : k < l.length, p l[k] = true
  | [], k, h => by simp at h
  | x :: l, k, h => by
    rw [List.takeWhile_cons] at h
    by_cases e : p x = true
    · rw [if_pos e] at h
      cases k with
      | zero => exact ⟨by simp, e⟩
      | succ k =>
        obtain ⟨h1, h2⟩ := tw_lt (l := l) (k := k) (by simpa using h)
        exact ⟨by simp; omega, by simpa using h2⟩
    · rw [if_neg e] at h; simp at h
theorem tw_at {α : Type} {p : α → Bool} : ∀ {l : List α} (h : (l.takeWhile p).length < l.length), p l[(l.takeWhile p).length] = false
  | [], h => by simp at h
  | x :: l, h => by
    by_cases e : p x = true
    · have h1 : ((x :: l).takeWhile p) = x :: l.takeWhile p := by rw [List.takeWhile_cons, if_pos e]
      have h2 : (l.takeWhile p).length < l.length := by rw [h1] at h; simpa using h
      have h3 := tw_at h2
      simp only [h1, List.length_cons, List.getElem_cons_succ]
      exact h3
    · have h1 : ((x :: l).takeWhile p) = [] := by rw [List.takeWhile_cons, if_neg e]
      simp only [h1, List.length_nil, List.getElem_cons_zero]
      simpa using e
theorem tw_mono {α : Type} {p q : α → Bool} (hpq : ∀ x, p x = true → q x = true) : ∀ (l : List α), (l.takeWhile p).length ≤ (l.takeWhile q).length
  | [] => by simp
  | x :: l => by
    rw [List.takeWhile_cons, List.takeWhile_cons]
    by_cases e : p x = true
    · rw [if_pos e, if_pos (hpq x e)]
      have := tw_mono hpq l
      simpa using this
    · rw [if_neg e]; simp
theorem tw_len {α : Type} (p : α → Bool) (l : List α) : (l.takeWhile p).length ≤ l.length := List.Sublist.length_le (List.takeWhile_sublist _)
/-- How many steps are behind a tick. -/
def nst (st : List TGrowth) (t : Int) : Nat := (st.takeWhile fun g => decide (g.From ≤ t)).length
theorem nst_pos {r : TRegion} (h : RV r) {t : Int} (ht : 0 ≤ t) : 1 ≤ nst r.Steps t := by
  unfold nst
  obtain ⟨x, xs, e⟩ := List.exists_cons_of_ne_nil h.ne
  have h0 := h.h0 x (by rw [e]; rfl)
  rw [e, List.takeWhile_cons, if_pos (by simp; omega)]
  simp
theorem nst_len (st : List TGrowth) (t : Int) : nst st t ≤ st.length := tw_len _ _
theorem nst_all {r : TRegion} {B : Int} (hB : ∀ g ∈ r.Steps, g.From ≤ B) {t : Int} (ht : B ≤ t) : nst r.Steps t = r.Steps.length := by
  by_cases e : nst r.Steps t < r.Steps.length
  · have h1 := tw_at (p := fun g : TGrowth => decide (g.From ≤ t)) e
    have h2 := hB _ (List.getElem_mem e)
    unfold nst at h2
    simp at h1
    omega
  · have := nst_len r.Steps t
    omega
theorem cap_le {r : TRegion} (h : RV r) {i j : Nat} (hij : i ≤ j) (hj : j < r.Steps.length) : (r.Steps.getD i default).Capacity ≤ (r.Steps.getD j default).Capacity := by
  rw [getD_lt hj, getD_lt (show i < r.Steps.length by omega)]
  rcases Nat.lt_or_eq_of_le hij with e | e
  · exact ((List.pairwise_iff_getElem.1 h.pw) i j (by omega) hj e).2
  · subst e; exact Int.le_refl _
theorem capZ_bd {r : TRegion} (h : RV r) {t : Int} (ht : 0 ≤ t) : 0 ≤ capZ r t ∧ capZ r t ≤ 20 := by
  have h1 := nst_pos h ht
  have h2 := nst_len r.Steps t
  unfold capZ capL
  change 1 ≤ (r.Steps.takeWhile fun g => decide (g.From ≤ t)).length at h1
  change (r.Steps.takeWhile fun g => decide (g.From ≤ t)).length ≤ _ at h2
  rw [getD_lt (by omega)]
  exact (h.rg _ (List.getElem_mem _)).2.2
theorem capZ_mono {r : TRegion} (h : RV r) {t u : Int} (ht : 0 ≤ t) (hu : t ≤ u) : capZ r t ≤ capZ r u := by
  have h1 := nst_pos h ht
  have h2 := nst_len r.Steps u
  have h3 : nst r.Steps t ≤ nst r.Steps u := tw_mono (fun x hx => by simp at hx ⊢; omega) _
  exact cap_le h (by unfold nst at h1 h2 h3; omega) (by unfold nst at h1 h2 h3; omega)
theorem capZ_posB {r : TRegion} (h : RV r) {B : Int} (hB : ∀ g ∈ r.Steps, g.From ≤ B) {t : Int} (ht : B ≤ t) : 1 ≤ capZ r t := by
  obtain ⟨g, hg, h1⟩ := h.ps
  obtain ⟨i, hi, e⟩ := List.getElem_of_mem hg
  have h2 := nst_all hB ht
  have h3 := cap_le h (i := i) (j := r.Steps.length - 1) (by omega) (by omega)
  rw [getD_lt hi, e] at h3
  unfold capZ capL
  change (r.Steps.takeWhile fun g => decide (g.From ≤ t)).length = _ at h2
  rw [h2]; omega
theorem capZ_pos {r : TRegion} (h : RV r) {t : Int} (ht : 1000 ≤ t) : 1 ≤ capZ r t := capZ_posB h (fun g hg => (h.rg g hg).2.1) ht
theorem capacity_ok {r : TRegion} (h : RV r) {t : Int} (ht : 0 ≤ t) : recovery_capacity_F r t = some (capZ r t) := by
  have h1 := nst_pos h ht
  have h2 := nst_len r.Steps t
  have hlen := h.len
  have key : slices_IndexFunc_Growth_58_F r.Steps t = some (if nst r.Steps t < r.Steps.length then (nst r.Steps t : Int) else -1) := by
    unfold slices_IndexFunc_Growth_58_F
    obtain ⟨o, e, q⟩ := lp_runF (body := slices_IndexFunc_Growth_58_b1 r.Steps t) (fun s => ∃ k : Nat, s = (k : Int) ∧ k ≤ nst r.Steps t) (fun s => (r.Steps.length + 1 - s).toNat) (fun o => match o with
      | .inl _ => nst r.Steps t = r.Steps.length
      | .inr x => nst r.Steps t < r.Steps.length ∧ x = (nst r.Steps t : Int)) (fun s ⟨k, hs, hk⟩ => by
      subst hs
      unfold slices_IndexFunc_Growth_58_b1
      simp only [cn_dec]
      by_cases hkl : (k : Int) < (r.Steps.length : Int)
      · have hkl' : k < r.Steps.length := by omega
        rw [if_pos hkl, ix_n hkl', getD_lt hkl']
        unfold recovery_capacity_1_F
        rw [bd_s]
        simp only [cn_dec]
        rcases Nat.lt_or_eq_of_le hk with e | e
        · obtain ⟨_, h5⟩ := tw_lt e
          simp at h5
          rw [if_neg (by omega), wr_id (by omega) (by omega)]
          exact .inl ⟨_, rfl, ⟨k + 1, by omega, by omega⟩, by omega⟩
        · have h5 := tw_at (p := fun g : TGrowth => decide (g.From ≤ t)) (l := r.Steps) (by unfold nst at e; omega)
          have h6 : ¬ (r.Steps[k]).From ≤ t := by
            unfold nst at e
            simp only [← e] at h5
            simpa using h5
          rw [if_pos (by omega)]
          exact .inr (.inr ⟨_, rfl, by omega, by omega⟩)
      · rw [if_neg hkl]
        exact .inr (.inl ⟨_, rfl, by show nst r.Steps t = r.Steps.length; omega⟩)) 0 ⟨0, rfl, Nat.zero_le _⟩ (by omega)
    rw [e, bd_s]
    cases o with
    | inl x => rw [smK_l, if_neg (show ¬ _ by have q : nst r.Steps t = r.Steps.length := q; omega)]
    | inr x => rw [smK_r, if_pos q.1, q.2]
  unfold recovery_capacity_F
  rw [key, bd_s]
  simp only [jn_d, cn_dec]
  have fin : ∀ p : Int, p = (nst r.Steps t : Int) → (ix r.Steps default (wr (p - 1)) fun e4 => some e4.Capacity) = some (capZ r t) := fun p hp => by
    subst hp
    rw [wr_id (by omega) (by omega), show ((nst r.Steps t : Int) - 1) = ((nst r.Steps t - 1 : Nat) : Int) by omega, ix_n (by omega)]
    rfl
  by_cases e : nst r.Steps t < r.Steps.length
  · rw [if_pos e, if_neg (by omega)]; exact fin _ rfl
  · rw [if_neg e, if_pos (by omega)]; exact fin _ (by omega)
theorem list_map {α : Type} [Inhabited α] (l : List α) : l = (List.range l.length).map fun j => l.getD j default := by
  apply List.ext_getElem
  · simp
  · intro i h1 h2
    simp [h1]
end Go.Proofs.Ytcidmnpihffphaa
