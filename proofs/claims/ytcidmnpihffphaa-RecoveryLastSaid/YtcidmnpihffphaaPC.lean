import Derived.Test.YtcidmnpihffphaaPB
/-! Chapter 34, plainly: the order, the plan. -/
namespace Go.Proofs.Ytcidmnpihffphaa
open Go Go.Eng
set_option maxRecDepth 100000
/-- The attempts in their order. -/
structure SA (l ys : List TAttempt) : Prop where
  perm : ys.Perm l
  asc : ys.Pairwise (fun x y => x.At < y.At ∨ (x.At = y.At ∧ x.Caller < y.Caller))
theorem sorted_att {l : List TAttempt} (h : LV l) : SA l (sortF attCmp l) := by
  obtain ⟨h1, h2⟩ := sortF_facts attCmp attCmp_swo l
  have hl := sortF_len attCmp attCmp_swo l
  have hp : (sortF attCmp l).Perm l := by
    have := h1.2.2
    rw [← List.size_toArray, Array.extract_size] at this
    simp only [List.size_toArray] at this
    rw [← hl, List.extract_toArray] at this
    simpa using this
  refine ⟨hp, List.pairwise_iff_getElem.2 fun i j hi hj hij => ?_⟩
  have h3 := h2 i j (Nat.zero_le _) hij (by omega)
  have hnd : ((sortF attCmp l).map (·.Caller)).Nodup := (hp.map _).nodup_iff.2 h.nd
  rw [List.nodup_iff_pairwise_ne, List.pairwise_map, List.pairwise_iff_getElem] at hnd
  have h4 := hnd i j hi hj hij
  rw [attCmp_lt] at h3
  have e1 : (sortF attCmp l).toArray[i]! = (sortF attCmp l)[i] := by simp [hi]
  have e2 : (sortF attCmp l).toArray[j]! = (sortF attCmp l)[j] := by simp [hj]
  rw [e1, e2] at h3
  simp only [decide_eq_false_iff_not] at h3
  omega
theorem ordered_ok {l : List TAttempt} (h : LV l) : recovery_ordered_F l = some (sortF attCmp l) := by
  have := h.len
  unfold recovery_ordered_F recovery_sorted_Attempt_54_F
  rw [gd_p _ (by omega), lt_d, gd_p _ (by omega), lt_d, bd_s]
theorem SA.lv {l ys : List TAttempt} (h : SA l ys) (k : LV l) : LV ys :=
  ⟨by rw [h.perm.length_eq]; exact k.len, fun a ha => k.rg a (h.perm.mem_iff.1 ha), (h.perm.map _).nodup_iff.2 k.nd⟩
theorem SA.at_le {l ys : List TAttempt} (h : SA l ys) {i j : Nat} (hij : i ≤ j) (hj : j < ys.length) : (ys.getD i default).At ≤ (ys.getD j default).At := by
  rw [getD_lt hj, getD_lt (show i < ys.length by omega)]
  rcases Nat.lt_or_eq_of_le hij with e | e
  · have := (List.pairwise_iff_getElem.1 h.asc) i j (by omega) hj e
    omega
  · subst e; exact Int.le_refl _
theorem openF_ok {r : TRegion} {m : GM Int} {n K : Int} (hr : RV r) (hn : 0 ≤ n) (hK : n ≤ K) (hb : K ≤ 1000000) (hf : m.get K 0 < capZ r K) :
    ∃ k, open_F r m n = some k ∧ n ≤ k ∧ k ≤ K ∧ m.get k 0 < capZ r k ∧ ∀ j, n ≤ j → j < k → capZ r j ≤ m.get j 0 := by
  unfold open_F
  obtain ⟨o, e, q⟩ := lp_runF (body := open_b r m) (fun s => n ≤ s ∧ s ≤ K ∧ ∀ j, n ≤ j → j < s → capZ r j ≤ m.get j 0) (fun s => (K - s).toNat) (fun o => ∃ k, o = .inr k ∧ n ≤ k ∧ k ≤ K ∧ m.get k 0 < capZ r k ∧ ∀ j, n ≤ j → j < k → capZ r j ≤ m.get j 0) (fun s ⟨h1, h2, h3⟩ => by
    unfold open_b
    rw [capacity_ok hr (by omega), bd_s]
    simp only [cn_dec]
    by_cases h : m.get s 0 < capZ r s
    · rw [if_pos h]
      exact .inr (.inr ⟨_, rfl, _, rfl, h1, h2, h, h3⟩)
    · rw [if_neg h, wr_id (by omega) (by omega)]
      have hne : s ≠ K := fun e => h (e ▸ hf)
      refine .inl ⟨_, rfl, ⟨by omega, by omega, fun j hj1 hj2 => ?_⟩, by omega⟩
      by_cases e : j = s
      · subst e; omega
      · exact h3 j hj1 (by omega)) n ⟨Int.le_refl _, hK, fun j h1 h2 => by omega⟩ (by omega)
  obtain ⟨k, rfl, q⟩ := q
  rw [e, bd_s, smK_r]
  exact ⟨k, rfl, q⟩
/-- How many who are not urgent are let in at a tick. -/
def cnt (ys : List TAttempt) (ts : List TTicket) (k : Nat) (z : Int) : Nat := (List.range k).countP fun j => !(ys.getD j default).Urgent && ((ts.getD j default).At == z)
theorem cnt_succ (ys : List TAttempt) (ts : List TTicket) (k : Nat) (z : Int) : cnt ys ts (k + 1) z = cnt ys ts k z + if (ys.getD k default).Urgent = false ∧ (ts.getD k default).At = z then 1 else 0 := by
  unfold cnt
  rw [List.range_succ, List.countP_append]
  congr 1
  by_cases h : (ys.getD k default).Urgent = false ∧ (ts.getD k default).At = z
  · rw [if_pos h]
    simp only [List.countP_cons, List.countP_nil]
    rw [h.1, h.2]; simp
  · rw [if_neg h]
    simp only [List.countP_cons, List.countP_nil]
    cases h1 : (ys.getD k default).Urgent
    · have : ¬ (ts.getD k default).At = z := fun e => h ⟨h1, e⟩
      simp only [Bool.not_false, Bool.true_and, beq_iff_eq]
      rw [if_neg this]
    · simp
theorem cnt_app (ys : List TAttempt) (ts : List TTicket) (x : TTicket) {k : Nat} (hk : k ≤ ts.length) (z : Int) : cnt ys (ts ++ [x]) k z = cnt ys ts k z := by
  unfold cnt
  refine List.countP_congr fun j hj => ?_
  rw [getD_app, if_pos (by have := List.mem_range.1 hj; omega)]
/-- What the plan is, as far as the first k. -/
structure PL (r : TRegion) (B : Int) (ys : List TAttempt) (ts : List TTicket) (k : Nat) : Prop where
  len : ts.length = k
  cf : ∀ j, j < k → (ts.getD j default).Caller = (ys.getD j default).Caller ∧ (ts.getD j default).First = (ys.getD j default).At
  ur : ∀ j, j < k → (ys.getD j default).Urgent = true → (ts.getD j default).At = (ys.getD j default).At
  ge : ∀ j, j < k → (ys.getD j default).At ≤ (ts.getD j default).At
  le : ∀ j, j < k → (ts.getD j default).At ≤ B + k
  mono : ∀ i j, i < j → j < k → (ys.getD i default).Urgent = false → (ys.getD j default).Urgent = false → (ts.getD i default).At ≤ (ts.getD j default).At
  cap : ∀ z, 0 ≤ z → (cnt ys ts k z : Int) ≤ capZ r z
  full : ∀ j, j < k → (ys.getD j default).Urgent = false → ∀ z, (ys.getD j default).At ≤ z → z < (ts.getD j default).At → (cnt ys ts k z : Int) = capZ r z
/-- What is known of the loop's state. -/
structure PLs (r : TRegion) (B : Int) (ys : List TAttempt) (k : Nat) (s : (List TTicket) × Int × Int × (GM Int)) : Prop where
  pl : PL r B ys s.1 k
  i : s.2.2.1 = k
  m : ∀ z, s.2.2.2.get z 0 = (cnt ys s.1 k z : Int)
  wf : s.2.2.2.WF
  ks : ∀ z, s.2.2.2.has z = true → 0 ≤ z
  cur : 0 ≤ s.2.1 ∧ s.2.1 ≤ B + k
  top : ∀ j, j < k → (ys.getD j default).Urgent = false → (s.1.getD j default).At ≤ s.2.1
  at_ : s.2.1 = 0 ∨ ∃ j, j < k ∧ (ys.getD j default).Urgent = false ∧ (s.1.getD j default).At = s.2.1
theorem cnt_zero {ys : List TAttempt} {ts : List TTicket} {k : Nat} {z : Int} (h : ∀ j, j < k → (ys.getD j default).Urgent = false → (ts.getD j default).At ≠ z) : cnt ys ts k z = 0 := by
  unfold cnt
  rw [List.countP_eq_zero]
  intro j hj
  have := h j (List.mem_range.1 hj)
  cases h1 : (ys.getD j default).Urgent
  · simpa using this h1
  · simp
theorem plan_step {r : TRegion} {B : Int} {l ys : List TAttempt} (hr : RV r) (hB : (∀ g ∈ r.Steps, g.From ≤ B) ∧ (∀ a ∈ ys, a.At ≤ B) ∧ 0 ≤ B ∧ B ≤ 1000) (hs : SA l ys) (hl : LV ys) {k : Nat} {s : (List TTicket) × Int × Int × (GM Int)} (hk : k < ys.length) (h : PLs r B ys k s) : ∃ s', recovery_Plan_b1 r ys s = some (.nx s') ∧ PLs r B ys (k + 1) s' := by
  obtain ⟨ts, cur, i, m⟩ := s
  have hi : i = (k : Int) := h.i
  subst hi
  have hlen := hl.len
  have hg := hl.rg ys[k] (List.getElem_mem hk)
  have hgB := hB.2.1 ys[k] (List.getElem_mem hk)
  have hB2 := hB.2.2
  have hgd : ys.getD k default = ys[k] := getD_lt hk
  have hcur := h.cur
  have htl : ts.length = k := h.pl.len
  simp only at hcur
  unfold recovery_Plan_b1
  simp only [jn_d, cn_dec]
  rw [if_pos (by omega), ix_n hk, hgd]
  cases hu : ys[k].Urgent
  · simp only [Bool.not_false, cn_t]
    -- not urgent
    have hmx : imax cur ys[k].At = max cur ys[k].At := by unfold imax; omega
    rw [hmx]
    obtain ⟨t, e, q1, q2, q3, q4⟩ := openF_ok (m := m) (n := max cur ys[k].At) (K := max (max (cur + 1) B) ys[k].At) hr (by omega) (by omega) (by omega) (by
      have hz : m.get (max (max (cur + 1) B) ys[k].At) 0 = 0 := by
        have := h.m (max (max (cur + 1) B) ys[k].At)
        simp only at this
        rw [this, cnt_zero (fun j hj hju e => by have := h.top j hj hju; simp only at this e; omega)]; rfl
      rw [hz]
      have := capZ_posB hr hB.1 (t := (max (max (cur + 1) B) ys[k].At)) (by omega)
      omega)
    have hgt : m.get t 0 = (cnt ys ts k t : Int) := h.m t
    have hct : capZ r t ≤ 20 := (capZ_bd hr (by omega)).2
    rw [e, bd_s, lt_d, ap_p (by simp; omega), wr_id (x := m.get t 0 + 1) (by omega) (by omega), wr_id (x := (k : Int) + 1) (by omega) (by omega)]
    have hnew : (ts ++ [(⟨ys[k].Caller, ys[k].At, t⟩ : TTicket)]).getD k default = ⟨ys[k].Caller, ys[k].At, t⟩ := by rw [getD_app, if_neg (by omega), if_pos htl.symm]
    have hold : ∀ j, j < k → (ts ++ [(⟨ys[k].Caller, ys[k].At, t⟩ : TTicket)]).getD j default = ts.getD j default := fun j hj => by rw [getD_app, if_pos (by omega)]
    have hc : ∀ z, cnt ys (ts ++ [(⟨ys[k].Caller, ys[k].At, t⟩ : TTicket)]) (k + 1) z = cnt ys ts k z + if t = z then 1 else 0 := fun z => by
      rw [cnt_succ, cnt_app _ _ _ (by omega), hnew, hgd, hu]
      simp
    have hfull : ∀ z, ys[k].At ≤ z → z < t → (cnt ys ts k z : Int) = capZ r z := fun z hz1 hz2 => by
      have hcap := h.pl.cap z (by omega)
      simp only at hcap
      by_cases hzc : cur ≤ z
      · have := q4 z (by omega) hz2
        have h5 := h.m z
        simp only at h5
        omega
      · rcases h.at_ with h0 | ⟨j0, j1, j2, j3⟩
        · simp only at h0; omega
        · simp only at j3
          have := hs.at_le (show j0 ≤ k by omega) hk
          rw [hgd] at this
          exact h.pl.full j0 j1 j2 z (by omega) (by show z < (ts.getD j0 default).At; omega)
    refine ⟨_, rfl, ⟨⟨by simp [htl], fun j hj => ?_, fun j hj hju => ?_, fun j hj => ?_, fun j hj => ?_, fun i j hij hj hiu hju => ?_, fun z hz => ?_, fun j hj hju z hz1 hz2 => ?_⟩, by simp, fun z => ?_, h.wf.put _ _, fun z hz => ?_, by simp only; omega, fun j hj hju => ?_, .inr ⟨k, by omega, by rw [hgd]; exact hu, by simp only; rw [hnew]⟩⟩⟩
    · by_cases e : j < k
      · simp only; rw [hold j e]; exact h.pl.cf j e
      · have : j = k := by omega
        subst this; simp only; rw [hnew, hgd]; exact ⟨rfl, rfl⟩
    · by_cases e : j < k
      · simp only; rw [hold j e]; exact h.pl.ur j e hju
      · have : j = k := by omega
        subst this; rw [hgd, hu] at hju; cases hju
    · by_cases e : j < k
      · simp only; rw [hold j e]; exact h.pl.ge j e
      · have : j = k := by omega
        subst this; simp only; rw [hnew, hgd]; simp only; omega
    · by_cases e : j < k
      · simp only; rw [hold j e]; have := h.pl.le j e; simp only at this; omega
      · have : j = k := by omega
        subst this; simp only; rw [hnew]; simp only; omega
    · by_cases e : j < k
      · simp only; rw [hold j e, hold i (by omega)]; exact h.pl.mono i j hij e hiu hju
      · have : j = k := by omega
        subst this; simp only; rw [hnew, hold i (by omega)]
        have := h.top i hij hiu
        simp only at this ⊢; omega
    · simp only
      rw [hc]
      have := h.pl.cap z hz
      simp only at this
      split
      · rename_i e; subst e; omega
      · omega
    · simp only
      have hcapz : (cnt ys ts k z : Int) = capZ r z ∧ z ≠ t := by
        by_cases e : j < k
        · simp only at hz2
          rw [hold j e] at hz2
          have := h.pl.full j e hju z hz1 hz2
          refine ⟨this, fun e2 => ?_⟩
          subst e2; simp only at this; omega
        · have : j = k := by omega
          subst this
          simp only at hz2
          rw [hnew] at hz2
          rw [hgd] at hz1
          exact ⟨hfull z hz1 hz2, by simp only at hz2; omega⟩
      rw [hc, if_neg (fun e => hcapz.2 e.symm)]
      simpa using hcapz.1
    · simp only
      rw [hc]
      by_cases e : z = t
      · subst e; rw [GM.get_put, if_pos rfl, hgt]; simp
      · rw [GM.get_put_ne e, if_neg (fun e2 => e e2.symm)]
        have := h.m z
        simp only at this
        simpa using this
    · simp only at hz
      by_cases e : z = t
      · omega
      · rw [GM.has_put_ne e] at hz
        exact h.ks z hz
    · by_cases e : j < k
      · simp only; rw [hold j e]; have := h.top j e hju; simp only at this; omega
      · have : j = k := by omega
        subst this; simp only; rw [hnew]; exact Int.le_refl _
  · simp only [Bool.not_true, cn_f]
    rw [lt_d, ap_p (by simp; omega), wr_id (x := (k : Int) + 1) (by omega) (by omega)]
    have hnew : (ts ++ [(⟨ys[k].Caller, ys[k].At, ys[k].At⟩ : TTicket)]).getD k default = ⟨ys[k].Caller, ys[k].At, ys[k].At⟩ := by rw [getD_app, if_neg (by omega), if_pos htl.symm]
    have hold : ∀ j, j < k → (ts ++ [(⟨ys[k].Caller, ys[k].At, ys[k].At⟩ : TTicket)]).getD j default = ts.getD j default := fun j hj => by rw [getD_app, if_pos (by omega)]
    have hc : ∀ z, cnt ys (ts ++ [(⟨ys[k].Caller, ys[k].At, ys[k].At⟩ : TTicket)]) (k + 1) z = cnt ys ts k z := fun z => by
      rw [cnt_succ, cnt_app _ _ _ (by omega), hgd, hu]
      simp
    refine ⟨_, rfl, ⟨⟨by simp [htl], fun j hj => ?_, fun j hj hju => ?_, fun j hj => ?_, fun j hj => ?_, fun i j hij hj hiu hju => ?_, fun z hz => ?_, fun j hj hju z hz1 hz2 => ?_⟩, by simp, fun z => ?_, h.wf, h.ks, by simp only; omega, fun j hj hju => ?_, ?_⟩⟩
    · by_cases e : j < k
      · simp only; rw [hold j e]; exact h.pl.cf j e
      · have : j = k := by omega
        subst this; simp only; rw [hnew, hgd]; exact ⟨rfl, rfl⟩
    · by_cases e : j < k
      · simp only; rw [hold j e]; exact h.pl.ur j e hju
      · have : j = k := by omega
        subst this; simp only; rw [hnew, hgd]
    · by_cases e : j < k
      · simp only; rw [hold j e]; exact h.pl.ge j e
      · have : j = k := by omega
        subst this; simp only; rw [hnew, hgd]; exact Int.le_refl _
    · by_cases e : j < k
      · simp only; rw [hold j e]; have := h.pl.le j e; simp only at this; omega
      · have : j = k := by omega
        subst this; simp only; rw [hnew]; simp only; omega
    · by_cases e : j < k
      · simp only; rw [hold j e, hold i (by omega)]; exact h.pl.mono i j hij e hiu hju
      · have : j = k := by omega
        subst this; rw [hgd, hu] at hju; cases hju
    · simp only; rw [hc]; exact h.pl.cap z hz
    · by_cases e : j < k
      · simp only at hz2 ⊢
        rw [hold j e] at hz2
        rw [hc]; exact h.pl.full j e hju z hz1 hz2
      · have : j = k := by omega
        subst this; rw [hgd, hu] at hju; cases hju
    · simp only; rw [hc]; exact h.m z
    · by_cases e : j < k
      · simp only; rw [hold j e]; exact h.top j e hju
      · have : j = k := by omega
        subst this; rw [hgd, hu] at hju; cases hju
    · rcases h.at_ with h0 | ⟨j0, j1, j2, j3⟩
      · exact .inl h0
      · exact .inr ⟨j0, by omega, j2, by simp only; rw [hold j0 j1]; exact j3⟩
theorem valid_ok {r : TRegion} (h : RV r) : recovery_Valid_F r = some true := by
  have hlen := h.len
  have hne : 0 < r.Steps.length := List.length_pos_iff.2 h.ne
  have hsg := h.sg
  unfold recovery_Valid_F
  simp only [jn_d]
  rw [within_ok, bd_s]
  simp only [show ((1 : Int) ≤ (r.Steps.length : Int) ∧ (r.Steps.length : Int) ≤ 10) = True by simp; omega, decide_true, Bool.not_true, cn_f]
  rw [within_ok, bd_s]
  simp only [show ((1 : Int) ≤ r.Signals ∧ r.Signals ≤ 100) = True by simp; omega, decide_true, Bool.not_true, cn_f]
  have h00 := h.h0 (r.Steps.getD 0 default) (by rw [getD_lt hne, List.head?_eq_getElem?]; simp [hne])
  rw [ix_p (Int.le_refl 0) (by omega), show (0 : Int).toNat = 0 from rfl, cn_bne, if_pos h00]
  obtain ⟨s, hs, h1, h2, h3⟩ := lp_fold (body := recovery_Valid_b1 r) (fun k s => s.1 = (k : Int) ∧ (k = 0 → s.2 = ⟨-1, 0⟩) ∧ (0 < k → s.2 = r.Steps.getD (k - 1) default)) r.Steps.length (by omega) (fun k s hk ⟨h1, h2, h3⟩ => by
    obtain ⟨i, g⟩ := s
    simp only at h1 h2 h3
    subst h1
    have hg := h.rg r.Steps[k] (List.getElem_mem hk)
    have hb : g.From + 1 ≤ (r.Steps[k]).From ∧ g.Capacity ≤ (r.Steps[k]).Capacity ∧ -1 ≤ g.From ∧ g.From ≤ 1000 := by
      by_cases e : k = 0
      · subst e
        rw [h2 rfl]
        simp only; omega
      · have := h3 (by omega)
        rw [getD_lt (by omega)] at this
        have hp := (List.pairwise_iff_getElem.1 h.pw) (k - 1) k (by omega) hk (by omega)
        have hq := h.rg r.Steps[k - 1] (List.getElem_mem (by omega))
        rw [this]; omega
    unfold recovery_Valid_b1
    simp only [jn_d, cn_dec]
    rw [if_pos (by omega), ix_n hk, getD_lt hk, wr_id (x := g.From + 1) (by omega) (by omega), within_ok, bd_s]
    simp only [show (g.From + 1 ≤ (r.Steps[k]).From ∧ (r.Steps[k]).From ≤ 1000) = True by simp; omega, decide_true, Bool.not_true, cn_f]
    rw [within_ok, bd_s]
    simp only [show (g.Capacity ≤ (r.Steps[k]).Capacity ∧ (r.Steps[k]).Capacity ≤ 20) = True by simp; omega, decide_true, Bool.not_true, cn_f]
    rw [wr_id (by omega) (by omega)]
    exact ⟨_, rfl, by simp, fun e => by omega, fun _ => by simp only [Nat.add_sub_cancel]; rw [getD_lt hk]⟩) (fun s ⟨h1, _⟩ => by
    obtain ⟨i, g⟩ := s
    simp only at h1
    subst h1
    unfold recovery_Valid_b1
    simp only [jn_d, cn_dec]
    rw [if_neg (by omega)]) (0, ⟨-1, 0⟩) ⟨rfl, fun _ => rfl, fun h => by omega⟩
  rw [hs, bd_s, smK_l]
  have := h3 hne
  obtain ⟨g, hg, hg1⟩ := h.ps
  obtain ⟨i, hi, e⟩ := List.getElem_of_mem hg
  have h4 := cap_le h (i := i) (j := r.Steps.length - 1) (by omega) (by omega)
  rw [getD_lt hi, e, ← this] at h4
  simp only [show s.2.Capacity > 0 by omega, decide_true]
/-- The plan. -/
theorem planB_ok {r : TRegion} {B : Int} {l : List TAttempt} (hr : RV r) (hl : LV l) (hB : (∀ g ∈ r.Steps, g.From ≤ B) ∧ (∀ a ∈ l, a.At ≤ B) ∧ 0 ≤ B ∧ B ≤ 1000) : ∃ ts, recovery_Plan_F r l = some (ts, 0) ∧ PL r B (sortF attCmp l) ts (sortF attCmp l).length ∧ SA l (sortF attCmp l) := by
  have hs := sorted_att hl
  have hy := hs.lv hl
  have hB' : (∀ g ∈ r.Steps, g.From ≤ B) ∧ (∀ a ∈ sortF attCmp l, a.At ≤ B) ∧ 0 ≤ B ∧ B ≤ 1000 := ⟨hB.1, fun a ha => hB.2.1 a (hs.perm.mem_iff.1 ha), hB.2.2⟩
  unfold recovery_Plan_F
  simp only [jn_d]
  rw [valid_ok hr, bd_s]
  simp only [Bool.not_true, cn_f]
  rw [ready_ok hl, bd_s]
  simp only [Bool.not_true, cn_f]
  rw [ordered_ok hl, bd_s]
  generalize sortF attCmp l = ys at hs hy hB' ⊢
  obtain ⟨s, e, q⟩ := lp_fold (body := recovery_Plan_b1 r ys) (PLs r B ys) ys.length (by have := hy.len; omega) (fun k s hk h => plan_step hr hB' hs hy hk h) (fun s h => by
    unfold recovery_Plan_b1
    simp only [cn_dec]
    rw [if_neg (by rw [h.i]; omega)]) ([], 0, 0, GM.mt Int) ⟨⟨rfl, fun j h => by omega, fun j h => by omega, fun j h => by omega, fun j h => by omega, fun i j _ h => by omega, fun z hz => by simpa [cnt] using (capZ_bd hr hz).1, fun j h => by omega⟩, rfl, fun z => rfl, GM.WF_mt, fun z hz => (by cases hz), by have := hB.2.2; simp only; omega, fun j h => by omega, .inl rfl⟩
  rw [e, bd_s, smK_l]
  exact ⟨_, rfl, q.pl, hs⟩
theorem plan_ok {r : TRegion} {l : List TAttempt} (hr : RV r) (hl : LV l) : ∃ ts, recovery_Plan_F r l = some (ts, 0) ∧ PL r 1000 (sortF attCmp l) ts (sortF attCmp l).length ∧ SA l (sortF attCmp l) :=
  planB_ok hr hl ⟨fun g hg => (hr.rg g hg).2.1, fun a ha => (hl.rg a ha).2.2.2, by omega, by omega⟩
end Go.Proofs.Ytcidmnpihffphaa
