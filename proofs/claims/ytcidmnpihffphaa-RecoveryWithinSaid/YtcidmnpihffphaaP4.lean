import Derived.Test.YtcidmnpihffphaaPC
import Derived.Test.YtcidmnpihffphaaV4
namespace Go.Proofs.Ytcidmnpihffphaa
open Go Go.Eng
set_option maxRecDepth 100000
theorem Capacity_ok {r : TRegion} (h : RV r) {t : Int} (ht : 0 ≤ t) : recovery_Capacity_F r t = some (capZ r t, 0) := by
  unfold recovery_Capacity_F
  simp only [jn_d]
  rw [valid_ok h, bd_s]
  simp only [Bool.not_true, cn_f]
  rw [show decide (t < 0) = false by simp; omega]
  simp only [cn_f]
  rw [capacity_ok h ht, bd_s]
theorem list_map {α : Type} [Inhabited α] (l : List α) : l = (List.range l.length).map fun j => l.getD j default := by
  apply List.ext_getElem
  · simp
  · intro i h1 h2
    simp [h1]
/-- Who is asked for has one ticket. -/
theorem own_ticket {r : TRegion} {B : Int} {ys : List TAttempt} {ts : List TTicket} (hy : LV ys) (h : PL r B ys ts ys.length) {i j : Nat} (hi : i < ys.length) (hj : j < ys.length) : (ts.getD i default).Caller = (ys.getD j default).Caller ↔ i = j := by
  rw [(h.cf i hi).1, getD_lt hi, getD_lt hj]
  constructor
  · intro e
    have hnd := hy.nd
    rw [List.nodup_iff_pairwise_ne, List.pairwise_map, List.pairwise_iff_getElem] at hnd
    rcases Nat.lt_trichotomy i j with h1 | h1 | h1
    · exact absurd e (hnd i j hi hj h1)
    · exact h1
    · exact absurd e.symm (hnd j i hj hi h1)
  · intro e; subst e; rfl
/-- Let in at a tick, not urgent. -/
def inAt (ts : List TTicket) (z : Int) (a : TAttempt) : Bool := !a.Urgent && (List.range ts.length).any fun j => (ts.getD j default).Caller == a.Caller && (ts.getD j default).At == z
theorem inAt_ys {r : TRegion} {B : Int} {ys : List TAttempt} {ts : List TTicket} (hy : LV ys) (h : PL r B ys ts ys.length) (z : Int) {j : Nat} (hj : j < ys.length) : inAt ts z (ys.getD j default) = (!(ys.getD j default).Urgent && ((ts.getD j default).At == z)) := by
  unfold inAt
  congr 1
  rw [h.len]
  rw [Bool.eq_iff_iff, List.any_eq_true]
  constructor
  · rintro ⟨i, hi, e⟩
    simp only [Bool.and_eq_true, beq_iff_eq] at e
    have := (own_ticket hy h (List.mem_range.1 hi) hj).1 e.1
    subst this
    simpa using e.2
  · intro e
    exact ⟨j, List.mem_range.2 hj, by simp only [Bool.and_eq_true, beq_iff_eq]; exact ⟨(own_ticket hy h hj hj).2 rfl, by simpa using e⟩⟩
theorem countP_cnt {r : TRegion} {B : Int} {ys : List TAttempt} {ts : List TTicket} (hy : LV ys) (h : PL r B ys ts ys.length) (z : Int) : ys.countP (inAt ts z) = cnt ys ts ys.length z := by
  unfold cnt
  conv => lhs; rw [list_map ys]
  rw [List.countP_map]
  refine List.countP_congr fun j hj => ?_
  simp only [Function.comp]
  rw [inAt_ys hy h z (List.mem_range.1 hj)]
theorem within_in {r : TRegion} {B : Int} {l ys : List TAttempt} {ts : List TTicket} (hs : SA l ys) (hl : LV l) (hy : LV ys) (h : PL r B ys ts ys.length) (tick : Int) (c : Int) (hc : 0 ≤ c ∧ c ≤ 1000) {i : Nat} (hi : i < l.length) :
    ∃ s, lp (law34_RecoveryWithin_b2 (c, (i : Int)) l (ts, 0) tick) FU (c, 0, 0) = some (.inl s) ∧ s.1 = c + (if inAt ts tick (l.getD i default) then 1 else 0) ∧ s.2.1 = 1 := by
  obtain ⟨j0, hj0, e0⟩ : ∃ j0, j0 < ys.length ∧ ys.getD j0 default = l.getD i default := by
    have : l.getD i default ∈ ys := hs.perm.mem_iff.2 (by rw [getD_lt hi]; exact List.getElem_mem hi)
    obtain ⟨j, hj, e⟩ := List.getElem_of_mem this
    exact ⟨j, hj, by rw [getD_lt hj]; exact e⟩
  have htl := h.len
  have hyl := hy.len
  have hin := inAt_ys hy h tick hj0
  rw [e0] at hin
  generalize hb : inAt ts tick (l.getD i default) = b at hin ⊢
  obtain ⟨s, e, h1, h2, h3⟩ := lp_fold (body := law34_RecoveryWithin_b2 (c, (i : Int)) l (ts, 0) tick) (fun k s => s.2.2 = (k : Int) ∧ s.1 = c + (if j0 < k ∧ b = true then 1 else 0) ∧ s.2.1 = if j0 < k then 1 else 0) ts.length (by omega) (fun k s hk ⟨h1, h2, h3⟩ => by
    obtain ⟨x, f, q⟩ := s
    simp only at h1 h2 h3
    subst h1
    have hk' : k < ys.length := by omega
    have hiff := own_ticket hy h hk' hj0
    rw [e0] at hiff
    unfold law34_RecoveryWithin_b2
    simp only [jn_d, cn_dec]
    rw [if_pos (by omega), ix_n hk, ix_n hi, cn_bne, wr_id (x := (k : Int) + 1) (by omega) (by omega)]
    by_cases e : k = j0
    · subst e
      rw [if_pos (hiff.2 rfl)]
      have hcf := h.cf k hk'
      have hge := h.ge k hk'
      rw [e0] at hcf hge
      rw [if_neg (by omega)] at h3
      rw [if_neg (by omega)] at h2
      rw [ix_n hk, ix_n hi, cn_bne, if_pos hcf.2, ix_n hk, ix_n hi]
      rw [if_neg (by omega), ix_n hk, cn_beq]
      have hx : x = c := by omega
      have hf : f = 0 := h3
      subst hx; subst hf
      by_cases ht : (ts.getD k default).At = tick
      · rw [if_pos ht, ix_n hi]
        have ht' : ((ts.getD k default).At == tick) = true := by simpa using ht
        rw [ht', Bool.and_true] at hin
        rw [← hin]
        cases hbb : b
        · simp only [cn_f]
          refine ⟨_, rfl, by simp, by simp, ?_⟩
          simp only
          rw [wr_id (by omega) (by omega), if_pos (by omega)]; rfl
        · simp only [cn_t]
          refine ⟨_, rfl, by simp, ?_, ?_⟩
          · simp only
            rw [wr_id (by omega) (by omega), if_pos ⟨by omega, trivial⟩]
          · simp only
            rw [wr_id (by omega) (by omega), if_pos (by omega)]; rfl
      · rw [if_neg ht]
        have ht' : ((ts.getD k default).At == tick) = false := by simpa using ht
        rw [ht', Bool.and_false] at hin
        subst hin
        simp only [cn_f]
        refine ⟨_, rfl, by simp, by simp, ?_⟩
        simp only
        rw [wr_id (by omega) (by omega), if_pos (by omega)]; rfl
    · rw [if_neg (fun q => e (hiff.1 q))]
      refine ⟨_, rfl, by simp, ?_, ?_⟩
      · simp only
        rw [h2]
        congr 1
        by_cases q : j0 < k
        · simp only [q, show j0 < k + 1 by omega]
        · simp only [q, show ¬ j0 < k + 1 by omega]
      · simp only
        rw [h3]
        by_cases q : j0 < k
        · rw [if_pos q, if_pos (by omega)]
        · rw [if_neg q, if_neg (by omega)]) (fun s ⟨h1, _⟩ => by
    unfold law34_RecoveryWithin_b2
    simp only [cn_dec]
    rw [if_neg (by rw [h1]; omega)]) (c, 0, 0) ⟨rfl, by simp, by simp⟩
  refine ⟨s, e, ?_, ?_⟩
  · rw [h2]
    congr 1
    have : j0 < ts.length := by omega
    simp [this]
  · rw [h3, if_pos (by omega)]
theorem plain4 (a0 : List (Int × Int)) (a1 : Int) (a2 : List (Int × Int)) (a3 : Int) (o0 : okL okA71 a0) (o1 : okI a1) (o2 : okL okA71 a2) (o3 : okI a3) : law34_RecoveryWithin_F a0 a1 a2 a3 = some true := by
  unfold law34_RecoveryWithin_F
  rw [sane_ok, bd_s]
  simp only [Bool.not_true, cn_f, jn_d]
  obtain ⟨r, e, hr⟩ := made_ok a0 a1 o0 o1
  obtain ⟨l, e2, hla⟩ := attempts_ok a2 o2
  have hl := hla.lv
  rw [e, bd_s, e2, bd_s]
  obtain ⟨ts, e3, hp, hs⟩ := plan_ok hr hl
  rw [e3, bd_s, pick_law a3 60 o3 (by omega), bd_s]
  obtain ⟨t0, t1⟩ := pickZ_lt a3 (n := 60) (by omega)
  generalize pickZ a3 60 = tick at t0 t1 ⊢
  rw [Capacity_ok hr t0, bd_s]
  generalize sortF attCmp l = ys at hs hp
  have hy := hs.lv hl
  have htl := hp.len
  have hyl := hs.perm.length_eq
  simp only [bne_self_eq_false, cn_f]
  rw [show ((ts.length : Int) != (l.length : Int)) = false by simp; omega]
  simp only [cn_f]
  have hll := hl.len
  obtain ⟨s, e4, h1, h2⟩ := lp_fold (body := law34_RecoveryWithin_b1 l (ts, 0) tick) (fun k s => s.2 = (k : Int) ∧ s.1 = (((l.take k).countP (inAt ts tick) : Nat) : Int)) l.length (by omega) (fun k s hk ⟨h1, h2⟩ => by
    obtain ⟨c, i⟩ := s
    simp only at h1 h2
    subst h1
    have hcl : (l.take k).countP (inAt ts tick) ≤ k := Nat.le_trans (List.countP_le_length) (by simp; omega)
    obtain ⟨s', q1, q2, q3⟩ := within_in hs hl hy hp tick c (by omega) hk
    unfold law34_RecoveryWithin_b1
    simp only [cn_dec]
    rw [if_pos (by omega), q1, bd_s, smK_l, cn_bne, if_pos q3, wr_id (x := (k : Int) + 1) (by omega) (by omega)]
    refine ⟨_, rfl, by simp, ?_⟩
    simp only
    rw [q2, h2, List.take_succ_eq_append_getElem hk, List.countP_append, ← getD_lt hk, List.countP_cons, List.countP_nil]
    generalize inAt ts tick (l.getD k default) = b
    cases b <;> simp) (fun s ⟨h1, _⟩ => by
    unfold law34_RecoveryWithin_b1
    simp only [cn_dec]
    rw [if_neg (by rw [h1]; omega)]) (0, 0) ⟨rfl, by simp⟩
  rw [e4, bd_s, smK_l, h2, List.take_length, ← hs.perm.countP_eq, countP_cnt hy hp]
  have := hp.cap tick t0
  simp only [this, decide_true]
end Go.Proofs.Ytcidmnpihffphaa
