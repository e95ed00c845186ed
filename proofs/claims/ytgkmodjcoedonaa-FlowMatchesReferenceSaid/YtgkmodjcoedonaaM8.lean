import Derived.Test.YtgkmodjcoedonaaM7
set_option linter.unusedVariables false
set_option linter.unusedSimpArgs false
set_option linter.unusedSectionVars false
namespace Go.Proofs.Ytgkmodjcoedonaa
open Go Go.Eng
set_option maxRecDepth 100000
theorem bentL_ok1 (l : List Int) (hl : l.length ≤ 900) {a b c : Int} (oa : okI a) (ob : okI b) (oc : okI c) : ∃ l', ref27_BentList_F l a b c = some l' ∧ l'.length ≤ 901 := by
  unfold ref27_BentList_F
  simp only [jn_d, lt_d, st_dd]
  rw [gd_p _ (by omega)]
  by_cases h : l.length = 0
  · rw [cn_beq, if_pos (by omega)]; exact ⟨_, rfl, by simp⟩
  · rw [cn_beq, if_neg (by omega)]
    obtain ⟨p1, p2⟩ := pickZ_lt c (n := (l.length : Int)) (by omega)
    obtain ⟨q1, q2⟩ := pickZ_lt a (n := 4) (by omega)
    rw [pick_r27 _ _ oc (by omega), bd_s, pick_r27 _ _ oa (by omega), bd_s]
    simp only [cn_beq]
    rw [gd_p _ ⟨p1, p2⟩, gd_p _ ⟨p1, p2⟩, gd_p _ ⟨p1, p2⟩, gd_p _ ⟨p1, p2⟩, gd_p _ ⟨p1, p2⟩, ap_p (by simp; omega)]
    split
    · exact ⟨_, rfl, by simp; omega⟩
    · split
      · exact ⟨_, rfl, by simp; omega⟩
      · split
        · exact ⟨_, rfl, by simp; omega⟩
        · exact ⟨_, rfl, by simp; omega⟩
end Go.Proofs.Ytgkmodjcoedonaa
namespace Go.Proofs.Ytgkmodjcoedonaa
open Go Go.Eng
set_option maxRecDepth 100000
theorem loop_all {R : Type} {body : Int → Option (Ct Int R)} (N : Nat) (hN : N < 18446744073709551616) (step : ∀ k : Nat, k < N → body (k : Int) = some (.nx ((k + 1 : Nat) : Int))) (stop : body (N : Int) = some (.bk (N : Int))) : lp body FU 0 = some (.inl (N : Int)) := by
  obtain ⟨s', e, h⟩ := lp_fold (body := body) (fun k z => z = (k : Int)) N hN (fun k z hk hz => by subst hz; exact ⟨_, step k hk, rfl⟩) (fun z hz => by subst hz; exact stop) 0 rfl
  rw [e, h]
theorem imin_41 (x : Nat) : imin (x : Int) 41 = ((min x 41 : Nat) : Int) := by unfold imin; split <;> omega
theorem slc41 {α β : Type} (l : List α) (f : List α → Option β) : ∃ m : List α, slc l 0 (imin (l.length : Int) 41) f = f m ∧ m.length ≤ 41 := by
  have h := imin_41 l.length
  refine ⟨_, slc_p (by omega) (by rw [h]; omega) (by rw [h]; omega), ?_⟩
  have := (sub_get (l := l) (lo := 0) (hi := imin (l.length : Int) 41) (by omega) (by rw [h]; omega) (by rw [h]; omega)).1
  rw [this, h]
  simp only [Int.toNat_natCast]
  omega
theorem few_ok (n : TNet) : ∃ m, law27_few_F n = some m ∧ m.Edges.length ≤ 41 := by
  unfold law27_few_F
  obtain ⟨l, e, hl⟩ := slc41 n.Edges fun l1 => jn (fun p2 : Bool => jn (fun p4 : TNet => some p4) fun k5 =>
    cn p2 (k5 (⟨6, l1⟩ : TNet)) (k5 (⟨n.N, l1⟩ : TNet))) fun k3 => cn (decide (n.N > 6)) (k3 (decide (n.N ≤ 12))) (k3 false)
  rw [e]
  simp only [jn_d, cn_if]
  split
  · split
    · exact ⟨_, rfl, hl⟩
    · exact ⟨_, rfl, hl⟩
  · exact ⟨_, rfl, hl⟩
theorem bent_loop {N : Int} {L : List TEdge} {a : Int} (oa : okI a) {p : Int} (hp : 0 ≤ p ∧ p < (L.length : Int)) (hl : L.length ≤ 16) : ∃ m : TNet, lp (ref27_Bent_b1 a p) FU (⟨N, L⟩ : TNet) = some (.inl m) ∧ m.Edges.length ≤ 41 := by
  obtain ⟨q1, q2⟩ := pickZ_lt a (n := 3) (by omega)
  obtain ⟨o, e, ho⟩ := lp_runF (body := ref27_Bent_b1 a p) (fun m : TNet => m.Edges.length ≤ 41 ∧ p < (m.Edges.length : Int)) (fun m => 50 - m.Edges.length)
    (fun o => match o with
      | .inl m => m.Edges.length ≤ 41
      | .inr _ => False) (fun m hm => by
      obtain ⟨h1, h2⟩ := hm
      unfold ref27_Bent_b1
      rw [pick_r27 _ _ oa (by omega), bd_s, wr_id (by omega) (by omega), cn_dec]
      by_cases c : (m.Edges.length : Int) < 39 + pickZ a 3
      · rw [if_pos c, gd_p _ ⟨hp.1, h2⟩, lt_d, ap_p (by simp; omega)]
        refine .inl ⟨_, rfl, ⟨by simp; omega, by simp; omega⟩, ?_⟩
        simp; omega
      · rw [if_neg c]
        exact .inr (.inl ⟨_, rfl, h1⟩))
    (⟨N, L⟩ : TNet) ⟨by simp only; omega, hp.2⟩ (by simp only; omega)
  match o, ho with
  | .inl m, ho => exact ⟨m, e, ho⟩
theorem bent_ok {n : TNet} (hn : MN n) {a b c : Int} (oa : okI a) (ob : okI b) (oc : okI c) : ∃ m, ref27_Bent_F n a b c = some m ∧ m.Edges.length ≤ 41 := by
  have hel := hn.el
  unfold ref27_Bent_F
  simp only [jn_d, lt_d, st_dd]
  rw [gd_p _ (by omega)]
  by_cases h : n.Edges.length = 0
  · rw [cn_beq, if_pos (by omega)]; exact ⟨_, rfl, by simp only; omega⟩
  · rw [cn_beq, if_neg (by omega)]
    obtain ⟨p1, p2⟩ := pickZ_lt c (n := (n.Edges.length : Int)) (by omega)
    obtain ⟨m, em, hm⟩ := bent_loop (N := n.N) ob (p := pickZ c (n.Edges.length : Int)) ⟨p1, p2⟩ hel
    rw [pick_r27 _ _ oc (by omega), bd_s, pick_r27 _ _ oa (by omega), bd_s]
    simp only [cn_beq]
    rw [gd_p _ ⟨p1, p2⟩, gd_p _ ⟨p1, p2⟩, gd_p _ ⟨p1, p2⟩, em, bd_s, smK_l]
    split
    · exact ⟨_, rfl, by simp only; omega⟩
    · split
      · exact ⟨_, rfl, by simp only [List.length_set]; omega⟩
      · split
        · exact ⟨_, rfl, by simp only [List.length_set]; omega⟩
        · split
          · exact ⟨_, rfl, by simp only [List.length_set]; omega⟩
          · exact ⟨_, rfl, hm⟩
theorem CheckFlow_some (n : TNet) (a b : Int) (l : List Int) : ∃ y, flow_CheckFlow_F n a b l = some y := by
  by_cases he : EndsI n a b
  · obtain ⟨s, t, rfl, rfl, hv⟩ := he.nat
    by_cases h : IsFlow n s t l
    · exact ⟨_, (checkFlow_ok hv l).1 h⟩
    · exact ⟨_, (checkFlow_ok hv l).2 h⟩
  · exact ⟨_, CheckFlow_no he l⟩
theorem CheckCut_some (n : TNet) (a b : Int) (S : Int) : ∃ y, flow_CheckCut_F n a b S = some y := by
  by_cases he : EndsI n a b
  · obtain ⟨s, t, rfl, rfl, hv⟩ := he.nat
    exact ⟨_, checkCut_ok hv S⟩
  · exact ⟨_, CheckCut_no he S⟩
theorem Without_some (n : TNet) (F : Int) : ∃ y, flow_Without_F n F = some y ∧ y.1.Edges.length ≤ 40 := by
  by_cases h : NV n ∧ 0 ≤ F ∧ F < 2 ^ n.Edges.length
  · obtain ⟨h0, h1, h2⟩ := h
    obtain ⟨G, rfl⟩ : ∃ G : Nat, F = (G : Int) := ⟨_, (Int.toNat_of_nonneg h1).symm⟩
    exact ⟨_, Without_ok h0 h2, by simp only [wo_len]; exact h0.el⟩
  · exact ⟨_, Without_no h, by simp⟩
end Go.Proofs.Ytgkmodjcoedonaa
