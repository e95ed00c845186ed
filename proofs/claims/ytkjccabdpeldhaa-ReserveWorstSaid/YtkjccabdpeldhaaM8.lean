import Derived.Test.YtkjccabdpeldhaaM7
import Derived.Test.YtkjccabdpeldhaaM5
import Derived.KernelRfl
import Derived.Test.YtkjccabdpeldhaaM6
import Derived.Test.YtkjccabdpeldhaaM4
set_option linter.unusedVariables false
set_option linter.unusedSimpArgs false
set_option linter.unusedSectionVars false
namespace Go.Proofs.Ytkjccabdpeldhaa
open Go Go.Eng
set_option maxRecDepth 100000
theorem pick_law (c n : Int) (hc : okI c) (hn : 0 < n) : law33_pick_F c n = some (pickZ c n) := by
  unfold law33_pick_F
  simp only [jn_d, cn_if, decide_eq_true_eq]
  rw [gd_p _ (by simpa using Int.ne_of_gt hn), gd_p _ (by simpa using Int.ne_of_gt hn)]
  rw [← pickZ_eq c n hc.1 hc.2 hn]
  split <;> rfl
theorem pick_r33 (c n : Int) (hc : okI c) (hn : 0 < n) : ref33_pick_F c n = some (pickZ c n) := pick_law c n hc hn
theorem pick_r27 (c n : Int) (hc : okI c) (hn : 0 < n) : ref27_pick_F c n = some (pickZ c n) := pick_law c n hc hn
theorem okL_get {α : Type} [Inhabited α] {ok : α → Prop} {l : List α} (h : okL ok l) {k : Nat} (hk : k < l.length) : ok (l.getD k default) := h.1 _ (getD_mem hk)
structure NV (n : TNet) : Prop where
  nn : 2 ≤ n.N ∧ n.N ≤ 6
  el : n.Edges.length ≤ 14
  eg : ∀ e ∈ n.Edges, (0 ≤ e.From ∧ e.From < n.N) ∧ (0 ≤ e.To ∧ e.To < n.N) ∧ e.From ≠ e.To ∧ 0 ≤ e.Capacity ∧ e.Capacity ≤ 19
theorem turn_ne {a b n : Int} (ha : 0 ≤ a ∧ a < n) (hb : 0 ≤ b ∧ b < n - 1) : let t := Int.tmod (a + 1 + b) n; (0 ≤ t ∧ t < n) ∧ a ≠ t := by
  have hn : 0 < n := by omega
  simp only
  rw [Int.tmod_eq_emod_of_nonneg (by omega)]
  by_cases q : a + 1 + b < n
  · rw [Int.emod_eq_of_lt (by omega) q]; omega
  · have : (a + 1 + b) % n = a + 1 + b - n := by
      rw [← Int.sub_emod_right, Int.emod_eq_of_lt (by omega) (by omega)]
    rw [this]; omega
theorem made27_ok {a0 : Int} (h0 : 0 ≤ a0 ∧ a0 ≤ 4) {es : List (Int × Int × Int)} (he : ∀ e ∈ es, okA119 e) (hl : es.length ≤ 14) : ∃ n, ref27_Made_F a0 es = some n ∧ NV n := by
  unfold ref27_Made_F
  have hp : pickZ a0 6 = a0 := by unfold pickZ; rw [if_neg (by omega)]; exact Int.emod_eq_of_lt (by omega) (by omega)
  rw [pick_r27 a0 6 ⟨by omega, by omega⟩ (by omega), bd_s, hp, wr_id (by omega) (by omega)]
  obtain ⟨s, e, h1, h2, h3, h4⟩ := lp_fold (body := ref27_Made_b1 es) (fun k s => s.1 = (k : Int) ∧ s.2.N = 2 + a0 ∧ s.2.Edges.length = k ∧ ∀ e ∈ s.2.Edges, (0 ≤ e.From ∧ e.From < 2 + a0) ∧ (0 ≤ e.To ∧ e.To < 2 + a0) ∧ e.From ≠ e.To ∧ 0 ≤ e.Capacity ∧ e.Capacity ≤ 19) es.length (by omega) (fun k s hk ⟨h1, h2, h3, h4⟩ => by
    obtain ⟨i, N, E⟩ := s
    simp only at h1 h2 h3 h4
    subst h1 h2
    obtain ⟨o1, o2, o3⟩ := he _ (getD_mem hk)
    obtain ⟨p1, p2⟩ := pickZ_lt (es.getD k default).1 (n := 2 + a0) (by omega)
    obtain ⟨q1, q2⟩ := pickZ_lt (es.getD k default).2.1 (n := 2 + a0 - 1) (by omega)
    obtain ⟨r1, r2⟩ := pickZ_lt (es.getD k default).2.2 (n := 20) (by omega)
    unfold ref27_Made_b1
    simp only [jn_d, cn_dec]
    rw [if_pos (by omega), if_pos (by omega)]
    simp only [ix_n hk]
    rw [pick_r27 _ _ o1 (by omega), bd_s, wr_id (by omega) (by omega), pick_r27 _ _ o2 (by omega), bd_s, gd_p _ (by omega), pick_r27 _ _ o3 (by omega), bd_s, lt_d, ap_p (by simp; omega), wr_id (by omega) (by omega)]
    generalize pickZ (es.getD k default).1 (2 + a0) = u at *
    generalize pickZ (es.getD k default).2.1 (2 + a0 - 1) = v at *
    generalize pickZ (es.getD k default).2.2 20 = w at *
    obtain ⟨t1, t2⟩ := turn_ne (a := u) (b := v) (n := 2 + a0) ⟨p1, p2⟩ ⟨q1, q2⟩
    rw [wr_id (x := u + 1) (by omega) (by omega), wr_id (x := u + 1 + v) (by omega) (by omega)]
    refine ⟨_, rfl, rfl, rfl, by simp [h3], fun e he => ?_⟩
    simp only at he
    rcases List.mem_append.1 he with he | he
    · exact h4 e he
    · rw [List.mem_singleton.1 he]
      exact ⟨⟨p1, p2⟩, t1, t2, r1, by simp only; omega⟩) (fun s ⟨h1, _⟩ => by
    unfold ref27_Made_b1
    simp only [jn_d, cn_dec]
    rw [if_neg (by omega), cn_f]) (0, ⟨2 + a0, []⟩) ⟨rfl, rfl, rfl, by simp⟩
  rw [e, bd_s, smK_l]
  exact ⟨_, rfl, by omega, by omega, by rw [h2]; exact h4⟩
structure MV (r : TReserve) : Prop extends RV r where
  n2 : 2 ≤ r.Net.N ∧ r.Net.N ≤ 6
  e14 : r.Net.Edges.length ≤ 14
  c20 : ∀ e ∈ r.Net.Edges, e.Capacity ≤ 19
  u5 : ∀ u ∈ r.Urgent, u ≤ 5
  c40 : ∀ u ∈ r.Centres, u ≤ 39
  k5 : r.Calls.length ≤ 5
  a6 : ∀ o ∈ r.Calls, o.Amount ≤ 6
structure PW (n : TNet) (k : Nat) (at_ : Int) (l : List Int) : Prop where
  len : l.length ≤ k
  pos : 0 < k → 0 < l.length
  rg : ∀ e ∈ l, 0 ≤ e ∧ e < (n.Edges.length : Int)
  nd : l.Nodup
  go : ∀ i, i + 1 < l.length → (n.Edges.getD (l.getD i default).toNat default).To = (n.Edges.getD (l.getD (i + 1) default).toNat default).From
  at_ : 0 < l.length → (n.Edges.getD (l.getD (l.length - 1) default).toNat default).To = at_
theorem made_b4 {s : Int × Int × TOrdinary} (hl : s.2.2.Edges.length ≤ 3) (y : Int) : ∃ x, lp (ref33_Made_b4 s y) FU (false, 0) = some (.inl (decide (y ∈ s.2.2.Edges), x)) := by
  obtain ⟨s', e, h1, h2⟩ := lp_fold (body := ref33_Made_b4 s y) (fun k x => x.2 = (k : Int) ∧ x.1 = decide (y ∈ s.2.2.Edges.take k)) s.2.2.Edges.length (by omega) (fun k x hk ⟨h1, h2⟩ => by
    obtain ⟨b, i⟩ := x
    simp only at h1 h2
    subst h1 h2
    unfold ref33_Made_b4
    simp only [jn_d, cn_dec]
    rw [if_pos (by omega), wr_id (by omega) (by omega), List.take_succ_eq_append_getElem hk, ← getD_lt hk, ix_n hk]
    by_cases q : y ∈ s.2.2.Edges.take k
    · rw [if_pos q]
      exact ⟨_, rfl, rfl, by simp [q]⟩
    · rw [if_neg q]
      refine ⟨_, rfl, rfl, ?_⟩
      simp only [List.mem_append, q, false_or, List.mem_singleton]
      rw [Bool.eq_iff_iff, beq_iff_eq, decide_eq_true_iff]
      exact eq_comm) (fun x ⟨h1, _⟩ => by
    unfold ref33_Made_b4
    simp only [cn_dec]
    rw [if_neg (by omega)]) (false, 0) ⟨rfl, by simp⟩
  rw [List.take_length] at h2
  exact ⟨s'.2, by rw [e, ← h2]⟩
theorem made_b3 {r : TReserve} {i : Int} (hr : NV r.Net) (hne : 0 < r.Net.Edges.length) {e4 : Int × Int × Int × Int} (ho : okA83 e4) {a : Int} : ∃ x y l, lp (ref33_Made_b3 e4 (i, r)) FU (-1, 0, (⟨[], a⟩ : TOrdinary)) = some (.inl (x, y, (⟨l, a⟩ : TOrdinary))) ∧ WV r.Net l := by
  have hel := hr.el
  obtain ⟨s', e, h1, h2, h3⟩ := lp_fold (body := ref33_Made_b3 e4 (i, r)) (fun k x => x.2.1 = (k : Int) ∧ x.2.2.Amount = a ∧ PW r.Net k x.1 x.2.2.Edges) 3 (by omega) (fun k x hk ⟨h1, h2, h3⟩ => by
    obtain ⟨t, j, l, am⟩ := x
    simp only at h1 h2 h3
    subst h1 h2
    have hpk : okI (([e4.1, e4.2.1, e4.2.2.1, e4.2.2.2] : List Int).getD k default) := by
      obtain ⟨o1, o2, o3, o4⟩ := ho
      match k, hk with
      | 0, _ => exact o1
      | 1, _ => exact o2
      | 2, _ => exact o3
    unfold ref33_Made_b3
    simp only [jn_d, cn_dec, Int.toNat_natCast]
    rw [if_pos (by omega), gd_p _ (by omega), pick_r33 _ _ hpk (by omega), bd_s, wr_id (by omega) (by omega)]
    obtain ⟨p1, p2⟩ := pickZ_lt (([e4.1, e4.2.1, e4.2.2.1, e4.2.2.2] : List Int).getD k default) (n := (r.Net.Edges.length : Int)) (by omega)
    generalize pickZ (([e4.1, e4.2.1, e4.2.2.1, e4.2.2.2] : List Int).getD k default) (r.Net.Edges.length : Int) = z at p1 p2
    have hlen := h3.len
    have stay : 0 < k → PW r.Net (k + 1) t l := fun hk0 => ⟨by omega, fun _ => h3.pos hk0, h3.rg, h3.nd, h3.go, h3.at_⟩
    have go : (0 < k → (r.Net.Edges.getD z.toNat default).From = t) → ∃ s', (bd (lp (ref33_Made_b4 (t, (k : Int), (⟨l, am⟩ : TOrdinary)) z) FU (false, 0)) fun c37 => smK c37 (fun s38 => cn (!s38.1) (lt ([z] : List Int) fun l42 => ap l l42 fun l43 => ix r.Net.Edges default z fun e44 => some (.nx (e44.To, ((k : Int) + 1), (⟨l43, am⟩ : TOrdinary)))) (some (.nx (t, ((k : Int) + 1), (⟨l, am⟩ : TOrdinary))))) (fun r39 => some (.rt r39)) : Option (Ct (Int × Int × TOrdinary) TReserve)) = some (.nx s') ∧ s'.2.1 = ((k + 1 : Nat) : Int) ∧ s'.2.2.Amount = am ∧ PW r.Net (k + 1) s'.1 s'.2.2.Edges := fun hgo => by
      obtain ⟨x, e⟩ := made_b4 (s := (t, (k : Int), (⟨l, am⟩ : TOrdinary))) (by simp only; omega) z
      rw [e, bd_s, smK_l, cn_not]
      simp only [cn_dec]
      by_cases q : z ∈ l
      · rw [if_pos q]
        have hk0 : 0 < k := by
          have := List.length_pos_of_mem q
          omega
        exact ⟨_, rfl, rfl, rfl, stay hk0⟩
      · rw [if_neg q, lt_d, ap_p (by simp; omega), ix_p p1 p2]
        refine ⟨_, rfl, rfl, rfl, ?_⟩
        simp only
        refine ⟨by simp; omega, fun _ => by simp, fun e he => ?_, ?_, fun i hi => ?_, fun _ => ?_⟩
        · rcases List.mem_append.1 he with he | he
          · exact h3.rg e he
          · rw [List.mem_singleton.1 he]; exact ⟨p1, p2⟩
        · rw [List.nodup_append]
          refine ⟨h3.nd, by simp, fun a ha b hb => ?_⟩
          rw [List.mem_singleton.1 hb]
          exact fun e => q (e ▸ ha)
        · rw [List.length_append, List.length_singleton] at hi
          by_cases q2 : i + 1 < l.length
          · rw [getD_appL (by omega), getD_appL q2]
            exact h3.go i q2
          · have : i + 1 = l.length := by omega
            rw [getD_appL (by omega), getD_appR (by omega), this, Nat.sub_self]
            have h4 := h3.at_ (by omega)
            rw [show l.length - 1 = i by omega] at h4
            rw [h4]
            exact (hgo (by omega)).symm
        · rw [List.length_append, List.length_singleton, getD_appR (by omega), Nat.add_sub_cancel, Nat.sub_self]
          rfl
    by_cases q : (k : Int) > 0
    · rw [if_pos q, ix_p p1 p2, cn_bne]
      by_cases q2 : (r.Net.Edges.getD z.toNat default).From = t
      · rw [if_pos q2]
        exact go fun _ => q2
      · rw [if_neg q2]
        exact ⟨_, rfl, rfl, rfl, stay (by omega)⟩
    · rw [if_neg q, cn_f]
      exact go fun hk0 => by omega) (fun x ⟨h1, _⟩ => by
    unfold ref33_Made_b3
    simp only [cn_dec]
    rw [if_neg (by omega)]) (-1, 0, ⟨[], a⟩) ⟨rfl, rfl, by simp, fun h => by omega, by simp, by simp, fun i h => by simp at h, fun h => by simp at h⟩
  obtain ⟨x, y, l, am⟩ := s'
  simp only at h1 h2 h3
  subst h2
  exact ⟨x, y, l, e, ⟨h3.pos (by omega), by have := h3.len; omega⟩, h3.rg, h3.nd, h3.go⟩
theorem made_ok (a0 : TNumbers) (o : okTNumbers a0) : ∃ r, ref33_Made_F a0 = some r ∧ MV r := by
  obtain ⟨o1, o2, o3, o4, o5, o6⟩ := o
  unfold ref33_Made_F
  obtain ⟨p1, p2⟩ := pickZ_lt a0.Nodes (n := 5) (by omega)
  obtain ⟨f1, f2⟩ := pickZ_lt a0.Faults (n := 3) (by omega)
  rw [pick_r33 _ _ o1 (by omega), bd_s, slc_p (by omega) (by simp only [imin]; split <;> omega) (by simp only [imin]; split <;> omega)]
  obtain ⟨n, e1, hn⟩ := made27_ok (a0 := pickZ a0.Nodes 5) ⟨p1, by omega⟩ (es := sub a0.Edges 0 (imin (a0.Edges.length : Int) 14)) (fun e he => o2.1 e (List.mem_of_mem_take (by simpa [sub] using he))) (by simp only [sub, imin]; split <;> simp <;> omega)
  have hnn := hn.nn
  have hne := hn.el
  rw [e1, bd_s, pick_r33 _ _ o5 (by omega), bd_s]
  generalize pickZ a0.Faults 3 = F at *
  obtain ⟨s, e2, h1, h2, h3, h4, h5, h6, h7', h8, h9⟩ := lp_fold (body := ref33_Made_b1 a0) (fun k s => s.1 = (k : Int) ∧ s.2.Net = n ∧ s.2.Faults = F ∧ s.2.Calls = [] ∧ s.2.Urgent.length = k ∧ s.2.Centres.length = k ∧ (∀ u ∈ s.2.Urgent, 0 ≤ u ∧ u ≤ 5) ∧ (∀ u ∈ s.2.Centres, 0 ≤ u ∧ u ≤ 39) ∧ True) n.N.toNat (by omega) (fun k s hk ⟨h1, h2, h3, h4, h5, h6, h7, h8, _⟩ => by
    obtain ⟨i, N, U, C, F', K⟩ := s
    simp only at h1 h2 h3 h4 h5 h6 h7 h8
    subst h1 h2 h3 h4
    unfold ref33_Made_b1
    simp only [jn_d, cn_dec]
    rw [if_pos (by omega)]
    have fin : ∀ u c : Int, (0 ≤ u ∧ u ≤ 5) → (0 ≤ c ∧ c ≤ 39) → ∃ s', (lt ([u] : List Int) fun l14 => ap U l14 fun l15 => lt ([c] : List Int) fun l16 => ap C l16 fun l17 => some (.nx ((wr ((k : Int) + 1)), (⟨N, l15, l17, F', []⟩ : TReserve))) : Option (Ct (Int × TReserve) TReserve)) = some (.nx s') ∧ s'.1 = ((k + 1 : Nat) : Int) ∧ s'.2.Net = N ∧ s'.2.Faults = F' ∧ s'.2.Calls = [] ∧ s'.2.Urgent.length = k + 1 ∧ s'.2.Centres.length = k + 1 ∧ (∀ u ∈ s'.2.Urgent, 0 ≤ u ∧ u ≤ 5) ∧ (∀ u ∈ s'.2.Centres, 0 ≤ u ∧ u ≤ 39) ∧ True := fun u c hu hc => by
      rw [lt_d, ap_p (by simp; omega), lt_d, ap_p (by simp; omega), wr_id (by omega) (by omega)]
      refine ⟨_, rfl, rfl, rfl, rfl, rfl, by simp [h5], by simp [h6], fun x hx => ?_, fun x hx => ?_, trivial⟩
      · rcases List.mem_append.1 hx with hx | hx
        · exact h7 x hx
        · rw [List.mem_singleton.1 hx]; exact hu
      · rcases List.mem_append.1 hx with hx | hx
        · exact h8 x hx
        · rw [List.mem_singleton.1 hx]; exact hc
    have ru : ∀ f : Int → Option (Ct (Int × TReserve) TReserve), (∀ u, 0 ≤ u ∧ u ≤ 5 → ∃ s', f u = some (.nx s') ∧ s'.1 = ((k + 1 : Nat) : Int) ∧ s'.2.Net = N ∧ s'.2.Faults = F' ∧ s'.2.Calls = [] ∧ s'.2.Urgent.length = k + 1 ∧ s'.2.Centres.length = k + 1 ∧ (∀ u ∈ s'.2.Urgent, 0 ≤ u ∧ u ≤ 5) ∧ (∀ u ∈ s'.2.Centres, 0 ≤ u ∧ u ≤ 39) ∧ True) → ∃ s', (if (k : Int) < (a0.Urgent.length : Int) then ix a0.Urgent default (k : Int) fun e8 => bd (ref33_pick_F e8 6) fun y9 => f y9 else f 0) = some (.nx s') ∧ s'.1 = ((k + 1 : Nat) : Int) ∧ s'.2.Net = N ∧ s'.2.Faults = F' ∧ s'.2.Calls = [] ∧ s'.2.Urgent.length = k + 1 ∧ s'.2.Centres.length = k + 1 ∧ (∀ u ∈ s'.2.Urgent, 0 ≤ u ∧ u ≤ 5) ∧ (∀ u ∈ s'.2.Centres, 0 ≤ u ∧ u ≤ 39) ∧ True := fun f hf => by
      by_cases q : k < a0.Urgent.length
      · obtain ⟨z1, z2⟩ := pickZ_lt (a0.Urgent.getD k default) (n := 6) (by omega)
        rw [if_pos (by omega), ix_n q, pick_r33 _ _ (okL_get o3 q) (by omega), bd_s]
        exact hf _ ⟨z1, by omega⟩
      · rw [if_neg (by omega)]
        exact hf _ (by omega)
    refine ru _ fun u hu => ?_
    by_cases q : k < a0.Centres.length
    · obtain ⟨z1, z2⟩ := pickZ_lt (a0.Centres.getD k default) (n := 40) (by omega)
      rw [if_pos (by omega), ix_n q, pick_r33 _ _ (okL_get o4 q) (by omega), bd_s]
      exact fin _ _ hu ⟨z1, by omega⟩
    · rw [if_neg (by omega)]
      exact fin _ _ hu (by omega)) (fun s ⟨h1, h2, _⟩ => by
    unfold ref33_Made_b1
    simp only [cn_dec]
    rw [h2, if_neg (by omega)]) (0, ⟨n, [], [], F, []⟩) ⟨rfl, rfl, rfl, rfl, rfl, rfl, by simp, by simp, trivial⟩
  rw [e2, bd_s, smK_l]
  obtain ⟨i, N, U, C, F', K⟩ := s
  simp only at h1 h2 h3 h4 h5 h6 h7' h8
  subst h2 h3 h4
  obtain ⟨s, e3, h1, ⟨h2, h3, h4, h5, h6, h7⟩, _⟩ := lp_fold (body := ref33_Made_b2 a0) (fun k s => s.1 = (k : Int) ∧ (s.2.Net = N ∧ s.2.Faults = F' ∧ s.2.Urgent = U ∧ s.2.Centres = C ∧ s.2.Calls.length = k ∧ ∀ o ∈ s.2.Calls, (1 ≤ o.Amount ∧ o.Amount ≤ 6) ∧ WV N o.Edges) ∧ True) (if 0 < N.Edges.length then min a0.Calls.length 5 else 0) (by split <;> omega) (fun k s hk ⟨g1, ⟨g2, g3, g4, g5, g6, g7⟩, _⟩ => by
    obtain ⟨i, N', U', C', F, K⟩ := s
    simp only at g1 g2 g3 g4 g5 g6 g7
    subst g1 g2 g3 g4 g5
    have hne0 : 0 < N'.Edges.length := by
      by_cases q : 0 < N'.Edges.length
      · exact q
      · rw [if_neg q] at hk; omega
    rw [if_pos hne0] at hk
    have hk1 : k < a0.Calls.length := by omega
    have oc := okL_get o6 hk1
    obtain ⟨z1, z2⟩ := pickZ_lt (a0.Calls.getD k default).2.2.2 (n := 6) (by omega)
    unfold ref33_Made_b2
    simp only [jn_d, cn_dec]
    rw [if_pos (by omega), if_pos (by omega), if_pos (by omega), ix_n hk1, pick_r33 _ _ oc.2.2.2 (by omega), bd_s, wr_id (x := 1 + pickZ (a0.Calls.getD k default).2.2.2 6) (by omega) (by omega)]
    obtain ⟨x, y, l, e, hw⟩ := made_b3 (r := ⟨N', U', C', F, K⟩) (i := (k : Int)) hn hne0 oc (a := 1 + pickZ (a0.Calls.getD k default).2.2.2 6)
    rw [e, bd_s, smK_l, lt_d, ap_p (by simp; omega), wr_id (by omega) (by omega)]
    refine ⟨_, rfl, rfl, ⟨rfl, rfl, rfl, rfl, by simp [g6], fun o ho => ?_⟩, trivial⟩
    rcases List.mem_append.1 ho with ho | ho
    · exact g7 o ho
    · rw [List.mem_singleton.1 ho]
      exact ⟨by simp only; omega, hw⟩) (fun s ⟨h1, ⟨h2, _⟩, _⟩ => by
    unfold ref33_Made_b2
    simp only [jn_d, cn_dec]
    rw [h2]
    by_cases q1 : s.1 < (a0.Calls.length : Int)
    · rw [if_pos q1]
      by_cases q2 : s.1 < 5
      · rw [if_pos q2]
        have : ¬ 0 < N.Edges.length := fun q => by rw [if_pos q] at h1; omega
        rw [if_neg (by omega)]
      · rw [if_neg q2, cn_f]
    · rw [if_neg q1, cn_f]) (0, ⟨N, U, C, F', []⟩) ⟨rfl, ⟨rfl, rfl, rfl, rfl, rfl, by simp⟩, trivial⟩
  rw [e3, bd_s, smK_l]
  refine ⟨_, rfl, ?_⟩
  have hk5 : s.2.Calls.length ≤ 5 := by rw [h6]; split <;> omega
  refine { n := by rw [h2]; omega, el := by rw [h2]; omega, eg := fun e he => ?_, ul := by rw [h2, h4]; omega, uv := fun u hu => ?_, cl := by rw [h2, h5]; omega, cv := fun u hu => ?_, ft := by rw [h3]; omega, kl := by omega, kv := fun o ho => ?_, n2 := by rw [h2]; exact hnn, e14 := by rw [h2]; exact hne, c20 := fun e he => ?_, u5 := fun u hu => ?_, c40 := fun u hu => ?_, k5 := hk5, a6 := fun o ho => (h7 o ho).1.2 }
  · rw [h2] at he ⊢; have := hn.eg e he; omega
  · rw [h4] at hu; have := h7' u hu; omega
  · rw [h5] at hu; have := h8 u hu; omega
  · rw [h2]; have := h7 o ho; exact ⟨by omega, this.2⟩
  · rw [h2] at he; exact (hn.eg e he).2.2.2.2
  · rw [h4] at hu; exact (h7' u hu).2
  · rw [h5] at hu; exact (h8 u hu).2
end Go.Proofs.Ytkjccabdpeldhaa
namespace Go.Proofs.Ytkjccabdpeldhaa
open Go Go.Eng
set_option maxRecDepth 100000
end Go.Proofs.Ytkjccabdpeldhaa
namespace Go.Proofs.Ytkjccabdpeldhaa
open Go Go.Eng
set_option maxRecDepth 100000
theorem getD_set {α : Type} [Inhabited α] {l : List α} {i j : Nat} {x : α} (hj : j < l.length) : (l.set i x).getD j default = if i = j then x else l.getD j default := by
  rw [getD_lt (by rw [List.length_set]; exact hj), List.getElem_set, getD_lt hj]
section
variable {r : TReserve} (h : RV r)
include h
end
end Go.Proofs.Ytkjccabdpeldhaa
namespace Go.Proofs.Ytkjccabdpeldhaa
open Go Go.Eng
set_option maxRecDepth 100000
theorem set_of {r : TReserve} (h : RV r) {a1 : Int} (o : okI a1) : ∃ s : Nat, s < 2 ^ r.Calls.length ∧ law33_pick_F a1 (bshl .i64 1 (r.Calls.length : Int)) = some (s : Int) := by
  have hk := h.kl
  have hp : (2 : Int) ^ r.Calls.length = ((2 ^ r.Calls.length : Nat) : Int) := by norm_cast
  have hp1 := Nat.two_pow_pos r.Calls.length
  rw [bshl_one (by omega), hp]
  generalize 2 ^ r.Calls.length = z at hp1
  obtain ⟨p1, p2⟩ := pickZ_lt a1 (n := (z : Int)) (by omega)
  exact ⟨(pickZ a1 (z : Int)).toNat, by omega, by rw [pick_law a1 _ o (by omega), Int.toNat_of_nonneg p1]⟩
end Go.Proofs.Ytkjccabdpeldhaa
namespace Go.Proofs.Ytkjccabdpeldhaa
open Go Go.Eng
set_option maxRecDepth 100000
theorem and_lane {a b m n : Nat} (ha : a < 256) (hm : m < 256) : (256 * b + a) &&& (256 * n + m) = 256 * (b &&& n) + (a &&& m) := by
  have hlt : a &&& m < 2 ^ 8 := Nat.lt_of_le_of_lt Nat.and_le_left ha
  refine Nat.eq_of_testBit_eq fun i => ?_
  rw [Nat.testBit_and, show (256 : Nat) = 2 ^ 8 from rfl, Nat.testBit_two_pow_mul_add b (show a < 2 ^ 8 from ha), Nat.testBit_two_pow_mul_add n (show m < 2 ^ 8 from hm), Nat.testBit_two_pow_mul_add _ hlt]
  split
  · rw [Nat.testBit_and]
  · rw [Nat.testBit_and]
def t1 (a : Nat) : Nat := ((a / 2) &&& 85) + (a &&& 85)
def t2 (a : Nat) : Nat := ((t1 a / 4) &&& 51) + (t1 a &&& 51)
def t3 (a : Nat) : Nat := (t2 a / 16 + t2 a) &&& 15
def cnt8 (a : Nat) : Nat := (List.range 8).countP a.testBit
theorem lane_facts : ∀ a : Fin 256, t1 a.val ≤ 170 ∧ t2 a.val ≤ 68 ∧ t2 a.val % 16 ≤ 4 ∧ t3 a.val = cnt8 a.val := by decide +kernel
theorem lane1 : ∀ (a : Fin 256) (e : Fin 2), ((a.val / 2 + 128 * e.val) &&& 85) = ((a.val / 2) &&& 85) := by decide +kernel
theorem lane2 : ∀ (a : Fin 256) (e : Fin 4), ((a.val / 4 + 64 * e.val) &&& 51) = ((a.val / 4) &&& 51) := by decide +kernel
theorem lane3 : ∀ (a : Fin 69) (e : Fin 5), ((a.val / 16 + 16 * e.val + a.val) &&& 15) = ((a.val / 16 + a.val) &&& 15) := by decide +kernel
theorem st1 {a b n : Nat} (ha : a < 256) : (((256 * b + a) / 2) &&& (256 * n + 85)) + ((256 * b + a) &&& (256 * n + 85)) = 256 * (((b / 2) &&& n) + (b &&& n)) + t1 a := by
  have e : (256 * b + a) / 2 = 256 * (b / 2) + (a / 2 + 128 * (b % 2)) := by omega
  have := lane1 ⟨a, ha⟩ ⟨b % 2, by omega⟩
  simp only at this
  rw [e, and_lane (by omega) (by omega), and_lane ha (by omega), this]
  unfold t1; omega
theorem st2 {a b n : Nat} (ha : a < 256) : (((256 * b + t1 a) / 4) &&& (256 * n + 51)) + ((256 * b + t1 a) &&& (256 * n + 51)) = 256 * (((b / 4) &&& n) + (b &&& n)) + t2 a := by
  have h1 := (lane_facts ⟨a, ha⟩).1
  simp only at h1
  have e : (256 * b + t1 a) / 4 = 256 * (b / 4) + (t1 a / 4 + 64 * (b % 4)) := by omega
  have := lane2 ⟨t1 a, by omega⟩ ⟨b % 4, by omega⟩
  simp only at this
  rw [e, and_lane (by omega) (by omega), and_lane (by omega) (by omega), this]
  unfold t2; omega
theorem st3 {a b n : Nat} (ha : a < 256) (hb : b % 16 ≤ 4) : ((256 * b + t2 a) / 16 + (256 * b + t2 a)) &&& (256 * n + 15) = 256 * ((b / 16 + b) &&& n) + t3 a := by
  have h1 := (lane_facts ⟨a, ha⟩).2.1
  simp only at h1
  have e : (256 * b + t2 a) / 16 + (256 * b + t2 a) = 256 * (b / 16 + b) + (t2 a / 16 + 16 * (b % 16) + t2 a) := by omega
  have := lane3 ⟨t2 a, by omega⟩ ⟨b % 16, by omega⟩
  simp only at this
  rw [e, and_lane (by omega) (by omega), this]
  unfold t3; omega
theorem t_small {d : Nat} (hd : d < 256) : t1 d ≤ 170 ∧ t2 d ≤ 68 ∧ t2 d % 16 ≤ 4 ∧ t3 d = cnt8 d := lane_facts ⟨d, hd⟩
theorem cnt8_le (a : Nat) : cnt8 a ≤ 8 := by
  unfold cnt8
  exact Nat.le_trans List.countP_le_length (by simp)
theorem u64_band {a b : Nat} (ha : a < 2 ^ 64) (hb : b < 2 ^ 64) : band .u64 (a : Int) (b : Int) = ((a &&& b : Nat) : Int) := by
  show IntKind.u64.wrap _ = _
  have e1 : (BitVec.ofInt IntKind.u64.bits (a : Int)).toNat = a := by
    show (BitVec.ofInt 64 (a : Int)).toNat = a
    rw [BitVec.toNat_ofInt]; omega
  have e2 : (BitVec.ofInt IntKind.u64.bits (b : Int)).toNat = b := by
    show (BitVec.ofInt 64 (b : Int)).toNat = b
    rw [BitVec.toNat_ofInt]; omega
  rw [BitVec.toNat_and, e1, e2]
  have : a &&& b ≤ a := Nat.and_le_left
  show ((a &&& b : Nat) : Int) % 18446744073709551616 = _
  omega
theorem u64_wrap {a : Nat} (ha : a < 2 ^ 64) : IntKind.u64.wrap (a : Int) = (a : Int) := by
  show (a : Int) % 18446744073709551616 = _
  omega
theorem u64_shr {a k : Nat} (hk : k ≤ 60) : bshr .u64 (a : Int) (k : Int) = ((a / 2 ^ k : Nat) : Int) := by
  show (a : Int).fdiv (2 ^ (min (k : Int).toNat 64)) = _
  rw [Int.toNat_natCast, Nat.min_eq_left (by omega), Int.fdiv_eq_ediv_of_nonneg _ (Int.le_of_lt (two_pow_pos k))]
  norm_cast
theorem z1 {d n : Nat} (hd : d < 256) : ((d / 2) &&& (256 * n + 85)) + (d &&& (256 * n + 85)) = t1 d := by
  have := st1 (a := d) (b := 0) (n := n) hd
  simpa using this
theorem z2 {d n : Nat} (hd : d < 256) : ((t1 d / 4) &&& (256 * n + 51)) + (t1 d &&& (256 * n + 51)) = t2 d := by
  have := st2 (a := d) (b := 0) (n := n) hd
  simpa using this
theorem z3 {d n : Nat} (hd : d < 256) : (t2 d / 16 + t2 d) &&& (256 * n + 15) = t3 d := by
  have := st3 (a := d) (b := 0) (n := n) hd (by omega)
  simpa using this
theorem q1 {a b c d : Nat} (ha : a < 256) (hb : b < 256) (hc : c < 256) (hd : d < 256) : ((256 * (256 * (256 * d + c) + b) + a) / 2 &&& 6148914691236517205) + ((256 * (256 * (256 * d + c) + b) + a) &&& 6148914691236517205) = 256 * (256 * (256 * t1 d + t1 c) + t1 b) + t1 a := by
  rw [show 6148914691236517205 = 256 * (256 * (256 * (256 * 1431655765 + 85) + 85) + 85) + 85 from rfl, st1 ha, st1 hb, st1 hc, z1 hd]
theorem q2 {a b c d : Nat} (ha : a < 256) (hb : b < 256) (hc : c < 256) (hd : d < 256) : ((256 * (256 * (256 * t1 d + t1 c) + t1 b) + t1 a) / 4 &&& 3689348814741910323) + ((256 * (256 * (256 * t1 d + t1 c) + t1 b) + t1 a) &&& 3689348814741910323) = 256 * (256 * (256 * t2 d + t2 c) + t2 b) + t2 a := by
  rw [show 3689348814741910323 = 256 * (256 * (256 * (256 * 858993459 + 51) + 51) + 51) + 51 from rfl, st2 ha, st2 hb, st2 hc, z2 hd]
theorem q3 {a b c d : Nat} (ha : a < 256) (hb : b < 256) (hc : c < 256) (hd : d < 256) : ((256 * (256 * (256 * t2 d + t2 c) + t2 b) + t2 a) / 16 + (256 * (256 * (256 * t2 d + t2 c) + t2 b) + t2 a)) &&& 1085102592571150095 = 256 * (256 * (256 * t3 d + t3 c) + t3 b) + t3 a := by
  have b3 := (t_small hb).2.2.1
  have c3 := (t_small hc).2.2.1
  have d3 := (t_small hd).2.2.1
  rw [show 1085102592571150095 = 256 * (256 * (256 * (256 * 252645135 + 15) + 15) + 15) + 15 from rfl, st3 ha (by omega), st3 hb (by omega), st3 hc (by omega), z3 hd]
theorem i64_band127 {a : Nat} (ha : a < 4611686018427387904) : band .i64 (wr (a : Int)) 127 = ((a % 128 : Nat) : Int) := by
  rw [wr_id (by omega) (by omega), band_nat (by omega) (by omega) (by omega) (by omega), Int.toNat_natCast]
  have : a &&& 127 = a % 2 ^ 7 := Nat.and_two_pow_sub_one_eq_mod a 7
  rw [show Int.toNat 127 = 127 from rfl, this]
theorem ones_ok {a b c d : Nat} (ha : a < 256) (hb : b < 256) (hc : c < 256) (hd : d < 256) : math_bits_OnesCount_F ((256 * (256 * (256 * d + c) + b) + a : Nat) : Int) = some ((cnt8 a + cnt8 b + cnt8 c + cnt8 d : Nat) : Int) := by
  obtain ⟨a1, a2, a3, a4⟩ := t_small ha
  obtain ⟨b1, b2, b3, b4⟩ := t_small hb
  obtain ⟨c1, c2, c3, c4⟩ := t_small hc
  obtain ⟨d1, d2, d3, d4⟩ := t_small hd
  have ca := cnt8_le a; have cb := cnt8_le b; have cc := cnt8_le c; have cd := cnt8_le d
  have r1 := q1 ha hb hc hd
  have r2 := q2 ha hb hc hd
  have r3 := q3 ha hb hc hd
  unfold math_bits_OnesCount_F math_bits_OnesCount64_F
  generalize hx : 256 * (256 * (256 * d + c) + b) + a = x at r1
  have hx1 : x < 2 ^ 32 := by omega
  have s1 : bshr .u64 (x : Int) 1 = ((x / 2 : Nat) : Int) := u64_shr (k := 1) (by omega)
  have e1 : band .u64 ((x / 2 : Nat) : Int) 6148914691236517205 = ((x / 2 &&& 6148914691236517205 : Nat) : Int) := u64_band (b := 6148914691236517205) (by omega) (by omega)
  have e2 : band .u64 (x : Int) 6148914691236517205 = ((x &&& 6148914691236517205 : Nat) : Int) := u64_band (b := 6148914691236517205) (by omega) (by omega)
  generalize hy : 256 * (256 * (256 * t1 d + t1 c) + t1 b) + t1 a = y at r1 r2
  have hy1 : y < 2 ^ 32 := by omega
  have s2 : bshr .u64 (y : Int) 2 = ((y / 4 : Nat) : Int) := u64_shr (k := 2) (by omega)
  have e3 : band .u64 ((y / 4 : Nat) : Int) 3689348814741910323 = ((y / 4 &&& 3689348814741910323 : Nat) : Int) := u64_band (b := 3689348814741910323) (by omega) (by omega)
  have e4 : band .u64 (y : Int) 3689348814741910323 = ((y &&& 3689348814741910323 : Nat) : Int) := u64_band (b := 3689348814741910323) (by omega) (by omega)
  generalize hz : 256 * (256 * (256 * t2 d + t2 c) + t2 b) + t2 a = z at r2 r3
  have hz1 : z < 2 ^ 32 := by omega
  have s3 : bshr .u64 (z : Int) 4 = ((z / 16 : Nat) : Int) := u64_shr (k := 4) (by omega)
  have e5 : band .u64 ((z / 16 + z : Nat) : Int) 1085102592571150095 = ((z / 16 + z &&& 1085102592571150095 : Nat) : Int) := u64_band (b := 1085102592571150095) (by omega) (by omega)
  rw [a4, b4, c4, d4] at r3
  generalize hv : 256 * (256 * (256 * cnt8 d + cnt8 c) + cnt8 b) + cnt8 a = v at r3
  have hv1 : v < 2 ^ 28 := by omega
  have s4 : bshr .u64 (v : Int) 8 = ((v / 256 : Nat) : Int) := u64_shr (k := 8) (by omega)
  have s5 : bshr .u64 ((v + v / 256 : Nat) : Int) 16 = (((v + v / 256) / 65536 : Nat) : Int) := u64_shr (k := 16) (by omega)
  have s6 : bshr .u64 ((v + v / 256 + (v + v / 256) / 65536 : Nat) : Int) 32 = (((v + v / 256 + (v + v / 256) / 65536) / 4294967296 : Nat) : Int) := u64_shr (k := 32) (by omega)
  simp only [s1, e1, e2]
  rw [← Int.natCast_add, r1, u64_wrap (by omega), s2, e3, e4, ← Int.natCast_add, r2, u64_wrap (by omega), s3, ← Int.natCast_add, u64_wrap (by omega), e5, r3, s4, ← Int.natCast_add, u64_wrap (by omega), s5, ← Int.natCast_add, u64_wrap (by omega), s6, ← Int.natCast_add, u64_wrap (by omega), i64_band127 (by omega), bd_s]
  generalize cnt8 a = A at *
  generalize cnt8 b = B at *
  generalize cnt8 c = C at *
  generalize cnt8 d = D at *
  have k1 : v / 256 = 256 * (256 * D + C) + B := by omega
  have k2 : (v + v / 256) / 65536 = 256 * D + (C + D) := by omega
  have k3 : v + v / 256 + (v + v / 256) / 65536 = 16777216 * D + 65536 * (C + D) + 256 * (B + C + D) + (A + B + C + D) := by omega
  have k4 : (v + v / 256 + (v + v / 256) / 65536) / 4294967296 = 0 := by omega
  congr 2
  rw [k4, k3]
  omega
end Go.Proofs.Ytkjccabdpeldhaa
namespace Go.Proofs.Ytkjccabdpeldhaa
open Go Go.Eng
set_option maxRecDepth 100000
theorem cnt_split {y a k : Nat} (ha : a < 256) : (List.range (8 + k)).countP (256 * y + a).testBit = cnt8 a + (List.range k).countP y.testBit := by
  rw [List.range_add, List.countP_append, List.countP_map]
  unfold cnt8
  congr 1
  · refine List.countP_congr fun i hi => ?_
    have hi := List.mem_range.1 hi
    rw [show (256 : Nat) = 2 ^ 8 from rfl, Nat.testBit_two_pow_mul_add _ (show a < 2 ^ 8 from ha), if_pos hi]
  · refine List.countP_congr fun i hi => ?_
    simp only [Function.comp]
    rw [show (256 : Nat) = 2 ^ 8 from rfl, Nat.testBit_two_pow_mul_add _ (show a < 2 ^ 8 from ha), if_neg (by omega), Nat.add_sub_cancel_left]
def popc (F : Nat) : Nat := (List.range 32).countP F.testBit
theorem pop_ok {F : Nat} (hF : F < 2 ^ 32) : math_bits_OnesCount_F (IntKind.u64.wrap (F : Int)) = some ((popc F : Nat) : Int) := by
  rw [u64_wrap (by omega)]
  have e : F = 256 * (256 * (256 * (F / 16777216) + F / 65536 % 256) + F / 256 % 256) + F % 256 := by omega
  have h := ones_ok (a := F % 256) (b := F / 256 % 256) (c := F / 65536 % 256) (d := F / 16777216) (by omega) (by omega) (by omega) (by omega)
  rw [← e] at h
  rw [h]
  have : popc F = cnt8 (F % 256) + cnt8 (F / 256 % 256) + cnt8 (F / 65536 % 256) + cnt8 (F / 16777216) := by
    unfold popc
    conv => lhs; rw [e]
    rw [show 32 = 8 + 24 from rfl, cnt_split (by omega), show 24 = 8 + 16 from rfl, cnt_split (by omega), show 16 = 8 + 8 from rfl, cnt_split (by omega)]
    unfold cnt8
    omega
  rw [this]
def wo (n : TNet) (F : Nat) : TNet := ⟨n.N, (List.range n.Edges.length).map fun i => if F.testBit i then ⟨(n.Edges.getD i default).From, (n.Edges.getD i default).To, 0⟩ else n.Edges.getD i default⟩
def woK (n : TNet) (F k : Nat) : List TEdge := (List.range n.Edges.length).map fun i => if i < k ∧ F.testBit i = true then ⟨(n.Edges.getD i default).From, (n.Edges.getD i default).To, 0⟩ else n.Edges.getD i default
theorem woK_len (n : TNet) (F k : Nat) : (woK n F k).length = n.Edges.length := by simp [woK]
theorem woK_get {n : TNet} {F k i : Nat} (h : i < n.Edges.length) : (woK n F k).getD i default = if i < k ∧ F.testBit i = true then ⟨(n.Edges.getD i default).From, (n.Edges.getD i default).To, 0⟩ else n.Edges.getD i default := by
  rw [getD_lt (by rw [woK_len]; exact h)]
  simp [woK]
theorem wo_len (n : TNet) (F : Nat) : (wo n F).Edges.length = n.Edges.length := by simp [wo]
theorem wo_get {n : TNet} {F i : Nat} (h : i < n.Edges.length) : (wo n F).Edges.getD i default = if F.testBit i then ⟨(n.Edges.getD i default).From, (n.Edges.getD i default).To, 0⟩ else n.Edges.getD i default := by
  rw [getD_lt (by rw [wo_len]; exact h)]
  simp [wo]
theorem without_ok {n : TNet} {F : Nat} (hl : n.Edges.length ≤ 40) (hF : F < 4611686018427387904) : flow_without_F n (F : Int) = some (wo n F) := by
  unfold flow_without_F
  rw [gd_p _ (by omega), lt_d]
  obtain ⟨s, e, h1, h2⟩ := lp_fold (body := flow_without_b1 (F : Int) n.Edges) (fun k s => s.1 = (k : Int) ∧ s.2 = (⟨n.N, woK n F k⟩ : TNet)) n.Edges.length (by omega) (fun k s hk ⟨h1, h2⟩ => by
    obtain ⟨i, R⟩ := s
    simp only at h1 h2
    subst h1 h2
    unfold flow_without_b1
    simp only [cn_dec, jn_d]
    rw [if_pos (by omega), gd_p _ (by omega), bit1 (by omega) (by omega) (by omega), Int.toNat_natCast, wr_id (by omega) (by omega)]
    cases hb : F.testBit k
    · rw [cn_f]
      refine ⟨_, rfl, rfl, ?_⟩
      simp only [TNet.mk.injEq, true_and]
      refine List.map_congr_left fun i hi => ?_
      have : (i < k ∧ F.testBit i = true) ↔ (i < k + 1 ∧ F.testBit i = true) := by
        constructor
        · rintro ⟨a, b⟩; exact ⟨by omega, b⟩
        · rintro ⟨a, b⟩
          refine ⟨?_, b⟩
          by_cases q : i = k
          · subst q; rw [hb] at b; simp at b
          · omega
      simp only [this]
    · rw [cn_t, gd_p _ (by rw [woK_len]; omega), st_d, Int.toNat_natCast]
      refine ⟨_, rfl, rfl, ?_⟩
      simp only [TNet.mk.injEq, true_and]
      refine List.ext_getElem (by rw [List.length_set, woK_len, woK_len]) fun i hi1 hi2 => ?_
      rw [woK_len] at hi2
      rw [List.getElem_set]
      split
      · rename_i q; subst q
        rw [← getD_lt, woK_get hk, woK_get hk, if_neg (by omega), if_pos ⟨by omega, hb⟩]
      · rename_i q
        rw [← getD_lt, ← getD_lt, woK_get hi2, woK_get hi2]
        have : (i < k ∧ F.testBit i = true) ↔ (i < k + 1 ∧ F.testBit i = true) := by
          constructor
          · rintro ⟨a, b⟩; exact ⟨by omega, b⟩
          · rintro ⟨a, b⟩; exact ⟨by omega, b⟩
        simp only [this]) (fun s ⟨h1, h2⟩ => by
    unfold flow_without_b1
    simp only [cn_dec]
    rw [if_neg (by omega)]) (0, ⟨n.N, n.Edges⟩) ⟨rfl, by
      simp only [TNet.mk.injEq, true_and]
      refine List.ext_getElem (by rw [woK_len]) fun i hi1 hi2 => ?_
      rw [← getD_lt, ← getD_lt, woK_get hi1, if_neg (by omega)]⟩
  rw [e, bd_s, smK_l, h2]
  show some (⟨n.N, woK n F n.Edges.length⟩ : TNet) = some (wo n F)
  unfold wo woK
  simp only [Option.some.injEq, TNet.mk.injEq, true_and]
  refine List.map_congr_left fun i hi => ?_
  have := List.mem_range.1 hi
  simp only [this, true_and]
end Go.Proofs.Ytkjccabdpeldhaa
namespace Go.Proofs.Ytkjccabdpeldhaa
open Go Go.Eng
set_option maxRecDepth 100000
structure FV (n : TNet) : Prop where
  nn : 1 ≤ n.N ∧ n.N ≤ 12
  el : n.Edges.length ≤ 40
  eg : ∀ e ∈ n.Edges, (0 ≤ e.From ∧ e.From < n.N) ∧ (0 ≤ e.To ∧ e.To < n.N) ∧ e.From ≠ e.To ∧ 0 ≤ e.Capacity ∧ e.Capacity ≤ 10000
theorem FV.wo {n : TNet} (h : FV n) (F : Nat) : FV (wo n F) where
  nn := h.nn
  el := by rw [wo_len]; exact h.el
  eg e he := by
    obtain ⟨i, hi, rfl⟩ := List.getElem_of_mem he
    rw [wo_len] at hi
    rw [← getD_lt, wo_get hi]
    have := h.eg _ (getD_mem hi)
    split
    · exact ⟨this.1, this.2.1, this.2.2.1, by simp, by simp⟩
    · exact this
theorem net_fv {r : TReserve} (h : RV r) {s : Nat} (hc : Car r s) : FV (netL r s) := by
  have hn := h.n; have hul := h.ul; have hcl := h.cl; have hel := h.el
  refine ⟨by simp only [netL]; omega, by simp only [netL]; rw [lv_len]; omega, fun e he => ?_⟩
  obtain ⟨i, hi, e1⟩ := List.getElem_of_mem he
  simp only [netL] at hi e1 ⊢
  rw [← getD_lt hi] at e1
  rw [lv_len] at hi
  by_cases q : i < r.Net.Edges.length
  · rw [lv_get1 q] at e1
    subst e1
    have := (h.eg _ (getD_mem q))
    have h1 := hc i q
    have h2 := capN_le h (s := s) q
    simp only
    exact ⟨⟨this.1.1, by omega⟩, ⟨this.2.1.1, by omega⟩, this.2.2.1, h1, h2⟩
  · obtain ⟨j, rfl⟩ : ∃ j, i = r.Net.Edges.length + j := ⟨i - r.Net.Edges.length, by omega⟩
    have hj : j < r.Centres.length := by omega
    rw [lv_get2 hj] at e1
    subst e1
    have := h.cv _ (getD_mem hj)
    simp only
    exact ⟨⟨by omega, by omega⟩, ⟨by omega, by omega⟩, by omega, this.1, this.2⟩
structure SV (n : TNet) (l : List Int) : Prop where
  ll : (l.length : Int) = n.N
  lv : ∀ x ∈ l, -100000 ≤ x ∧ x ≤ 100000
  z : sumK l l.length = 0
end Go.Proofs.Ytkjccabdpeldhaa
namespace Go.Proofs.Ytkjccabdpeldhaa
open Go Go.Eng
set_option maxRecDepth 100000
theorem usum_nn {r : TReserve} (h : RV r) (S : Nat) : ∀ k, k ≤ r.Urgent.length → 0 ≤ usum (lsu r) S k ∧ usum (lsu r) S k ≤ sumK r.Urgent k
  | 0, _ => by simp [usum, sumK]
  | k + 1, hk => by
    have h1 := usum_nn h S k (by omega)
    have h2 := h.uv _ (getD_mem (l := r.Urgent) (k := k) (by omega))
    simp only [usum, sumK]
    rw [lsu_get (by omega)]
    split <;> omega
end Go.Proofs.Ytkjccabdpeldhaa
namespace Go.Proofs.Ytkjccabdpeldhaa
open Go Go.Eng
set_option maxRecDepth 100000
section
variable {r : TReserve} (h : RV r)
include h
end
end Go.Proofs.Ytkjccabdpeldhaa
namespace Go.Proofs.Ytkjccabdpeldhaa
open Go Go.Eng
set_option maxRecDepth 100000
section
variable {r : TReserve} (h : RV r)
include h
end
end Go.Proofs.Ytkjccabdpeldhaa
namespace Go.Proofs.Ytkjccabdpeldhaa
open Go Go.Eng
set_option maxRecDepth 100000
section
variable {r : TReserve} (h : RV r)
include h
end
end Go.Proofs.Ytkjccabdpeldhaa
namespace Go.Proofs.Ytkjccabdpeldhaa.Fl
open Go Go.Eng
set_option maxRecDepth 100000
def mx (m : Ar 196) (a b : Nat) : Int := m.l.getD (a * 14 + b) 0
def vx (x : Ar 14) (a : Nat) : Int := x.l.getD a 0
theorem getD_set {l : List Int} {k j : Nat} {v : Int} (hk : k < l.length) : (l.set k v).getD j 0 = if j = k then v else l.getD j 0 := by
  simp only [List.getD_eq_getElem?_getD, List.getElem?_set]
  by_cases e : k = j
  · subst e; simp [hk]
  · rw [if_neg e, if_neg (fun h => e h.symm)]
def bits (p : Nat → Bool) : Nat → Nat
  | 0 => 0
  | k + 1 => bits p k ||| (if p k then 2 ^ k else 0)
def par (L : Ar 14) (x : Nat) : Nat := (vx L x - 1).toNat
def und (L : Ar 14) : Int := sm 14 fun x => if vx L x = 0 then 1 else 0
structure BC (M : Nat → Nat → Int) (s : Nat) (L : Ar 14) (r : Nat → Nat) : Prop where
  nn : ∀ x, x < 14 → 0 ≤ vx L x ∧ vx L x ≤ 14
  src : vx L s = (s : Int) + 1
  pr : ∀ x, x < 14 → x ≠ s → 0 < vx L x → 0 < vx L (par L x) ∧ M (par L x) x ≠ 0 ∧ r (par L x) < r x
  rk : ∀ x, x < 14 → 0 < vx L x → (r x : Int) + und L ≤ 14
end Go.Proofs.Ytkjccabdpeldhaa.Fl
namespace Go.Proofs.Ytkjccabdpeldhaa.Fl
open Go Go.Eng
set_option maxRecDepth 100000
end Go.Proofs.Ytkjccabdpeldhaa.Fl
namespace Go.Proofs.Ytkjccabdpeldhaa.Fl
open Go Go.Eng
set_option maxRecDepth 100000
theorem getD_ltD {α : Type} [Inhabited α] {l : List α} {k : Nat} (h : k < l.length) : l.getD k default = l[k] := by simp [h]
theorem isInF (a b c : Int) : flow_isIn_F a b c = some (decide (b ≤ a) && decide (a ≤ c)) := by
  unfold flow_isIn_F
  simp only [jn_d, cn_dec]
  by_cases h : b ≤ a
  · rw [if_pos h]; simp [h]
  · rw [if_neg h]; simp [h]
structure EV (N : Int) (e : TEdge) : Prop where
  fr : 0 ≤ e.From ∧ e.From < N
  to : 0 ≤ e.To ∧ e.To < N
  ne : e.From ≠ e.To
  cp : 0 ≤ e.Capacity ∧ e.Capacity ≤ 10000
instance (N : Int) (e : TEdge) : Decidable (EV N e) := decidable_of_iff ((0 ≤ e.From ∧ e.From < N) ∧ (0 ≤ e.To ∧ e.To < N) ∧ e.From ≠ e.To ∧ 0 ≤ e.Capacity ∧ e.Capacity ≤ 10000)
  ⟨fun h => ⟨h.1, h.2.1, h.2.2.1, h.2.2.2⟩, fun h => ⟨h.fr, h.to, h.ne, h.cp⟩⟩
structure NV (n : TNet) : Prop where
  nn : 0 ≤ n.N ∧ n.N ≤ 12
  el : n.Edges.length ≤ 40
  ev : ∀ e ∈ n.Edges, EV n.N e
instance (n : TNet) : Decidable (NV n) := decidable_of_iff ((0 ≤ n.N ∧ n.N ≤ 12) ∧ n.Edges.length ≤ 40 ∧ ∀ e ∈ n.Edges, EV n.N e) ⟨fun h => ⟨h.1, h.2.1, h.2.2⟩, fun h => ⟨h.nn, h.el, h.ev⟩⟩
theorem bad_ok {n : TNet} (h0 : 0 ≤ n.N ∧ n.N ≤ 12) (e : TEdge) : flow_Valid_1_F e n = some (!decide (EV n.N e)) := by
  unfold flow_Valid_1_F
  simp only [jn_d, isInF, bd_s, cn_not]
  simp only [cn_if, Bool.and_eq_true, decide_eq_true_eq, beq_iff_eq]
  rw [wr_id (by omega) (by omega)]
  have key : ∀ p : Bool, (p = true ↔ EV n.N e) → (some (!p) : Option Bool) = some (!decide (EV n.N e)) := fun p hp => by
    congr 2
    cases hd : decide (EV n.N e) with
    | true => exact hp.2 (by simpa using hd)
    | false =>
      cases hq : p with
      | false => rfl
      | true => exact absurd (hp.1 hq) (by simpa using hd)
  by_cases h1 : 0 ≤ e.From ∧ e.From ≤ n.N - 1
  · rw [if_pos h1]
    by_cases h2 : 0 ≤ e.To ∧ e.To ≤ n.N - 1
    · rw [if_pos h2]
      by_cases h3 : e.From = e.To
      · rw [if_pos h3]; exact key false ⟨fun h => (Bool.false_ne_true h).elim, fun h => absurd h3 h.ne⟩
      · rw [if_neg h3]
        refine key _ ⟨fun h => ?_, fun h => ?_⟩
        · simp only [Bool.and_eq_true, decide_eq_true_eq] at h
          exact ⟨by omega, by omega, h3, h⟩
        · have := h.cp; simp only [Bool.and_eq_true, decide_eq_true_eq]; omega
    · rw [if_neg h2]; exact key false ⟨fun h => (Bool.false_ne_true h).elim, fun h => by have := h.to; omega⟩
  · rw [if_neg h1]; exact key false ⟨fun h => (Bool.false_ne_true h).elim, fun h => by have := h.fr; omega⟩
theorem any_loop {n : TNet} (h0 : 0 ≤ n.N ∧ n.N ≤ 12) {E : List TEdge} (hl : E.length ≤ 1000) : slices_ContainsFunc_Edge_76_F E n = some (!decide (∀ e ∈ E, EV n.N e)) := by
  obtain ⟨o, e, ho⟩ := lp_runF (body := slices_IndexFunc_Edge_76_b1 E n) (fun i : Int => (0 ≤ i ∧ i ≤ (E.length : Int)) ∧ ∀ j : Nat, (j : Int) < i → EV n.N (E.getD j default)) (fun i => ((E.length : Int) - i).toNat)
    (fun o => match o with
      | .inl _ => ∀ e ∈ E, EV n.N e
      | .inr r => 0 ≤ r ∧ ¬ ∀ e ∈ E, EV n.N e) (fun i hi => by
      obtain ⟨⟨i0, i1⟩, hi⟩ := hi
      unfold slices_IndexFunc_Edge_76_b1
      rw [cn_dec]
      by_cases h : i < (E.length : Int)
      · rw [if_pos h, ix_p i0 h, bad_ok h0, bd_s, cn_not]
        have hlt : i.toNat < E.length := by omega
        by_cases hb : EV n.N (E.getD i.toNat default)
        · rw [decide_eq_true hb, cn_t, wr_id (by omega) (by omega)]
          refine .inl ⟨_, rfl, ⟨by omega, fun j hj => ?_⟩, by omega⟩
          by_cases e : (j : Int) = i
          · rw [show j = i.toNat by omega]; exact hb
          · exact hi j (by omega)
        · rw [decide_eq_false hb, cn_f]
          refine .inr (.inr ⟨_, rfl, i0, fun hall => hb ?_⟩)
          rw [getD_ltD hlt]
          exact hall _ (List.getElem_mem hlt)
      · rw [if_neg h]
        refine .inr (.inl ⟨_, rfl, fun e he => ?_⟩)
        obtain ⟨j, hj, rfl⟩ := List.getElem_of_mem he
        have := hi j (by omega)
        rwa [getD_ltD hj] at this)
    0 ⟨by omega, fun j hj => by omega⟩ (by omega)
  unfold slices_ContainsFunc_Edge_76_F slices_IndexFunc_Edge_76_F
  rw [e, bd_s]
  match o, ho with
  | .inl _, ho => rw [smK_l, bd_s, decide_eq_true ho]; rfl
  | .inr r, ho => rw [smK_r, bd_s, decide_eq_false ho.2]; simp [ho.1]
theorem valid_iff (n : TNet) : flow_Valid_F n = some (decide (NV n)) := by
  unfold flow_Valid_F
  simp only [jn_d, isInF, bd_s, cn_not]
  simp only [cn_if, Bool.and_eq_true, decide_eq_true_eq]
  by_cases h0 : 0 ≤ n.N ∧ n.N ≤ 12
  · rw [if_pos h0]
    by_cases h1 : (n.Edges.length : Int) > 40
    · rw [if_pos h1, decide_eq_false fun h : NV n => by have := h.el; omega]
    · rw [if_neg h1, any_loop h0 (by omega), bd_s, Bool.not_not]
      congr 1
      simp only [decide_eq_decide]
      exact ⟨fun h => ⟨h0, by omega, h⟩, fun h => h.ev⟩
  · rw [if_neg h0]
    simp only [if_true]
    rw [decide_eq_false fun h : NV n => h0 h.nn]
structure EndsV (n : TNet) (s t : Nat) : Prop where
  v : NV n
  hs : (s : Int) < n.N
  ht : (t : Int) < n.N
  ne : s ≠ t
theorem isPair_ok {n : TNet} {s t : Nat} (h : EndsV n s t) : flow_isPair_F n (s : Int) (t : Int) = some true := by
  have hn := h.v.nn; have hs := h.hs; have ht := h.ht
  unfold flow_isPair_F
  simp only [jn_d, valid_iff, isInF, bd_s]
  rw [decide_eq_true h.v, cn_t, wr_id (by omega) (by omega), decide_eq_true (show (0 : Int) ≤ (s : Int) by omega), decide_eq_true (show (s : Int) ≤ n.N - 1 by omega), decide_eq_true (show (0 : Int) ≤ (t : Int) by omega), decide_eq_true (show (t : Int) ≤ n.N - 1 by omega)]
  simp only [Bool.and_self, cn_t]
  have : (s : Int) ≠ (t : Int) := by have := h.ne; omega
  simp [this]
def capM : List TEdge → Nat → Nat → Int
  | [], _, _ => 0
  | e :: E, a, b => (if e.From = (a : Int) ∧ e.To = (b : Int) then e.Capacity else 0) + capM E a b
end Go.Proofs.Ytkjccabdpeldhaa.Fl
namespace Go.Proofs.Ytkjccabdpeldhaa.Fl
open Go Go.Eng
set_option maxRecDepth 100000
def okA (E : List TEdge) (l : List Int) : Prop := l.length = E.length ∧ ∀ i, i < E.length → 0 ≤ l.getD i 0 ∧ l.getD i 0 ≤ (E.getD i default).Capacity
theorem getD_appL {α : Type} {l : List α} {x d : α} {i : Nat} (h : i < l.length) : (l ++ [x]).getD i d = l.getD i d := by
  simp only [List.getD_eq_getElem?_getD]
  rw [List.getElem?_append_left h]
def give : List TEdge → List Int → Nat → Int
  | e :: E, x :: l, v => ((if e.From = (v : Int) then x else 0) - (if e.To = (v : Int) then x else 0)) + give E l v
  | _, _, _ => 0
end Go.Proofs.Ytkjccabdpeldhaa.Fl
namespace Go.Proofs.Ytkjccabdpeldhaa.Fl
open Go Go.Eng
set_option maxRecDepth 100000
theorem st_dd {α β : Type} (l : List α) (i : Int) (x : α) (f : List α → Option β) : st l i x f = f (l.set i.toNat x) := by unfold st; rfl
instance (E : List TEdge) (l : List Int) : Decidable (okA E l) := by unfold okA; infer_instance
structure IsFlow (n : TNet) (s t : Nat) (l : List Int) : Prop where
  ok : okA n.Edges l
  nn : 0 ≤ give n.Edges l s
  co : ∀ v, v < n.N.toNat → v ≠ s → v ≠ t → give n.Edges l v = 0
end Go.Proofs.Ytkjccabdpeldhaa.Fl
namespace Go.Proofs.Ytkjccabdpeldhaa.Fl
open Go Go.Eng
set_option maxRecDepth 100000
def cutE : List TEdge → (Nat → Bool) → Int
  | [], _ => 0
  | e :: E, p => (if (p e.From.toNat && !p e.To.toNat) = true then e.Capacity else 0) + cutE E p
theorem cutE_app : ∀ (E F : List TEdge) (p : Nat → Bool), cutE (E ++ F) p = cutE E p + cutE F p
  | [], F, p => by simp [cutE]
  | e :: E, F, p => by simp only [List.cons_append, cutE, cutE_app E F p]; omega
theorem cutE_nn : ∀ {E : List TEdge}, (∀ e ∈ E, 0 ≤ e.Capacity) → ∀ p, 0 ≤ cutE E p
  | [], _, _ => Int.le_refl _
  | e :: E, h, p => by
    have h1 := h e List.mem_cons_self
    have h2 := cutE_nn (E := E) (fun e he => h e (List.mem_cons_of_mem _ he)) p
    simp only [cutE]; split <;> omega
theorem cutE_bd : ∀ {E : List TEdge} {B : Int}, 0 ≤ B → (∀ e ∈ E, e.Capacity ≤ B) → ∀ p, cutE E p ≤ E.length * B
  | [], _, _, _, _ => by simp [cutE]
  | e :: E, B, hB, h, p => by
    have h1 := h e List.mem_cons_self
    have h2 := cutE_bd (E := E) hB (fun e he => h e (List.mem_cons_of_mem _ he)) p
    simp only [cutE, List.length_cons]
    rw [show ((E.length + 1 : Nat) : Int) * B = E.length * B + B by rw [Int.natCast_add, Int.add_mul]; simp]
    split <;> omega
theorem leaving_ok {n : TNet} (h : NV n) {S : Nat} (hS : S < 4611686018427387904) {σ : Type} (f : Int → σ → Option σ) (g : Nat → σ → σ) (I : Nat → σ → Prop) (h0 : ∀ s, I 0 s → True)
    (step : ∀ k s, k < n.Edges.length → I k s → (((S.testBit (n.Edges.getD k default).From.toNat && !S.testBit (n.Edges.getD k default).To.toNat) = true → f (k : Int) s = some (g k s) ∧ I (k + 1) (g k s)) ∧ ((S.testBit (n.Edges.getD k default).From.toNat && !S.testBit (n.Edges.getD k default).To.toNat) = false → I (k + 1) s))) (s0 : σ) (hI : I 0 s0) :
    ∃ s, flow_leaving_1_F n (S : Int) σ f s0 = some s ∧ I n.Edges.length s := by
  have hel := h.el
  have hn := h.nn
  obtain ⟨s', e, h1⟩ := lp_fold (body := flow_leaving_1_b1 σ n (S : Int) f) (fun k z => z.1 = (k : Int) ∧ I k z.2) n.Edges.length (by omega)
    (fun k z hk hz => by
      obtain ⟨i, s⟩ := z
      obtain ⟨rfl, hs⟩ := hz
      simp only at hs
      unfold flow_leaving_1_b1
      simp only [cn_dec, jn_d]
      have hev := h.ev _ (by rw [getD_ltD hk]; exact List.getElem_mem hk : n.Edges.getD k default ∈ n.Edges)
      have hfr := hev.fr; have hto := hev.to
      rw [if_pos (by omega), ix_n hk, gd_p _ hfr.1]
      obtain ⟨a, ha⟩ : ∃ a : Nat, (n.Edges.getD k default).From = (a : Int) := ⟨_, (Int.toNat_of_nonneg hfr.1).symm⟩
      obtain ⟨b, hb⟩ : ∃ b : Nat, (n.Edges.getD k default).To = (b : Int) := ⟨_, (Int.toNat_of_nonneg hto.1).symm⟩
      obtain ⟨st1, st2⟩ := step k s hk hs
      rw [ha, hb] at st1 st2
      rw [ha, hb, bit1 (by omega) (by omega) (by omega), gd_p _ (by omega : (0 : Int) ≤ (b : Int)), bit0 (by omega) (by omega) (by omega)]
      simp only [Int.toNat_natCast] at st1 st2 ⊢
      rw [wr_id (x := (k : Int) + 1) (by omega) (by omega)]
      cases c1 : S.testBit a with
      | false =>
        rw [cn_f]
        exact ⟨_, rfl, by simp only; omega, st2 (by rw [c1]; rfl)⟩
      | true =>
        rw [cn_t]
        cases c2 : S.testBit b with
        | true =>
          simp only [Bool.not_true, cn_f]
          exact ⟨_, rfl, by simp only; omega, st2 (by rw [c1, c2]; rfl)⟩
        | false =>
          obtain ⟨e1, e2⟩ := st1 (by rw [c1, c2]; rfl)
          simp only [Bool.not_false, cn_t]
          rw [e1, bd_s]
          exact ⟨_, rfl, by simp only; omega, e2⟩)
    (fun z hz => by
      obtain ⟨i, s⟩ := z
      obtain ⟨rfl, _⟩ := hz
      unfold flow_leaving_1_b1
      simp only [cn_dec]
      rw [if_neg (by omega)])
    (0, s0) ⟨rfl, hI⟩
  refine ⟨s'.2, ?_, h1.2⟩
  unfold flow_leaving_1_F
  rw [e, bd_s, smK_l]
theorem capacityF_ok {n : TNet} (h : NV n) {S : Nat} (hS : S < 4611686018427387904) : flow_capacity_F n (S : Int) = some (cutE n.Edges S.testBit) := by
  have hel := h.el
  obtain ⟨s, e, hs⟩ := leaving_ok h hS (flow_capacity_b1 n) (fun k s => s + (n.Edges.getD k default).Capacity) (fun k s => s = cutE (n.Edges.take k) S.testBit) (fun _ _ => trivial)
    (fun k s hk hs => by
      have hev := h.ev _ (by rw [getD_ltD hk]; exact List.getElem_mem hk : n.Edges.getD k default ∈ n.Edges)
      have hcp := hev.cp
      have htake : n.Edges.take (k + 1) = n.Edges.take k ++ [n.Edges.getD k default] := by rw [List.take_succ_eq_append_getElem hk, getD_ltD hk]
      have c1 := cutE_nn (E := n.Edges.take k) (fun e he => (h.ev e (List.mem_of_mem_take he)).cp.1) S.testBit
      have c2 := cutE_bd (E := n.Edges.take k) (B := 10000) (by omega) (fun e he => (h.ev e (List.mem_of_mem_take he)).cp.2) S.testBit
      have c3 : (n.Edges.take k).length ≤ 40 := by rw [List.length_take]; omega
      refine ⟨fun hb => ⟨?_, ?_⟩, fun hb => ?_⟩
      · unfold flow_capacity_b1
        rw [ix_n hk, wr_id (by omega) (by omega)]
      · rw [htake, cutE_app, hs]; simp only [cutE]; rw [if_pos hb]; omega
      · rw [htake, cutE_app, hs]; simp only [cutE]; rw [if_neg (by rw [hb]; exact Bool.false_ne_true)]; omega)
    0 rfl
  unfold flow_capacity_F
  rw [e, bd_s, hs, List.take_length]
theorem checkCut_ok {n : TNet} {s t : Nat} (h : EndsV n s t) (a : Int) : flow_CheckCut_F n (s : Int) (t : Int) a = some (if 0 ≤ a ∧ a < 2 ^ n.N.toNat ∧ a.toNat.testBit s = true ∧ a.toNat.testBit t = false then (cutE n.Edges a.toNat.testBit, true) else (0, false)) := by
  have hn := h.v.nn; have hs := h.hs; have ht := h.ht
  have hp : (2 : Int) ^ n.N.toNat ≤ 2 ^ 12 := two_pow_le (by omega)
  have hp0 := two_pow_pos n.N.toNat
  unfold flow_CheckCut_F
  simp only [isPair_ok h, bd_s, Bool.not_true, cn_f, jn_d]
  rw [gd_p _ hn.1, isInF, bd_s, cn_not, cn_if]
  have hsh : bshl .i64 1 n.N = 2 ^ n.N.toNat := by
    conv => lhs; rw [show n.N = ((n.N.toNat : Nat) : Int) by omega]
    exact bshl_one (by omega)
  rw [hsh, wr_id (by omega) (by omega)]
  by_cases h1 : 0 ≤ a ∧ a ≤ 2 ^ n.N.toNat - 1
  · rw [if_pos (by simp only [Bool.and_eq_true, decide_eq_true_eq]; exact h1), gd_p _ (by omega), bit0 h1.1 (by omega) (by omega), cn_not]
    cases c1 : a.toNat.testBit s with
    | false =>
      rw [cn_f, cn_t, if_neg (by simp)]
    | true =>
      rw [cn_t, gd_p _ (by omega), bit1 h1.1 (by omega) (by omega)]
      cases c2 : a.toNat.testBit t with
      | true => rw [cn_t, if_neg (by simp)]
      | false =>
        have e := capacityF_ok h.v (S := a.toNat) (by omega)
        rw [Int.toNat_of_nonneg h1.1] at e
        rw [cn_f, e, bd_s, if_pos ⟨h1.1, by omega, rfl, rfl⟩]
  · rw [if_neg (by simp only [Bool.and_eq_true, decide_eq_true_eq]; exact h1), cn_t, if_neg (by omega)]
structure MaxV (n : TNet) (s t : Nat) (v : Int) (C : Nat) : Prop where
  lt : C < 2 ^ n.N.toNat
  cs : C.testBit s = true
  ct : C.testBit t = false
  eq : v = cutE n.Edges C.testBit
  le : ∀ S : Nat → Bool, S s = true → S t = false → v ≤ cutE n.Edges S
  mn : ∀ S : Nat → Bool, S s = true → S t = false → cutE n.Edges S = v → ∀ x, C.testBit x = true → S x = true
  nn : 0 ≤ v
end Go.Proofs.Ytkjccabdpeldhaa.Fl
namespace Go.Proofs.Ytkjccabdpeldhaa.Fl
open Go Go.Eng
set_option maxRecDepth 100000
def wo (n : TNet) (F : Nat) : TNet := ⟨n.N, (List.range n.Edges.length).map fun i => if F.testBit i then ⟨(n.Edges.getD i default).From, (n.Edges.getD i default).To, 0⟩ else n.Edges.getD i default⟩
def woK (n : TNet) (F k : Nat) : List TEdge := (List.range n.Edges.length).map fun i => if i < k ∧ F.testBit i = true then ⟨(n.Edges.getD i default).From, (n.Edges.getD i default).To, 0⟩ else n.Edges.getD i default
theorem woK_len (n : TNet) (F k : Nat) : (woK n F k).length = n.Edges.length := by simp [woK]
theorem woK_get {n : TNet} {F k i : Nat} (h : i < n.Edges.length) : (woK n F k).getD i default = if i < k ∧ F.testBit i = true then ⟨(n.Edges.getD i default).From, (n.Edges.getD i default).To, 0⟩ else n.Edges.getD i default := by
  rw [getD_ltD (by rw [woK_len]; exact h)]
  simp [woK]
theorem wo_len (n : TNet) (F : Nat) : (wo n F).Edges.length = n.Edges.length := by simp [wo]
theorem wo_get {n : TNet} {F i : Nat} (h : i < n.Edges.length) : (wo n F).Edges.getD i default = if F.testBit i then ⟨(n.Edges.getD i default).From, (n.Edges.getD i default).To, 0⟩ else n.Edges.getD i default := by
  rw [getD_ltD (by rw [wo_len]; exact h)]
  simp [wo]
theorem without_ok {n : TNet} {F : Nat} (hl : n.Edges.length ≤ 40) (hF : F < 4611686018427387904) : flow_without_F n (F : Int) = some (wo n F) := by
  unfold flow_without_F
  rw [gd_p _ (by omega), lt_d]
  obtain ⟨s, e, h1, h2⟩ := lp_fold (body := flow_without_b1 (F : Int) n.Edges) (fun k s => s.1 = (k : Int) ∧ s.2 = (⟨n.N, woK n F k⟩ : TNet)) n.Edges.length (by omega) (fun k s hk ⟨h1, h2⟩ => by
    obtain ⟨i, R⟩ := s
    simp only at h1 h2
    subst h1 h2
    unfold flow_without_b1
    simp only [cn_dec, jn_d]
    rw [if_pos (by omega), gd_p _ (by omega), bit1 (by omega) (by omega) (by omega), Int.toNat_natCast, wr_id (by omega) (by omega)]
    cases hb : F.testBit k
    · rw [cn_f]
      refine ⟨_, rfl, rfl, ?_⟩
      simp only [TNet.mk.injEq, true_and]
      refine List.map_congr_left fun i hi => ?_
      have : (i < k ∧ F.testBit i = true) ↔ (i < k + 1 ∧ F.testBit i = true) := by
        constructor
        · rintro ⟨a, b⟩; exact ⟨by omega, b⟩
        · rintro ⟨a, b⟩
          refine ⟨?_, b⟩
          by_cases q : i = k
          · subst q; rw [hb] at b; simp at b
          · omega
      simp only [this]
    · rw [cn_t, gd_p _ (by rw [woK_len]; omega), st_dd, Int.toNat_natCast]
      refine ⟨_, rfl, rfl, ?_⟩
      simp only [TNet.mk.injEq, true_and]
      refine List.ext_getElem (by rw [List.length_set, woK_len, woK_len]) fun i hi1 hi2 => ?_
      rw [woK_len] at hi2
      rw [List.getElem_set]
      split
      · rename_i q; subst q
        rw [← getD_ltD, woK_get hk, woK_get hk, if_neg (by omega), if_pos ⟨by omega, hb⟩]
      · rename_i q
        rw [← getD_ltD, ← getD_ltD, woK_get hi2, woK_get hi2]
        have : (i < k ∧ F.testBit i = true) ↔ (i < k + 1 ∧ F.testBit i = true) := by
          constructor
          · rintro ⟨a, b⟩; exact ⟨by omega, b⟩
          · rintro ⟨a, b⟩; exact ⟨by omega, b⟩
        simp only [this]) (fun s ⟨h1, h2⟩ => by
    unfold flow_without_b1
    simp only [cn_dec]
    rw [if_neg (by omega)]) (0, ⟨n.N, n.Edges⟩) ⟨rfl, by
      simp only [TNet.mk.injEq, true_and]
      refine List.ext_getElem (by rw [woK_len]) fun i hi1 hi2 => ?_
      rw [← getD_ltD, ← getD_ltD, woK_get hi1, if_neg (by omega)]⟩
  rw [e, bd_s, smK_l, h2]
  show some (⟨n.N, woK n F n.Edges.length⟩ : TNet) = some (wo n F)
  unfold wo woK
  simp only [Option.some.injEq, TNet.mk.injEq, true_and]
  refine List.map_congr_left fun i hi => ?_
  have := List.mem_range.1 hi
  simp only [this, true_and]
theorem wo_mem {n : TNet} {F : Nat} {e : TEdge} (h : e ∈ (wo n F).Edges) : ∃ e' ∈ n.Edges, e.From = e'.From ∧ e.To = e'.To ∧ (e.Capacity = 0 ∨ e.Capacity = e'.Capacity) := by
  simp only [wo, List.mem_map, List.mem_range] at h
  obtain ⟨i, hi, rfl⟩ := h
  refine ⟨n.Edges.getD i default, by rw [getD_ltD hi]; exact List.getElem_mem hi, ?_⟩
  split
  · exact ⟨rfl, rfl, .inl rfl⟩
  · exact ⟨rfl, rfl, .inr rfl⟩
theorem NV.wo {n : TNet} (h : NV n) (F : Nat) : NV (wo n F) := by
  refine ⟨h.nn, by rw [wo_len]; exact h.el, fun e he => ?_⟩
  obtain ⟨e', he', h1, h2, h3⟩ := wo_mem he
  have := h.ev e' he'
  exact ⟨by rw [h1]; exact this.fr, by rw [h2]; exact this.to, by rw [h1, h2]; exact this.ne, by rcases h3 with h3 | h3 <;> rw [h3] <;> first | exact this.cp | exact ⟨Int.le_refl _, by decide⟩⟩
theorem Without_ok {n : TNet} (h : NV n) {F : Nat} (hF : (F : Int) < 2 ^ n.Edges.length) : flow_Without_F n (F : Int) = some (wo n F, 0) := by
  have hel := h.el
  have hp : (2 : Int) ^ n.Edges.length ≤ 2 ^ 40 := two_pow_le hel
  have hp0 := two_pow_pos n.Edges.length
  unfold flow_Without_F
  simp only [jn_d, valid_iff, bd_s]
  rw [decide_eq_true h, Bool.not_true, cn_f, gd_p _ (by omega), bshl_one (by omega), wr_id (by omega) (by omega), isInF, bd_s, decide_eq_true (show (0 : Int) ≤ (F : Int) by omega), decide_eq_true (show (F : Int) ≤ 2 ^ n.Edges.length - 1 by omega)]
  simp only [Bool.and_self, Bool.not_true, cn_f]
  rw [without_ok hel (by omega), bd_s]
theorem give_set {N : Int} (hN : N ≤ 12) : ∀ {E : List TEdge} {l : List Int}, (∀ e ∈ E, EV N e) → okA E l → ∀ (S : Nat → Bool), sm 14 (fun v => if S v then give E l v else 0) ≤ cutE E S
  | [], _, _, _, S => by
    rw [sm_zero fun v _ => by simp only [give]; split <;> rfl]; exact Int.le_refl _
  | _ :: _, [], _, ⟨h, _⟩, S => by simp at h
  | e :: E, x :: l, h, ⟨h1, h2⟩, S => by
    have hev := h e List.mem_cons_self
    have hfr := hev.fr; have hto := hev.to
    have hx := h2 0 (by simp)
    simp only [List.getD_cons_zero] at hx
    have ih := give_set hN (E := E) (l := l) (fun e he => h e (List.mem_cons_of_mem _ he)) ⟨by simpa using h1, fun i hi => by have := h2 (i + 1) (by simpa using hi); simpa using this⟩ S
    have key : sm 14 (fun v => if S v then give (e :: E) (x :: l) v else 0) = sm 14 (fun v => ((if v = e.From.toNat then (if S e.From.toNat then x else 0) else 0) - (if v = e.To.toNat then (if S e.To.toNat then x else 0) else 0)) + (if S v then give E l v else 0)) := sm_congr fun v _ => by
      simp only [give]
      by_cases c1 : v = e.From.toNat
      · rw [if_pos c1, if_pos (show e.From = (v : Int) by omega), ← c1]
        by_cases c2 : v = e.To.toNat
        · rw [if_pos c2, if_pos (show e.To = (v : Int) by omega), ← c2]; split <;> omega
        · rw [if_neg c2, if_neg (show ¬ e.To = (v : Int) by omega)]; split <;> omega
      · rw [if_neg c1, if_neg (show ¬ e.From = (v : Int) by omega)]
        by_cases c2 : v = e.To.toNat
        · rw [if_pos c2, if_pos (show e.To = (v : Int) by omega), ← c2]; split <;> omega
        · rw [if_neg c2, if_neg (show ¬ e.To = (v : Int) by omega)]; split <;> omega
    rw [key, sm_add, sm_sub, sm_one, sm_one, if_pos (show e.From.toNat < 14 by omega), if_pos (show e.To.toNat < 14 by omega)]
    simp only [cutE]
    cases S e.From.toNat <;> cases S e.To.toNat <;> simp only [Bool.not_true, Bool.not_false, Bool.and_true, Bool.and_false, Bool.and_self, if_true, Bool.false_eq_true, if_false] <;> omega
theorem give_out {N : Int} : ∀ {E : List TEdge} {l : List Int}, (∀ e ∈ E, EV N e) → ∀ {v : Nat}, N ≤ (v : Int) → give E l v = 0
  | [], _, _, _, _ => rfl
  | _ :: _, [], _, _, _ => rfl
  | e :: E, x :: l, h, v, hv => by
    have hev := h e List.mem_cons_self
    have hfr := hev.fr; have hto := hev.to
    simp only [give]
    rw [if_neg (by omega), if_neg (by omega), give_out (E := E) (l := l) (fun e he => h e (List.mem_cons_of_mem _ he)) hv]; rfl
end Go.Proofs.Ytkjccabdpeldhaa.Fl
namespace Go.Proofs.Ytkjccabdpeldhaa.Fl
open Go Go.Eng
set_option maxRecDepth 100000
def loP (es : List TEdge) (nd i : Nat) : Bool := nd.testBit (es.getD i default).From.toNat && !nd.testBit (es.getD i default).To.toNat
def loI (es : List TEdge) (nd : Nat) : List Nat := (List.range es.length).filter (loP es nd)
def lcI (es : List TEdge) (i : Nat) : Int := (es.getD i default).Capacity
def loR : List Int → Nat
  | [] => 0
  | e :: l => 2 ^ e.toNat ||| loR l
theorem loR_app : ∀ (l l' : List Int), loR (l ++ l') = loR l ||| loR l'
  | [], l' => by simp [loR]
  | e :: l, l' => by rw [List.cons_append, loR, loR, loR_app l l', Nat.or_assoc]
theorem loR_bit (l : List Int) (h : ∀ e ∈ l, 0 ≤ e) (i : Nat) : (loR l).testBit i = decide ((i : Int) ∈ l) := by
  induction l with
  | nil => simp [loR]
  | cons e l ih =>
    have := h e List.mem_cons_self
    rw [loR, Nat.testBit_or, ih fun e he => h e (List.mem_cons_of_mem _ he), Nat.testBit_two_pow]
    rw [Bool.eq_iff_iff]
    simp only [Bool.or_eq_true, decide_eq_true_eq, List.mem_cons]
    constructor
    · rintro (q | q)
      · left; omega
      · exact .inr q
    · rintro (q | q)
      · left; omega
      · exact .inr q
theorem loR_lt {l : List Int} {B : Nat} (h : ∀ e ∈ l, 0 ≤ e ∧ e < (B : Int)) : loR l < 2 ^ B := by
  induction l with
  | nil => exact Nat.two_pow_pos B
  | cons e l ih =>
    have := h e List.mem_cons_self
    exact Nat.or_lt_two_pow (Nat.pow_lt_pow_right (by omega) (by omega)) (ih fun e he => h e (List.mem_cons_of_mem _ he))
def loS (n : TNet) (nd : Nat) : List Int := sortN n ((loI n.Edges nd).map fun i : Nat => (i : Int))
theorem getD_memD {α : Type} [Inhabited α] {l : List α} {k : Nat} (h : k < l.length) : l.getD k default ∈ l := by rw [getD_ltD h]; exact List.getElem_mem h
theorem nv_get {n : TNet} (h : NV n) {i : Nat} (hi : i < n.Edges.length) : EV n.N (n.Edges.getD i default) := h.ev _ (getD_memD hi)
theorem collect_ok {n : TNet} (h : NV n) {nd : Nat} (hnd : nd < 4611686018427387904) : slices_Collect_int_F n (nd : Int) = some ((loI n.Edges nd).map fun i : Nat => (i : Int)) := by
  have hel := h.el
  obtain ⟨s, e, hs⟩ := leaving_ok h hnd col_b (fun k s => s ++ [(k : Int)]) (fun k s => s = ((List.range k).filter (loP n.Edges nd)).map fun i : Nat => (i : Int)) (fun _ _ => trivial)
    (fun k s hk hs => by
      have hlen : ((List.range k).filter (loP n.Edges nd)).length ≤ k := Nat.le_trans (List.length_filter_le _ _) (by simp)
      have hp : loP n.Edges nd k = (nd.testBit (n.Edges.getD k default).From.toNat && !nd.testBit (n.Edges.getD k default).To.toNat) := rfl
      refine ⟨fun hb => ⟨?_, ?_⟩, fun hb => ?_⟩
      · unfold col_b
        rw [ap_p (by rw [hs]; simp; omega)]
      · rw [List.range_succ, List.filter_append, List.filter_cons, List.filter_nil, hp, hb, hs]; simp
      · rw [List.range_succ, List.filter_append, List.filter_cons, List.filter_nil, hp, hb, hs]; simp)
    [] (by simp)
  unfold slices_Collect_int_F
  rw [e, hs]; rfl
section
variable {n : TNet} (h : NV n)
include h
theorem loS_ok (nd : Nat) : sortG n ((loI n.Edges nd).map fun i : Nat => (i : Int)) = true := by
  have hel := h.el
  refine sortG_iff.2 ⟨fun e he => ?_, fun i hi => ?_, ?_⟩
  · have := (h.ev e he).cp; omega
  · obtain ⟨j, hj, rfl⟩ := List.mem_map.1 hi
    have := List.mem_range.1 (List.mem_filter.1 hj).1
    omega
  · rw [List.length_map]
    have : (loI n.Edges nd).length ≤ n.Edges.length := Nat.le_trans (List.length_filter_le _ _) (by simp)
    omega
theorem loS_mem {nd : Nat} {i : Int} (hi : i ∈ loS n nd) : ∃ j : Nat, i = (j : Int) ∧ j < n.Edges.length ∧ loP n.Edges nd j = true := by
  have := ((sortN_perm (loS_ok h nd)).1.mem_iff).1 hi
  obtain ⟨j, hj, rfl⟩ := List.mem_map.1 this
  obtain ⟨h1, h2⟩ := List.mem_filter.1 hj
  exact ⟨j, rfl, List.mem_range.1 h1, h2⟩
theorem loS_len (nd : Nat) : (loS n nd).length = (loI n.Edges nd).length := by
  unfold loS; rw [sortN_len, List.length_map]
theorem loS_len_le (nd : Nat) : (loS n nd).length ≤ 40 := by
  have hel := h.el
  rw [loS_len h]
  exact Nat.le_trans (Nat.le_trans (List.length_filter_le _ _) (by simp)) hel
theorem lcap_bd {nd : Nat} {x : Int} (hx : x ∈ (loS n nd).map (capAt n)) : 0 ≤ x ∧ x ≤ 10000 := by
  obtain ⟨i, hi, rfl⟩ := List.mem_map.1 hx
  obtain ⟨j, rfl, hj, _⟩ := loS_mem h hi
  have := (nv_get h hj).cp
  unfold capAt; rw [Int.toNat_natCast]; exact this
theorem rest_loS (f nd : Nat) : rest 0 (((loS n nd).drop f).map (capAt n)) = rest f ((loI n.Edges nd).map (lcI n.Edges)) := by
  obtain ⟨h1, h2⟩ := sortN_perm (loS_ok h nd)
  have h3 : ((loS n nd).map (capAt n)).Pairwise (fun x y => y ≤ x) := by rw [List.pairwise_map]; exact h2
  rw [List.map_drop, ← rest_sorted f h3 fun x hx => (lcap_bd h hx).1]
  have h4 := h1.map (capAt n)
  rw [List.map_map] at h4
  exact rest_perm h4 f
theorem lrest_bd {f nd : Nat} {L : List Int} (hL : ∀ x ∈ L, x ∈ loS n nd) : 0 ≤ rest 0 ((L.drop f).map (capAt n)) ∧ rest 0 ((L.drop f).map (capAt n)) ≤ L.length * 10000 := by
  have h1 : ∀ x ∈ (L.drop f).map (capAt n), 0 ≤ x ∧ x ≤ 10000 := fun x hx => by
    obtain ⟨i, hi, rfl⟩ := List.mem_map.1 hx
    exact lcap_bd h (List.mem_map.2 ⟨i, hL i (List.mem_of_mem_drop hi), rfl⟩)
  refine ⟨rest_nn 0 fun x hx => (h1 x hx).1, ?_⟩
  have := rest0_le (B := 10000) fun x hx => (h1 x hx).2
  rw [List.length_map, List.length_drop] at this
  omega
theorem fails_b2 {f nd : Nat} : ∃ x, lp (flow_Worst_b2 n (f : Int) (loS n nd) ((loI n.Edges nd).map fun i : Nat => (i : Int))) FU (0, (⟨0, 0, (nd : Int)⟩ : TFailure)) = some (.inl (x, (⟨((loR ((loS n nd).take f) : Nat) : Int), rest f ((loI n.Edges nd).map (lcI n.Edges)), (nd : Int)⟩ : TFailure))) := by
  have hel := h.el
  have hlen := loS_len h nd
  have hlen2 := loS_len_le h nd
  generalize hm : loS n nd = m at hlen hlen2
  have hmem : ∀ {i : Int}, i ∈ m → ∃ j : Nat, i = (j : Int) ∧ j < n.Edges.length ∧ loP n.Edges nd j = true := fun hi => loS_mem h (by rw [hm]; exact hi)
  obtain ⟨s', e, h1, h2⟩ := lp_fold (body := flow_Worst_b2 n (f : Int) m ((loI n.Edges nd).map fun i : Nat => (i : Int))) (fun k x => x.1 = (k : Int) ∧ x.2 = (⟨((loR ((m.take k).take f) : Nat) : Int), rest 0 (((m.take k).drop f).map (capAt n)), (nd : Int)⟩ : TFailure)) m.length (by omega) (fun k x hk ⟨h1, h2⟩ => by
    obtain ⟨i, c⟩ := x
    simp only at h1 h2
    subst h1 h2
    obtain ⟨j, hj, hj2, _⟩ := hmem (getD_memD hk)
    have hcap := (nv_get h hj2).cp
    have hTl : (m.take k).length = k := by rw [List.length_take]; omega
    have hor : loR ((m.take k).take f) < 2 ^ 40 := loR_lt fun e he => by
      obtain ⟨a, rfl, ha, _⟩ := hmem (List.mem_of_mem_take (List.mem_of_mem_take he)); omega
    have hrb := lrest_bd h (f := f) (nd := nd) (L := m.take k) (fun x hx => by rw [hm]; exact List.mem_of_mem_take hx)
    rw [hTl] at hrb
    unfold flow_Worst_b2
    simp only [cn_dec, jn_d, List.length_map]
    rw [if_pos (by omega), gd_p _ (by omega), wr_id (x := (k : Int) + 1) (by omega) (by omega), Int.toNat_natCast, hj, List.take_succ_eq_append_getElem hk, ← getD_ltD hk, hj]
    by_cases q : k < f
    · rw [if_pos (by omega), gd_p _ (by omega), bshl_one (by omega)]
      refine ⟨_, rfl, rfl, ?_⟩
      generalize m.take k = T at hTl hor
      have e1 : (T ++ [(j : Int)]).take f = T.take f ++ [(j : Int)] := by
        rw [List.take_of_length_le (l := T ++ [(j : Int)]) (by simp; omega), List.take_of_length_le (l := T) (by omega)]
      have e2 : (T ++ [(j : Int)]).drop f = [] := List.drop_of_length_le (by simp; omega)
      have e3 : T.drop f = [] := List.drop_of_length_le (by omega)
      have hj3 : 2 ^ j < 2 ^ 40 := Nat.pow_lt_pow_right (by omega) (by omega)
      obtain ⟨z, hz⟩ : ∃ z : Nat, z = 2 ^ j := ⟨_, rfl⟩
      have h2j : (2 : Int) ^ j = (z : Int) := by rw [hz]; norm_cast
      rw [e1, e2, e3, loR_app, h2j, bor_nat (by omega) (by omega) (by omega) (by omega)]
      rw [Int.toNat_natCast, Int.toNat_natCast]
      simp [loR, ← hz, rest]
    · rw [if_neg (by omega), ix_n hj2]
      have e1 : (m.take k ++ [(j : Int)]).take f = (m.take k).take f := List.take_append_of_le_length (by omega)
      have e2 : (m.take k ++ [(j : Int)]).drop f = (m.take k).drop f ++ [(j : Int)] := List.drop_append_of_le_length (by omega)
      rw [e1, e2, List.map_append, rest_app0, wr_id (by omega) (by omega)]
      refine ⟨_, rfl, rfl, ?_⟩
      simp [rest, capAt]) (fun x ⟨h1, h2⟩ => by
    unfold flow_Worst_b2
    simp only [cn_dec, List.length_map]
    rw [if_neg (by omega)]) (0, ⟨0, 0, (nd : Int)⟩) ⟨rfl, by simp [loR, rest]⟩
  subst hm
  rw [List.take_length, rest_loS h] at h2
  exact ⟨s'.1, by rw [e, ← h2]⟩
end
def Good (n : TNet) (s t nd : Nat) : Prop := nd < 2 ^ n.N.toNat ∧ nd.testBit s = true ∧ nd.testBit t = false
def wV (n : TNet) (f nd : Nat) : Int := rest f ((loI n.Edges nd).map (lcI n.Edges))
def wF (n : TNet) (f nd : Nat) : TFailure := ⟨((loR ((loS n nd).take f) : Nat) : Int), wV n f nd, (nd : Int)⟩
theorem wV_bd {n : TNet} (h : NV n) (f nd : Nat) : 0 ≤ wV n f nd ∧ wV n f nd ≤ 400000 := by
  unfold wV
  rw [← rest_loS h]
  have := lrest_bd h (f := f) (nd := nd) (L := loS n nd) (fun _ hx => hx)
  have := loS_len_le h nd
  omega
theorem Worst_ok {n : TNet} {s t f : Nat} (h : EndsV n s t) (hf : f ≤ 3) : ∃ nd, Good n s t nd ∧ flow_Worst_F n (s : Int) (t : Int) (f : Int) = some (wF n f nd, 0) ∧ ∀ nd', Good n s t nd' → wV n f nd ≤ wV n f nd' := by
  have hn := h.v.nn; have hs := h.hs; have ht := h.ht; have hne := h.ne
  have hp : (2 : Int) ^ n.N.toNat = ((2 ^ n.N.toNat : Nat) : Int) := by norm_cast
  have hp2 : 2 ^ n.N.toNat ≤ 2 ^ 12 := Nat.pow_le_pow_right (by omega) (by omega)
  have hsh : bshl .i64 1 n.N = ((2 ^ n.N.toNat : Nat) : Int) := by
    rw [← hp]
    conv => lhs; rw [show n.N = ((n.N.toNat : Nat) : Int) by omega]
    exact bshl_one (by omega)
  obtain ⟨s', e, h1, h2⟩ := lp_fold (body := flow_Worst_b1 n (s : Int) (t : Int) (f : Int)) (fun k x => x.1 = (k : Int) ∧ ((x.2 = (⟨0, -1, 0⟩ : TFailure) ∧ ∀ nd, nd < k → ¬ Good n s t nd) ∨ ∃ nd, nd < k ∧ Good n s t nd ∧ x.2 = wF n f nd ∧ ∀ nd', nd' < k → Good n s t nd' → wV n f nd ≤ wV n f nd')) (2 ^ n.N.toNat) (by omega) (fun k x hk ⟨h1, h2⟩ => by
    obtain ⟨i, c⟩ := x
    simp only at h1 h2
    subst h1
    have skip : ¬ Good n s t k → ∃ s', (some (Ct.nx ((wr ((k : Int) + 1)), c)) : Option (Ct (Int × TFailure) (TFailure × Int))) = some (.nx s') ∧ s'.1 = ((k + 1 : Nat) : Int) ∧ ((s'.2 = (⟨0, -1, 0⟩ : TFailure) ∧ ∀ nd, nd < k + 1 → ¬ Good n s t nd) ∨ ∃ nd, nd < k + 1 ∧ Good n s t nd ∧ s'.2 = wF n f nd ∧ ∀ nd', nd' < k + 1 → Good n s t nd' → wV n f nd ≤ wV n f nd') := fun hg => by
      rw [wr_id (by omega) (by omega)]
      refine ⟨_, rfl, by simp only; omega, ?_⟩
      rcases h2 with ⟨rfl, h2⟩ | ⟨nd, a1, a2, a3, a4⟩
      · exact .inl ⟨rfl, fun nd hnd => by
          by_cases q : nd = k
          · subst q; exact hg
          · exact h2 nd (by omega)⟩
      · exact .inr ⟨nd, by omega, a2, a3, fun nd' b1 b2 => by
          by_cases q : nd' = k
          · subst q; exact absurd b2 hg
          · exact a4 nd' (by omega) b2⟩
    unfold flow_Worst_b1
    simp only [cn_dec, jn_d]
    rw [hsh, if_pos (by omega), gd_p _ (by omega), bit0 (by omega) (by omega) (by omega), Int.toNat_natCast]
    cases b1 : k.testBit s with
    | false =>
      simp only [Bool.not_false, cn_t]
      exact skip fun hg => by rw [hg.2.1] at b1; cases b1
    | true =>
      simp only [Bool.not_true, cn_f]
      rw [gd_p _ (by omega), bit1 (by omega) (by omega) (by omega), Int.toNat_natCast]
      cases b2 : k.testBit t with
      | true =>
        simp only [cn_t]
        exact skip fun hg => by rw [hg.2.2] at b2; cases b2
      | false =>
        simp only [cn_f]
        have hg : Good n s t k := ⟨hk, b1, b2⟩
        have hsl : sortN n ((loI n.Edges k).map fun i : Nat => (i : Int)) = loS n k := rfl
        obtain ⟨x2, e2⟩ := fails_b2 h.v (f := f) (nd := k)
        rw [collect_ok h.v (by omega), bd_s, gd_p _ (loS_ok h.v k)]
        simp only [lt_d, hsl]
        rw [e2, bd_s, smK_l]
        simp only
        have hcut : (⟨((loR ((loS n k).take f) : Nat) : Int), rest f ((loI n.Edges k).map (lcI n.Edges)), (k : Int)⟩ : TFailure) = wF n f k := rfl
        have hval : (rest f ((loI n.Edges k).map (lcI n.Edges))) = wV n f k := rfl
        rw [hcut, hval, wr_id (x := (k : Int) + 1) (by omega) (by omega)]
        have hb := wV_bd h.v f k
        rcases h2 with ⟨rfl, h2⟩ | ⟨nd, a1, a2, rfl, a4⟩
        · rw [if_pos (by decide), cn_t]
          refine ⟨_, rfl, by simp only; omega, .inr ⟨k, by omega, hg, rfl, fun nd' b1 b2 => ?_⟩⟩
          by_cases q : nd' = k
          · subst q; exact Int.le_refl _
          · exact absurd b2 (h2 nd' (by omega))
        · have hb2 := wV_bd h.v f nd
          have hv : (wF n f nd).Value = wV n f nd := rfl
          rw [hv, if_neg (by omega)]
          by_cases q : wV n f k < wV n f nd
          · rw [if_pos q]
            refine ⟨_, rfl, by simp only; omega, .inr ⟨k, by omega, hg, rfl, fun nd' b1 b2 => ?_⟩⟩
            by_cases q2 : nd' = k
            · subst q2; exact Int.le_refl _
            · have := a4 nd' (by omega) b2; omega
          · rw [if_neg q]
            refine ⟨_, rfl, by simp only; omega, .inr ⟨nd, by omega, a2, rfl, fun nd' b1 b2 => ?_⟩⟩
            by_cases q2 : nd' = k
            · subst q2; omega
            · exact a4 nd' (by omega) b2) (fun x ⟨h1, _⟩ => by
    unfold flow_Worst_b1
    simp only [cn_dec]
    rw [hsh, if_neg (by omega)]) (0, ⟨0, -1, 0⟩) ⟨rfl, .inl ⟨rfl, fun nd hnd => by omega⟩⟩
  have hex : Good n s t (2 ^ s) := ⟨Nat.pow_lt_pow_right (by omega) (by omega), by rw [Nat.testBit_two_pow]; simp, by rw [Nat.testBit_two_pow]; simp; omega⟩
  rcases h2 with ⟨_, h2⟩ | ⟨nd, a1, a2, a3, a4⟩
  · exact absurd hex (h2 _ hex.1)
  · refine ⟨nd, a2, ?_, fun nd' b => a4 nd' b.1 b⟩
    unfold flow_Worst_F
    simp only [jn_d, isPair_ok h, bd_s, Bool.not_true, cn_f, isInF]
    rw [decide_eq_true (show (0 : Int) ≤ (f : Int) by omega), decide_eq_true (show (f : Int) ≤ 3 by omega)]
    simp only [Bool.and_self, Bool.not_true, cn_f]
    rw [gd_p _ (by omega), e, bd_s, smK_l, a3]
def lpop (F : Nat) : Nat := (List.range 32).countP F.testBit
theorem rest_out {α : Type} {c : α → Int} {p : α → Bool} : ∀ {l : List α} {k : Nat}, (∀ x ∈ l, 0 ≤ c x) → l.countP p ≤ k → rest k (l.map c) ≤ rest 0 (l.map fun x => if p x then 0 else c x)
  | [], k, _, _ => by simp [rest_nil]
  | a :: l, k, h, hk => by
    have h' := fun x hx => h x (List.mem_cons_of_mem a hx)
    have h0 := h a List.mem_cons_self
    rw [List.countP_cons] at hk
    rw [List.map_cons, List.map_cons, rest_z]
    cases hp : p a
    · rw [hp] at hk
      have ih := rest_out (l := l) (k := k) h' (by simpa using hk)
      cases k with
      | zero => rw [rest_z]; simp only [Bool.false_eq_true, if_false]; omega
      | succ k => rw [rest_s]; simp only [Bool.false_eq_true, if_false]; omega
    · rw [hp] at hk
      simp only [if_true] at hk ⊢
      cases k with
      | zero => omega
      | succ k =>
        have ih := rest_out (p := p) (l := l) (k := k) h' (by omega)
        rw [rest_s]; omega
theorem loR_pop (l : List Int) : lpop (loR l) ≤ l.length := by
  have key : ∀ (x : Nat) (y : Nat) (n : Nat), (List.range n).countP (2 ^ x ||| y).testBit ≤ 1 + (List.range n).countP y.testBit := fun x y n => by
    have h1 : ∀ m, (List.range m).countP (2 ^ x ||| y).testBit ≤ (List.range m).countP (fun i => decide (i = x)) + (List.range m).countP y.testBit := fun m => by
      induction m with
      | zero => simp
      | succ m ih =>
        rw [List.range_succ, List.countP_append, List.countP_append, List.countP_append]
        simp only [List.countP_cons, List.countP_nil, Nat.testBit_or, Nat.testBit_two_pow]
        by_cases q : m = x
        · subst q; simp; split <;> omega
        · have : decide (x = m) = false := by simp; omega
          rw [this]
          simp only [Bool.false_or, q]
          simp
          omega
    have h2 : ∀ m, (List.range m).countP (fun i => decide (i = x)) ≤ 1 := fun m => by
      have h3 : ∀ m, (List.range m).countP (fun i => decide (i = x)) = if x < m then 1 else 0 := fun m => by
        induction m with
        | zero => simp
        | succ m ih =>
          rw [List.range_succ, List.countP_append, ih]
          simp only [List.countP_cons, List.countP_nil]
          by_cases q : m = x
          · subst q; simp
          · simp only [q, decide_false, Bool.false_eq_true, if_false]
            by_cases q2 : x < m
            · rw [if_pos q2, if_pos (show x < m + 1 by omega)]
            · rw [if_neg q2, if_neg (show ¬ x < m + 1 by omega)]
      rw [h3]; split <;> omega
    have := h1 n
    have := h2 n
    omega
  induction l with
  | nil => simp [loR, lpop, List.countP_eq_zero]
  | cons e l ih =>
    have := key e.toNat (loR l) 32
    unfold lpop at *
    rw [loR, List.length_cons]
    omega
theorem cutE_map {α : Type} (g : α → TEdge) (p : Nat → Bool) : ∀ L : List α, cutE (L.map g) p = rest 0 ((L.filter fun i => p (g i).From.toNat && !p (g i).To.toNat).map fun i => (g i).Capacity)
  | [] => rfl
  | a :: L => by
    have ih := cutE_map g p L
    simp only [List.map_cons, cutE, List.filter_cons]
    split
    · rw [List.map_cons, rest_z, ih]
    · rw [ih]; omega
theorem cutE_wo (n : TNet) (F nd : Nat) : cutE (wo n F).Edges nd.testBit = rest 0 ((loI n.Edges nd).map fun i => if F.testBit i then 0 else lcI n.Edges i) := by
  unfold wo
  simp only
  rw [cutE_map]
  have e1 : ((List.range n.Edges.length).filter fun i => nd.testBit (if F.testBit i then (⟨(n.Edges.getD i default).From, (n.Edges.getD i default).To, 0⟩ : TEdge) else n.Edges.getD i default).From.toNat && !nd.testBit (if F.testBit i then (⟨(n.Edges.getD i default).From, (n.Edges.getD i default).To, 0⟩ : TEdge) else n.Edges.getD i default).To.toNat) = loI n.Edges nd := by
    unfold loI
    refine List.filter_congr fun i _ => ?_
    unfold loP
    split <;> rfl
  rw [e1]
  congr 1
  refine List.map_congr_left fun i _ => ?_
  split <;> rfl
theorem lo_count {es : List TEdge} (hl : es.length ≤ 32) (F S : Nat) : (loI es S).countP F.testBit ≤ lpop F := by
  unfold loI lpop
  refine Nat.le_trans (List.filter_sublist.countP_le) ?_
  exact (List.range_sublist.2 hl).countP_le
theorem wo_ge {n : TNet} (h : NV n) (hl : n.Edges.length ≤ 32) {f F : Nat} (hF : lpop F ≤ f) (nd : Nat) : wV n f nd ≤ cutE (wo n F).Edges nd.testBit := by
  rw [cutE_wo]
  exact rest_out (fun i hi => (nv_get h (List.mem_range.1 (List.mem_filter.1 hi).1)).cp.1) (Nat.le_trans (lo_count hl F nd) hF)
theorem loR_pop' {l : List Int} {k : Nat} (h : l.length ≤ k) : lpop (loR l) ≤ k := Nat.le_trans (loR_pop l) h
theorem fail_lt {n : TNet} (h : NV n) (f nd : Nat) : loR ((loS n nd).take f) < 2 ^ n.Edges.length := loR_lt fun e he => by
  obtain ⟨a, rfl, ha, _⟩ := loS_mem h (List.mem_of_mem_take he); omega
theorem fail_eq {n : TNet} (h : NV n) (hl : n.Edges.length ≤ 32) (f nd : Nat) : cutE (wo n (loR ((loS n nd).take f))).Edges nd.testBit = wV n f nd := by
  refine Int.le_antisymm ?_ (wo_ge h hl (loR_pop' (by rw [List.length_take]; omega)) nd)
  rw [cutE_wo]
  have hp := (sortN_perm (loS_ok h nd)).1
  have hbit : ∀ i : Nat, (i : Int) ∈ (loS n nd).take f → (loR ((loS n nd).take f)).testBit i = true := fun i hi => by
    rw [loR_bit _ (fun e he => by obtain ⟨j, rfl, _⟩ := loS_mem h (List.mem_of_mem_take he); omega)]
    simpa using hi
  unfold wV
  rw [← rest_loS h]
  generalize loR ((loS n nd).take f) = F at hbit
  have e1 : rest 0 ((loI n.Edges nd).map fun i => if F.testBit i then 0 else lcI n.Edges i) = rest 0 ((loS n nd).map fun i : Int => if F.testBit i.toNat then 0 else capAt n i) := by
    have := hp.map (fun i : Int => if F.testBit i.toNat then 0 else capAt n i)
    rw [List.map_map] at this
    exact (rest_perm this 0).symm
  rw [e1]
  have e2 : rest 0 ((loS n nd).map fun i : Int => if F.testBit i.toNat then 0 else capAt n i) = rest 0 (((loS n nd).take f).map fun i : Int => if F.testBit i.toNat then 0 else capAt n i) + rest 0 (((loS n nd).drop f).map fun i : Int => if F.testBit i.toNat then 0 else capAt n i) := by
    rw [← rest_app0, ← List.map_append, List.take_append_drop]
  have e3 : rest 0 (((loS n nd).take f).map fun i : Int => if F.testBit i.toNat then 0 else capAt n i) ≤ 0 := by
    have : ((loS n nd).take f).map (fun i : Int => if F.testBit i.toNat then 0 else capAt n i) = ((loS n nd).take f).map fun _ => 0 := List.map_congr_left fun i hi => by
      obtain ⟨j, rfl, _⟩ := loS_mem h (List.mem_of_mem_take hi)
      rw [Int.toNat_natCast, hbit j hi]; rfl
    rw [this]
    have := rest0_le (B := 0) (l := ((loS n nd).take f).map fun _ => (0 : Int)) (fun x hx => by obtain ⟨_, _, rfl⟩ := List.mem_map.1 hx; omega)
    omega
  have e4 : rest 0 (((loS n nd).drop f).map fun i : Int => if F.testBit i.toNat then 0 else capAt n i) ≤ rest 0 (((loS n nd).drop f).map (capAt n)) := rest_mono 0 fun i hi => by
    have := (lcap_bd h (List.mem_map.2 ⟨i, List.mem_of_mem_drop hi, rfl⟩)).1
    split <;> omega
  omega
structure WorstV (n : TNet) (s t f nd : Nat) : Prop where
  good : Good n s t nd
  le : ∀ nd', Good n s t nd' → wV n f nd ≤ wV n f nd'
theorem MaxV.good {n : TNet} {F s t C : Nat} {v : Int} (h : MaxV (wo n F) s t v C) : Good n s t C := ⟨h.lt, h.cs, h.ct⟩
theorem WorstV.least {n : TNet} {s t f nd : Nat} (w : WorstV n s t f nd) (h : NV n) (hl : n.Edges.length ≤ 32) {F : Nat} (hF : lpop F ≤ f) {nd' : Nat} (g : Good n s t nd') : wV n f nd ≤ cutE (wo n F).Edges nd'.testBit :=
  Int.le_trans (w.le nd' g) (wo_ge h hl hF nd')
theorem WorstV.low {n : TNet} {s t f nd : Nat} (w : WorstV n s t f nd) (h : NV n) (hl : n.Edges.length ≤ 32) {F C : Nat} {v : Int} (hF : lpop F ≤ f) (hM : MaxV (wo n F) s t v C) : wV n f nd ≤ v := by
  rw [hM.eq]; exact w.least h hl hF hM.good
theorem WorstV.eq {n : TNet} {s t f nd : Nat} (w : WorstV n s t f nd) (h : NV n) (hl : n.Edges.length ≤ 32) {C : Nat} {v : Int} (hM : MaxV (wo n (loR ((loS n nd).take f))) s t v C) : v = wV n f nd := by
  refine Int.le_antisymm ?_ (w.low h hl (loR_pop' (by rw [List.length_take]; omega)) hM)
  rw [← fail_eq h hl]
  exact hM.le _ w.good.2.1 w.good.2.2
end Go.Proofs.Ytkjccabdpeldhaa.Fl
namespace Go.Proofs.Ytkjccabdpeldhaa.Fl
open Go Go.Eng
set_option maxRecDepth 100000
namespace Pc
theorem and_lane {a b m n : Nat} (ha : a < 256) (hm : m < 256) : (256 * b + a) &&& (256 * n + m) = 256 * (b &&& n) + (a &&& m) := by
  have hlt : a &&& m < 2 ^ 8 := Nat.lt_of_le_of_lt Nat.and_le_left ha
  refine Nat.eq_of_testBit_eq fun i => ?_
  rw [Nat.testBit_and, show (256 : Nat) = 2 ^ 8 from rfl, Nat.testBit_two_pow_mul_add b (show a < 2 ^ 8 from ha), Nat.testBit_two_pow_mul_add n (show m < 2 ^ 8 from hm), Nat.testBit_two_pow_mul_add _ hlt]
  split
  · rw [Nat.testBit_and]
  · rw [Nat.testBit_and]
def t1 (a : Nat) : Nat := ((a / 2) &&& 85) + (a &&& 85)
def t2 (a : Nat) : Nat := ((t1 a / 4) &&& 51) + (t1 a &&& 51)
def t3 (a : Nat) : Nat := (t2 a / 16 + t2 a) &&& 15
def cnt8 (a : Nat) : Nat := (List.range 8).countP a.testBit
theorem lane_facts : ∀ a : Fin 256, t1 a.val ≤ 170 ∧ t2 a.val ≤ 68 ∧ t2 a.val % 16 ≤ 4 ∧ t3 a.val = cnt8 a.val := by decide +kernel
theorem lane1 : ∀ (a : Fin 256) (e : Fin 2), ((a.val / 2 + 128 * e.val) &&& 85) = ((a.val / 2) &&& 85) := by decide +kernel
theorem lane2 : ∀ (a : Fin 256) (e : Fin 4), ((a.val / 4 + 64 * e.val) &&& 51) = ((a.val / 4) &&& 51) := by decide +kernel
theorem lane3 : ∀ (a : Fin 69) (e : Fin 5), ((a.val / 16 + 16 * e.val + a.val) &&& 15) = ((a.val / 16 + a.val) &&& 15) := by decide +kernel
theorem st1 {a b n : Nat} (ha : a < 256) : (((256 * b + a) / 2) &&& (256 * n + 85)) + ((256 * b + a) &&& (256 * n + 85)) = 256 * (((b / 2) &&& n) + (b &&& n)) + t1 a := by
  have e : (256 * b + a) / 2 = 256 * (b / 2) + (a / 2 + 128 * (b % 2)) := by omega
  have := lane1 ⟨a, ha⟩ ⟨b % 2, by omega⟩
  simp only at this
  rw [e, and_lane (by omega) (by omega), and_lane ha (by omega), this]
  unfold t1; omega
theorem st2 {a b n : Nat} (ha : a < 256) : (((256 * b + t1 a) / 4) &&& (256 * n + 51)) + ((256 * b + t1 a) &&& (256 * n + 51)) = 256 * (((b / 4) &&& n) + (b &&& n)) + t2 a := by
  have h1 := (lane_facts ⟨a, ha⟩).1
  simp only at h1
  have e : (256 * b + t1 a) / 4 = 256 * (b / 4) + (t1 a / 4 + 64 * (b % 4)) := by omega
  have := lane2 ⟨t1 a, by omega⟩ ⟨b % 4, by omega⟩
  simp only at this
  rw [e, and_lane (by omega) (by omega), and_lane (by omega) (by omega), this]
  unfold t2; omega
theorem st3 {a b n : Nat} (ha : a < 256) (hb : b % 16 ≤ 4) : ((256 * b + t2 a) / 16 + (256 * b + t2 a)) &&& (256 * n + 15) = 256 * ((b / 16 + b) &&& n) + t3 a := by
  have h1 := (lane_facts ⟨a, ha⟩).2.1
  simp only at h1
  have e : (256 * b + t2 a) / 16 + (256 * b + t2 a) = 256 * (b / 16 + b) + (t2 a / 16 + 16 * (b % 16) + t2 a) := by omega
  have := lane3 ⟨t2 a, by omega⟩ ⟨b % 16, by omega⟩
  simp only at this
  rw [e, and_lane (by omega) (by omega), this]
  unfold t3; omega
theorem t_small {d : Nat} (hd : d < 256) : t1 d ≤ 170 ∧ t2 d ≤ 68 ∧ t2 d % 16 ≤ 4 ∧ t3 d = cnt8 d := lane_facts ⟨d, hd⟩
theorem cnt8_le (a : Nat) : cnt8 a ≤ 8 := by
  unfold cnt8
  exact Nat.le_trans List.countP_le_length (by simp)
theorem u64_band {a b : Nat} (ha : a < 2 ^ 64) (hb : b < 2 ^ 64) : band .u64 (a : Int) (b : Int) = ((a &&& b : Nat) : Int) := by
  show IntKind.u64.wrap _ = _
  have e1 : (BitVec.ofInt IntKind.u64.bits (a : Int)).toNat = a := by
    show (BitVec.ofInt 64 (a : Int)).toNat = a
    rw [BitVec.toNat_ofInt]; omega
  have e2 : (BitVec.ofInt IntKind.u64.bits (b : Int)).toNat = b := by
    show (BitVec.ofInt 64 (b : Int)).toNat = b
    rw [BitVec.toNat_ofInt]; omega
  rw [BitVec.toNat_and, e1, e2]
  have : a &&& b ≤ a := Nat.and_le_left
  show ((a &&& b : Nat) : Int) % 18446744073709551616 = _
  omega
theorem u64_wrap {a : Nat} (ha : a < 2 ^ 64) : IntKind.u64.wrap (a : Int) = (a : Int) := by
  show (a : Int) % 18446744073709551616 = _
  omega
theorem u64_shr {a k : Nat} (hk : k ≤ 60) : bshr .u64 (a : Int) (k : Int) = ((a / 2 ^ k : Nat) : Int) := by
  show (a : Int).fdiv (2 ^ (min (k : Int).toNat 64)) = _
  rw [Int.toNat_natCast, Nat.min_eq_left (by omega), Int.fdiv_eq_ediv_of_nonneg _ (Int.le_of_lt (two_pow_pos k))]
  norm_cast
theorem z1 {d n : Nat} (hd : d < 256) : ((d / 2) &&& (256 * n + 85)) + (d &&& (256 * n + 85)) = t1 d := by
  have := st1 (a := d) (b := 0) (n := n) hd
  simpa using this
theorem z2 {d n : Nat} (hd : d < 256) : ((t1 d / 4) &&& (256 * n + 51)) + (t1 d &&& (256 * n + 51)) = t2 d := by
  have := st2 (a := d) (b := 0) (n := n) hd
  simpa using this
theorem z3 {d n : Nat} (hd : d < 256) : (t2 d / 16 + t2 d) &&& (256 * n + 15) = t3 d := by
  have := st3 (a := d) (b := 0) (n := n) hd (by omega)
  simpa using this
theorem q1 {a b c d : Nat} (ha : a < 256) (hb : b < 256) (hc : c < 256) (hd : d < 256) : ((256 * (256 * (256 * d + c) + b) + a) / 2 &&& 6148914691236517205) + ((256 * (256 * (256 * d + c) + b) + a) &&& 6148914691236517205) = 256 * (256 * (256 * t1 d + t1 c) + t1 b) + t1 a := by
  rw [show 6148914691236517205 = 256 * (256 * (256 * (256 * 1431655765 + 85) + 85) + 85) + 85 from rfl, st1 ha, st1 hb, st1 hc, z1 hd]
theorem q2 {a b c d : Nat} (ha : a < 256) (hb : b < 256) (hc : c < 256) (hd : d < 256) : ((256 * (256 * (256 * t1 d + t1 c) + t1 b) + t1 a) / 4 &&& 3689348814741910323) + ((256 * (256 * (256 * t1 d + t1 c) + t1 b) + t1 a) &&& 3689348814741910323) = 256 * (256 * (256 * t2 d + t2 c) + t2 b) + t2 a := by
  rw [show 3689348814741910323 = 256 * (256 * (256 * (256 * 858993459 + 51) + 51) + 51) + 51 from rfl, st2 ha, st2 hb, st2 hc, z2 hd]
theorem q3 {a b c d : Nat} (ha : a < 256) (hb : b < 256) (hc : c < 256) (hd : d < 256) : ((256 * (256 * (256 * t2 d + t2 c) + t2 b) + t2 a) / 16 + (256 * (256 * (256 * t2 d + t2 c) + t2 b) + t2 a)) &&& 1085102592571150095 = 256 * (256 * (256 * t3 d + t3 c) + t3 b) + t3 a := by
  have b3 := (t_small hb).2.2.1
  have c3 := (t_small hc).2.2.1
  have d3 := (t_small hd).2.2.1
  rw [show 1085102592571150095 = 256 * (256 * (256 * (256 * 252645135 + 15) + 15) + 15) + 15 from rfl, st3 ha (by omega), st3 hb (by omega), st3 hc (by omega), z3 hd]
theorem i64_band127 {a : Nat} (ha : a < 4611686018427387904) : band .i64 (wr (a : Int)) 127 = ((a % 128 : Nat) : Int) := by
  rw [wr_id (by omega) (by omega), band_nat (by omega) (by omega) (by omega) (by omega), Int.toNat_natCast]
  have : a &&& 127 = a % 2 ^ 7 := Nat.and_two_pow_sub_one_eq_mod a 7
  rw [show Int.toNat 127 = 127 from rfl, this]
theorem ones_ok {a b c d : Nat} (ha : a < 256) (hb : b < 256) (hc : c < 256) (hd : d < 256) : math_bits_OnesCount_F ((256 * (256 * (256 * d + c) + b) + a : Nat) : Int) = some ((cnt8 a + cnt8 b + cnt8 c + cnt8 d : Nat) : Int) := by
  obtain ⟨a1, a2, a3, a4⟩ := t_small ha
  obtain ⟨b1, b2, b3, b4⟩ := t_small hb
  obtain ⟨c1, c2, c3, c4⟩ := t_small hc
  obtain ⟨d1, d2, d3, d4⟩ := t_small hd
  have ca := cnt8_le a; have cb := cnt8_le b; have cc := cnt8_le c; have cd := cnt8_le d
  have r1 := q1 ha hb hc hd
  have r2 := q2 ha hb hc hd
  have r3 := q3 ha hb hc hd
  unfold math_bits_OnesCount_F math_bits_OnesCount64_F
  generalize hx : 256 * (256 * (256 * d + c) + b) + a = x at r1
  have hx1 : x < 2 ^ 32 := by omega
  have s1 : bshr .u64 (x : Int) 1 = ((x / 2 : Nat) : Int) := u64_shr (k := 1) (by omega)
  have e1 : band .u64 ((x / 2 : Nat) : Int) 6148914691236517205 = ((x / 2 &&& 6148914691236517205 : Nat) : Int) := u64_band (b := 6148914691236517205) (by omega) (by omega)
  have e2 : band .u64 (x : Int) 6148914691236517205 = ((x &&& 6148914691236517205 : Nat) : Int) := u64_band (b := 6148914691236517205) (by omega) (by omega)
  generalize hy : 256 * (256 * (256 * t1 d + t1 c) + t1 b) + t1 a = y at r1 r2
  have hy1 : y < 2 ^ 32 := by omega
  have s2 : bshr .u64 (y : Int) 2 = ((y / 4 : Nat) : Int) := u64_shr (k := 2) (by omega)
  have e3 : band .u64 ((y / 4 : Nat) : Int) 3689348814741910323 = ((y / 4 &&& 3689348814741910323 : Nat) : Int) := u64_band (b := 3689348814741910323) (by omega) (by omega)
  have e4 : band .u64 (y : Int) 3689348814741910323 = ((y &&& 3689348814741910323 : Nat) : Int) := u64_band (b := 3689348814741910323) (by omega) (by omega)
  generalize hz : 256 * (256 * (256 * t2 d + t2 c) + t2 b) + t2 a = z at r2 r3
  have hz1 : z < 2 ^ 32 := by omega
  have s3 : bshr .u64 (z : Int) 4 = ((z / 16 : Nat) : Int) := u64_shr (k := 4) (by omega)
  have e5 : band .u64 ((z / 16 + z : Nat) : Int) 1085102592571150095 = ((z / 16 + z &&& 1085102592571150095 : Nat) : Int) := u64_band (b := 1085102592571150095) (by omega) (by omega)
  rw [a4, b4, c4, d4] at r3
  generalize hv : 256 * (256 * (256 * cnt8 d + cnt8 c) + cnt8 b) + cnt8 a = v at r3
  have hv1 : v < 2 ^ 28 := by omega
  have s4 : bshr .u64 (v : Int) 8 = ((v / 256 : Nat) : Int) := u64_shr (k := 8) (by omega)
  have s5 : bshr .u64 ((v + v / 256 : Nat) : Int) 16 = (((v + v / 256) / 65536 : Nat) : Int) := u64_shr (k := 16) (by omega)
  have s6 : bshr .u64 ((v + v / 256 + (v + v / 256) / 65536 : Nat) : Int) 32 = (((v + v / 256 + (v + v / 256) / 65536) / 4294967296 : Nat) : Int) := u64_shr (k := 32) (by omega)
  simp only [s1, e1, e2]
  rw [← Int.natCast_add, r1, u64_wrap (by omega), s2, e3, e4, ← Int.natCast_add, r2, u64_wrap (by omega), s3, ← Int.natCast_add, u64_wrap (by omega), e5, r3, s4, ← Int.natCast_add, u64_wrap (by omega), s5, ← Int.natCast_add, u64_wrap (by omega), s6, ← Int.natCast_add, u64_wrap (by omega), i64_band127 (by omega), bd_s]
  generalize cnt8 a = A at *
  generalize cnt8 b = B at *
  generalize cnt8 c = C at *
  generalize cnt8 d = D at *
  have k1 : v / 256 = 256 * (256 * D + C) + B := by omega
  have k2 : (v + v / 256) / 65536 = 256 * D + (C + D) := by omega
  have k3 : v + v / 256 + (v + v / 256) / 65536 = 16777216 * D + 65536 * (C + D) + 256 * (B + C + D) + (A + B + C + D) := by omega
  have k4 : (v + v / 256 + (v + v / 256) / 65536) / 4294967296 = 0 := by omega
  congr 2
  rw [k4, k3]
  omega
theorem cnt_split {y a k : Nat} (ha : a < 256) : (List.range (8 + k)).countP (256 * y + a).testBit = cnt8 a + (List.range k).countP y.testBit := by
  rw [List.range_add, List.countP_append, List.countP_map]
  unfold cnt8
  congr 1
  · refine List.countP_congr fun i hi => ?_
    have hi := List.mem_range.1 hi
    rw [show (256 : Nat) = 2 ^ 8 from rfl, Nat.testBit_two_pow_mul_add _ (show a < 2 ^ 8 from ha), if_pos hi]
  · refine List.countP_congr fun i hi => ?_
    simp only [Function.comp]
    rw [show (256 : Nat) = 2 ^ 8 from rfl, Nat.testBit_two_pow_mul_add _ (show a < 2 ^ 8 from ha), if_neg (by omega), Nat.add_sub_cancel_left]
theorem pop_ok {F : Nat} (hF : F < 2 ^ 32) : math_bits_OnesCount_F (IntKind.u64.wrap (F : Int)) = some ((lpop F : Nat) : Int) := by
  rw [u64_wrap (by omega)]
  have e : F = 256 * (256 * (256 * (F / 16777216) + F / 65536 % 256) + F / 256 % 256) + F % 256 := by omega
  have h := ones_ok (a := F % 256) (b := F / 256 % 256) (c := F / 65536 % 256) (d := F / 16777216) (by omega) (by omega) (by omega) (by omega)
  rw [← e] at h
  rw [h]
  have : lpop F = cnt8 (F % 256) + cnt8 (F / 256 % 256) + cnt8 (F / 65536 % 256) + cnt8 (F / 16777216) := by
    unfold lpop
    conv => lhs; rw [e]
    rw [show 32 = 8 + 24 from rfl, cnt_split (by omega), show 24 = 8 + 16 from rfl, cnt_split (by omega), show 16 = 8 + 8 from rfl, cnt_split (by omega)]
    unfold cnt8
    omega
  rw [this]
end Pc
instance (n : TNet) (s t c : Nat) : Decidable (Good n s t c) := by unfold Good; infer_instance
theorem Failure_ok {n : TNet} {s t f F c : Nat} (h : EndsV n s t) (hl : n.Edges.length ≤ 32) (hf : f ≤ 3) (hF : (F : Int) < 2 ^ n.Edges.length) (v : Int) : flow_CheckWorst_F n (s : Int) (t : Int) (f : Int) ⟨(F : Int), v, (c : Int)⟩ = some (decide (lpop F ≤ f ∧ Good n s t c ∧ cutE (wo n F).Edges c.testBit = v)) := by
  have hn := h.v.nn; have hs := h.hs; have ht := h.ht
  have hF' : F < 2 ^ n.Edges.length := by exact_mod_cast hF
  have hF32 : F < 2 ^ 32 := Nat.lt_of_lt_of_le hF' (Nat.pow_le_pow_right (by omega) hl)
  have hgood : (0 ≤ (c : Int) ∧ (c : Int) < 2 ^ (wo n F).N.toNat ∧ (c : Int).toNat.testBit s = true ∧ (c : Int).toNat.testBit t = false) ↔ Good n s t c := by
    have e : (c : Int) < 2 ^ (wo n F).N.toNat ↔ c < 2 ^ n.N.toNat := by
      show (c : Int) < 2 ^ n.N.toNat ↔ _
      exact_mod_cast Iff.rfl
    rw [e, Int.toNat_natCast]
    exact ⟨fun q => ⟨q.2.1, q.2.2.1, q.2.2.2⟩, fun q => ⟨by omega, q.1, q.2.1, q.2.2⟩⟩
  unfold flow_CheckWorst_F
  simp only [jn_d]
  rw [Without_ok h.v hF, bd_s]
  simp only [bne_self_eq_false, cn_f, isInF, bd_s]
  rw [decide_eq_true (show (0 : Int) ≤ (f : Int) by omega), decide_eq_true (show (f : Int) ≤ 3 by omega)]
  simp only [Bool.and_self, Bool.not_true, cn_f]
  rw [Pc.pop_ok hF32, bd_s, checkCut_ok ⟨h.v.wo F, hs, ht, h.ne⟩, bd_s]
  by_cases c1 : lpop F ≤ f
  · rw [decide_eq_false (show ¬ ((lpop F : Nat) : Int) > (f : Int) by omega), cn_f]
    by_cases c2 : Good n s t c
    · rw [if_pos (hgood.2 c2)]
      simp only [cn_t, Int.toNat_natCast]
      by_cases c3 : cutE (wo n F).Edges c.testBit = v
      · rw [decide_eq_true ⟨c1, c2, c3⟩, c3]; simp
      · rw [decide_eq_false fun q : lpop F ≤ f ∧ Good n s t c ∧ cutE (wo n F).Edges c.testBit = v => c3 q.2.2]; simp [c3]
    · rw [if_neg fun q => c2 (hgood.1 q), decide_eq_false fun q : lpop F ≤ f ∧ Good n s t c ∧ cutE (wo n F).Edges c.testBit = v => c2 q.2.1]; simp only [cn_f]
  · rw [decide_eq_true (show ((lpop F : Nat) : Int) > (f : Int) by omega), cn_t, decide_eq_false fun q : lpop F ≤ f ∧ Good n s t c ∧ cutE (wo n F).Edges c.testBit = v => c1 q.1]
theorem Worst_checked {n : TNet} {s t f nd : Nat} (h : EndsV n s t) (hl : n.Edges.length ≤ 32) (hf : f ≤ 3) (g : Good n s t nd) : flow_CheckWorst_F n (s : Int) (t : Int) (f : Int) (wF n f nd) = some true := by
  have hf2 : ((loR ((loS n nd).take f) : Nat) : Int) < 2 ^ n.Edges.length := by have := fail_lt h.v f nd; exact_mod_cast this
  unfold wF
  rw [Failure_ok h hl hf hf2, decide_eq_true ⟨loR_pop' (by rw [List.length_take]; omega), g, fail_eq h.v hl f nd⟩]
end Go.Proofs.Ytkjccabdpeldhaa.Fl
namespace Go.Proofs.Ytkjccabdpeldhaa.Fl
open Go Go.Eng
set_option maxRecDepth 100000
def sp (l : List Int) (i : Nat) : Int := l.getD i default
def spP (l : List Int) (i : Nat) : Int := if sp l i > 0 then sp l i else 0
def spN (l : List Int) (i : Nat) : Int := if sp l i > 0 then 0 else - sp l i
theorem sp_out {l : List Int} {i : Nat} (h : l.length ≤ i) : sp l i = 0 := by
  unfold sp; rw [List.getD_eq_getElem?_getD, List.getElem?_eq_none h]; rfl
structure SupV (n : TNet) (l : List Int) : Prop where
  v : NV n
  ll : (l.length : Int) = n.N
  lv : ∀ i, i < l.length → -100000 ≤ sp l i ∧ sp l i ≤ 100000
  z : sm l.length (sp l) = 0
instance (n : TNet) (l : List Int) : Decidable (SupV n l) := decidable_of_iff (NV n ∧ (l.length : Int) = n.N ∧ (∀ i, i < l.length → -100000 ≤ sp l i ∧ sp l i ≤ 100000) ∧ sm l.length (sp l) = 0) ⟨fun h => ⟨h.1, h.2.1, h.2.2.1, h.2.2.2⟩, fun h => ⟨h.v, h.ll, h.lv, h.z⟩⟩
def M0 (E : List TEdge) (l : List Int) (a b : Nat) : Int := (capM E a b + if a = 12 then spP l b else 0) + if b = 13 then spN l a else 0
def ssum (l : List Int) (S : Nat → Bool) : Int := sm 14 fun a => if S a then sp l a else 0
structure IsMet (n : TNet) (l A : List Int) : Prop where
  ok : okA n.Edges A
  eq : ∀ v, v < n.N.toNat → give n.Edges A v = sp l v
theorem IsMet.cut {n : TNet} {l A : List Int} (hs : SupV n l) (h : IsMet n l A) (S : Nat → Bool) : ssum l S ≤ cutE n.Edges S := by
  have hn := hs.v.nn; have hll := hs.ll
  refine Int.le_trans (Int.le_of_eq ?_) (give_set hn.2 hs.v.ev h.ok S)
  unfold ssum
  refine sm_congr fun v hv => ?_
  by_cases q : v < n.N.toNat
  · rw [h.eq v q]
  · rw [give_out hs.v.ev (by omega), sp_out (by omega)]
end Go.Proofs.Ytkjccabdpeldhaa.Fl
namespace Go.Proofs.Ytkjccabdpeldhaa.Fl
open Go Go.Eng
set_option maxRecDepth 100000
end Go.Proofs.Ytkjccabdpeldhaa.Fl
namespace Go.Proofs.Ytkjccabdpeldhaa
open Go Go.Eng
set_option maxRecDepth 100000
theorem net_nv {r : TReserve} (h : RV r) {s : Nat} (hc : Car r s) : Fl.NV (netL r s) := by
  have hv := net_fv h hc
  exact ⟨⟨by have := hv.nn; omega, hv.nn.2⟩, hv.el, fun e he => by have := hv.eg e he; exact ⟨this.1, this.2.1, this.2.2.1, this.2.2.2⟩⟩
theorem net_len {r : TReserve} (h : RV r) (s : Nat) : (netL r s).Edges.length ≤ 28 := by
  have := h.el; have := h.n; have := h.cl
  simp only [netL]; rw [lv_len]; omega
theorem net_N {r : TReserve} (h : RV r) (s : Nat) : (netL r s).N.toNat = r.Urgent.length + 1 := by
  have := h.n; have := h.ul
  simp only [netL]; omega
theorem wV_mg (r : TReserve) (s nd : Nat) : Fl.wV (netL r s) r.Faults.toNat nd = mgR r s nd + usum (lsu r) nd r.Urgent.length := by
  have : Fl.wV (netL r s) r.Faults.toNat nd = rest r.Faults.toNat ((outI (netL r s).Edges nd).map (capI (netL r s).Edges)) := rfl
  rw [this]
  unfold mgR mgN; omega
theorem usum_one {r : TReserve} (h : RV r) {nd k : Nat} (hb : nd.testBit k = true) : ∀ m, m ≤ r.Urgent.length → k < m → r.Urgent.getD k default ≤ usum (lsu r) nd m
  | 0, _, hk => absurd hk (by omega)
  | m + 1, hm, hk => by
    have h1 := usum_nn h nd m (by omega)
    have h2 := h.uv _ (getD_mem (l := r.Urgent) (k := m) (by omega))
    simp only [usum]
    rw [lsu_get (by omega)]
    by_cases e : k = m
    · subst e; rw [hb]; simp only [if_true]; omega
    · have := usum_one h hb m (by omega) (by omega)
      split <;> omega
end Go.Proofs.Ytkjccabdpeldhaa
namespace Go.Proofs.Ytkjccabdpeldhaa
open Go Go.Eng
set_option maxRecDepth 1000000
theorem sane_ok : law33_sane_F = some true := by kernel_rfl
end Go.Proofs.Ytkjccabdpeldhaa
