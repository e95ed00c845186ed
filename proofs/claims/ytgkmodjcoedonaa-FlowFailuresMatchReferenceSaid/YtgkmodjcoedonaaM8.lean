import Derived.Test.YtgkmodjcoedonaaM7
import Derived.KernelRfl
import Derived.Test.YtgkmodjcoedonaaM6
set_option linter.unusedVariables false
set_option linter.unusedSimpArgs false
set_option linter.unusedSectionVars false
namespace Go.Proofs.Ytgkmodjcoedonaa
open Go Go.Eng
set_option maxRecDepth 100000
theorem bentL_ok1 (l : List Int) (hl : l.length ≤ 900) {a b c : Int} (oa : okI a) (ob : okI b) (oc : okI c) : ∃ l', ref27_BentList_F l a b c = some l' ∧ l'.length ≤ 901 := by
 unfold ref27_BentList_F
 simp only [jn_d, lt_d, st_dd]
 rw [gd_p _ (by omega)]
 by_cases h : l.length = 0
 · rw [cn_beq, if_pos (by omega)]; exact ⟨_, rfl, by simp⟩
 · rw [cn_beq, if_neg (by omega)]
   obtain ⟨p1, p2⟩ := pickZ_lt c (n := (l.length : Int)) (by omega)
   obtain ⟨q1, q2⟩ := pickZ_lt a (n := 4) (by omega)
   rw [pick_r27 _ _ oc (by omega), bd_s, pick_r27 _ _ oa (by omega), bd_s]
   simp only [cn_beq]
   rw [gd_p _ ⟨p1, p2⟩, gd_p _ ⟨p1, p2⟩, gd_p _ ⟨p1, p2⟩, gd_p _ ⟨p1, p2⟩, gd_p _ ⟨p1, p2⟩, ap_p (by simp; omega)]
   split
   · exact ⟨_, rfl, by simp; omega⟩
   · split
     · exact ⟨_, rfl, by simp; omega⟩
     · split
       · exact ⟨_, rfl, by simp; omega⟩
       · exact ⟨_, rfl, by simp; omega⟩
theorem sp_set {l : List Int} {k : Nat} (hk : k < l.length) (x : Int) (j : Nat) : sp (l.set k x) j = if j = k then x else sp l j := getD_setD hk
theorem sp_rep (N i : Nat) : sp (List.replicate N 0) i = 0 := by
 unfold sp
 simp only [List.getD_eq_getElem?_getD, List.getElem?_replicate]
 split <;> rfl
theorem sup_last {n : TNet} (h : NV n) {l : List Int} {m : Nat} (hm : n.N.toNat = m + 1) (hl : l.length = m + 1) {B : Int} (hB : 0 ≤ B ∧ B ≤ 1000) (hr : ∀ i, i < m → -B ≤ sp l i ∧ sp l i ≤ B) (hlast : sp l m = - sm m (sp l)) : SupV n l := by
 have hn := h.nn
 have hb := sm_abs (f := sp l) (B := B) (k := m) hr
 have hm12 : m ≤ 11 := by omega
 have hBm : (m : Int) * B ≤ 11 * B := Int.mul_le_mul_of_nonneg_right (by omega) hB.1
 refine ⟨h, by omega, fun i hi => ?_, ?_⟩
 · by_cases q : i = m
   · subst q; rw [hlast]; omega
   · have := hr i (by omega); omega
 · rw [hl]
   show sm m (sp l) + sp l m = 0
   omega
theorem supplied_ok {n : TNet} (hn : MN n) {a : List Int} (oa : okL okI a) : ∃ l, ref27_Supplied_F n a = some l ∧ SupV n l ∧ ∀ i, i + 1 < n.N.toNat → -12 ≤ sp l i ∧ sp l i ≤ 12 := by
 have hN := hn.nn
 obtain ⟨m, hm⟩ : ∃ m, n.N.toNat = m + 1 := ⟨n.N.toNat - 1, by omega⟩
 unfold ref27_Supplied_F
 rw [gd_p _ (by omega), lt_d]
 simp only [jn_d]
 obtain ⟨s', e, h1, h2, h3, h4, h5⟩ := lp_fold (body := ref27_Supplied_b1 n a) (fun k z => z.2.1 = (k : Int) ∧ z.2.2.length = m + 1 ∧ (∀ i, i < k → -12 ≤ sp z.2.2 i ∧ sp z.2.2 i ≤ 12) ∧ (∀ i, k ≤ i → sp z.2.2 i = 0) ∧ z.1 = sm k (sp z.2.2)) m (by omega) (fun k z hk hz => by
   obtain ⟨g, i, L⟩ := z
   obtain ⟨rfl, h2, h3, h4, h5⟩ := hz
   simp only at h2 h3 h4 h5
   subst h5
   have hb := sm_abs (f := sp L) (B := 12) (k := k) h3
   unfold ref27_Supplied_b1
   simp only [cn_dec, jn_d]
   rw [wr_id (x := (k : Int) + 1) (by omega) (by omega), if_pos (by omega)]
   by_cases c : (k : Int) < (a.length : Int)
   · have hka : k < a.length := by omega
     have ok := okL_get oa hka
     rw [if_pos c, ix_n hka, pick_r27 _ _ ok (by omega), bd_s]
     obtain ⟨p1, p2⟩ := pickZ_lt (a.getD k default) (n := 25) (by omega)
     generalize pickZ (a.getD k default) 25 = x at p1 p2 ⊢
     have e1 : ∀ j, sp (L.set k (x - 12)) j = if j = k then x - 12 else sp L j := sp_set (by omega) _
     have e2 : (L.set k (x - 12)).getD k default = x - 12 := by have := e1 k; rw [if_pos rfl] at this; exact this
     rw [gd_p _ (by omega), st_dd, Int.toNat_natCast, wr_id (x := x - 12) (by omega) (by omega), gd_p _ (by rw [List.length_set]; omega), e2, wr_id (x := sm k (sp L) + (x - 12)) (by omega) (by omega)]
     refine ⟨_, rfl, by simp only; omega, by simp only [List.length_set]; exact h2, fun i hi => ?_, fun i hi => ?_, ?_⟩
     · simp only; rw [e1]
       by_cases q : i = k
       · rw [if_pos q]; omega
       · rw [if_neg q]; exact h3 i (by omega)
     · simp only; rw [e1, if_neg (by omega)]; exact h4 i (by omega)
     · simp only
       show _ = sm k (sp (L.set k (x - 12))) + sp (L.set k (x - 12)) k
       rw [e1 k, if_pos rfl, show sm k (sp (L.set k (x - 12))) = sm k (sp L) from sm_congr fun i hi => by rw [e1, if_neg (by omega)]]
   · have e2 : L.getD k default = 0 := h4 k (by omega)
     rw [if_neg c, gd_p _ (by omega), Int.toNat_natCast, e2, wr_id (x := sm k (sp L) + 0) (by omega) (by omega)]
     refine ⟨_, rfl, by simp only; omega, h2, fun i hi => ?_, fun i hi => h4 i (by omega), ?_⟩
     · simp only
       by_cases q : i = k
       · subst q; rw [h4 i (by omega)]; decide
       · exact h3 i (by omega)
     · show _ = sm k (sp L) + sp L k
       rw [h4 k (by omega)]) (fun z hz => by
   obtain ⟨g, i, L⟩ := z
   obtain ⟨rfl, _⟩ := hz
   unfold ref27_Supplied_b1
   simp only [cn_dec]
   rw [wr_id (x := (m : Int) + 1) (by omega) (by omega), if_neg (by omega)]) (0, 0, List.replicate n.N.toNat 0) ⟨rfl, by simp [hm], fun i hi => by omega, fun i _ => sp_rep _ i, rfl⟩
 obtain ⟨g, i, L⟩ := s'
 simp only at h1 h2 h3 h4 h5
 subst h1 h5
 have hb := sm_abs (f := sp L) (B := 12) (k := m) h3
 rw [e, bd_s, smK_l, cn_dec]
 simp only
 rw [if_pos (by omega), wr_id (x := n.N - 1) (by omega) (by omega), gd_p _ (by omega), st_dd, show (n.N - 1).toNat = m by omega, wr_id (x := 0 - sm m (sp L)) (by omega) (by omega)]
 have e1 : ∀ j, sp (L.set m (0 - sm m (sp L))) j = if j = m then 0 - sm m (sp L) else sp L j := sp_set (by omega) _
 have e3 : ∀ i, i < m → -12 ≤ sp (L.set m (0 - sm m (sp L))) i ∧ sp (L.set m (0 - sm m (sp L))) i ≤ 12 := fun i hi => by rw [e1, if_neg (by omega)]; exact h3 i hi
 refine ⟨_, rfl, sup_last hn.v hm (by rw [List.length_set]; exact h2) (B := 12) (by decide) e3 ?_, fun i hi => e3 i (by omega)⟩
 rw [e1, if_pos rfl, show sm m (sp (L.set m (0 - sm m (sp L)))) = sm m (sp L) from sm_congr fun i hi => by rw [e1, if_neg (by omega)]]
 omega
end Go.Proofs.Ytgkmodjcoedonaa
namespace Go.Proofs.Ytgkmodjcoedonaa
open Go Go.Eng
set_option maxRecDepth 100000
theorem loop_all {R : Type} {body : Int → Option (Ct Int R)} (N : Nat) (hN : N < 18446744073709551616) (step : ∀ k : Nat, k < N → body (k : Int) = some (.nx ((k + 1 : Nat) : Int))) (stop : body (N : Int) = some (.bk (N : Int))) : lp body FU 0 = some (.inl (N : Int)) := by
 obtain ⟨s', e, h⟩ := lp_fold (body := body) (fun k z => z = (k : Int)) N hN (fun k z hk hz => by subst hz; exact ⟨_, step k hk, rfl⟩) (fun z hz => by subst hz; exact stop) 0 rfl
 rw [e, h]
theorem imin_41 (x : Nat) : imin (x : Int) 41 = ((min x 41 : Nat) : Int) := by unfold imin; split <;> omega
theorem slc41 {α β : Type} (l : List α) (f : List α → Option β) : ∃ m : List α, slc l 0 (imin (l.length : Int) 41) f = f m ∧ m.length ≤ 41 := by
 have h := imin_41 l.length
 refine ⟨_, slc_p (by omega) (by rw [h]; omega) (by rw [h]; omega), ?_⟩
 have := (sub_get (l := l) (lo := 0) (hi := imin (l.length : Int) 41) (by omega) (by rw [h]; omega) (by rw [h]; omega)).1
 rw [this, h]
 simp only [Int.toNat_natCast]
 omega
theorem bent_loop {N : Int} {L : List TEdge} {a : Int} (oa : okI a) {p : Int} (hp : 0 ≤ p ∧ p < (L.length : Int)) (hl : L.length ≤ 16) : ∃ m : TNet, lp (ref27_Bent_b1 a p) FU (⟨N, L⟩ : TNet) = some (.inl m) ∧ m.Edges.length ≤ 41 := by
 obtain ⟨q1, q2⟩ := pickZ_lt a (n := 3) (by omega)
 obtain ⟨o, e, ho⟩ := lp_runF (body := ref27_Bent_b1 a p) (fun m : TNet => m.Edges.length ≤ 41 ∧ p < (m.Edges.length : Int)) (fun m => 50 - m.Edges.length)
   (fun o => match o with
     | .inl m => m.Edges.length ≤ 41
     | .inr _ => False) (fun m hm => by
     obtain ⟨h1, h2⟩ := hm
     unfold ref27_Bent_b1
     rw [pick_r27 _ _ oa (by omega), bd_s, wr_id (by omega) (by omega), cn_dec]
     by_cases c : (m.Edges.length : Int) < 39 + pickZ a 3
     · rw [if_pos c, gd_p _ ⟨hp.1, h2⟩, lt_d, ap_p (by simp; omega)]
       refine .inl ⟨_, rfl, ⟨by simp; omega, by simp; omega⟩, ?_⟩
       simp; omega
     · rw [if_neg c]
       exact .inr (.inl ⟨_, rfl, h1⟩))
   (⟨N, L⟩ : TNet) ⟨by simp only; omega, hp.2⟩ (by simp only; omega)
 match o, ho with
 | .inl m, ho => exact ⟨m, e, ho⟩
theorem bent_ok {n : TNet} (hn : MN n) {a b c : Int} (oa : okI a) (ob : okI b) (oc : okI c) : ∃ m, ref27_Bent_F n a b c = some m ∧ m.Edges.length ≤ 41 := by
 have hel := hn.el
 unfold ref27_Bent_F
 simp only [jn_d, lt_d, st_dd]
 rw [gd_p _ (by omega)]
 by_cases h : n.Edges.length = 0
 · rw [cn_beq, if_pos (by omega)]; exact ⟨_, rfl, by simp only; omega⟩
 · rw [cn_beq, if_neg (by omega)]
   obtain ⟨p1, p2⟩ := pickZ_lt c (n := (n.Edges.length : Int)) (by omega)
   obtain ⟨m, em, hm⟩ := bent_loop (N := n.N) ob (p := pickZ c (n.Edges.length : Int)) ⟨p1, p2⟩ hel
   rw [pick_r27 _ _ oc (by omega), bd_s, pick_r27 _ _ oa (by omega), bd_s]
   simp only [cn_beq]
   rw [gd_p _ ⟨p1, p2⟩, gd_p _ ⟨p1, p2⟩, gd_p _ ⟨p1, p2⟩, em, bd_s, smK_l]
   split
   · exact ⟨_, rfl, by simp only; omega⟩
   · split
     · exact ⟨_, rfl, by simp only [List.length_set]; omega⟩
     · split
       · exact ⟨_, rfl, by simp only [List.length_set]; omega⟩
       · split
         · exact ⟨_, rfl, by simp only [List.length_set]; omega⟩
         · exact ⟨_, rfl, hm⟩
theorem CheckCut_some (n : TNet) (a b : Int) (S : Int) : ∃ y, flow_CheckCut_F n a b S = some y := by
 by_cases he : EndsI n a b
 · obtain ⟨s, t, rfl, rfl, hv⟩ := he.nat
   exact ⟨_, checkCut_ok hv S⟩
 · exact ⟨_, CheckCut_no he S⟩
end Go.Proofs.Ytgkmodjcoedonaa
namespace Go.Proofs.Ytgkmodjcoedonaa
open Go Go.Eng
set_option maxRecDepth 100000
theorem refSupplies (n : TNet) (l : List Int) : ref27_Supplies_F n l = some (decide (SupV n l)) := by
 unfold ref27_Supplies_F
 simp only [jn_d, refValid, bd_s]
 by_cases h0 : NV n
 · rw [decide_eq_true h0, Bool.not_true, cn_f]
   by_cases h1 : (l.length : Int) = n.N
   · have hn := h0.nn
     rw [show ((l.length : Int) != n.N) = false by rw [h1]; simp, cn_f]
     obtain ⟨o, e, ho⟩ := lp_runF (body := ref27_Supplies_b1 l) (fun z : Int × Int => ∃ k : Nat, z.2 = (k : Int) ∧ k ≤ l.length ∧ (∀ i, i < k → -100000 ≤ sp l i ∧ sp l i ≤ 100000) ∧ z.1 = sm k (sp l)) (fun z => ((l.length : Int) - z.2).toNat)
       (fun o => match o with
         | .inl z => (∀ i, i < l.length → -100000 ≤ sp l i ∧ sp l i ≤ 100000) ∧ z.1 = sm l.length (sp l)
         | .inr r => r = false ∧ ¬ ∀ i, i < l.length → -100000 ≤ sp l i ∧ sp l i ≤ 100000) (fun z hz => by
         obtain ⟨g, i⟩ := z
         obtain ⟨k, rfl, hk, hr, rfl⟩ := hz
         unfold ref27_Supplies_b1
         simp only [cn_dec]
         by_cases hlt : (k : Int) < (l.length : Int)
         · rw [if_pos hlt, ix_n (by omega), refIn, bd_s, cn_not, cn_if]
           have hb := sm_abs (f := sp l) (B := 100000) (k := k) hr
           by_cases hin : -100000 ≤ sp l k ∧ sp l k ≤ 100000
           · rw [if_pos (by simp only [Bool.and_eq_true, decide_eq_true_eq]; exact hin), ix_n (by omega)]
             have hsp : l.getD k default = sp l k := rfl
             rw [hsp, wr_id (x := sm k (sp l) + sp l k) (by omega) (by omega), wr_id (x := (k : Int) + 1) (by omega) (by omega)]
             refine .inl ⟨_, rfl, ⟨k + 1, by simp only; omega, by omega, fun i hi => ?_, rfl⟩, by simp only; omega⟩
             by_cases c : i = k
             · subst c; exact hin
             · exact hr i (by omega)
           · rw [if_neg (by simp only [Bool.and_eq_true, decide_eq_true_eq]; exact hin)]
             exact .inr (.inr ⟨_, rfl, rfl, fun q => hin (q k (by omega))⟩)
         · rw [if_neg hlt]
           have hke : k = l.length := by omega
           subst hke
           exact .inr (.inl ⟨_, rfl, hr, rfl⟩))
       (0, 0) ⟨0, rfl, by omega, fun i hi => by omega, rfl⟩ (by simp only; omega)
     rw [e, bd_s]
     match o, ho with
     | .inl z, ⟨g1, g2⟩ =>
       rw [smK_l, g2]
       congr 1
       rw [Bool.eq_iff_iff]
       simp only [beq_iff_eq, decide_eq_true_eq]
       exact ⟨fun q => ⟨h0, h1, g1, q⟩, fun q => q.z⟩
     | .inr r, ⟨hr, g2⟩ =>
       subst hr
       rw [smK_r, decide_eq_false fun q : SupV n l => g2 q.lv]
   · rw [show ((l.length : Int) != n.N) = true by simp [h1], cn_t, decide_eq_false fun q : SupV n l => h1 q.ll]
 · rw [decide_eq_false h0, Bool.not_false, cn_t, cn_t, decide_eq_false fun q : SupV n l => h0 q.v]
theorem refRefutes {n : TNet} {l : List Int} (h : SupV n l) (S : Nat) : ref27_Refutes_F n l (S : Int) = some (decide (ssum l S.testBit > cutE n.Edges S.testBit)) := by
 have hn := h.v.nn; have hll := h.ll
 have hsp : ∀ i, i < l.length → -100000 ≤ (if S.testBit i then sp l i else 0) ∧ (if S.testBit i then sp l i else 0) ≤ 100000 := fun i hi => by
   have := h.lv i hi; split <;> omega
 obtain ⟨s, e, h1, h2⟩ := lp_fold (body := ref27_Refutes_b1 n l (S : Int)) (fun k s => s.2 = (k : Int) ∧ s.1 = sm k fun i => if S.testBit i then sp l i else 0) l.length (by omega) (fun k s hk hs => by
   obtain ⟨g, i⟩ := s
   obtain ⟨rfl, rfl⟩ := hs
   have hb := sm_abs (B := 100000) (k := k) fun i hi => hsp i (by omega)
   have hv := h.lv k hk
   have hspk : l.getD k default = sp l k := rfl
   unfold ref27_Refutes_b1
   simp only [cn_dec, jn_d]
   rw [if_pos (by omega), refHas (by omega), bd_s, wr_id (x := (k : Int) + 1) (by omega) (by omega), ix_n hk, hspk, wr_id (x := _ + sp l k) (by omega) (by omega)]
   cases hbit : S.testBit k
   · rw [cn_f]
     exact ⟨_, rfl, by simp only; omega, by show (sm k fun i => if S.testBit i then sp l i else 0) = sm k (fun i => if S.testBit i then sp l i else 0) + (if S.testBit k then sp l k else 0); rw [hbit]; simp⟩
   · rw [cn_t]
     exact ⟨_, rfl, by simp only; omega, by show (sm k fun i => if S.testBit i then sp l i else 0) + sp l k = sm k (fun i => if S.testBit i then sp l i else 0) + (if S.testBit k then sp l k else 0); rw [hbit]; simp⟩) (fun s hs => by
   obtain ⟨h1, _⟩ := hs
   unfold ref27_Refutes_b1
   simp only [cn_dec]
   rw [if_neg (by omega)]) (0, 0) ⟨rfl, rfl⟩
 have hsum : s.1 = ssum l S.testBit := by
   rw [h2]
   unfold ssum
   exact (sm_ext (n := l.length) (m := 14) (by omega) fun i q _ => by rw [sp_out q]; split <;> rfl).symm
 unfold ref27_Refutes_F
 rw [e, bd_s, smK_l, refLeaves h.v, bd_s, hsum]
theorem refRefuted {n : TNet} {l : List Int} (h : SupV n l) : ∃ c, ref27_Refuted_F n l = some c ∧ (c = true ↔ ∃ S : Nat, S < 2 ^ n.N.toNat ∧ ssum l S.testBit > cutE n.Edges S.testBit) := by
 have hn := h.v.nn
 have hp : (2 : Int) ^ n.N.toNat = ((2 ^ n.N.toNat : Nat) : Int) := by norm_cast
 have hp2 : 2 ^ n.N.toNat ≤ 2 ^ 12 := Nat.pow_le_pow_right (by omega) (by omega)
 obtain ⟨z, hz⟩ : ∃ z : Nat, z = 2 ^ n.N.toNat := ⟨_, rfl⟩
 rw [← hz] at hp hp2 ⊢
 obtain ⟨o, e, ho⟩ := lp_runF (body := ref27_Refuted_b1 n l) (fun i : Int => ∃ k : Nat, i = (k : Int) ∧ k ≤ z ∧ ∀ S : Nat, S < k → ¬ ssum l S.testBit > cutE n.Edges S.testBit) (fun i => ((z : Int) - i).toNat)
   (fun o => match o with
     | .inl _ => ∀ S : Nat, S < z → ¬ ssum l S.testBit > cutE n.Edges S.testBit
     | .inr r => r = true ∧ ∃ S : Nat, S < z ∧ ssum l S.testBit > cutE n.Edges S.testBit) (fun i hi => by
     obtain ⟨k, rfl, hk, hj⟩ := hi
     unfold ref27_Refuted_b1
     rw [gd_p _ hn.1, shl_n h.v, hp, cn_dec]
     by_cases hlt : (k : Int) < (z : Int)
     · have hkz : k < z := by omega
       rw [if_pos hlt, refRefutes h, bd_s, cn_dec]
       by_cases c : ssum l k.testBit > cutE n.Edges k.testBit
       · rw [if_pos c]
         exact .inr (.inr ⟨_, rfl, rfl, k, hkz, c⟩)
       · rw [if_neg c, wr_id (by omega) (by omega)]
         refine .inl ⟨_, rfl, ⟨k + 1, by omega, hkz, fun S hS => ?_⟩, by omega⟩
         by_cases q : S = k
         · subst q; exact c
         · exact hj S (by omega)
     · rw [if_neg hlt]
       exact .inr (.inl ⟨_, rfl, fun S hS => hj S (by omega)⟩))
   0 ⟨0, rfl, by omega, fun S hS => by omega⟩ (by omega)
 unfold ref27_Refuted_F
 rw [e, bd_s]
 match o, ho with
 | .inl _, ho => exact ⟨false, by rw [smK_l], fun q => (Bool.false_ne_true q).elim, fun ⟨S, q1, q2⟩ => absurd q2 (ho S q1)⟩
 | .inr r, ⟨hr, ho⟩ => subst hr; exact ⟨true, by rw [smK_r], fun _ => ho, fun _ => rfl⟩
theorem refCheckMeet (n : TNet) (l : List Int) (u : TSupply) (hA : u.Amounts.length ≤ 100000) : ref27_CheckMeet_F n l u = flow_CheckMeet_F n l u := by
 obtain ⟨c0, e0, h0⟩ := checkMeet_iff n l u hA
 rw [e0]
 have done : ∀ {P : Prop} {b : Bool}, (b = true ↔ P) → (P ↔ MeetC n l u) → (some b : Option Bool) = some c0 := fun h1 h2 => by
   congr 1; rw [Bool.eq_iff_iff, h1, h2, h0]
 obtain ⟨met, A, S⟩ := u
 simp only at hA
 unfold ref27_CheckMeet_F
 rw [refSupplies, bd_s]
 by_cases h : SupV n l
 · have hn := h.v.nn; have hll := h.ll
   rw [decide_eq_true h, Bool.not_true, cn_f]
   simp only [jn_d]
   cases met with
   | true =>
     have hM : MeetC n l ⟨true, A, S⟩ ↔ IsMet n l A ∧ S = 0 := by
       unfold MeetC
       simp only [if_true]
       exact ⟨fun z => z.2, fun z => ⟨h, z⟩⟩
     have no : ¬ (IsMet n l A ∧ S = 0) → (some false : Option Bool) = some c0 := fun q => done (P := False) ⟨fun z => (Bool.false_ne_true z).elim, fun z => z.elim⟩ ⟨fun z => z.elim, fun z => q (hM.1 z)⟩
     rw [Bool.not_true, cn_f, cn_bne]
     by_cases q : S = 0
     · rw [if_pos q, refAmounts h.v, bd_s]
       by_cases hok : okA n.Edges A
       · rw [decide_eq_true hok, Bool.not_true, cn_f]
         obtain ⟨o, e, ho⟩ := lp_runF (body := ref27_CheckMeet_b1 n l ⟨true, A, S⟩) (fun i : Int => ∃ k : Nat, i = (k : Int) ∧ k ≤ n.N.toNat ∧ ∀ v, v < k → give n.Edges A v = sp l v) (fun i => (n.N - i).toNat)
           (fun o => match o with
             | .inl _ => ∀ v, v < n.N.toNat → give n.Edges A v = sp l v
             | .inr r => r = false ∧ ¬ ∀ v, v < n.N.toNat → give n.Edges A v = sp l v) (fun i hi => by
             obtain ⟨k, rfl, hk, hj⟩ := hi
             unfold ref27_CheckMeet_b1
             simp only [cn_dec]
             have hspk : l.getD k default = sp l k := rfl
             by_cases hlt : (k : Int) < n.N
             · have hkn : k < n.N.toNat := by omega
               rw [if_pos hlt, refGives h.v hok, bd_s, ix_n (by omega), hspk, cn_bne]
               by_cases c : give n.Edges A k = sp l k
               · rw [if_pos c, wr_id (by omega) (by omega)]
                 refine .inl ⟨_, rfl, ⟨k + 1, by omega, hkn, fun v hv => ?_⟩, by omega⟩
                 by_cases q : v = k
                 · subst q; exact c
                 · exact hj v (by omega)
               · rw [if_neg c]
                 exact .inr (.inr ⟨_, rfl, rfl, fun q => c (q k hkn)⟩)
             · rw [if_neg hlt]
               exact .inr (.inl ⟨_, rfl, fun v hv => hj v (by omega)⟩))
           0 ⟨0, rfl, by omega, fun v hv => by omega⟩ (by omega)
         rw [e, bd_s]
         match o, ho with
         | .inl _, ho =>
           rw [smK_l]
           exact done (P := True) ⟨fun _ => trivial, fun _ => rfl⟩ ⟨fun _ => hM.2 ⟨⟨hok, ho⟩, q⟩, fun _ => trivial⟩
         | .inr r, ⟨hr, ho⟩ =>
           subst hr
           rw [smK_r]
           exact no fun z => ho z.1.eq
       · rw [decide_eq_false hok, Bool.not_false, cn_t]
         exact no fun z => hok z.1.ok
     · rw [if_neg q, cn_t]
       exact no fun z => q z.2
   | false =>
     have hp0 := two_pow_pos n.N.toNat
     have hp1 : (2 : Int) ^ n.N.toNat ≤ 2 ^ 12 := two_pow_le (by omega)
     have hM : MeetC n l ⟨false, A, S⟩ ↔ A = [] ∧ 0 ≤ S ∧ S < 2 ^ n.N.toNat ∧ ssum l S.toNat.testBit > cutE n.Edges S.toNat.testBit := by
       unfold MeetC
       simp only [Bool.false_eq_true, if_false]
       exact ⟨fun z => z.2, fun z => ⟨h, z⟩⟩
     have no : ¬ (A = [] ∧ 0 ≤ S ∧ S < 2 ^ n.N.toNat) → (some false : Option Bool) = some c0 := fun q => done (P := False) ⟨fun z => (Bool.false_ne_true z).elim, fun z => z.elim⟩ ⟨fun z => z.elim, fun z => q (by have := hM.1 z; exact ⟨this.1, this.2.1, this.2.2.1⟩)⟩
     rw [Bool.not_false, cn_t, cn_beq]
     by_cases c1 : (A.length : Int) = 0
     · have hA0 : A = [] := List.length_eq_zero_iff.1 (by omega)
       rw [if_pos c1, gd_p _ hn.1, shl_n h.v, wr_id (by omega) (by omega), refIn, bd_s, cn_if]
       by_cases c2 : 0 ≤ S ∧ S ≤ 2 ^ n.N.toNat - 1
       · rw [if_pos (by simp only [Bool.and_eq_true, decide_eq_true_eq]; exact c2)]
         obtain ⟨T, rfl⟩ : ∃ T : Nat, S = (T : Int) := ⟨_, (Int.toNat_of_nonneg c2.1).symm⟩
         rw [refRefutes h, bd_s]
         refine done decide_eq_true_iff ?_
         rw [hM, Int.toNat_natCast]
         exact ⟨fun z => ⟨hA0, c2.1, by omega, z⟩, fun z => z.2.2.2⟩
       · rw [if_neg (by simp only [Bool.and_eq_true, decide_eq_true_eq]; exact c2)]
         exact no fun z => c2 ⟨z.2.1, by omega⟩
     · rw [if_neg c1]
       exact no fun z => c1 (by rw [z.1]; rfl)
 · rw [decide_eq_false h, Bool.not_false, cn_t]
   exact done (P := False) ⟨fun z => (Bool.false_ne_true z).elim, fun z => z.elim⟩ ⟨fun z => z.elim, fun z => h z.1⟩
end Go.Proofs.Ytgkmodjcoedonaa
namespace Go.Proofs.Ytgkmodjcoedonaa
open Go Go.Eng
set_option maxRecDepth 100000
theorem rest_drop : ∀ {R : List Int} {a : Int} (j : Nat), (∀ x ∈ R, x ≤ a) → 0 ≤ a → rest j R ≤ a + rest (j + 1) R
 | [], a, j, _, h => by rw [rest_nil, rest_nil]; omega
 | b :: R, a, 0, h, h0 => by
   have h1 := h b List.mem_cons_self
   have ih := rest_drop (R := R) (a := a) 0 (fun x hx => h x (List.mem_cons_of_mem b hx)) h0
   rw [rest_z, rest_s]; omega
 | b :: R, a, j + 1, h, h0 => by
   have h1 := h b List.mem_cons_self
   have i1 := rest_drop (R := R) (a := a) j (fun x hx => h x (List.mem_cons_of_mem b hx)) h0
   have i2 := rest_drop (R := R) (a := a) (j + 1) (fun x hx => h x (List.mem_cons_of_mem b hx)) h0
   rw [rest_s, rest_s]; omega
theorem getD_setB {l : List Bool} {k j : Nat} {v : Bool} (hk : k < l.length) : (l.set k v).getD j default = if j = k then v else l.getD j default := by
 simp only [List.getD_eq_getElem?_getD, List.getElem?_set]
 by_cases q : j = k
 · subst q; rw [if_pos rfl, if_pos hk, if_pos rfl]; rfl
 · rw [if_neg fun h => q h.symm, if_neg q]
def lft (n : TNet) (S : Nat) (T : List Bool) : List Nat := (loI n.Edges S).filter fun i => !T.getD i default
theorem loI_nodup (E : List TEdge) (S : Nat) : (loI E S).Nodup := List.Nodup.sublist List.filter_sublist List.nodup_range
theorem lft_set {n : TNet} {S m : Nat} {T : List Bool} (hm : m ∈ lft n S T) (hT : m < T.length) : (lft n S T).Perm (m :: lft n S (T.set m true)) := by
 have hnd : (lft n S T).Nodup := List.Nodup.sublist List.filter_sublist (loI_nodup _ _)
 refine (List.perm_cons_erase hm).trans (List.Perm.cons m (List.Perm.of_eq ?_))
 rw [hnd.erase_eq_filter]
 unfold lft
 rw [List.filter_filter]
 refine List.filter_congr fun i _ => ?_
 rw [show (T.set m true).getD i default = if i = m then true else T.getD i default from getD_setB hT]
 by_cases q : i = m
 · subst q; simp
 · rw [if_neg q]; simp [q]
theorem rest_take {n : TNet} (h : NV n) {S m : Nat} {T : List Bool} (hm : m ∈ lft n S T) (hT : m < T.length) (hx : ∀ i ∈ lft n S T, lcI n.Edges i ≤ lcI n.Edges m) (j : Nat) : rest (j + 1) ((lft n S T).map (lcI n.Edges)) = rest j ((lft n S (T.set m true)).map (lcI n.Edges)) := by
 have hp := lft_set hm hT
 have hnn : 0 ≤ lcI n.Edges m := (nv_get h (List.mem_range.1 (List.mem_filter.1 (List.mem_filter.1 hm).1).1)).cp.1
 rw [rest_perm (hp.map _) (j + 1), List.map_cons, rest_s]
 have := rest_drop (R := (lft n S (T.set m true)).map (lcI n.Edges)) (a := lcI n.Edges m) j (fun x hx' => by
   obtain ⟨i, hi, rfl⟩ := List.mem_map.1 hx'
   exact hx i (hp.symm.subset (List.mem_cons_of_mem _ hi))) hnn
 omega
theorem rest0_take {n : TNet} {S m : Nat} {T : List Bool} (hm : m ∈ lft n S T) (hT : m < T.length) : rest 0 ((lft n S T).map (lcI n.Edges)) = lcI n.Edges m + rest 0 ((lft n S (T.set m true)).map (lcI n.Edges)) := by
 rw [rest_perm ((lft_set hm hT).map _) 0, List.map_cons, rest_z]
theorem best_loop {n : TNet} (h : NV n) {S : Nat} {a b : Int} {T : List Bool} (hT : T.length = n.Edges.length) : ∃ m i, lp (ref27_greatest_b2 n (S : Int) (a, b, T)) FU (-1, 0) = some (.inl (m, i)) ∧ ((m = -1 ∧ lft n S T = []) ∨ ∃ j : Nat, m = (j : Int) ∧ j ∈ lft n S T ∧ ∀ i ∈ lft n S T, lcI n.Edges i ≤ lcI n.Edges j) := by
 have hel := h.el; have hn := h.nn
 obtain ⟨s', e, h1, h2⟩ := lp_fold (body := ref27_greatest_b2 n (S : Int) (a, b, T)) (fun k z => z.2 = (k : Int) ∧ ((z.1 = -1 ∧ ∀ i ∈ lft n S T, k ≤ i) ∨ ∃ j : Nat, z.1 = (j : Int) ∧ j ∈ lft n S T ∧ ∀ i ∈ lft n S T, i < k → lcI n.Edges i ≤ lcI n.Edges j)) n.Edges.length (by omega) (fun k z hk hz => by
   obtain ⟨m, i⟩ := z
   obtain ⟨h1, h2⟩ := hz
   simp only at h1 h2
   subst h1
   have hev := nv_get h hk
   have hfr := hev.fr; have hto := hev.to
   obtain ⟨f, hf⟩ : ∃ f : Nat, (n.Edges.getD k default).From = (f : Int) := ⟨_, (Int.toNat_of_nonneg hfr.1).symm⟩
   obtain ⟨t, ht⟩ : ∃ t : Nat, (n.Edges.getD k default).To = (t : Int) := ⟨_, (Int.toNat_of_nonneg hto.1).symm⟩
   have hmem : k ∈ lft n S T ↔ (S.testBit f = true ∧ S.testBit t = false) ∧ T.getD k default = false := by
     unfold lft loI
     rw [List.mem_filter, List.mem_filter, List.mem_range]
     unfold loP
     rw [hf, ht]
     simp only [Int.toNat_natCast, Bool.and_eq_true, Bool.not_eq_true']
     exact ⟨fun q => ⟨q.1.2, q.2⟩, fun q => ⟨⟨hk, q.1⟩, q.2⟩⟩
   have keep : (k ∈ lft n S T → ∃ j : Nat, m = (j : Int) ∧ lcI n.Edges k ≤ lcI n.Edges j) → ∃ s', (some (Ct.nx (m, wr ((k : Int) + 1))) : Option (Ct (Int × Int) Int)) = some (.nx s') ∧ s'.2 = ((k + 1 : Nat) : Int) ∧ ((s'.1 = -1 ∧ ∀ i ∈ lft n S T, k + 1 ≤ i) ∨ ∃ j : Nat, s'.1 = (j : Int) ∧ j ∈ lft n S T ∧ ∀ i ∈ lft n S T, i < k + 1 → lcI n.Edges i ≤ lcI n.Edges j) := fun hno => by
     rw [wr_id (by omega) (by omega)]
     refine ⟨_, rfl, by simp only; omega, ?_⟩
     rcases h2 with ⟨a1, a2⟩ | ⟨j, a1, a2, a3⟩
     · refine .inl ⟨a1, fun i hi => ?_⟩
       have := a2 i hi
       by_cases q : i = k
       · subst q
         obtain ⟨j, q1, _⟩ := hno hi
         omega
       · omega
     · refine .inr ⟨j, a1, a2, fun i hi hik => ?_⟩
       by_cases q : i = k
       · subst q
         obtain ⟨j', q1, q2⟩ := hno hi
         have : j' = j := by omega
         subst this; exact q2
       · exact a3 i hi (by omega)
   have take : k ∈ lft n S T → (∀ i ∈ lft n S T, i < k → lcI n.Edges i ≤ lcI n.Edges k) → ∃ s', (some (Ct.nx ((k : Int), wr ((k : Int) + 1))) : Option (Ct (Int × Int) Int)) = some (.nx s') ∧ s'.2 = ((k + 1 : Nat) : Int) ∧ ((s'.1 = -1 ∧ ∀ i ∈ lft n S T, k + 1 ≤ i) ∨ ∃ j : Nat, s'.1 = (j : Int) ∧ j ∈ lft n S T ∧ ∀ i ∈ lft n S T, i < k + 1 → lcI n.Edges i ≤ lcI n.Edges j) := fun hk1 hk2 => by
     rw [wr_id (by omega) (by omega)]
     refine ⟨_, rfl, by simp only; omega, .inr ⟨k, rfl, hk1, fun i hi hik => ?_⟩⟩
     by_cases q : i = k
     · subst q; exact Int.le_refl _
     · exact hk2 i hi (by omega)
   unfold ref27_greatest_b2
   simp only [cn_dec, jn_d]
   rw [if_pos (by omega), ix_n hk, gd_p _ (by omega), Int.toNat_natCast, hf, ht, refHas (by omega), bd_s, refHas (by omega), bd_s]
   cases x1 : T.getD k default with
   | true =>
     simp only [Bool.not_true, cn_f]
     exact keep fun q => by have := (hmem.1 q).2; rw [x1] at this; cases this
   | false =>
     cases x2 : S.testBit f with
     | false =>
       simp only [Bool.not_false, cn_t, cn_f]
       exact keep fun q => by have := (hmem.1 q).1.1; rw [x2] at this; cases this
     | true =>
       cases x3 : S.testBit t with
       | true =>
         simp only [Bool.not_false, Bool.not_true, cn_t, cn_f]
         exact keep fun q => by have := (hmem.1 q).1.2; rw [x3] at this; cases this
       | false =>
         simp only [Bool.not_false, cn_t]
         have hk1 := hmem.2 ⟨⟨x2, x3⟩, x1⟩
         rcases h2 with ⟨a1, a2⟩ | ⟨j, a1, a2, a3⟩
         · rw [if_pos (by omega)]
           exact take hk1 fun i hi hik => by have := a2 i hi; omega
         · have hj : j < n.Edges.length := List.mem_range.1 (List.mem_filter.1 (List.mem_filter.1 a2).1).1
           have him : imax m 0 = (j : Int) := by unfold imax; split <;> omega
           rw [if_neg (by omega), him, ix_n hj]
           by_cases c : (n.Edges.getD k default).Capacity > (n.Edges.getD j default).Capacity
           · rw [if_pos c]
             exact take hk1 fun i hi hik => by have := a3 i hi hik; unfold lcI at *; omega
           · rw [if_neg c]
             exact keep fun _ => ⟨j, a1, by unfold lcI; omega⟩) (fun z hz => by
   obtain ⟨m, i⟩ := z
   obtain ⟨h1, _⟩ := hz
   simp only at h1
   subst h1
   unfold ref27_greatest_b2
   simp only [cn_dec]
   rw [if_neg (by omega)]) (-1, 0) ⟨rfl, .inl ⟨rfl, fun i _ => Nat.zero_le i⟩⟩
 obtain ⟨m, i⟩ := s'
 refine ⟨m, i, e, ?_⟩
 have hlt : ∀ i ∈ lft n S T, i < n.Edges.length := fun i hi => List.mem_range.1 (List.mem_filter.1 (List.mem_filter.1 hi).1).1
 rcases h2 with ⟨a1, a2⟩ | ⟨j, a1, a2, a3⟩
 · refine .inl ⟨a1, List.eq_nil_iff_forall_not_mem.2 fun i hi => ?_⟩
   have := a2 i hi; have := hlt i hi; omega
 · exact .inr ⟨j, a1, a2, fun i hi => a3 i hi (hlt i hi)⟩
theorem refGreatest {n : TNet} (h : NV n) (S : Nat) {f : Nat} (hf : f ≤ 3) : ref27_greatest_F n (S : Int) (f : Int) = some (cutE n.Edges S.testBit - wV n f S) := by
 have hel := h.el
 have hcut := cutE_self n S
 have hlft0 : lft n S (List.replicate n.Edges.length false) = loI n.Edges S := by
   unfold lft
   refine List.filter_eq_self.2 fun i _ => ?_
   simp only [List.getD_eq_getElem?_getD, List.getElem?_replicate]
   split <;> rfl
 obtain ⟨o, e, ho⟩ := lp_runF (body := ref27_greatest_b1 n (S : Int)) (fun z : Int × Int × List Bool => ∃ r : Nat, z.1 = (r : Int) ∧ r ≤ 3 ∧ z.2.2.length = n.Edges.length ∧ z.2.1 = cutE n.Edges S.testBit - rest 0 ((lft n S z.2.2).map (lcI n.Edges)) ∧ rest r ((lft n S z.2.2).map (lcI n.Edges)) = wV n f S) (fun z => z.1.toNat)
   (fun o => match o with
     | .inl z => z.2.1 = cutE n.Edges S.testBit - wV n f S
     | .inr r => r = cutE n.Edges S.testBit - wV n f S) (fun z hz => by
     obtain ⟨r', g, T⟩ := z
     obtain ⟨r, h1, hr3, hT, hg, hrest⟩ := hz
     simp only at h1 hT hg hrest
     subst h1
     unfold ref27_greatest_b1
     rw [cn_dec]
     by_cases c : (r : Int) > 0
     · obtain ⟨m, i, em, hm⟩ := best_loop h (S := S) (a := (r : Int)) (b := g) hT
       rw [if_pos c, em, bd_s, smK_l, cn_dec]
       simp only
       rcases hm with ⟨rfl, hm⟩ | ⟨j, rfl, hj, hmax⟩
       · rw [if_pos (by decide)]
         refine .inr (.inr ⟨_, rfl, ?_⟩)
         rw [hm] at hg hrest
         simp only [List.map_nil, rest_nil] at hg hrest
         omega
       · have hjl : j < n.Edges.length := List.mem_range.1 (List.mem_filter.1 (List.mem_filter.1 hj).1).1
         obtain ⟨r1, rfl⟩ : ∃ r1, r = r1 + 1 := ⟨r - 1, by omega⟩
         have e1 := rest0_take hj (by omega)
         have e2 := rest_take h hj (by omega) hmax r1
         have hcap := (nv_get h hjl).cp
         have hc0 := cutE_nn (E := n.Edges) (fun e he => (h.ev e he).cp.1) S.testBit
         have hc1 := cutE_bd (E := n.Edges) (B := 10000) (by omega) (fun e he => (h.ev e he).cp.2) S.testBit
         have hr0 : 0 ≤ rest 0 ((lft n S T).map (lcI n.Edges)) := rest_nn 0 fun x hx => by
           obtain ⟨i, hi, rfl⟩ := List.mem_map.1 hx
           exact (nv_get h (List.mem_range.1 (List.mem_filter.1 (List.mem_filter.1 hi).1).1)).cp.1
         have hr1 : rest 0 ((lft n S T).map (lcI n.Edges)) ≤ 40 * 10000 := by
           have := rest0_le (B := 10000) (l := (lft n S T).map (lcI n.Edges)) fun x hx => by
             obtain ⟨i, hi, rfl⟩ := List.mem_map.1 hx
             exact (nv_get h (List.mem_range.1 (List.mem_filter.1 (List.mem_filter.1 hi).1).1)).cp.2
           have hl : (lft n S T).length ≤ n.Edges.length := by
             unfold lft loI
             exact Nat.le_trans (List.length_filter_le _ _) (Nat.le_trans (List.length_filter_le _ _) (by simp))
           rw [List.length_map] at this
           omega
         have hlc : lcI n.Edges j = (n.Edges.getD j default).Capacity := rfl
         rw [if_neg (by omega), gd_p _ (by omega), st_dd, Int.toNat_natCast, ix_n hjl, wr_id (x := ((r1 + 1 : Nat) : Int) - 1) (by omega) (by omega), wr_id (x := g + (n.Edges.getD j default).Capacity) (by omega) (by omega)]
         refine .inl ⟨_, rfl, ⟨r1, by simp only; omega, by omega, by simp only [List.length_set]; exact hT, ?_, ?_⟩, by simp only; omega⟩
         · simp only; rw [hg, e1, hlc]; omega
         · simp only; rw [← e2]; exact hrest
     · rw [if_neg c]
       have hr0 : r = 0 := by omega
       subst hr0
       refine .inr (.inl ⟨_, rfl, ?_⟩)
       simp only
       rw [hg, hrest])
   ((f : Int), 0, List.replicate n.Edges.length false) ⟨f, rfl, hf, by simp, by
     simp only
     rw [hlft0, hcut]; unfold wV; omega, by simp only; rw [hlft0]; rfl⟩ (by simp only; omega)
 unfold ref27_greatest_F
 rw [gd_p _ (by omega), lt_d, Int.toNat_natCast, e, bd_s]
 match o, ho with
 | .inl z, ho => rw [smK_l, ho]
 | .inr r, ho => rw [smK_r, ho]
theorem refWorst {n : TNet} {s t f nd0 : Nat} (h : EndsV n s t) (hf : f ≤ 3) (hg0 : Good n s t nd0) (hle : ∀ nd', Good n s t nd' → wV n f nd0 ≤ wV n f nd') : ref27_Worst_F n (s : Int) (t : Int) (f : Int) = some (wV n f nd0) := by
 have hn := h.v.nn; have hs := h.hs; have ht := h.ht
 have hp : (2 : Int) ^ n.N.toNat = ((2 ^ n.N.toNat : Nat) : Int) := by norm_cast
 have hp2 : 2 ^ n.N.toNat ≤ 2 ^ 12 := Nat.pow_le_pow_right (by omega) (by omega)
 obtain ⟨s', e, h1, h2⟩ := lp_fold (body := ref27_Worst_b1 n (s : Int) (t : Int) (f : Int)) (fun k z => z.2 = (k : Int) ∧ ((z.1 = -1 ∧ ∀ nd, nd < k → ¬ Good n s t nd) ∨ ∃ nd, nd < k ∧ Good n s t nd ∧ z.1 = wV n f nd ∧ ∀ nd', nd' < k → Good n s t nd' → wV n f nd ≤ wV n f nd')) (2 ^ n.N.toNat) (by omega) (fun k z hk hz => by
   obtain ⟨v0, i⟩ := z
   obtain ⟨h1, h2⟩ := hz
   simp only at h1 h2
   subst h1
   have hb := wV_bd h.v f k
   unfold ref27_Worst_b1
   simp only [cn_dec, jn_d]
   rw [gd_p _ hn.1, shl_n h.v, hp, if_pos (by omega), refHas (by omega), bd_s, refHas (by omega), bd_s, refLeaves h.v, bd_s, refGreatest h.v k hf, bd_s, wr_id (x := (k : Int) + 1) (by omega) (by omega)]
   have hval : wr (cutE n.Edges k.testBit - (cutE n.Edges k.testBit - wV n f k)) = wV n f k := by rw [wr_id (by omega) (by omega)]; omega
   rw [hval]
   have skip : ¬ Good n s t k → ∃ s', (some (Ct.nx (v0, (k : Int) + 1)) : Option (Ct (Int × Int) Int)) = some (.nx s') ∧ s'.2 = ((k + 1 : Nat) : Int) ∧ ((s'.1 = -1 ∧ ∀ nd, nd < k + 1 → ¬ Good n s t nd) ∨ ∃ nd, nd < k + 1 ∧ Good n s t nd ∧ s'.1 = wV n f nd ∧ ∀ nd', nd' < k + 1 → Good n s t nd' → wV n f nd ≤ wV n f nd') := fun hg => by
     have lift : ∀ nd', nd' < k + 1 → Good n s t nd' → nd' < k := fun nd' q1 q2 => by
       by_cases q : nd' = k
       · subst q; exact absurd q2 hg
       · omega
     refine ⟨_, rfl, by simp only; omega, ?_⟩
     rcases h2 with ⟨a1, a2⟩ | ⟨nd, a1, a2, a3, a4⟩
     · exact .inl ⟨a1, fun nd q1 q2 => a2 nd (lift nd q1 q2) q2⟩
     · exact .inr ⟨nd, by omega, a2, a3, fun nd' q1 q2 => a4 nd' (lift nd' q1 q2) q2⟩
   cases b1 : k.testBit s with
   | false =>
     simp only [Bool.not_false, cn_t]
     exact skip fun hg => by rw [hg.2.1] at b1; cases b1
   | true =>
     cases b2 : k.testBit t with
     | true =>
       simp only [Bool.not_true, cn_f, cn_t]
       exact skip fun hg => by rw [hg.2.2] at b2; cases b2
     | false =>
       simp only [Bool.not_true, cn_f]
       have hg : Good n s t k := ⟨hk, b1, b2⟩
       rcases h2 with ⟨a1, a2⟩ | ⟨nd, a1, a2, a3, a4⟩
       · rw [if_pos (by omega), cn_t]
         refine ⟨_, rfl, by simp only; omega, .inr ⟨k, by omega, hg, rfl, fun nd' q1 q2 => ?_⟩⟩
         by_cases q : nd' = k
         · subst q; exact Int.le_refl _
         · exact absurd q2 (a2 nd' (by omega))
       · have hb2 := wV_bd h.v f nd
         rw [if_neg (by omega)]
         by_cases c : wV n f k < v0
         · rw [if_pos c]
           refine ⟨_, rfl, by simp only; omega, .inr ⟨k, by omega, hg, rfl, fun nd' q1 q2 => ?_⟩⟩
           by_cases q : nd' = k
           · subst q; exact Int.le_refl _
           · have := a4 nd' (by omega) q2; omega
         · rw [if_neg c]
           refine ⟨_, rfl, by simp only; omega, .inr ⟨nd, by omega, a2, a3, fun nd' q1 q2 => ?_⟩⟩
           by_cases q : nd' = k
           · subst q; omega
           · exact a4 nd' (by omega) q2) (fun z hz => by
   obtain ⟨v0, i⟩ := z
   obtain ⟨h1, _⟩ := hz
   simp only at h1
   subst h1
   unfold ref27_Worst_b1
   simp only [cn_dec]
   rw [gd_p _ hn.1, shl_n h.v, hp, if_neg (by omega)]) (-1, 0) ⟨rfl, .inl ⟨rfl, fun nd hnd => by omega⟩⟩
 rcases h2 with ⟨_, a2⟩ | ⟨nd, a1, a2, a3, a4⟩
 · exact absurd hg0 (a2 _ hg0.1)
 · have q1 := a4 nd0 hg0.1 hg0
   have q2 := hle nd a2
   unfold ref27_Worst_F
   rw [e, bd_s, smK_l, a3]
   congr 1; omega
end Go.Proofs.Ytgkmodjcoedonaa
namespace Go.Proofs.Ytgkmodjcoedonaa
open Go Go.Eng
set_option maxRecDepth 100000
namespace Pc
theorem and_lane {a b m n : Nat} (ha : a < 256) (hm : m < 256) : (256 * b + a) &&& (256 * n + m) = 256 * (b &&& n) + (a &&& m) := by
 have hlt : a &&& m < 2 ^ 8 := Nat.lt_of_le_of_lt Nat.and_le_left ha
 refine Nat.eq_of_testBit_eq fun i => ?_
 rw [Nat.testBit_and, show (256 : Nat) = 2 ^ 8 from rfl, Nat.testBit_two_pow_mul_add b (show a < 2 ^ 8 from ha), Nat.testBit_two_pow_mul_add n (show m < 2 ^ 8 from hm), Nat.testBit_two_pow_mul_add _ hlt]
 split
 · rw [Nat.testBit_and]
 · rw [Nat.testBit_and]
def t1 (a : Nat) : Nat := ((a / 2) &&& 85) + (a &&& 85)
def t2 (a : Nat) : Nat := ((t1 a / 4) &&& 51) + (t1 a &&& 51)
def t3 (a : Nat) : Nat := (t2 a / 16 + t2 a) &&& 15
def cnt8 (a : Nat) : Nat := (List.range 8).countP a.testBit
theorem lane_facts : ∀ a : Fin 256, t1 a.val ≤ 170 ∧ t2 a.val ≤ 68 ∧ t2 a.val % 16 ≤ 4 ∧ t3 a.val = cnt8 a.val := by decide +kernel
theorem lane1 : ∀ (a : Fin 256) (e : Fin 2), ((a.val / 2 + 128 * e.val) &&& 85) = ((a.val / 2) &&& 85) := by decide +kernel
theorem lane2 : ∀ (a : Fin 256) (e : Fin 4), ((a.val / 4 + 64 * e.val) &&& 51) = ((a.val / 4) &&& 51) := by decide +kernel
theorem lane3 : ∀ (a : Fin 69) (e : Fin 5), ((a.val / 16 + 16 * e.val + a.val) &&& 15) = ((a.val / 16 + a.val) &&& 15) := by decide +kernel
theorem st1 {a b n : Nat} (ha : a < 256) : (((256 * b + a) / 2) &&& (256 * n + 85)) + ((256 * b + a) &&& (256 * n + 85)) = 256 * (((b / 2) &&& n) + (b &&& n)) + t1 a := by
 have e : (256 * b + a) / 2 = 256 * (b / 2) + (a / 2 + 128 * (b % 2)) := by omega
 have := lane1 ⟨a, ha⟩ ⟨b % 2, by omega⟩
 simp only at this
 rw [e, and_lane (by omega) (by omega), and_lane ha (by omega), this]
 unfold t1; omega
theorem st2 {a b n : Nat} (ha : a < 256) : (((256 * b + t1 a) / 4) &&& (256 * n + 51)) + ((256 * b + t1 a) &&& (256 * n + 51)) = 256 * (((b / 4) &&& n) + (b &&& n)) + t2 a := by
 have h1 := (lane_facts ⟨a, ha⟩).1
 simp only at h1
 have e : (256 * b + t1 a) / 4 = 256 * (b / 4) + (t1 a / 4 + 64 * (b % 4)) := by omega
 have := lane2 ⟨t1 a, by omega⟩ ⟨b % 4, by omega⟩
 simp only at this
 rw [e, and_lane (by omega) (by omega), and_lane (by omega) (by omega), this]
 unfold t2; omega
theorem st3 {a b n : Nat} (ha : a < 256) (hb : b % 16 ≤ 4) : ((256 * b + t2 a) / 16 + (256 * b + t2 a)) &&& (256 * n + 15) = 256 * ((b / 16 + b) &&& n) + t3 a := by
 have h1 := (lane_facts ⟨a, ha⟩).2.1
 simp only at h1
 have e : (256 * b + t2 a) / 16 + (256 * b + t2 a) = 256 * (b / 16 + b) + (t2 a / 16 + 16 * (b % 16) + t2 a) := by omega
 have := lane3 ⟨t2 a, by omega⟩ ⟨b % 16, by omega⟩
 simp only at this
 rw [e, and_lane (by omega) (by omega), this]
 unfold t3; omega
theorem t_small {d : Nat} (hd : d < 256) : t1 d ≤ 170 ∧ t2 d ≤ 68 ∧ t2 d % 16 ≤ 4 ∧ t3 d = cnt8 d := lane_facts ⟨d, hd⟩
theorem cnt8_le (a : Nat) : cnt8 a ≤ 8 := by
 unfold cnt8
 exact Nat.le_trans List.countP_le_length (by simp)
theorem u64_band {a b : Nat} (ha : a < 2 ^ 64) (hb : b < 2 ^ 64) : band .u64 (a : Int) (b : Int) = ((a &&& b : Nat) : Int) := by
 show IntKind.u64.wrap _ = _
 have e1 : (BitVec.ofInt IntKind.u64.bits (a : Int)).toNat = a := by
   show (BitVec.ofInt 64 (a : Int)).toNat = a
   rw [BitVec.toNat_ofInt]; omega
 have e2 : (BitVec.ofInt IntKind.u64.bits (b : Int)).toNat = b := by
   show (BitVec.ofInt 64 (b : Int)).toNat = b
   rw [BitVec.toNat_ofInt]; omega
 rw [BitVec.toNat_and, e1, e2]
 have : a &&& b ≤ a := Nat.and_le_left
 show ((a &&& b : Nat) : Int) % 18446744073709551616 = _
 omega
theorem u64_wrap {a : Nat} (ha : a < 2 ^ 64) : IntKind.u64.wrap (a : Int) = (a : Int) := by
 show (a : Int) % 18446744073709551616 = _
 omega
theorem u64_shr {a k : Nat} (hk : k ≤ 60) : bshr .u64 (a : Int) (k : Int) = ((a / 2 ^ k : Nat) : Int) := by
 show (a : Int).fdiv (2 ^ (min (k : Int).toNat 64)) = _
 rw [Int.toNat_natCast, Nat.min_eq_left (by omega), Int.fdiv_eq_ediv_of_nonneg _ (Int.le_of_lt (two_pow_pos k))]
 norm_cast
theorem z1 {d n : Nat} (hd : d < 256) : ((d / 2) &&& (256 * n + 85)) + (d &&& (256 * n + 85)) = t1 d := by
 have := st1 (a := d) (b := 0) (n := n) hd
 simpa using this
theorem z2 {d n : Nat} (hd : d < 256) : ((t1 d / 4) &&& (256 * n + 51)) + (t1 d &&& (256 * n + 51)) = t2 d := by
 have := st2 (a := d) (b := 0) (n := n) hd
 simpa using this
theorem z3 {d n : Nat} (hd : d < 256) : (t2 d / 16 + t2 d) &&& (256 * n + 15) = t3 d := by
 have := st3 (a := d) (b := 0) (n := n) hd (by omega)
 simpa using this
theorem q1 {a b c d : Nat} (ha : a < 256) (hb : b < 256) (hc : c < 256) (hd : d < 256) : ((256 * (256 * (256 * d + c) + b) + a) / 2 &&& 6148914691236517205) + ((256 * (256 * (256 * d + c) + b) + a) &&& 6148914691236517205) = 256 * (256 * (256 * t1 d + t1 c) + t1 b) + t1 a := by
 rw [show 6148914691236517205 = 256 * (256 * (256 * (256 * 1431655765 + 85) + 85) + 85) + 85 from rfl, st1 ha, st1 hb, st1 hc, z1 hd]
theorem q2 {a b c d : Nat} (ha : a < 256) (hb : b < 256) (hc : c < 256) (hd : d < 256) : ((256 * (256 * (256 * t1 d + t1 c) + t1 b) + t1 a) / 4 &&& 3689348814741910323) + ((256 * (256 * (256 * t1 d + t1 c) + t1 b) + t1 a) &&& 3689348814741910323) = 256 * (256 * (256 * t2 d + t2 c) + t2 b) + t2 a := by
 rw [show 3689348814741910323 = 256 * (256 * (256 * (256 * 858993459 + 51) + 51) + 51) + 51 from rfl, st2 ha, st2 hb, st2 hc, z2 hd]
theorem q3 {a b c d : Nat} (ha : a < 256) (hb : b < 256) (hc : c < 256) (hd : d < 256) : ((256 * (256 * (256 * t2 d + t2 c) + t2 b) + t2 a) / 16 + (256 * (256 * (256 * t2 d + t2 c) + t2 b) + t2 a)) &&& 1085102592571150095 = 256 * (256 * (256 * t3 d + t3 c) + t3 b) + t3 a := by
 have b3 := (t_small hb).2.2.1
 have c3 := (t_small hc).2.2.1
 have d3 := (t_small hd).2.2.1
 rw [show 1085102592571150095 = 256 * (256 * (256 * (256 * 252645135 + 15) + 15) + 15) + 15 from rfl, st3 ha (by omega), st3 hb (by omega), st3 hc (by omega), z3 hd]
theorem i64_band127 {a : Nat} (ha : a < 4611686018427387904) : band .i64 (wr (a : Int)) 127 = ((a % 128 : Nat) : Int) := by
 rw [wr_id (by omega) (by omega), band_nat (by omega) (by omega) (by omega) (by omega), Int.toNat_natCast]
 have : a &&& 127 = a % 2 ^ 7 := Nat.and_two_pow_sub_one_eq_mod a 7
 rw [show Int.toNat 127 = 127 from rfl, this]
theorem cnt_split {y a k : Nat} (ha : a < 256) : (List.range (8 + k)).countP (256 * y + a).testBit = cnt8 a + (List.range k).countP y.testBit := by
 rw [List.range_add, List.countP_append, List.countP_map]
 unfold cnt8
 congr 1
 · refine List.countP_congr fun i hi => ?_
   have hi := List.mem_range.1 hi
   rw [show (256 : Nat) = 2 ^ 8 from rfl, Nat.testBit_two_pow_mul_add _ (show a < 2 ^ 8 from ha), if_pos hi]
 · refine List.countP_congr fun i hi => ?_
   simp only [Function.comp]
   rw [show (256 : Nat) = 2 ^ 8 from rfl, Nat.testBit_two_pow_mul_add _ (show a < 2 ^ 8 from ha), if_neg (by omega), Nat.add_sub_cancel_left]
end Pc
instance (n : TNet) (s t c : Nat) : Decidable (Good n s t c) := by unfold Good; infer_instance
end Go.Proofs.Ytgkmodjcoedonaa
namespace Go.Proofs.Ytgkmodjcoedonaa
open Go Go.Eng
set_option maxRecDepth 100000
namespace Pc
theorem p1 {a b c d e : Nat} (ha : a < 256) (hb : b < 256) (hc : c < 256) (hd : d < 256) (he : e < 256) : ((256 * (256 * (256 * (256 * e + d) + c) + b) + a) / 2 &&& 6148914691236517205) + ((256 * (256 * (256 * (256 * e + d) + c) + b) + a) &&& 6148914691236517205) = 256 * (256 * (256 * (256 * t1 e + t1 d) + t1 c) + t1 b) + t1 a := by
 rw [show 6148914691236517205 = 256 * (256 * (256 * (256 * (256 * 5592405 + 85) + 85) + 85) + 85) + 85 from rfl, st1 ha, st1 hb, st1 hc, st1 hd, z1 he]
theorem p2 {a b c d e : Nat} (ha : a < 256) (hb : b < 256) (hc : c < 256) (hd : d < 256) (he : e < 256) : ((256 * (256 * (256 * (256 * t1 e + t1 d) + t1 c) + t1 b) + t1 a) / 4 &&& 3689348814741910323) + ((256 * (256 * (256 * (256 * t1 e + t1 d) + t1 c) + t1 b) + t1 a) &&& 3689348814741910323) = 256 * (256 * (256 * (256 * t2 e + t2 d) + t2 c) + t2 b) + t2 a := by
 rw [show 3689348814741910323 = 256 * (256 * (256 * (256 * (256 * 3355443 + 51) + 51) + 51) + 51) + 51 from rfl, st2 ha, st2 hb, st2 hc, st2 hd, z2 he]
theorem p3 {a b c d e : Nat} (ha : a < 256) (hb : b < 256) (hc : c < 256) (hd : d < 256) (he : e < 256) : ((256 * (256 * (256 * (256 * t2 e + t2 d) + t2 c) + t2 b) + t2 a) / 16 + (256 * (256 * (256 * (256 * t2 e + t2 d) + t2 c) + t2 b) + t2 a)) &&& 1085102592571150095 = 256 * (256 * (256 * (256 * t3 e + t3 d) + t3 c) + t3 b) + t3 a := by
 have b3 := (t_small hb).2.2.1
 have c3 := (t_small hc).2.2.1
 have d3 := (t_small hd).2.2.1
 have e3 := (t_small he).2.2.1
 rw [show 1085102592571150095 = 256 * (256 * (256 * (256 * (256 * 986895 + 15) + 15) + 15) + 15) + 15 from rfl, st3 ha (by omega), st3 hb (by omega), st3 hc (by omega), st3 hd (by omega), z3 he]
theorem ones5 {a b c d e : Nat} (ha : a < 256) (hb : b < 256) (hc : c < 256) (hd : d < 256) (he : e < 256) : math_bits_OnesCount_F ((256 * (256 * (256 * (256 * e + d) + c) + b) + a : Nat) : Int) = some ((cnt8 a + cnt8 b + cnt8 c + cnt8 d + cnt8 e : Nat) : Int) := by
 obtain ⟨a1, a2, a3, a4⟩ := t_small ha
 obtain ⟨b1, b2, b3, b4⟩ := t_small hb
 obtain ⟨c1, c2, c3, c4⟩ := t_small hc
 obtain ⟨d1, d2, d3, d4⟩ := t_small hd
 obtain ⟨e1', e2', e3', e4'⟩ := t_small he
 have ca := cnt8_le a; have cb := cnt8_le b; have cc := cnt8_le c; have cd := cnt8_le d; have ce := cnt8_le e
 have r1 := p1 ha hb hc hd he
 have r2 := p2 ha hb hc hd he
 have r3 := p3 ha hb hc hd he
 unfold math_bits_OnesCount_F math_bits_OnesCount64_F
 generalize hx : 256 * (256 * (256 * (256 * e + d) + c) + b) + a = x at r1
 have hx1 : x < 2 ^ 40 := by omega
 have s1 : bshr .u64 (x : Int) 1 = ((x / 2 : Nat) : Int) := u64_shr (k := 1) (by omega)
 have e1 : band .u64 ((x / 2 : Nat) : Int) 6148914691236517205 = ((x / 2 &&& 6148914691236517205 : Nat) : Int) := u64_band (b := 6148914691236517205) (by omega) (by omega)
 have e2 : band .u64 (x : Int) 6148914691236517205 = ((x &&& 6148914691236517205 : Nat) : Int) := u64_band (b := 6148914691236517205) (by omega) (by omega)
 generalize hy : 256 * (256 * (256 * (256 * t1 e + t1 d) + t1 c) + t1 b) + t1 a = y at r1 r2
 have hy1 : y < 2 ^ 40 := by omega
 have s2 : bshr .u64 (y : Int) 2 = ((y / 4 : Nat) : Int) := u64_shr (k := 2) (by omega)
 have e3 : band .u64 ((y / 4 : Nat) : Int) 3689348814741910323 = ((y / 4 &&& 3689348814741910323 : Nat) : Int) := u64_band (b := 3689348814741910323) (by omega) (by omega)
 have e4 : band .u64 (y : Int) 3689348814741910323 = ((y &&& 3689348814741910323 : Nat) : Int) := u64_band (b := 3689348814741910323) (by omega) (by omega)
 generalize hz : 256 * (256 * (256 * (256 * t2 e + t2 d) + t2 c) + t2 b) + t2 a = z at r2 r3
 have hz1 : z < 2 ^ 40 := by omega
 have s3 : bshr .u64 (z : Int) 4 = ((z / 16 : Nat) : Int) := u64_shr (k := 4) (by omega)
 have e5 : band .u64 ((z / 16 + z : Nat) : Int) 1085102592571150095 = ((z / 16 + z &&& 1085102592571150095 : Nat) : Int) := u64_band (b := 1085102592571150095) (by omega) (by omega)
 rw [a4, b4, c4, d4, e4'] at r3
 generalize hv : 256 * (256 * (256 * (256 * cnt8 e + cnt8 d) + cnt8 c) + cnt8 b) + cnt8 a = v at r3
 have hv1 : v < 2 ^ 36 := by omega
 have s4 : bshr .u64 (v : Int) 8 = ((v / 256 : Nat) : Int) := u64_shr (k := 8) (by omega)
 have s5 : bshr .u64 ((v + v / 256 : Nat) : Int) 16 = (((v + v / 256) / 65536 : Nat) : Int) := u64_shr (k := 16) (by omega)
 have s6 : bshr .u64 ((v + v / 256 + (v + v / 256) / 65536 : Nat) : Int) 32 = (((v + v / 256 + (v + v / 256) / 65536) / 4294967296 : Nat) : Int) := u64_shr (k := 32) (by omega)
 simp only [s1, e1, e2]
 rw [← Int.natCast_add, r1, u64_wrap (by omega), s2, e3, e4, ← Int.natCast_add, r2, u64_wrap (by omega), s3, ← Int.natCast_add, u64_wrap (by omega), e5, r3, s4, ← Int.natCast_add, u64_wrap (by omega), s5, ← Int.natCast_add, u64_wrap (by omega), s6, ← Int.natCast_add, u64_wrap (by omega), i64_band127 (by omega), bd_s]
 generalize cnt8 a = A at *
 generalize cnt8 b = B at *
 generalize cnt8 c = C at *
 generalize cnt8 d = D at *
 generalize cnt8 e = E at *
 have k1 : v / 256 = 256 * (256 * (256 * E + D) + C) + B := by omega
 have k2 : (v + v / 256) / 65536 = 256 * (256 * E + (D + E)) + (C + D) := by omega
 have k3 : v + v / 256 + (v + v / 256) / 65536 = 4294967296 * E + 16777216 * (D + E) + 65536 * (C + D + E) + 256 * (B + C + D + E) + (A + B + C + D) := by omega
 have k4 : (v + v / 256 + (v + v / 256) / 65536) / 4294967296 = E := by omega
 congr 2
 rw [k4, k3]
 omega
end Pc
def pop40 (F : Nat) : Nat := (List.range 40).countP F.testBit
theorem pop40_ok {F : Nat} (hF : F < 2 ^ 40) : math_bits_OnesCount_F (IntKind.u64.wrap (F : Int)) = some ((pop40 F : Nat) : Int) := by
 rw [Pc.u64_wrap (by omega)]
 have e : F = 256 * (256 * (256 * (256 * (F / 4294967296) + F / 16777216 % 256) + F / 65536 % 256) + F / 256 % 256) + F % 256 := by omega
 have h := Pc.ones5 (a := F % 256) (b := F / 256 % 256) (c := F / 65536 % 256) (d := F / 16777216 % 256) (e := F / 4294967296) (by omega) (by omega) (by omega) (by omega) (by omega)
 rw [← e] at h
 rw [h]
 have : pop40 F = Pc.cnt8 (F % 256) + Pc.cnt8 (F / 256 % 256) + Pc.cnt8 (F / 65536 % 256) + Pc.cnt8 (F / 16777216 % 256) + Pc.cnt8 (F / 4294967296) := by
   unfold pop40
   conv => lhs; rw [e]
   rw [show 40 = 8 + 32 from rfl, Pc.cnt_split (by omega), show 32 = 8 + 24 from rfl, Pc.cnt_split (by omega), show 24 = 8 + 16 from rfl, Pc.cnt_split (by omega), show 16 = 8 + 8 from rfl, Pc.cnt_split (by omega)]
   unfold Pc.cnt8
   omega
 rw [this]
theorem countP_ext {p : Nat → Bool} {k : Nat} : ∀ {m : Nat}, k ≤ m → (∀ i, k ≤ i → p i = false) → (List.range m).countP p = (List.range k).countP p
 | 0, h, _ => by have : k = 0 := by omega
                 subst this; rfl
 | m + 1, h, hz => by
   by_cases q : k = m + 1
   · subst q; rfl
   · rw [List.range_succ, List.countP_append, countP_ext (k := k) (m := m) (by omega) hz]
     simp [hz m (by omega)]
theorem many_ok {F : Nat} (hF : F < 2 ^ 40) : ref27_Many_F (F : Int) = some ((pop40 F : Nat) : Int) := by
 obtain ⟨o, e, ho⟩ := lp_runF (body := ref27_Many_b1) (fun z : Int × Int => ∃ k : Nat, z.1 = ((F / 2 ^ k : Nat) : Int) ∧ k ≤ 40 ∧ z.2 = (((List.range k).countP F.testBit : Nat) : Int)) (fun z => z.1.toNat)
   (fun o => match o with
     | .inl z => z.2 = ((pop40 F : Nat) : Int)
     | .inr _ => False) (fun z hz => by
     obtain ⟨x, c⟩ := z
     obtain ⟨k, rfl, hk, rfl⟩ := hz
     have hle : F / 2 ^ k ≤ F := Nat.div_le_self _ _
     have hcl : (List.range k).countP F.testBit ≤ k := Nat.le_trans List.countP_le_length (by simp)
     have hbit : F.testBit k = decide (F / 2 ^ k % 2 = 1) := Nat.testBit_eq_decide_div_mod_eq
     have hnext : F / 2 ^ k / 2 = F / 2 ^ (k + 1) := by rw [Nat.div_div_eq_div_mul, Nat.pow_succ]
     unfold ref27_Many_b1
     rw [cn_dec]
     by_cases q : ((F / 2 ^ k : Nat) : Int) > 0
     · have hk40 : k < 40 := by
         rcases Nat.lt_or_ge k 40 with h | h
         · exact h
         · have : k = 40 := by omega
           subst this
           rw [Nat.div_eq_of_lt hF] at q
           simp at q
       simp only
       rw [if_pos q, Int.tmod_eq_emod_of_nonneg (by omega), Int.tdiv_eq_ediv_of_nonneg (by omega)]
       have e1 : (((F / 2 ^ k : Nat) : Int) / 2) = ((F / 2 ^ (k + 1) : Nat) : Int) := by rw [← hnext]; omega
       have e2 : (List.range (k + 1)).countP F.testBit = (List.range k).countP F.testBit + F / 2 ^ k % 2 := by
         rw [List.range_succ, List.countP_append]
         simp only [List.countP_cons, List.countP_nil, hbit, decide_eq_true_eq]
         split <;> omega
       have hle2 : F / 2 ^ (k + 1) < F / 2 ^ k := by rw [← hnext]; omega
       rw [e1, wr_id (x := ((F / 2 ^ (k + 1) : Nat) : Int)) (by omega) (by omega), wr_id (x := _ + ((F / 2 ^ k : Nat) : Int) % 2) (by omega) (by omega)]
       refine .inl ⟨_, rfl, ⟨k + 1, rfl, by omega, ?_⟩, ?_⟩
       · simp only; rw [e2]; omega
       · simp only; omega
     · rw [if_neg q]
       refine .inr (.inl ⟨_, rfl, ?_⟩)
       have h0 : F / 2 ^ k = 0 := by
         rcases Nat.eq_zero_or_pos (F / 2 ^ k) with h | h
         · exact h
         · exact absurd (Int.natCast_pos.2 h) q
       have hlt : F < 2 ^ k := by
         rcases Nat.lt_or_ge F (2 ^ k) with h | h
         · exact h
         · have := Nat.div_pos h (Nat.two_pow_pos k); omega
       simp only
       unfold pop40
       rw [countP_ext hk fun i hi => Nat.testBit_lt_two_pow (Nat.lt_of_lt_of_le hlt (Nat.pow_le_pow_right (by omega) hi))])
   ((F : Int), 0) ⟨0, by simp, by omega, by simp⟩ (by simp only; omega)
 unfold ref27_Many_F
 rw [e, bd_s]
 match o, ho with
 | .inl z, ho => rw [smK_l, ho]
theorem EndsI.wo {n : TNet} {a b : Int} (F : Nat) (h : EndsI n a b) : EndsI (wo n F) a b := ⟨h.v.wo F, h.ha, h.hb, h.ne⟩
theorem refCheckWorst (n : TNet) (a b k : Int) (u : TFailure) : ref27_CheckWorst_F n a b k u = flow_CheckWorst_F n a b k u := by
 unfold ref27_CheckWorst_F flow_CheckWorst_F
 simp only [jn_d, refWithout, refCheckCut, refEnds, refIn, isInF, bd_s]
 by_cases hW : NV n ∧ 0 ≤ u.Failed ∧ u.Failed < 2 ^ n.Edges.length
 · obtain ⟨h0, h1, h2⟩ := hW
   have hel := h0.el
   have hp : (2 : Int) ^ n.Edges.length ≤ 2 ^ 40 := two_pow_le hel
   obtain ⟨F, hF⟩ : ∃ F : Nat, u.Failed = (F : Int) := ⟨_, (Int.toNat_of_nonneg h1).symm⟩
   rw [hF] at h1 h2 ⊢
   have hF40 : F < 2 ^ 40 := by omega
   rw [Without_ok h0 h2, bd_s, bd_s]
   simp only [bne_self_eq_false, cn_f]
   rw [many_ok hF40, bd_s, pop40_ok hF40, bd_s]
   by_cases he : EndsI n a b
   · rw [decide_eq_true he, Bool.not_true, cn_f]
     cases c1 : (decide (0 ≤ k) && decide (k ≤ 3)) with
     | false => simp only [Bool.not_false, cn_t]
     | true =>
       simp only [Bool.not_true, cn_f]
   · obtain ⟨y, ey⟩ : ∃ y, y = flow_CheckCut_F (wo n F) a b u.Cut := ⟨_, rfl⟩
     have hno : ¬ EndsI (wo n F) a b := fun q => he ⟨h0, q.ha, q.hb, q.ne⟩
     rw [decide_eq_false he, Bool.not_false, cn_t, cn_t, CheckCut_no hno, bd_s]
     simp only [cn_if]
     split
     · rfl
     · split <;> rfl
 · rw [Without_no hW, bd_s, bd_s]
   have h2 : ((270 : Int) != 0) = true := rfl
   simp only [h2, cn_t]
   simp only [cn_if]
   split
   · rfl
   · split <;> rfl
theorem Worst_no {n : TNet} {a b k : Int} (h : ¬ (EndsI n a b ∧ 0 ≤ k ∧ k ≤ 3)) : flow_Worst_F n a b k = some (⟨0, 0, 0⟩, 270) := by
 unfold flow_Worst_F
 simp only [jn_d, isPair_iff, isInF, bd_s]
 by_cases he : EndsI n a b
 · rw [decide_eq_true he, Bool.not_true, cn_f]
   have : (decide (0 ≤ k) && decide (k ≤ 3)) = false := by
     cases c : (decide (0 ≤ k) && decide (k ≤ 3)) with
     | false => rfl
     | true => simp only [Bool.and_eq_true, decide_eq_true_eq] at c; exact absurd ⟨he, c⟩ h
   rw [this, Bool.not_false, cn_t]
 · rw [decide_eq_false he, Bool.not_false, cn_t, cn_t]
end Go.Proofs.Ytgkmodjcoedonaa
