import Derived.Test.YthbonailomfjlaaPB
/-! Chapter 5, plainly: Agree. -/
namespace Go.Proofs.Ythbonailomfjlaa
open Go Go.Eng
set_option maxRecDepth 100000
/-- How many spells have a second. -/
def cov (l : List TSpell) (s : Int) : Int := ((l.filter fun x => decide (x.From ≤ s ∧ s < x.To)).length : Int)
theorem cov_nonneg (l : List TSpell) (s : Int) : 0 ≤ cov l s := by unfold cov; omega
theorem cov_nil (s : Int) : cov [] s = 0 := rfl
theorem cov_cons (x : TSpell) (l : List TSpell) (s : Int) : cov (x :: l) s = (if x.From ≤ s ∧ s < x.To then 1 else 0) + cov l s := by
  unfold cov
  rw [List.filter_cons]
  by_cases h : x.From ≤ s ∧ s < x.To
  · rw [if_pos (decide_eq_true h), if_pos h, List.length_cons]; omega
  · rw [if_neg (by simpa using h), if_neg h]; omega
theorem cov_app (l k : List TSpell) (s : Int) : cov (l ++ k) s = cov l s + cov k s := by
  unfold cov; rw [List.filter_append, List.length_append]; omega
theorem cov_le (l : List TSpell) (s : Int) : cov l s ≤ l.length := by
  unfold cov; have := List.length_filter_le (fun x => decide (x.From ≤ s ∧ s < x.To)) l; omega
/-- What Agree is to give. -/
def AgreeP (l : List TSpell) (o : TSpell) (k : Int) : Prop :=
  (k = 0 ∧ o = ⟨0, 0⟩ ∧ ∀ s, cov l s = 0) ∨ (0 < k ∧ o.From < o.To ∧ (∀ s, cov l s ≤ k) ∧ (∀ s, s < o.From → cov l s < k) ∧ (∀ s, o.From ≤ s → s < o.To → cov l s = k) ∧ cov l o.To < k)
theorem AgreeP.unique {l : List TSpell} {o o' : TSpell} {k k' : Int} (h : AgreeP l o k) (g : AgreeP l o' k') : o = o' ∧ k = k' := by
  rcases h with ⟨rfl, rfl, h⟩ | ⟨h0, h1, h2, h3, h4, h5⟩
  · rcases g with ⟨rfl, rfl, g⟩ | ⟨g0, g1, g2, g3, g4, g5⟩
    · exact ⟨rfl, rfl⟩
    · have := g4 o'.From (Int.le_refl _) g1; rw [h] at this; omega
  · rcases g with ⟨rfl, rfl, g⟩ | ⟨g0, g1, g2, g3, g4, g5⟩
    · have := h4 o.From (Int.le_refl _) h1; rw [g] at this; omega
    · have a1 := h4 o.From (Int.le_refl _) h1
      have a2 := g4 o'.From (Int.le_refl _) g1
      have b1 := h2 o'.From
      have b2 := g2 o.From
      have hk : k = k' := by omega
      subst hk
      have hf : o.From = o'.From := by
        by_cases c1 : o.From < o'.From
        · have := g3 _ c1; omega
        · by_cases c2 : o'.From < o.From
          · have := h3 _ c2; omega
          · omega
      have ht : o.To = o'.To := by
        by_cases c1 : o.To < o'.To
        · have := g4 o.To (by omega) c1; omega
        · by_cases c2 : o'.To < o.To
          · have := h4 o'.To (by omega) c2; omega
          · omega
      obtain ⟨a, b⟩ := o
      obtain ⟨a', b'⟩ := o'
      dsimp only at hf ht
      subst hf ht
      exact ⟨rfl, rfl⟩
/-! Edges. -/
def edgesOf (x : TSpell) : List TEdge := if x.From < x.To then [⟨x.From, 1⟩, ⟨x.To, -1⟩] else []
def edges (l : List TSpell) : List TEdge := l.flatMap edgesOf
/-- What the edges up to a second add up to. -/
def psum : List TEdge → Int → Int
  | [], _ => 0
  | e :: m, s => (if e.at_f ≤ s then e.by_f else 0) + psum m s
def bsum : List TEdge → Int
  | [] => 0
  | e :: m => e.by_f + bsum m
theorem psum_app (a b : List TEdge) (s : Int) : psum (a ++ b) s = psum a s + psum b s := by
  induction a with
  | nil => simp [psum]
  | cons e a ih => simp only [List.cons_append, psum, ih]; omega
theorem bsum_app (a b : List TEdge) : bsum (a ++ b) = bsum a + bsum b := by
  induction a with
  | nil => simp [bsum]
  | cons e a ih => simp only [List.cons_append, bsum, ih]; omega
theorem psum_perm {a b : List TEdge} (h : a.Perm b) (s : Int) : psum a s = psum b s := by
  induction h with
  | nil => rfl
  | cons x _ ih => simp only [psum, ih]
  | swap x y l => simp only [psum]; omega
  | trans _ _ h1 h2 => exact h1.trans h2
theorem bsum_perm {a b : List TEdge} (h : a.Perm b) : bsum a = bsum b := by
  induction h with
  | nil => rfl
  | cons x _ ih => simp only [bsum, ih]
  | swap x y l => simp only [bsum]; omega
  | trans _ _ h1 h2 => exact h1.trans h2
theorem psum_edges (l : List TSpell) (s : Int) : psum (edges l) s = cov l s := by
  induction l with
  | nil => rfl
  | cons x l ih =>
    unfold edges at ih ⊢
    rw [List.flatMap_cons, psum_app, ih, cov_cons]
    congr 1
    unfold edgesOf
    split
    · simp only [psum]
      by_cases h1 : x.From ≤ s <;> by_cases h2 : x.To ≤ s
      · rw [if_pos h1, if_pos h2, if_neg (by omega)]; omega
      · rw [if_pos h1, if_neg h2, if_pos (by omega)]; omega
      · omega
      · rw [if_neg h1, if_neg h2, if_neg (by omega)]; omega
    · rw [if_neg (by omega)]; rfl
theorem bsum_edges (l : List TSpell) : bsum (edges l) = 0 := by
  induction l with
  | nil => rfl
  | cons x l ih =>
    unfold edges at ih ⊢
    rw [List.flatMap_cons, bsum_app, ih]
    unfold edgesOf
    split <;> simp [bsum]
theorem edges_len (l : List TSpell) : (edges l).length ≤ 2 * l.length := by
  induction l with
  | nil => simp [edges]
  | cons x l ih =>
    unfold edges at ih ⊢
    rw [List.flatMap_cons, List.length_append, List.length_cons]
    have : (edgesOf x).length ≤ 2 := by unfold edgesOf; split <;> simp
    omega
theorem psum_le (m : List TEdge) (s : Int) (h : ∀ e ∈ m, e.at_f ≤ s) : psum m s = bsum m := by
  induction m with
  | nil => rfl
  | cons e m ih =>
    simp only [psum, bsum]
    rw [if_pos (h e (by simp)), ih fun x hx => h x (by simp [hx])]
theorem psum_gt (m : List TEdge) (s : Int) (h : ∀ e ∈ m, s < e.at_f) : psum m s = 0 := by
  induction m with
  | nil => rfl
  | cons e m ih =>
    simp only [psum]
    have := h e (by simp)
    rw [if_neg (by omega), ih fun x hx => h x (by simp [hx])]; rfl
theorem getBang (l : List TEdge) (j : Nat) : l.toArray[j]! = l.getD j default := by
  simp [List.getD_eq_getElem?_getD]
/-- The sorted edges. -/
structure SortedE (l : List TSpell) (m : List TEdge) : Prop where
  perm : m.Perm (edges l)
  asc : ∀ i j, i < j → j < m.length → (m.getD i default).at_f ≤ (m.getD j default).at_f
theorem sorted_edges (l : List TSpell) : SortedE l (sortF edgeCmp (edges l)) := by
  obtain ⟨h1, h2⟩ := sortF_facts edgeCmp edgeCmp_swo (edges l)
  have hl := sortF_len edgeCmp edgeCmp_swo (edges l)
  refine ⟨?_, fun i j hij hj => ?_⟩
  · have := h1.2.2
    rw [← List.size_toArray, Array.extract_size] at this
    simp only [List.size_toArray] at this
    rw [← hl, List.extract_toArray] at this
    simpa using this
  · have := h2 i j (Nat.zero_le _) hij (by omega)
    rw [getBang, getBang, edgeCmp_lt] at this
    simp at this
    exact this
section
variable {l : List TSpell} {m : List TEdge} (S : SortedE l m)
def at_ (m : List TEdge) (j : Nat) : Int := (m.getD j default).at_f
/-- The last edge at its second. -/
def GE (m : List TEdge) (j : Nat) : Prop := j < m.length ∧ (j + 1 = m.length ∨ at_ m (j + 1) ≠ at_ m j)
include S
theorem asc_le {i j : Nat} (h : i ≤ j) (hj : j < m.length) : at_ m i ≤ at_ m j := by
  rcases Nat.lt_or_ge i j with h' | h'
  · exact S.asc i j h' hj
  · have : i = j := by omega
    subst this; exact Int.le_refl _
theorem cut_sum (s : Int) (i : Nat) (hi : i ≤ m.length) (h1 : ∀ j, j < i → at_ m j ≤ s) (h2 : ∀ j, i ≤ j → j < m.length → s < at_ m j) : cov l s = bsum (m.take i) := by
  rw [← psum_edges, ← psum_perm S.perm]
  conv => lhs; rw [← List.take_append_drop i m, psum_app]
  have mem : ∀ (e : TEdge) (k : List TEdge), e ∈ k → ∃ j, j < k.length ∧ k.getD j default = e := fun e k he => by
    obtain ⟨j, hj, rfl⟩ := List.getElem_of_mem he
    exact ⟨j, hj, by rw [List.getD_eq_getElem?_getD, List.getElem?_eq_getElem hj]; rfl⟩
  rw [psum_le, psum_gt]
  · omega
  · intro e he
    obtain ⟨j, hj, rfl⟩ := mem e _ he
    rw [List.length_drop] at hj
    have := h2 (i + j) (by omega) (by omega)
    simpa [at_, List.getD_eq_getElem?_getD, List.getElem?_drop] using this
  · intro e he
    obtain ⟨j, hj, rfl⟩ := mem e _ he
    rw [List.length_take] at hj
    have := h1 j (by omega)
    simpa [at_, List.getD_eq_getElem?_getD, List.getElem?_take_of_lt (show j < i by omega)] using this
theorem cov_at {j : Nat} (h : GE m j) : cov l (at_ m j) = bsum (m.take (j + 1)) := by
  refine cut_sum S _ (j + 1) (by have := h.1; omega) (fun i hi => asc_le S (by omega) h.1) fun i h1 h2 => ?_
  rcases h.2 with h3 | h3
  · omega
  · have a := asc_le S (show j ≤ j + 1 by omega) (by omega)
    have b := asc_le S h1 h2
    omega
theorem cov_pos (s : Int) : (cov l s = 0 ∧ ∀ j, j < m.length → s < at_ m j) ∨ ∃ j, GE m j ∧ at_ m j ≤ s ∧ cov l s = cov l (at_ m j) ∧ ∀ k, k < m.length → at_ m k ≤ s → k ≤ j := by
  have key : ∀ n, n ≤ m.length → (∀ j, n ≤ j → j < m.length → s < at_ m j) → (cov l s = 0 ∧ ∀ j, j < m.length → s < at_ m j) ∨ ∃ j, GE m j ∧ at_ m j ≤ s ∧ cov l s = cov l (at_ m j) ∧ ∀ k, k < m.length → at_ m k ≤ s → k ≤ j := by
    intro n
    induction n with
    | zero =>
      intro _ h
      refine .inl ⟨?_, fun j hj => h j (Nat.zero_le _) hj⟩
      rw [cut_sum S s 0 (Nat.zero_le _) (fun j hj => by omega) h]; rfl
    | succ n ih =>
      intro hn h
      by_cases hs : at_ m n ≤ s
      · right
        have hge : GE m n := ⟨by omega, by
          rcases Nat.lt_or_ge (n + 1) m.length with h' | h'
          · exact .inr (by have := h (n + 1) (Nat.le_refl _) h'; omega)
          · exact .inl (by omega)⟩
        refine ⟨n, hge, hs, ?_, fun k hk hks => ?_⟩
        · rw [cov_at S hge]
          exact cut_sum S s (n + 1) hn (fun j hj => Int.le_trans (asc_le S (by omega) (by omega)) hs) h
        · rcases Nat.lt_or_ge n k with h' | h'
          · have := h k (by omega) hk; omega
          · exact h'
      · exact ih (by omega) fun j h1 h2 => by
          rcases Nat.lt_or_ge n j with h' | h'
          · exact h j (by omega) h2
          · have : j = n := by omega
            subst this; omega
  exact key m.length (Nat.le_refl _) fun j h1 h2 => by omega
end
/-- The second loop, up to index i: most, open, out. -/
def SweepP (l : List TSpell) (m : List TEdge) (i : Nat) (most : Int) (op : Bool) (o : TSpell) : Prop :=
  (most = 0 ∧ op = false ∧ o = ⟨0, 0⟩ ∧ ∀ j, j < i → GE m j → cov l (at_ m j) ≤ 0) ∨
  (0 < most ∧ ∃ f, f < i ∧ GE m f ∧ o.From = at_ m f ∧ cov l (at_ m f) = most ∧ (∀ j, j < i → GE m j → cov l (at_ m j) ≤ most) ∧ (∀ j, j < f → GE m j → cov l (at_ m j) < most) ∧
    ((op = true ∧ ∀ j, f ≤ j → j < i → GE m j → cov l (at_ m j) = most) ∨ (op = false ∧ ∃ g, f < g ∧ g < i ∧ GE m g ∧ o.To = at_ m g ∧ cov l (at_ m g) < most ∧ ∀ j, f ≤ j → j < g → GE m j → cov l (at_ m j) = most)))
theorem SweepP.skip {l : List TSpell} {m : List TEdge} {i : Nat} {most : Int} {op : Bool} {o : TSpell} (h : SweepP l m i most op o) (hn : ¬ GE m i) : SweepP l m (i + 1) most op o := by
  have e : ∀ j, j < i + 1 → GE m j → j < i := fun j hj hg => by
    rcases Nat.lt_or_ge j i with h | h
    · exact h
    · have : j = i := by omega
      subst this; exact absurd hg hn
  rcases h with ⟨h1, h2, h3, h4⟩ | ⟨h1, f, h2, h3, h4, h5, h6, h7, h8⟩
  · exact .inl ⟨h1, h2, h3, fun j hj hg => h4 j (e j hj hg) hg⟩
  · refine .inr ⟨h1, f, by omega, h3, h4, h5, fun j hj hg => h6 j (e j hj hg) hg, h7, ?_⟩
    rcases h8 with ⟨a, b⟩ | ⟨a, g, b1, b2, b3⟩
    · exact .inl ⟨a, fun j h1 h2 hg => b j h1 (e j h2 hg) hg⟩
    · exact .inr ⟨a, g, b1, by omega, b3⟩
theorem SweepP.more {l : List TSpell} {m : List TEdge} {i : Nat} {most : Int} {op : Bool} {o : TSpell} (h : SweepP l m i most op o) (hg : GE m i) (hc : most < cov l (at_ m i)) : SweepP l m (i + 1) (cov l (at_ m i)) true ⟨at_ m i, o.To⟩ := by
  have le : ∀ j, j < i → GE m j → cov l (at_ m j) ≤ most := by
    rcases h with ⟨h1, h2, h3, h4⟩ | ⟨h1, f, h2, h3, h4, h5, h6, h7, h8⟩
    · intro j hj hg; have := h4 j hj hg; omega
    · exact h6
  have m0 : 0 ≤ most := by rcases h with ⟨h1, _⟩ | ⟨h1, _⟩ <;> omega
  refine .inr ⟨by omega, i, by omega, hg, rfl, rfl, fun j hj hj2 => ?_, fun j hj hj2 => by have := le j hj hj2; omega, .inl ⟨rfl, fun j h1 h2 _ => by rw [show j = i by omega]⟩⟩
  rcases Nat.lt_or_ge j i with h' | h'
  · have := le j h' hj2; omega
  · have : j = i := by omega
    rw [this]; exact Int.le_refl _
theorem SweepP.shut {l : List TSpell} {m : List TEdge} {i : Nat} {most : Int} {o : TSpell} (h : SweepP l m i most true o) (hg : GE m i) (hc : cov l (at_ m i) < most) : SweepP l m (i + 1) most false ⟨o.From, at_ m i⟩ := by
  rcases h with ⟨_, h2, _⟩ | ⟨h1, f, h2, h3, h4, h5, h6, h7, h8⟩
  · cases h2
  · refine .inr ⟨h1, f, by omega, h3, h4, h5, fun j hj hj2 => ?_, h7, ?_⟩
    · rcases Nat.lt_or_ge j i with h' | h'
      · exact h6 j h' hj2
      · have : j = i := by omega
        rw [this]; omega
    · rcases h8 with ⟨_, b⟩ | ⟨a, _⟩
      · exact .inr ⟨rfl, i, h2, by omega, hg, rfl, hc, b⟩
      · cases a
theorem SweepP.keep {l : List TSpell} {m : List TEdge} {i : Nat} {most : Int} {op : Bool} {o : TSpell} (h : SweepP l m i most op o) (hg : GE m i) (hc : cov l (at_ m i) ≤ most) (ho : op = true → ¬ cov l (at_ m i) < most) : SweepP l m (i + 1) most op o := by
  rcases h with ⟨h1, h2, h3, h4⟩ | ⟨h1, f, h2, h3, h4, h5, h6, h7, h8⟩
  · refine .inl ⟨h1, h2, h3, fun j hj hj2 => ?_⟩
    rcases Nat.lt_or_ge j i with h' | h'
    · exact h4 j h' hj2
    · have : j = i := by omega
      rw [this]; omega
  · refine .inr ⟨h1, f, by omega, h3, h4, h5, fun j hj hj2 => ?_, h7, ?_⟩
    · rcases Nat.lt_or_ge j i with h' | h'
      · exact h6 j h' hj2
      · have : j = i := by omega
        rw [this]; exact hc
    · rcases h8 with ⟨a, b⟩ | ⟨a, g, b1, b2, b3⟩
      · refine .inl ⟨a, fun j h1 h2 hj2 => ?_⟩
        rcases Nat.lt_or_ge j i with h' | h'
        · exact b j h1 h' hj2
        · have : j = i := by omega
          rw [this]; have := ho a; omega
      · exact .inr ⟨a, g, b1, by omega, b3⟩
theorem SweepP.fin {l : List TSpell} {m : List TEdge} (S : SortedE l m) {most : Int} {op : Bool} {o : TSpell} (h : SweepP l m m.length most op o) : AgreeP l o most := by
  rcases h with ⟨h1, h2, h3, h4⟩ | ⟨h1, f, h2, h3, h4, h5, h6, h7, h8⟩
  · refine .inl ⟨h1, h3, fun s => ?_⟩
    rcases cov_pos S s with ⟨a, _⟩ | ⟨j, g1, g2, g3, _⟩
    · exact a
    · have := h4 j g1.1 g1; have := cov_nonneg l s; omega
  · rcases h8 with ⟨a, b⟩ | ⟨a, g, b1, b2, b3, b4, b5, b6⟩
    · exfalso
      have hL : GE m (m.length - 1) := ⟨by omega, .inl (by omega)⟩
      have c1 := b (m.length - 1) (by omega) (by omega) hL
      have c2 := cov_at S hL
      rw [show m.length - 1 + 1 = m.length by omega, List.take_length, bsum_perm S.perm, bsum_edges] at c2
      omega
    · have hfg : at_ m f < at_ m g := by
        have := asc_le S (Nat.le_of_lt b1) b2
        have hne : at_ m f ≠ at_ m g := fun e => by rw [e] at h5; omega
        omega
      refine .inr ⟨h1, by rw [h4, b4]; exact hfg, fun s => ?_, fun s hs => ?_, fun s hs1 hs2 => ?_, by rw [b4]; exact b5⟩
      · rcases cov_pos S s with ⟨a, _⟩ | ⟨j, g1, g2, g3, _⟩
        · omega
        · rw [g3]; exact h6 j g1.1 g1
      · rcases cov_pos S s with ⟨a, _⟩ | ⟨j, g1, g2, g3, _⟩
        · omega
        · rw [g3]
          refine h7 j ?_ g1
          rcases Nat.lt_or_ge j f with h' | h'
          · exact h'
          · have := asc_le S h' g1.1; rw [h4] at hs; omega
      · rcases cov_pos S s with ⟨a, a2⟩ | ⟨j, g1, g2, g3, g4⟩
        · have := a2 f h3.1; rw [h4] at hs1; omega
        · rw [g3]
          refine b6 j (g4 f h3.1 (by rw [h4] at hs1; exact hs1)) ?_ g1
          rcases Nat.lt_or_ge j g with h' | h'
          · exact h'
          · have := asc_le S h' g1.1; rw [b4] at hs2; omega
end Go.Proofs.Ythbonailomfjlaa
