import Derived.Test.YthbonailomfjlaaPH
/-! Chapter 5, plainly: the reference's Agree. -/
namespace Go.Proofs.Ythbonailomfjlaa
open Go Go.Eng
set_option maxRecDepth 100000
theorem inside_ok (l : List TSpell) (s : Int) (hl : l.length ≤ 1000) : ref05_Inside_F l s = some (cov l s) := by
  unfold ref05_Inside_F
  obtain ⟨s', e, hs⟩ := lp_fold (body := ref05_Inside_b1 l s) (fun k st => st = (cov (l.take k) s, (k : Int))) l.length (by omega)
    (fun k st hk hs => by
      subst hs
      have b1 := cov_le (l.take k) s
      have b2 := cov_nonneg (l.take k) s
      rw [List.length_take] at b1
      have w1 : wr ((k : Int) + 1) = (k : Int) + 1 := wr_id (by omega) (by omega)
      have w2 : wr (cov (l.take k) s + 1) = cov (l.take k) s + 1 := wr_id (by omega) (by omega)
      have tk : cov (l.take (k + 1)) s = cov (l.take k) s + (if (l.getD k default).From ≤ s ∧ s < (l.getD k default).To then 1 else 0) := by
        rw [take_getD l default k hk, cov_app, cov_cons, cov_nil]; omega
      unfold ref05_Inside_b1
      simp only [jn_d, cn_dec, w1, w2]
      rw [if_pos (by omega)]
      simp only [ix_n hk]
      rw [tk]
      by_cases c1 : (l.getD k default).From ≤ s
      · rw [if_pos c1]
        by_cases c2 : s < (l.getD k default).To
        · rw [if_pos c2, if_pos ⟨c1, c2⟩]; exact ⟨_, rfl, by push_cast; rfl⟩
        · rw [if_neg c2, if_neg (fun h => c2 h.2)]; exact ⟨_, rfl, by push_cast; simp⟩
      · rw [if_neg c1, if_neg (fun h => c1 h.1)]; simp only [cn_f]; exact ⟨_, rfl, by push_cast; simp⟩)
    (fun st hs => by
      subst hs
      unfold ref05_Inside_b1
      simp only [cn_dec]
      rw [if_neg (by omega)]) (0, 0) rfl
  subst hs
  rw [e, bd_s, smK_l, List.take_length]
theorem cov_pos_mem {l : List TSpell} {s : Int} (h : 0 < cov l s) : ∃ x ∈ l, x.From ≤ s ∧ s < x.To := by
  unfold cov at h
  cases hf : l.filter fun x => decide (x.From ≤ s ∧ s < x.To) with
  | nil => rw [hf] at h; simp at h
  | cons x r =>
    have : x ∈ l.filter fun x => decide (x.From ≤ s ∧ s < x.To) := by rw [hf]; simp
    obtain ⟨h1, h2⟩ := List.mem_filter.1 this
    exact ⟨x, h1, of_decide_eq_true h2⟩
theorem max_mem : ∀ (l : List TSpell), l ≠ [] → ∃ x ∈ l, ∀ y ∈ l, y.From ≤ x.From
  | [], h => absurd rfl h
  | [x], _ => ⟨x, by simp, fun y hy => by simp at hy; rw [hy]; exact Int.le_refl _⟩
  | x :: y :: r, _ => by
    obtain ⟨z, hz, hm⟩ := max_mem (y :: r) (by simp)
    by_cases h : z.From ≤ x.From
    · exact ⟨x, by simp, fun u hu => by
        rcases List.mem_cons.1 hu with rfl | hu
        · exact Int.le_refl _
        · exact Int.le_trans (hm u hu) h⟩
    · exact ⟨z, List.mem_cons_of_mem _ hz, fun u hu => by
        rcases List.mem_cons.1 hu with rfl | hu
        · omega
        · exact hm u hu⟩
theorem cov_mono {l : List TSpell} {s u : Int} (h : ∀ x ∈ l, x.From ≤ s ∧ s < x.To → x.From ≤ u ∧ u < x.To) : cov l s ≤ cov l u := by
  induction l with
  | nil => simp [cov]
  | cons x l ih =>
    have h1 := ih fun y hy => h y (by simp [hy])
    rw [cov_cons, cov_cons]
    have h2 := h x (by simp)
    by_cases c : x.From ≤ s ∧ s < x.To
    · rw [if_pos c, if_pos (h2 c)]; omega
    · rw [if_neg c]; split <;> omega
/-- No second is in more spells than the first second of some spell that is not after it. -/
theorem cov_from {l : List TSpell} {s : Int} (h : 0 < cov l s) : ∃ x ∈ l, x.From ≤ s ∧ cov l s ≤ cov l x.From := by
  have hne : (l.filter fun x => decide (x.From ≤ s ∧ s < x.To)) ≠ [] := fun e => by unfold cov at h; rw [e] at h; simp at h
  obtain ⟨x, hx, hm⟩ := max_mem _ hne
  obtain ⟨h1, h2⟩ := List.mem_filter.1 hx
  have h2 := of_decide_eq_true h2
  exact ⟨x, h1, h2.1, cov_mono fun y hy hc => ⟨hm y (List.mem_filter.2 ⟨hy, decide_eq_true hc⟩), by omega⟩⟩
theorem cov_self {l : List TSpell} {x : TSpell} (hx : x ∈ l) (h : x.From < x.To) : 0 < cov l x.From := by
  induction l with
  | nil => simp at hx
  | cons y l ih =>
    rw [cov_cons]
    have := cov_nonneg l x.From
    rcases List.mem_cons.1 hx with rfl | hx
    · rw [if_pos ⟨Int.le_refl _, h⟩]; omega
    · have := ih hx; split <;> omega
/-- The first loop: the greatest number, and the least beginning that has it. -/
def FirstP (l : List TSpell) (k : Nat) (most from_ : Int) : Prop :=
  (∀ x ∈ l.take k, cov l x.From ≤ most) ∧ ((most = 0) ∨ (0 < most ∧ cov l from_ = most ∧ ∀ x ∈ l.take k, cov l x.From = most → from_ ≤ x.From))
theorem first_loop (l : List TSpell) (hl : l.length ≤ 1000) : ∃ most from_ i, lp (ref05_Agree_b1 l) FU (0, 0, 0) = some (.inl (most, from_, i)) ∧ FirstP l l.length most from_ := by
  obtain ⟨s', e, hs⟩ := lp_fold (body := ref05_Agree_b1 l) (fun k st => ∃ most from_, st = (most, from_, (k : Int)) ∧ FirstP l k most from_) l.length (by omega)
    (fun k st hk hs => by
      obtain ⟨most, f, rfl, h1, h2⟩ := hs
      have w1 : wr ((k : Int) + 1) = ((k + 1 : Nat) : Int) := by rw [wr_id (by omega) (by omega)]; push_cast; rfl
      unfold ref05_Agree_b1
      simp only [jn_d, cn_dec, cn_beq, w1]
      rw [if_pos (by omega)]
      simp only [ix_n hk]
      rw [inside_ok l _ hl, bd_s]
      unfold FirstP
      rw [take_getD l default k hk]
      generalize l.getD k default = x
      have m0 : 0 ≤ most := by rcases h2 with h | h <;> omega
      have up : ∀ y ∈ l.take k ++ [x], y ∈ l.take k ∨ y = x := fun y hy => by simpa using hy
      have take : ∀ (c : cov l x.From > most ∨ (cov l x.From = most ∧ x.From < f)), (∀ y ∈ l.take k ++ [x], cov l y.From ≤ cov l x.From) ∧ ((cov l x.From = 0) ∨ (0 < cov l x.From ∧ cov l x.From = cov l x.From ∧ ∀ y ∈ l.take k ++ [x], cov l y.From = cov l x.From → x.From ≤ y.From)) := fun c => by
        refine ⟨fun y hy => ?_, ?_⟩
        · rcases up y hy with hy | rfl
          · have := h1 y hy; omega
          · exact Int.le_refl _
        · by_cases c0 : cov l x.From = 0
          · exact .inl c0
          · refine .inr ⟨by have := cov_nonneg l x.From; omega, rfl, fun y hy hc => ?_⟩
            rcases up y hy with hy | rfl
            · have := h1 y hy
              rcases c with c | c
              · omega
              · rcases h2 with h2 | ⟨_, _, h2⟩
                · omega
                · have := h2 y hy (by omega); omega
            · exact Int.le_refl _
      have leave : ∀ (c1 : ¬ cov l x.From > most) (c2 : cov l x.From = most → ¬ x.From < f), (∀ y ∈ l.take k ++ [x], cov l y.From ≤ most) ∧ ((most = 0) ∨ (0 < most ∧ cov l f = most ∧ ∀ y ∈ l.take k ++ [x], cov l y.From = most → f ≤ y.From)) := fun c1 c2 => by
        refine ⟨fun y hy => ?_, ?_⟩
        · rcases up y hy with hy | rfl
          · exact h1 y hy
          · omega
        · rcases h2 with h2 | ⟨h2, h3, h4⟩
          · exact .inl h2
          · refine .inr ⟨h2, h3, fun y hy hc => ?_⟩
            rcases up y hy with hy | rfl
            · exact h4 y hy hc
            · have := c2 hc; omega
      by_cases c1 : cov l x.From > most
      · rw [if_pos c1]
        simp only [cn_t]
        exact ⟨_, rfl, _, _, rfl, take (.inl c1)⟩
      · rw [if_neg c1]
        by_cases c2 : cov l x.From = most
        · rw [if_pos c2]
          by_cases c3 : x.From < f
          · rw [if_pos c3]
            exact ⟨_, rfl, _, _, rfl, take (.inr ⟨c2, c3⟩)⟩
          · rw [if_neg c3]
            exact ⟨_, rfl, _, _, rfl, leave c1 fun _ => c3⟩
        · rw [if_neg c2]
          simp only [cn_f]
          exact ⟨_, rfl, _, _, rfl, leave c1 fun h => absurd h c2⟩)
    (fun st hs => by
      obtain ⟨most, f, rfl, _⟩ := hs
      unfold ref05_Agree_b1
      simp only [cn_dec]
      rw [if_neg (by omega)]) (0, 0, 0) ⟨0, 0, rfl, by simp, .inl rfl⟩
  obtain ⟨most, f, rfl, h⟩ := hs
  exact ⟨_, _, _, e, h⟩
/-- The next end after 'to' among some spells; 'to' itself if there is none. -/
def NextP (l : List TSpell) (to next : Int) : Prop :=
  (next = to ∧ ∀ x ∈ l, x.From ≤ to ∧ x.To ≤ to) ∨ (to < next ∧ (∃ x ∈ l, x.From = next ∨ x.To = next) ∧ ∀ x ∈ l, (to < x.From → next ≤ x.From) ∧ (to < x.To → next ≤ x.To))
theorem next_loop (l : List TSpell) (hl : l.length ≤ 1000) (to : Int) : ∃ next i, lp (ref05_Agree_b3 l to) FU (to, 0) = some (.inl (next, i)) ∧ NextP l to next := by
  obtain ⟨s', e, hs⟩ := lp_fold (body := ref05_Agree_b3 l to) (fun k st => ∃ next, st = (next, (k : Int)) ∧ NextP (l.take k) to next) l.length (by omega)
    (fun k st hk hs => by
      obtain ⟨next, rfl, h⟩ := hs
      have w1 : wr ((k : Int) + 1) = ((k + 1 : Nat) : Int) := by rw [wr_id (by omega) (by omega)]; push_cast; rfl
      have hmem : l.getD k default ∈ l.take (k + 1) := by rw [take_getD l default k hk]; simp
      unfold ref05_Agree_b3
      simp only [jn_d, cn_dec, cn_beq, w1]
      rw [if_pos (by omega)]
      simp only [ix_n hk]
      rw [take_getD l default k hk]
      generalize l.getD k default = x
      have up : ∀ y ∈ l.take k ++ [x], y ∈ l.take k ∨ y = x := fun y hy => by simpa using hy
      -- the two steps: the beginning, then the end
      obtain ⟨n1, hn1, e1⟩ : ∃ n1, n1 = (if x.From > to ∧ (next = to ∨ x.From < next) then x.From else next) ∧ True := ⟨_, rfl, trivial⟩
      obtain ⟨n2, hn2, e2⟩ : ∃ n2, n2 = (if x.To > to ∧ (n1 = to ∨ x.To < n1) then x.To else n1) ∧ True := ⟨_, rfl, trivial⟩
      refine ⟨(n2, ((k + 1 : Nat) : Int)), ?_, n2, rfl, ?_⟩
      · have s2 : ∀ n, (if x.To > to then if n = to then cn true (some (Ct.nx (x.To, ((k + 1 : Nat) : Int)))) (some (Ct.nx (n, ((k + 1 : Nat) : Int)))) else if x.To < n then some (Ct.nx (x.To, ((k + 1 : Nat) : Int))) else some (Ct.nx (n, ((k + 1 : Nat) : Int)))
            else cn false (some (Ct.nx (x.To, ((k + 1 : Nat) : Int)))) (some (Ct.nx (n, ((k + 1 : Nat) : Int)))) : Option (Ct (Int × Int) (TSpell × Int))) = some (.nx ((if x.To > to ∧ (n = to ∨ x.To < n) then x.To else n), ((k + 1 : Nat) : Int))) := fun n => by
          by_cases c1 : x.To > to
          · by_cases c2 : n = to
            · rw [if_pos c1, if_pos c2, if_pos ⟨c1, .inl c2⟩, cn_t]
            · by_cases c3 : x.To < n
              · rw [if_pos c1, if_neg c2, if_pos c3, if_pos ⟨c1, .inr c3⟩]
              · rw [if_pos c1, if_neg c2, if_neg c3, if_neg (fun h => h.2.elim c2 c3)]
          · rw [if_neg c1, if_neg (fun h => c1 h.1), cn_f]
        rw [hn2]
        by_cases c1 : x.From > to
        · by_cases c2 : next = to
          · rw [if_pos c1, if_pos c2, cn_t]
            rw [if_pos ⟨c1, .inl c2⟩] at hn1
            rw [hn1]; exact s2 x.From
          · by_cases c3 : x.From < next
            · rw [if_pos c1, if_neg c2, if_pos c3]
              rw [if_pos ⟨c1, .inr c3⟩] at hn1
              rw [hn1]; exact s2 x.From
            · rw [if_pos c1, if_neg c2, if_neg c3]
              rw [if_neg (fun h => h.2.elim c2 c3)] at hn1
              rw [hn1]; exact s2 next
        · rw [if_neg c1, cn_f]
          rw [if_neg (fun h => c1 h.1)] at hn1
          rw [hn1]; exact s2 next
      · rcases h with ⟨rfl, h⟩ | ⟨h0, ⟨y, hy, hyn⟩, h⟩
        · by_cases c1 : x.From > next
          · rw [if_pos ⟨c1, .inl rfl⟩] at hn1
            by_cases c2 : x.To > next ∧ (n1 = next ∨ x.To < n1)
            · rw [if_pos c2] at hn2
              refine .inr ⟨by omega, ⟨x, by simp, .inr hn2.symm⟩, fun z hz => ?_⟩
              rcases up z hz with hz | rfl
              · have := h z hz; omega
              · omega
            · rw [if_neg c2] at hn2
              refine .inr ⟨by omega, ⟨x, by simp, .inl (by omega)⟩, fun z hz => ?_⟩
              rcases up z hz with hz | rfl
              · have := h z hz; omega
              · omega
          · rw [if_neg (fun h => c1 h.1)] at hn1
            by_cases c2 : x.To > next
            · rw [if_pos ⟨c2, .inl hn1⟩] at hn2
              refine .inr ⟨by omega, ⟨x, by simp, .inr hn2.symm⟩, fun z hz => ?_⟩
              rcases up z hz with hz | rfl
              · have := h z hz; omega
              · omega
            · rw [if_neg (fun h => c2 h.1)] at hn2
              refine .inl ⟨by omega, fun z hz => ?_⟩
              rcases up z hz with hz | rfl
              · exact h z hz
              · omega
        · have a1 : to < n1 ∧ (n1 = next ∨ n1 = x.From) ∧ n1 ≤ next ∧ (to < x.From → n1 ≤ x.From) := by
            rw [hn1]; split <;> omega
          have a2 : to < n2 ∧ (n2 = n1 ∨ n2 = x.To) ∧ n2 ≤ n1 ∧ (to < x.To → n2 ≤ x.To) := by
            rw [hn2]; split <;> omega
          refine .inr ⟨a2.1, ?_, fun z hz => ?_⟩
          · rcases a2.2.1 with e | e
            · rcases a1.2.1 with e' | e'
              · exact ⟨y, by simp [hy], by omega⟩
              · exact ⟨x, by simp, by omega⟩
            · exact ⟨x, by simp, by omega⟩
          · rcases up z hz with hz | rfl
            · have := h z hz; omega
            · omega)
    (fun st hs => by
      obtain ⟨next, rfl, _⟩ := hs
      unfold ref05_Agree_b3
      simp only [cn_dec]
      rw [if_neg (by omega)]) (to, 0) ⟨to, rfl, .inl ⟨rfl, by simp⟩⟩
  obtain ⟨next, rfl, h⟩ := hs
  rw [List.take_length] at h
  exact ⟨_, _, e, h⟩
/-- How many ends lie after a second. -/
def endsAfter : List TSpell → Int → Nat
  | [], _ => 0
  | x :: l, t => (if t < x.From then 1 else 0) + (if t < x.To then 1 else 0) + endsAfter l t
theorem endsAfter_le (l : List TSpell) (t : Int) : endsAfter l t ≤ 2 * l.length := by
  induction l with
  | nil => simp [endsAfter]
  | cons x l ih => simp only [endsAfter, List.length_cons]; split <;> split <;> omega
theorem endsAfter_mono (l : List TSpell) {t u : Int} (h : t ≤ u) : endsAfter l u ≤ endsAfter l t := by
  induction l with
  | nil => simp [endsAfter]
  | cons x l ih => simp only [endsAfter]; split <;> split <;> split <;> split <;> omega
theorem endsAfter_lt {l : List TSpell} {t u : Int} (h : t < u) (hx : ∃ x ∈ l, x.From = u ∨ x.To = u) : endsAfter l u < endsAfter l t := by
  obtain ⟨x, hx, he⟩ := hx
  induction l with
  | nil => simp at hx
  | cons y l ih =>
    simp only [endsAfter]
    rcases List.mem_cons.1 hx with rfl | hx
    · have := endsAfter_mono l (Int.le_of_lt h)
      rcases he with he | he <;> (split <;> split <;> split <;> split <;> omega)
    · have := ih hx
      split <;> split <;> split <;> split <;> omega
theorem agree_ref (l : List TSpell) (hl : l.length ≤ 1000) : ∃ o k, ref05_Agree_F l = some (o, k) ∧ AgreeP l o k := by
  unfold ref05_Agree_F
  obtain ⟨most, f, i, e, h1, h2⟩ := first_loop l hl
  rw [List.take_length] at h1 h2
  rw [e, bd_s, smK_l]
  simp only [cn_beq]
  by_cases c0 : most = 0
  · rw [if_pos c0]
    refine ⟨_, _, rfl, .inl ⟨rfl, rfl, fun s => ?_⟩⟩
    by_cases c : 0 < cov l s
    · obtain ⟨x, hx, _, hc⟩ := cov_from c
      have := h1 x hx; omega
    · have := cov_nonneg l s; omega
  · rw [if_neg c0]
    rcases h2 with h2 | ⟨m0, hf, hmin⟩
    · exact absurd h2 c0
    have hle : ∀ s, cov l s ≤ most := fun s => by
      by_cases c : 0 < cov l s
      · obtain ⟨x, hx, _, hc⟩ := cov_from c
        have := h1 x hx; omega
      · omega
    have hlt : ∀ s, s < f → cov l s < most := fun s hs => by
      by_cases c : cov l s = most
      · obtain ⟨x, hx, hxs, hc⟩ := cov_from (l := l) (s := s) (by omega)
        have := hmin x hx (by have := h1 x hx; omega)
        omega
      · have := hle s; omega
    obtain ⟨o, e2, to, rfl, t0, t1, t2⟩ := lp_runF (body := ref05_Agree_b2 l (most, f, i)) (fun to => f ≤ to ∧ ∀ s, f ≤ s → s < to → cov l s = most) (fun to => endsAfter l to) (fun o => ∃ to, o = .inl to ∧ f < to ∧ (∀ s, f ≤ s → s < to → cov l s = most) ∧ cov l to < most)
      (fun to ⟨t0, t1⟩ => by
        unfold ref05_Agree_b2
        rw [inside_ok l to hl, bd_s]
        simp only [cn_beq]
        by_cases c : cov l to = most
        · left
          obtain ⟨next, j, e3, hn⟩ := next_loop l hl to
          rw [if_pos c, e3, bd_s, smK_l]
          obtain ⟨x, hx, hx1, hx2⟩ := cov_pos_mem (l := l) (s := to) (by omega)
          rcases hn with ⟨rfl, hn⟩ | ⟨hn0, hn1, hn2⟩
          · have := hn x hx; omega
          · refine ⟨_, rfl, ⟨by dsimp only; omega, fun s hs1 hs2 => ?_⟩, endsAfter_lt hn0 hn1⟩
            dsimp only at hs2
            rcases Int.lt_or_le s to with h | h
            · exact t1 s hs1 h
            · have a1 : cov l s ≤ cov l to := cov_mono fun y hy hc => by have := hn2 y hy; omega
              have a2 : cov l to ≤ cov l s := cov_mono fun y hy hc => by have := hn2 y hy; omega
              omega
        · right; left
          refine ⟨_, by rw [if_neg c], to, rfl, ?_, t1, by have := hle to; omega⟩
          rcases Int.lt_or_le f to with h | h
          · exact h
          · have : to = f := by omega
            subst this; exact absurd hf c) f ⟨Int.le_refl _, fun s a b => by omega⟩ (by have := endsAfter_le l f; omega)
    rw [e2, bd_s, smK_l]
    exact ⟨_, _, rfl, .inr ⟨m0, t0, hle, hlt, t1, t2⟩⟩
theorem agree_both (l : List TSpell) (hl : l.length ≤ 1000) : ∃ z, clock_Agree_F l = some z ∧ ref05_Agree_F l = some z := by
  obtain ⟨o, k, e, h⟩ := agree_ok l hl
  obtain ⟨o', k', e', h'⟩ := agree_ref l hl
  obtain ⟨rfl, rfl⟩ := h.unique h'
  exact ⟨_, e, e'⟩
end Go.Proofs.Ythbonailomfjlaa
