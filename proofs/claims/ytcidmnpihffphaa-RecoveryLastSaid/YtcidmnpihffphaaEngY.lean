import Derived.Test.YtcidmnpihffphaaEngV
namespace Go.Eng
open Go
open Go.RowKit (Below)
universe u v
/-! ### A range over a function. -/
/-- A value all of whose names are below 64. -/
def AV.a64 (a : AV) : Prop := ∀ (β : Beta) (loc' : Nat → Option Loc) (ys' : Nat → Prop) (v : Value), (∀ i, i < 64 → β.loc i ≠ none → loc' i = β.loc i) → V β a v → V ⟨loc', β.fz, ys'⟩ a v
theorem a64_loose {a : AV} (h : a.loose) : a.a64 := fun β loc' ys' v _ hv => h β loc' ys' v hv
theorem a64_loc {β : Beta} {loc' : Nat → Option Loc} {i : Nat} {l : Loc} (hi : i < 64) (h : ∀ i, i < 64 → β.loc i ≠ none → loc' i = β.loc i) (hl : β i = some l) : loc' i = some l := by
  rw [h i hi (by rw [hl]; simp)]; exact hl
theorem a64_ptr {i o : Nat} (hi : i < 64) : (AV.ptr i o).a64 := fun β loc' ys' v h hv => by
  simp only [V] at hv ⊢; obtain ⟨l, h1, h2⟩ := hv; exact ⟨l, a64_loc hi h h1, h2⟩
theorem a64_mp {i : Nat} (hi : i < 64) : (AV.mp i).a64 := fun β loc' ys' v h hv => by
  simp only [V] at hv ⊢; obtain ⟨l, h1, h2⟩ := hv; exact ⟨l, a64_loc hi h h1, h2⟩
theorem a64_sl {i o n m z : Nat} (hi : i < 64) : (AV.sl i o n m z).a64 := fun β loc' ys' v h hv => by
  simp only [V] at hv ⊢; obtain ⟨l, h1, h2⟩ := hv; exact ⟨l, a64_loc hi h h1, h2⟩
theorem a64_so {i o n z : Nat} (hi : i < 64) : (AV.so i o n z).a64 := fun β loc' ys' v h hv => by
  simp only [V] at hv ⊢; obtain ⟨l, h1, h2⟩ := hv; exact ⟨l, a64_loc hi h h1, h2⟩
theorem a64_tok {g sz n : Nat} {f : Nat → AV} (hi : g < 64) (hf : ∀ j, (f j).loose) : (AV.lst (.tok g) sz n f).a64 := fun β loc' ys' v h hv => by
  simp only [V] at hv ⊢
  obtain ⟨b, cap, h1, h2, ⟨l, h3, h3'⟩, h4⟩ := hv
  refine ⟨b, cap, h1, h2, ⟨l, a64_loc hi h h3, h3'⟩, fun j hj => ?_⟩
  obtain ⟨c, o, u, k1, k2, k3, k4⟩ := h4 j hj
  exact ⟨c, o, u, k1, k2, k3, hf j _ _ _ _ k4⟩
theorem Vs_a64 {aa : List AV} (h : ∀ a ∈ aa, a.a64) {β : Beta} {loc' : Nat → Option Loc} {ys' : Nat → Prop} (hl : ∀ i, i < 64 → β.loc i ≠ none → loc' i = β.loc i) : ∀ {vs : List Value}, Vs β aa vs → Vs ⟨loc', β.fz, ys'⟩ aa vs := by
  induction aa with
  | nil => intro vs hv; simpa [Vs] using hv
  | cons a aa ih =>
    intro vs hv
    simp only [Vs] at hv ⊢
    obtain ⟨v, vs', e, h1, h2⟩ := hv
    exact ⟨v, vs', e, h a (by simp) _ _ _ _ hl h1, ih (fun b hb => h b (by simp [hb])) h2⟩
theorem a64_ep {cs : List AV} {o : Nat} (h : ∀ a ∈ cs, a.a64) : (AV.ep cs o).a64 := fun β loc' ys' v hl hv => by
  simp only [V] at hv ⊢
  obtain ⟨c, q, vs, e, h1, h2⟩ := hv
  exact ⟨c, q, vs, e, h1, Vs_a64 h hl h2⟩
theorem a64_fn {f : FuncId} {fs cs : List AV} (h : ∀ a ∈ fs, a.a64) (k : ∀ a ∈ cs, a.a64) : (AV.fn f fs cs).a64 := fun β loc' ys' v hl hv => by
  simp only [V] at hv ⊢
  obtain ⟨x, y, e, h1, h2⟩ := hv
  exact ⟨x, y, e, Vs_a64 h hl h1, Vs_a64 k hl h2⟩
theorem a64_nil : ∀ a ∈ ([] : List AV), a.a64 := fun a h => by simp at h
theorem a64_cons {a : AV} {aa : List AV} (h : a.a64) (k : ∀ a ∈ aa, a.a64) : ∀ b ∈ a :: aa, b.a64 := fun b hb => by
  rcases List.mem_cons.1 hb with rfl | hb
  · exact h
  · exact k b hb

/-- An object that is no cells, and ours in no other way, may turn. -/
theorem HRel.poke {β : Beta} {H : Heap} {w : World} {B : Bd} (h : HRel β H w B) {l : Nat} {o o' : Obj} (hl : w.heap[l]? = some o) (hc : ∀ k, w.cell? ⟨l, k, none⟩ = none) (hown : ∀ i b li, H i = some b → β i = some li → 0 < li.k → li.c ≠ l) (hy : ¬ β.ys l) : HRel β H (w.putObj l o') B :=
  h.world (fun c k v hv => by
      have h0 := h.fz c k v hv
      have hne : c ≠ l := fun e => by subst e; rw [hc k] at h0; cases h0
      exact (World.cell?_of_block (w := w) (a := ⟨c, k, none⟩) (World.putObj_heap_other hne)).trans h0)
    (fun i b li hi hli hk => World.putObj_heap_other (hown i b li hi hli hk))
    ⟨rfl, rfl, rfl, by simp, Nat.le_refl _, fun k hk => World.putObj_heap_other fun e => hk (e ▸ hy)⟩
theorem HRel.supL {β : Beta} {H : Heap} {w : World} {B B' : Bd} (h : HRel β H w B) (k : ∀ c, c < w.heap.size → B c → B' c) : HRel β H w B' :=
  ⟨h.fz, fun i cs hi => let ⟨l, h1, h2, h3⟩ := h.own i cs hi; ⟨l, h1, h2, fun hk => let ⟨a, b⟩ := h3 hk; ⟨k _ (h.lt_of_own hi h1 hk).1 a, b⟩⟩, fun i es clk hi => let ⟨l, h1, h2, h3, h4⟩ := h.map i es clk hi; ⟨l, h1, h2, k _ (h.lt_of_own hi h1 h2).1 h3, h4⟩, h.sep,
    fun c hc => ⟨k _ (h.ys c hc).2 (h.ys c hc).1, (h.ys c hc).2⟩, h.yo, h.gh, h.gh1, fun i sz es clk ho hi => let ⟨l, h1, h2, h3, h4⟩ := h.mps i sz es clk ho hi; ⟨l, h1, h2, k _ (h.lt_of_own hi h1 h2).1 h3, h4⟩, h.mp1⟩
theorem HRel.supI {β : Beta} {H : Heap} {w : World} {B B' : Bd} (h : HRel β H w B) (k : ∀ i b l, H i = some b → β i = some l → 0 < l.k → B' l.c) (ky : ∀ c, β.ys c → B' c) : HRel β H w B' :=
  ⟨h.fz, fun i cs hi => let ⟨l, h1, h2, h3⟩ := h.own i cs hi; ⟨l, h1, h2, fun hk => let ⟨_, b⟩ := h3 hk; ⟨k i _ l hi h1 hk, b⟩⟩, fun i es clk hi => let ⟨l, h1, h2, _, h4⟩ := h.map i es clk hi; ⟨l, h1, h2, k i _ l hi h1 h2, h4⟩, h.sep,
    fun c hc => ⟨ky c hc, (h.ys c hc).2⟩, h.yo, h.gh, h.gh1, fun i sz es clk ho hi => let ⟨l, h1, h2, _, h4⟩ := h.mps i sz es clk ho hi; ⟨l, h1, h2, k i _ l hi h1 h2, h4⟩, h.mp1⟩
theorem V_ys {β : Beta} {ys' : Nat → Prop} {a : AV} {v : Value} (h : V β a v) : V ⟨β.loc, β.fz, ys'⟩ a v := V_mono (β := β) (β' := ⟨β.loc, β.fz, ys'⟩) ⟨fun _ _ h => h, fun _ _ _ h => h⟩ _ _ h
theorem HRel.noys {β : Beta} {H : Heap} {w : World} {B : Bd} (h : HRel β H w B) (hn : ∀ i b, H i = some b → noGh b = true) : HRel ⟨β.loc, β.fz, fun _ => False⟩ H w B :=
  ⟨h.fz, fun i cs hi => let ⟨l, h1, h2, h3⟩ := h.own i cs hi; ⟨l, h1, h2, fun hk => let ⟨a, b, full, e, p, q, r⟩ := h3 hk; ⟨a, b, full, e, p, q, fun j x hx => let ⟨v, y, z⟩ := r j x hx; ⟨v, y, V_ys z⟩⟩⟩,
    fun i es clk hi => let ⟨l, h1, h2, h3, ents, h4, m⟩ := h.map i es clk hi; ⟨l, h1, h2, h3, ents, h4, MRel.mono (β := β) (β' := ⟨β.loc, β.fz, fun _ => False⟩) ⟨fun _ _ h => h, fun _ _ _ h => h⟩ m⟩, h.sep, fun c hc => hc.elim, fun _ _ _ _ _ _ hc => hc.elim,
    fun i S G s hi => (by have := hn i _ hi; cases this), h.gh1, fun i sz es clk ho hi => (by have := hn i _ hi; cases this), h.mp1⟩
theorem loop_cell {w : World} {l : Nat} {r : Loop} (h : w.heap[l]? = some (.loop r)) (k : Nat) : w.cell? ⟨l, k, none⟩ = none := by simp [World.cell?, h]

/-- The slots with the parameters of a loop. -/
def setP (sl : Nat → AV) : List Tmp → List AV → Nat → AV
  | [], _ => sl
  | _, [] => sl
  | p :: ps, a :: aa => setP (supd sl p a) ps aa
theorem setP_ok {β : Beta} {N : Nat} : ∀ (ps : List Tmp) (aa : List AV) (vs : List Value) (sl : Nat → AV) (tmps : Array Value), (∀ p ∈ ps, p < N) → tmps.size = N → Vs β aa vs → (∀ t, V β (sl t) (tmps.getD t undef)) →
    ((ps.zip vs).foldl (fun t p => t.setIfInBounds p.1 p.2) tmps).size = N ∧ ∀ t, V β (setP sl ps aa t) (((ps.zip vs).foldl (fun t p => t.setIfInBounds p.1 p.2) tmps).getD t undef)
  | [], aa, vs, sl, tmps, _, hN, _, h => by cases aa <;> exact ⟨hN, h⟩
  | p :: ps, [], vs, sl, tmps, _, hN, hv, h => by simp [Vs] at hv; subst hv; exact ⟨hN, h⟩
  | p :: ps, a :: aa, vs, sl, tmps, hp, hN, hv, h => by
    obtain ⟨v, vs', rfl, h1, h2⟩ := hv
    simp only [setP, List.zip_cons_cons, List.foldl_cons]
    refine setP_ok ps aa vs' _ _ (fun q hq => hp q (by simp [hq])) (by simpa using hN) h2 fun t => ?_
    have hpN : p < tmps.size := by rw [hN]; exact hp p (by simp)
    by_cases e : t = p
    · subst e
      simp only [supd, upd_same]
      rw [Array.getD_eq_getD_getElem?, Array.getElem?_setIfInBounds_self_of_lt hpN]
      exact h1
    · rw [supd_ap, if_neg e, Array.getD_eq_getD_getElem?, Array.getElem?_setIfInBounds_ne (Ne.symm e), ← Array.getD_eq_getD_getElem?]
      exact h t

/-- How a round is left: it goes on, or it leaves the loop. -/
def REnd (out : Nat) (b : Bool) : Exit → Prop
  | .normal => b = true
  | .exit id => b = false ∧ id = out
  | _ => False

set_option maxHeartbeats 2000000 in
theorem HT_rng {E : Env} {N : Nat} {Q : Exit → AS → Prop} {g : Operand} {ps : Array Tmp} {assign body : Code} {sl0 : Nat → AV} {hp0 : Heap} {b0 : Nat} (hrd : E.rd = false) (hcl : E.cl = true)
    {X S : Type} (encX : X → List AV) (encV : X → List Value) (hX : ∀ β x, Vs β (encX x) (encV x)) (hps : ∀ x, (encV x).length = ps.size) (hpN : ∀ p ∈ ps.toList, p < N)
    {gf : FuncId} {caps caps' : List AV} (hg : evA sl0 g = .fn gf [] caps) (hcaps : WkL caps caps') (out : Nat) (hb0 : 64 ≤ b0) (h64 : ∀ t, (sl0 t).a64)
    (bw : Nat → Bool) (hbw : ∀ i, bw i = true → i < 64 ∧ ∃ es clk, hp0 i = some (.map es clk) ∧ ∀ p ∈ es, p.2.1.plain ∧ p.2.2.plain)
    (hpS : S → Heap) (hng : ∀ s i b, hpS s i = some b → noGh b = true ∧ bw i = false) (y : X → S → Option (Bool × S)) (s0 : S) (hs0 : ∀ i b, hpS s0 i = some b → hp0 i = some b) (fin : Bool × S)
    (hrow : ∀ G : Gh (Bool × S), G.P = E.P → (∀ x s b s', y x s = some (b, s') → G.Y (encV x) (true, s) b (b, s')) →
      ∃ r, E.T gf (.yld b0 :: caps') (fun i => if i = b0 then some (.gh (Bool × S) G (true, s0)) else bif bw i then hp0 i else none) (b0 + 64) r (fun i => if i = b0 then some (.gh (Bool × S) G fin) else bif bw i then hp0 i else none))
    (hround : ∀ x s b s', y x s = some (b, s') → HT { E with rd := true } N assign ⟨setP sl0 ps.toList (encX x), hpS s, b0 + 64⟩ (Then (fun σ1 => HT { E with rd := true } N body σ1 fun e σ2 =>
      REnd out b e ∧ ∃ L, Weak L ⟨fun _ => .top, σ2.hp, σ2.b⟩ ⟨fun _ => .top, hpS s', b0 + 64⟩) fun _ _ => False))
    (hend1 : fin.1 = true → Q .normal ⟨sl0, fun i => bif bw i then hp0 i else hpS fin.2 i, b0 + 64⟩) (hend2 : fin.1 = false → Q (.exit out) ⟨sl0, fun i => bif bw i then hp0 i else hpS fin.2 i, b0 + 64⟩) :
    HT E N (.rangeFunc g ps assign body) ⟨sl0, hp0, b0⟩ Q := by
  intro ro F a w hro hF hr
  obtain rfl := hro hrd
  obtain ⟨β, ds, hsince, hs, hH, hnm, hbel, htop, hdf, hmk, hN⟩ := hr
  obtain ⟨hF1, hF2⟩ := hF hcl
  have hF32 : ∀ i, F.β0.loc i ≠ none → i < 32 := fun i hi => by have := hF1 i hi; rw [hrd] at this; simpa using this
  have hgv := evA_V hs g
  simp only at hgv
  rw [hg] at hgv
  simp only [V] at hgv
  obtain ⟨fv, cv, hgv, hfv, hcv⟩ := hgv
  simp only [Vs] at hfv
  subst hfv
  refine wpIn_rangeFunc (F := fen none) ?_
  intro fn _
  -- the world behind the statement's entry
  obtain ⟨D, hD⟩ : ∃ D, D = w.heap.size := ⟨_, rfl⟩
  obtain ⟨l, hl⟩ : ∃ l, l = w.heap.size + 1 := ⟨_, rfl⟩
  obtain ⟨rec, hrec⟩ : ∃ rec : LoopState → Option Code → Loop, rec = fun st pe => { state := st, pending := pe, fn, tmps := a.tmps, params := ps, assign, body, defers := w.heap.size } := ⟨_, rfl⟩
  obtain ⟨W1, hW1⟩ : ∃ W1, W1 = (w.alloc (.deferred (some []))).alloc (.loop (rec .ready none)) := ⟨_, rfl⟩
  have hL1 : W1.heap[l]? = some (.loop (rec .ready none)) := by
    rw [hW1, hl]; have := World.alloc_heap_new (w.alloc (.deferred (some []))) (.loop (rec .ready none)); rwa [World.size_alloc] at this
  have hD1 : W1.heap[D]? = some (.deferred (some [])) := by
    rw [hW1, hD]; exact (Below.heap_alloc _ _ _ (by simp)).trans (World.alloc_heap_new w _)
  have hbw1 : BelowP (fun c => w.heap.size ≤ c) w W1 := by
    rw [hW1]; exact (BelowP.alloc w (Nat.le_refl _) _).trans (BelowP.alloc _ (by simp) _)
  have hsz1 : W1.heap.size = w.heap.size + 2 := by rw [hW1]; simp
  have hgf : b0 ∉ [] := by simp
  have hβb0 : β b0 = none := by
    cases e : β b0 with
    | none => rfl
    | some x => exact absurd (hnm b0 (by rw [e]; simp)) (Nat.lt_irrefl _)
  -- what a round may turn
  let B1 : Bd := F.Bx ds
  have hB1top : B1.top w.heap.size := hmk.top htop
  let Ys0 : Nat → Prop := fun c => B1 c ∧ c < W1.heap.size ∧ ∀ i li, bw i = true → β i = some li → c ≠ li.c
  have hbwlt : ∀ i li, bw i = true → β i = some li → li.c < w.heap.size ∧ 0 < li.k := fun i li h1 h2 => by
    obtain ⟨_, es, clk, h3, _⟩ := hbw i h1
    obtain ⟨l', g1, g2, g3, _⟩ := hH.map i es clk h3
    rw [h2] at g1; cases g1
    exact ⟨(hH.lt_of_own h3 h2 g2).1, g2⟩
  have hlD : l ≠ D := by omega
  have ysl : Ys0 l := ⟨hB1top l (by omega), by omega, fun i li h1 h2 => by have := (hbwlt i li h1 h2).1; omega⟩
  have ysD : Ys0 D := ⟨hB1top D (by omega), by omega, fun i li h1 h2 => by have := (hbwlt i li h1 h2).1; omega⟩
  let Bd' : (Nat → Prop) → Bd := fun Ys c => Ys c ∧ c ≠ l ∧ c ≠ D
  let recOf : Bool → Loop := fun b => if b then rec .ready none else rec .done (some (.exit out))
  let JJ : Bool × S → (Nat → Prop) → Nat → World → Prop := fun t Ys l' w' => l' = l ∧ Ys l ∧ Ys D ∧ w'.heap[D]? = some (.deferred (some [])) ∧ w'.heap[l]? = some (.loop (recOf t.1)) ∧
    ∃ β' : Beta, (∀ i, i < 64 → β.loc i ≠ none → β'.loc i = β.loc i) ∧ (∀ c o v, β.fz c o = some v → β'.fz c o = some v) ∧ (∀ c o v, β'.fz c o = some v → Ys c ∨ β.fz c o = some v) ∧ (∀ j, β' j ≠ none → j < b0 + 64) ∧
      β'.ys = (fun _ => False) ∧ HRel β' (hpS t.2) w' (Bd' Ys)
  have hngS : ∀ s i b, hpS s i = some b → noGh b = true := fun s i b h => (hng s i b h).1
  have hslots : ∀ (β' : Beta), (∀ i, i < 64 → β.loc i ≠ none → β'.loc i = β.loc i) → (∀ c o v, β.fz c o = some v → β'.fz c o = some v) → ∀ t, V β' (sl0 t) (a.tmps.getD t undef) := fun β' h1 h2 t =>
    V_mono (β := ⟨β'.loc, β.fz, β'.ys⟩) (β' := β') ⟨fun _ _ h => h, h2⟩ _ _ (h64 t β β'.loc β'.ys _ h1 (hs t))
  let G : Gh (Bool × S) := {
    P := E.P
    J := JJ
    Y := fun args t b t' => ∃ x, args = encV x ∧ t.1 = true ∧ y x t.2 = some (b, t'.2) ∧ t'.1 = b
    fz := β.fz
    stable := fun t Ys l' w1 w2 hJ hb hfz => by
      obtain ⟨h1, h2, h3, h4, h5, β', k1, k2, k3, k4, k5, k6⟩ := hJ
      have same : ∀ c, Ys c → w2.heap[c]? = w1.heap[c]? := fun c hc => hb.block c fun h => h hc
      refine ⟨h1, h2, h3, (same D h3).trans h4, (same l h2).trans h5, β', k1, k2, k3, k4, k5, k6.world (fun c o v hv => ?_) (fun i b li hi hli hk => same _ (k6.lt_of_own hi hli hk).2.1) ⟨hb.os, hb.tape, hb.output, hb.size, hb.drawn, fun c hc => by rw [k5] at hc; exact absurd (fun h => h) hc⟩⟩
      rcases k3 c o v hv with h | h
      · exact (World.cell?_of_block (w := w1) (a := ⟨c, o, none⟩) (same c h)).trans (k6.fz c o v hv)
      · exact hfz c o v h
    cells := fun t Ys l' w1 c o v hJ hv => by
      obtain ⟨h1, h2, h3, h4, h5, β', k1, k2, k3, k4, k5, k6⟩ := hJ
      exact k6.fz c o v (k2 c o v hv)
    yield := fun t Ys l' w1 args b t' hJ hlt hY => by
      obtain ⟨rfl, h2, h3, h4, h5, β', k1, k2, k3, k4, k5, k6⟩ := hJ
      obtain ⟨x, rfl, hrun, hy, hb'⟩ := hY
      obtain ⟨run, s⟩ := t
      obtain ⟨run', s'⟩ := t'
      simp only at hrun hy hb' h5 k6
      subst hrun hb'
      have hR1 : w1.heap[l']? = some (.loop (rec .ready none)) := h5
      have hll : l' < w1.heap.size := hlt l' h2
      have hDl : D < w1.heap.size := hlt D h3
      have hrecf : (rec .ready none).fn = fn ∧ (rec .ready none).tmps = a.tmps ∧ (rec .ready none).params = ps ∧ (rec .ready none).assign = assign ∧ (rec .ready none).body = body := by rw [hrec]; exact ⟨rfl, rfl, rfl, rfl, rfl⟩
      have hyl := run_yield (P := E.P) (args := (encV x).toArray) hR1 (by rw [hrecf.2.2.1, List.size_toArray]; exact hps x)
      rw [hrecf.1, hrecf.2.1, hrecf.2.2.1, hrecf.2.2.2.1, hrecf.2.2.2.2] at hyl
      refine ⟨fn, _, assign, body, hyl, ?_⟩
      -- the round's own frame
      let Bb : Bd := fun c => Bd' Ys c ∨ w1.heap.size ≤ c
      have hnl : ¬ Bb l' := fun h => h.elim (fun h => h.2.1 rfl) fun h => by omega
      have hnD : ¬ Bb D := fun h => h.elim (fun h => h.2.2 rfl) fun h => by omega
      let Fb : World → Fr := fun w0 => ⟨Bb, w0, ⟨fun i => bif decide (i < 64) then β'.loc i else none, β'.fz, fun _ => False⟩, 0⟩
      have hFb : ∀ w0, (Fb w0).ok true true := fun w0 _ => ⟨fun i hi => by
        by_cases h : i < 64
        · exact h
        · exfalso; apply hi; show (bif decide (i < 64) then β'.loc i else none) = none; rw [decide_eq_false h]; rfl, rfl⟩
      have hset := setP_ok (β := β') (N := N) ps.toList (encX x) (encV x) sl0 a.tmps hpN hN (hX β' x) (hslots β' k1 k2)
      have hfold : (ps.zip (encV x).toArray).foldl (fun tmps p => tmps.setIfInBounds p.1 p.2) a.tmps = (ps.toList.zip (encV x)).foldl (fun t p => t.setIfInBounds p.1 p.2) a.tmps := by
        rw [← Array.foldl_toList, Array.toList_zip]
      have hrep1 : Rep (Fb w1) N ⟨setP sl0 ps.toList (encX x), hpS s, b0 + 64⟩ { tmps := (ps.zip (encV x).toArray).foldl (fun tmps p => tmps.setIfInBounds p.1 p.2) a.tmps, defers := [] } w1 := by
        refine ⟨β', [], ⟨⟨fun i li hi => ?_, fun _ _ _ h => h⟩, fun _ _ => .inr (Nat.zero_le _), Nat.zero_le _, fun c o h => .inl h⟩, ?_, ?_, k4, BelowP.refl _ _, fun c hc => .inr hc, rfl, Marks.nil _ _, ?_⟩
        · change (bif decide (i < 64) then β'.loc i else none) = some li at hi
          cases h : decide (i < 64) with
          | true => rw [h] at hi; exact hi
          | false => rw [h] at hi; cases hi
        · rw [hfold]; exact hset.2
        · rw [Fr.Bx_nil]; exact k6.supL fun c _ h => .inl h
        · rw [hfold]; exact hset.1
      have hro2 : (({ E with rd := true } : Env).rd = false → (some l' : Option Nat) = none) := fun h => by cases h
      have hok2 : ∀ w0, (Fb w0).ok ({ E with rd := true } : Env).cl ({ E with rd := true } : Env).rd := fun w0 => by show (Fb w0).ok E.cl true; rw [hcl]; exact hFb w0
      refine roundIn_of_wpIn (F := Fence.wide) trivial ?_
      refine wpIn_mono (hround x s _ s' hy (some l') (Fb w1) _ w1 hro2 (hok2 w1) hrep1) ?_
      intro e a1 w2 hq
      obtain ⟨σ1, q1, hr1⟩ := hq
      cases e with
      | normal =>
        obtain ⟨β1, ds1, g1, g2, g3, g4, g5, g6, g7, g8, g9⟩ := hr1
        have hR2 : w2.heap[l']? = some (.loop (rec .ready none)) := (g5.block l' hnl).trans hR1
        refine ⟨_, run_beginRound hR2 (by rw [hrec]), ?_⟩
        obtain ⟨w2', hw2'⟩ : ∃ w2', w2' = w2.putObj l' (.loop { rec .ready none with state := .busy }) := ⟨_, rfl⟩
        rw [← hw2']
        have hs2 : w2'.heap.size = w2.heap.size := by rw [hw2']; simp
        have hR2' : w2'.heap[l']? = some (.loop { rec .ready none with state := .busy }) := by rw [hw2']; exact World.putObj_heap_same (by have : w1.heap.size ≤ w2.heap.size := g5.size; omega)
        have ho2 : ∀ k, k ≠ l' → w2'.heap[k]? = w2.heap[k]? := fun k hk => by rw [hw2']; exact World.putObj_heap_other hk
        have hmk1 : ∀ E', E' ∈ ds1 → E' ≠ l' := fun E' hE e => hnl (e ▸ (g8.at_ E' hE).1)
        have hrep2 : Rep (Fb w2') N σ1 a1 w2' := by
          refine ⟨β1, ds1, ⟨g1.le, g1.dom, g1.b, g1.fz⟩, g2, ?_, g4, BelowP.refl _ _, fun c hc => g6 c (by omega), g7, ⟨g8.nodup, fun E' hE => ⟨(g8.at_ E' hE).1, (ho2 E' (hmk1 E' hE)).trans (g8.at_ E' hE).2⟩⟩, g9⟩
          rw [hw2']
          exact g3.poke hR2 (loop_cell hR2) (fun i b li hi hli hk e => hnl (e ▸ (g3.lt_of_own hi hli hk).2.1)) fun hy => hnl (g3.ys l' hy).1.1
        refine wpIn_mono (q1 (some l') (Fb w2') a1 w2' hro2 (hok2 w2') hrep2) ?_
        intro e2 a3 w3 hq2
        obtain ⟨σ2, ⟨hre, L, hweak⟩, hr2⟩ := hq2
        have hr2' : Rep (Fb w2') N ⟨fun _ => .top, σ2.hp, σ2.b⟩ a3 w3 := by
          obtain ⟨β2, ds2, p1, p2, p3⟩ := hr2
          exact ⟨β2, ds2, p1, fun t => by simp [V], p3⟩
        obtain ⟨β3, ds3, p1, _, p3, p4, p5, p6, _, p8, _⟩ := Weak.rep hweak (hFb w2') hr2'
        simp only at p3 p4
        have hR3 : w3.heap[l']? = some (.loop { rec .ready none with state := .busy }) := (p5.block l' hnl).trans hR2'
        have hle13 : w1.heap.size ≤ w3.heap.size := by
          have e1 : w1.heap.size ≤ w2.heap.size := g5.size
          have e2 : w2'.heap.size ≤ w3.heap.size := p5.size
          omega
        have finish : ∀ o' : Obj, o' = .loop (recOf run') → ∃ Ys', JJ (run', s') Ys' l' (w3.putObj l' o') ∧ (∀ c, Ys' c → Ys c ∨ w1.heap.size ≤ c) ∧ (∀ c, Ys' c → c < (w3.putObj l' o').heap.size) ∧ BelowP (fun c => Ys c ∨ w1.heap.size ≤ c) w1 (w3.putObj l' o') := by
          intro o' ho'
          have hoth : ∀ k, k ≠ l' → (w3.putObj l' o').heap[k]? = w3.heap[k]? := fun k hk => World.putObj_heap_other hk
          refine ⟨fun c => (Bb c ∧ c < w3.heap.size) ∨ c = l' ∨ c = D, ⟨rfl, .inr (.inl rfl), .inr (.inr rfl), ?_, ?_, ⟨β3.loc, β3.fz, fun _ => False⟩, fun i hi hne => ?_, fun c o v hv => p1.le.fz c o v (k2 c o v hv), fun c o v hv => ?_, p4, rfl, ?_⟩, ?_, ?_, ?_⟩
          · rw [hoth D (by omega), p5.block D hnD, ho2 D (by omega), g5.block D hnD]; exact h4
          · rw [World.putObj_heap_same (by omega), ho']
          · have hb : β'.loc i = β.loc i := k1 i hi hne
            cases e : β.loc i with
            | none => exact absurd e hne
            | some li =>
              rw [e] at hb
              exact p1.le.loc i li (by show (bif decide (i < 64) then β'.loc i else none) = some li; rw [decide_eq_true hi]; exact hb)
          · have hcl3 := cell_lt (p3.fz c o v hv)
            rcases p1.fz c o (by rw [show β3.fz c o = some v from hv]; simp) with h | h
            · change β'.fz c o ≠ none at h
              cases e : β'.fz c o with
              | none => exact absurd e h
              | some u =>
                have := p1.le.fz c o u e
                rw [show β3.fz c o = some v from hv] at this
                cases this
                rcases k3 c o v e with h | h
                · left
                  by_cases e1 : c = l'
                  · exact .inr (.inl e1)
                  · by_cases e2 : c = D
                    · exact .inr (.inr e2)
                    · exact .inl ⟨.inl ⟨h, e1, e2⟩, hcl3⟩
                · exact .inr h
            · exact .inl (.inl ⟨h, hcl3⟩)
          · have hq3 := (p3.noys (hngS s')).poke (o' := o') hR3 (loop_cell hR3) (fun i b li hi hli hk e => hnl (e ▸ (p3.lt_of_own hi hli hk).2.1)) (fun h => h)
            refine hq3.supL fun c hc h => ⟨.inl ⟨h.1, by simpa using hc⟩, fun e => hnl (e ▸ h.1), fun e => hnD (e ▸ h.1)⟩
          · rintro c (⟨h | h, _⟩ | rfl | rfl)
            · exact .inl h.1
            · exact .inr h
            · exact .inl h2
            · exact .inl h3
          · rintro c (⟨_, h⟩ | rfl | rfl)
            · simpa using h
            · simp; omega
            · simp; omega
          · have hBb : ∀ c, Bb c → Ys c ∨ w1.heap.size ≤ c := fun c h => h.imp (fun h => h.1) id
            have c1 := g5.weaken hBb
            have c2 : BelowP (fun c => Ys c ∨ w1.heap.size ≤ c) w2 w2' := by rw [hw2']; exact ⟨rfl, rfl, rfl, by simp, Nat.le_refl _, fun k hk => World.putObj_heap_other fun e => hk (.inl (e ▸ h2))⟩
            have c3 := p5.weaken hBb
            have c4 : BelowP (fun c => Ys c ∨ w1.heap.size ≤ c) w3 (w3.putObj l' o') := ⟨rfl, rfl, rfl, by simp, Nat.le_refl _, fun k hk => World.putObj_heap_other fun e => hk (.inl (e ▸ h2))⟩
            exact ((c1.trans c2).trans c3).trans c4
        cases e2 with
        | normal =>
          have hb1 : run' = true := hre
          subst hb1
          refine ⟨_, _, run_endRound none hR3, rfl, finish _ ?_⟩
          show _ = Obj.loop (rec .ready none)
          rw [hrec]; rfl
        | exit id =>
          obtain ⟨hb1, hid⟩ : run' = false ∧ id = out := hre
          subst hb1 hid
          refine ⟨_, _, run_endRound (some (.exit id)) hR3, rfl, finish _ ?_⟩
          show _ = Obj.loop (rec .done (some (.exit id)))
          rw [hrec]; rfl
        | _ => exact hre.elim
      | _ => exact q1.elim }
  -- the call
  obtain ⟨r, hTr⟩ := hrow G rfl fun x s b s' hy => ⟨x, rfl, rfl, hy, rfl⟩
  obtain ⟨henter, hcalls⟩ := E.hT _ _ _ _ _ _ hTr
  let βg : Beta := ⟨fun i => if i = b0 then some ⟨l, 0, 0⟩ else β.loc i, β.fz, Ys0⟩
  have hβg : ∀ i, i ≠ b0 → βg i = β i := fun i hi => by show (if i = b0 then _ else _) = _; rw [if_neg hi]
  have hleg : ∀ i li, β i = some li → βg i = some li := fun i li h => (hβg i fun e => by rw [e, hβb0] at h; cases h).trans h
  have hβγ : βg b0 = some ⟨l, 0, 0⟩ := by show (if b0 = b0 then _ else _) = _; simp
  have hH1 : HRel β hp0 W1 B1 := hH.keep hbw1
  let Hit : Bool × S → Heap := fun t i => if i = b0 then some (.gh (Bool × S) G t) else bif bw i then hp0 i else none
  have hit : ∀ {t i b}, Hit t i = some b → (i = b0 ∧ b = .gh (Bool × S) G t) ∨ (i ≠ b0 ∧ bw i = true ∧ hp0 i = some b) := fun {t i b} h => by
    change (if i = b0 then _ else _) = some b at h
    split at h
    · rename_i e; cases h; exact .inl ⟨e, rfl⟩
    · rename_i e
      cases e' : bw i with
      | true => rw [e'] at h; exact .inr ⟨e, rfl, h⟩
      | false => rw [e'] at h; cases h
  have mapOnly : ∀ {i cs}, bw i = true → hp0 i = some (.cells cs) → False := fun {i cs} h1 h2 => by obtain ⟨_, es, clk, h3, _⟩ := hbw i h1; rw [h2] at h3; cases h3
  have ghOnly : ∀ {i S' G' s'}, bw i = true → hp0 i = some (.gh S' G' s') → False := fun {i S' G' s'} h1 h2 => by obtain ⟨_, es, clk, h3, _⟩ := hbw i h1; rw [h2] at h3; cases h3
  have mapsOnly : ∀ {t i sz es clk ho}, Hit t i = some (.maps sz es clk ho) → False := fun {t i sz es clk ho} h => by
    rcases hit h with ⟨_, h⟩ | ⟨_, h1, h2⟩
    · cases h
    · obtain ⟨_, es, clk, h3, _⟩ := hbw i h1; rw [h2] at h3; cases h3
  have hVg : ∀ (a : AV) (v : Value), V β a v → V βg a v := fun a v h => V_mono (β := β) (β' := βg) ⟨hleg, fun _ _ _ h => h⟩ _ _ h
  have hHg : HRel βg (Hit (true, s0)) W1 B1 := by
    refine ⟨hH1.fz, fun i cs hi => ?_, fun i es clk hi => ?_, fun i j bi bj li lj hij hi hj ei ej pi pj => ?_, fun c hc => ⟨hc.1, hc.2.1⟩, fun i b li hi hli hk hc => ?_, fun i S' G' s' hi => ?_, fun i j S1 G1 s1 S2 G2 s2 hi hj => ?_, fun i sz es clk ho hi => (mapsOnly hi).elim, fun i j sz es clk ho b hi _ _ => (mapsOnly hi).elim⟩
    · rcases hit hi with ⟨_, h⟩ | ⟨_, h1, h2⟩
      · cases h
      · exact (mapOnly h1 h2).elim
    · rcases hit hi with ⟨_, h⟩ | ⟨h0, h1, h2⟩
      · cases h
      · obtain ⟨li, g1, g2, g3, ents, g4, m⟩ := hH1.map i es clk h2
        exact ⟨li, hleg i li g1, g2, g3, ents, g4, m.mono (β' := βg) ⟨hleg, fun _ _ _ h => h⟩⟩
    · rcases hit hi with ⟨e1, h1⟩ | ⟨e1, h1, h2⟩
      · rw [e1, hβγ] at ei; cases ei; simp at pi
      · rcases hit hj with ⟨e2, k1⟩ | ⟨e2, k1, k2⟩
        · rw [e2, hβγ] at ej; cases ej; simp at pj
        · rw [hβg i e1] at ei; rw [hβg j e2] at ej
          exact hH1.sep i j bi bj li lj hij h2 k2 ei ej pi pj
    · rcases hit hi with ⟨e1, h1⟩ | ⟨e1, h1, h2⟩
      · rw [e1, hβγ] at hli; cases hli; simp at hk
      · rw [hβg i e1] at hli
        exact hc.2.2 i li h1 hli rfl
    · rcases hit hi with ⟨e1, h1⟩ | ⟨e1, h1, h2⟩
      · cases h1
        rw [e1]
        refine ⟨⟨l, 0, 0⟩, hβγ, rfl, ⟨rfl, ysl, ysD, hD1, hL1, ⟨β.loc, β.fz, fun _ => False⟩, fun i _ _ => rfl, fun c o v h => h, fun c o v h => .inr h, fun j hj => Nat.lt_of_lt_of_le (hnm j hj) (by show b0 ≤ b0 + 64; omega), rfl, ?_⟩, fun c o v _ h => h, fun c o v h => h⟩
        have hsub : HRel β (hpS s0) W1 B1 := hH1.sub hs0
        refine (hsub.noys (hngS s0)).supI (fun i b li hi hli hk => ?_) (fun c hc => hc.elim)
        obtain ⟨q1, q2⟩ := hH.lt_of_own (hs0 i b hi) hli hk
        refine ⟨⟨q2, by omega, fun i' li' g1 g2 e => ?_⟩, by omega, by omega⟩
        obtain ⟨_, es, clk, g3, _⟩ := hbw i' g1
        exact hH.sep i i' b _ li li' (fun e => by subst e; have := (hng s0 i b hi).2; rw [g1] at this; cases this) (hs0 i b hi) g3 hli g2 hk (hbwlt i' li' g1 g2).2 e
      · exact (ghOnly h1 h2).elim
    · rcases hit hi with ⟨e1, _⟩ | ⟨e1, h1, h2⟩
      · rcases hit hj with ⟨e2, _⟩ | ⟨e2, k1, k2⟩
        · rw [e1, e2]
        · exact (ghOnly k1 k2).elim
      · exact (ghOnly h1 h2).elim
  have hargs : Vs βg (.yld b0 :: caps') (.func (.yield l) #[] #[] :: cv) := by
    refine ⟨_, _, rfl, ?_, hcaps βg cv ?_⟩
    · simp only [V]; exact ⟨_, hβγ, rfl⟩
    · exact Vs_mono (β := β) (β' := βg) ⟨hleg, fun _ _ _ h => h⟩ _ _ hcv
  have hcall := hcalls B1 W1 βg (.func (.yield l) #[] #[] :: cv) (fun j hj => by
    by_cases e : j = b0
    · subst e; omega
    · rw [hβg j e] at hj; have := hnm j hj; simp only at this; omega) hHg (fun c hc => hB1top c (by omega)) hargs
  refine ⟨l, [mark D], W1, { target := .fn (.func gf) cv.toArray, args := #[.func (.yield l) #[] #[]] }, W1, gf, (.func (.yield l) #[] #[] :: cv).toArray, W1, ?_, ?_, fun _ _ => trivial, ?_, (by intro h; cases h), callsIn_fen (hcall.mono ?_)⟩
  · rw [hW1, hrec, hl, hD]; exact run_enterLoop_outer _ _ _ _ _
  · simp only [resolve, hgv]
    simp [Deferred.ofValue, Act.eval]
  · simp [invoke, henter]
  rintro e we ⟨v, βf, rfl, hext, _, hHf, hbelf⟩
  have hγf : βf b0 = some ⟨l, 0, 0⟩ := hext.le.loc _ _ hβγ
  have hitb0 : (fun i => if i = b0 then some (AB.gh (Bool × S) G fin) else bif bw i then hp0 i else none) b0 = some (AB.gh (Bool × S) G fin) := by simp
  obtain ⟨lf, q1, _, hJ, _, _⟩ := hHf.gh b0 _ G fin hitb0
  rw [hγf] at q1; cases q1
  obtain ⟨_, h2, h3, h4, h5, β', k1, k2, k3, k4, k5, k6⟩ := hJ
  have hnb : (recOf fin.1).state ≠ .busy := by
    show (if fin.1 then rec .ready none else rec .done (some (.exit out))).state ≠ .busy
    rw [hrec]; cases fin.1 <;> simp
  refine ⟨_, _, run_endLoop h5 hnb, ?_⟩
  obtain ⟨o', ho'⟩ : ∃ o', o' = Obj.loop { recOf fin.1 with state := .exhausted } := ⟨_, rfl⟩
  rw [← ho']
  have hoth : ∀ k, k ≠ l → (we.putObj l o').heap[k]? = we.heap[k]? := fun k hk => World.putObj_heap_other hk
  have hsz : (we.putObj l o').heap.size = we.heap.size := by simp
  have hsame : ∀ c, ¬ B1 c → we.heap[c]? = W1.heap[c]? := fun c hc => hbelf.block c hc
  have hbwf : ∀ i li, bw i = true → β i = some li → βf i = some li ∧ i ≠ b0 := fun i li h1 h2 => ⟨hext.le.loc _ _ (hleg i li h2), fun e => by subst e; rw [hβb0] at h2; cases h2⟩
  have hbwm : ∀ i, bw i = true → ∃ es clk li, hp0 i = some (.map es clk) ∧ β i = some li ∧ β' i = some li ∧ 0 < li.k ∧ B1 li.c ∧ li.c ≠ l ∧ li.c ≠ D ∧ ¬ βf.ys li.c ∧ ∃ ents, we.heap[li.c]? = some (.map ents clk) ∧ MRel β' es ents := fun i hi => by
    obtain ⟨hi64, es, clk, g1, g2⟩ := hbw i hi
    obtain ⟨li, p1, p2, p3, _⟩ := hH.map i es clk g1
    obtain ⟨r1, r2⟩ := hbwf i li hi p1
    have hitI : (fun i => if i = b0 then some (AB.gh (Bool × S) G fin) else bif bw i then hp0 i else none) i = some (.map es clk) := by simp [r2, hi, g1]
    obtain ⟨li', t1, t2, t3, ents, t4, m⟩ := hHf.map i es clk hitI
    rw [r1] at t1; cases t1
    have hlt := (hbwlt i li hi p1).1
    refine ⟨es, clk, li, g1, p1, (k1 i hi64 (by rw [p1]; simp)).trans p1, p2, p3, by omega, by omega, hHf.yo i _ li hitI r1 p2, ents, t4, m.len, fun j p hp => ?_⟩
    obtain ⟨e, e1, e2, e3, e4⟩ := m.rel j p hp
    obtain ⟨pl1, pl2⟩ := g2 p (List.mem_of_getElem? hp)
    exact ⟨e, e1, e2, pl1 _ _ _ e3, pl2 _ _ _ e4⟩
  have hE : ∀ i b, (bif bw i then hp0 i else hpS fin.2 i) = some b → (bw i = true ∧ hp0 i = some b) ∨ (bw i = false ∧ hpS fin.2 i = some b) := fun i b h => by
    cases e : bw i with
    | true => rw [e] at h; exact .inl ⟨rfl, h⟩
    | false => rw [e] at h; exact .inr ⟨rfl, h⟩
  have mapsE : ∀ {i sz es clk ho}, (bif bw i then hp0 i else hpS fin.2 i) = some (.maps sz es clk ho) → False := fun {i sz es clk ho} h => by
    rcases hE i _ h with ⟨h1, h2⟩ | ⟨h1, h2⟩
    · obtain ⟨_, es, clk, h3, _⟩ := hbw i h1; rw [h2] at h3; cases h3
    · have := (hng fin.2 i _ h2).1; cases this
  have hysB : ∀ c, βf.ys c → B1 c := fun c hc => (hHf.ys c hc).1
  have hfin : HRel β' (fun i => bif bw i then hp0 i else hpS fin.2 i) we (fun c => (F.Bx ds) c ∧ c ≠ D ∧ c ≠ l) := by
    refine ⟨k6.fz, fun i cs hi => ?_, fun i es clk hi => ?_, fun i j bi bj li lj hij hi hj ei ej pi pj => ?_, fun c hc => by rw [k5] at hc; exact hc.elim, fun i b li hi hli hk hc => by rw [k5] at hc; exact hc.elim, fun i S' G' s' hi => ?_, fun i j S1 G1 s1 S2 G2 s2 hi hj => ?_, fun i sz es clk ho hi => (mapsE hi).elim, fun i j sz es clk ho b hi _ _ => (mapsE hi).elim⟩
    · rcases hE i _ hi with ⟨g1, g2⟩ | ⟨g1, g2⟩
      · exact (mapOnly g1 g2).elim
      · obtain ⟨li, p1, p2, p3⟩ := k6.own i cs g2
        refine ⟨li, p1, p2, fun hk => ?_⟩
        obtain ⟨a1, a2⟩ := p3 hk
        exact ⟨⟨hysB _ a1.1, a1.2.2, a1.2.1⟩, a2⟩
    · rcases hE i _ hi with ⟨g1, g2⟩ | ⟨g1, g2⟩
      · obtain ⟨es', clk', li, p1, p2, p3, p4, p5, p6, p7, _, ents, p8, p9⟩ := hbwm i g1
        rw [g2] at p1; cases p1
        exact ⟨li, p3, p4, ⟨p5, p7, p6⟩, ents, p8, p9⟩
      · obtain ⟨li, p1, p2, p3, p4⟩ := k6.map i es clk g2
        exact ⟨li, p1, p2, ⟨hysB _ p3.1, p3.2.2, p3.2.1⟩, p4⟩
    · rcases hE i _ hi with ⟨g1, g2⟩ | ⟨g1, g2⟩
      · obtain ⟨es', clk', li', p1, p2, p3, p4, p5, p6, p7, p8, _⟩ := hbwm i g1
        rw [p3] at ei; cases ei
        rcases hE j _ hj with ⟨q1, q2⟩ | ⟨q1, q2⟩
        · obtain ⟨es2, clk2, lj', r1, r2, r3, r4, _⟩ := hbwm j q1
          rw [r3] at ej; cases ej
          exact hH.sep i j _ _ _ _ hij g2 q2 p2 r2 pi pj
        · exact fun e => p8 (e ▸ (k6.lt_of_own q2 ej pj).2.1)
      · rcases hE j _ hj with ⟨q1, q2⟩ | ⟨q1, q2⟩
        · obtain ⟨es2, clk2, lj', r1, r2, r3, r4, r5, r6, r7, r8, _⟩ := hbwm j q1
          rw [r3] at ej; cases ej
          exact fun e => r8 (e ▸ (k6.lt_of_own g2 ei pi).2.1)
        · exact k6.sep i j _ _ _ _ hij g2 q2 ei ej pi pj
    · rcases hE i _ hi with ⟨g1, g2⟩ | ⟨g1, g2⟩
      · exact (ghOnly g1 g2).elim
      · have := hngS _ _ _ g2; cases this
    · rcases hE i _ hi with ⟨g1, g2⟩ | ⟨g1, g2⟩
      · exact (ghOnly g1 g2).elim
      · have := hngS _ _ _ g2; cases this
  have hrep : Rep F N ⟨sl0, fun i => bif bw i then hp0 i else hpS fin.2 i, b0 + 64⟩ { a with defers := [mark D] ++ a.defers } (we.putObj l o') := by
    refine ⟨β', D :: ds, ⟨⟨fun i li hi => ?_, fun c o v h => k2 c o v (hsince.le.fz c o v h)⟩, fun j _ => .inr (by rw [hF2]; exact Nat.zero_le _), by rw [hF2]; exact Nat.zero_le _, fun c o hc => ?_⟩, hslots β' k1 k2, ?_, k4, ?_, htop.mono ?_, ?_, ⟨?_, fun D' hD' => ?_⟩, hN⟩
    · have h32 := hF32 i (by rw [show F.β0.loc i = some li from hi]; simp)
      have hb := hsince.le.loc i li hi
      exact (k1 i (by omega) (by rw [show β.loc i = some li from hb]; simp)).trans hb
    · cases e : β'.fz c o with
      | none => exact absurd e hc
      | some u =>
        rcases k3 c o u e with h | h
        · exact .inr (hysB c h).1
        · exact hsince.fz c o (by rw [h]; simp)
    · have := hfin.poke (o' := o') h5 (loop_cell h5) (fun i b li hi hli hk e => (hfin.lt_of_own hi hli hk).2.2.2 e) (by rw [k5]; exact fun h => h)
      exact this.sup fun c hc => ⟨hc.1.1, fun hm => by
        rcases List.mem_cons.1 hm with h | h
        · exact hc.2.1 h
        · exact hc.1.2 h⟩
    · refine (hbel.trans (.of htop hbw1)).trans ((hbelf.weaken fun c hc => hc.1).trans ⟨rfl, rfl, rfl, by simp, Nat.le_refl _, fun k hk => World.putObj_heap_other fun e => hk (e ▸ (ysl.1).1)⟩)
    · rw [hsz]; have := hbelf.size; omega
    · simp [hdf]
    · rw [List.nodup_cons]
      refine ⟨fun hm => ?_, hmk.nodup⟩
      have := (Array.getElem?_eq_some_iff.1 (hmk.at_ D hm).2).1
      omega
    · rcases List.mem_cons.1 hD' with rfl | hm
      · exact ⟨(ysD.1).1, by rw [hoth _ (by omega)]; exact h4⟩
      · obtain ⟨m1, m2⟩ := hmk.at_ D' hm
        have hlt := (Array.getElem?_eq_some_iff.1 m2).1
        exact ⟨m1, by rw [hoth _ (by omega), hsame D' (fun h => h.2 hm), hbw1.block D' (Nat.not_le.2 hlt)]; exact m2⟩
  have hpend : (recOf fin.1).pending = if fin.1 then none else some (.exit out) := by
    show (if fin.1 then rec .ready none else rec .done (some (.exit out))).pending = _
    rw [hrec]; cases fin.1 <;> rfl
  rw [hpend]
  cases hfc : fin.1 with
  | true => exact ⟨_, hend1 hfc, hrep⟩
  | false => exact wpIn_exit ⟨_, hend2 hfc, hrep⟩
end Go.Eng
