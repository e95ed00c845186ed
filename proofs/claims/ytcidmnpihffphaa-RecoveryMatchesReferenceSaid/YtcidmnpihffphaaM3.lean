import Derived.Test.YtcidmnpihffphaaM2
import Derived.Laws.Cover3
import Derived.Laws.IdiomRangeMap
import Derived.Carry
import Derived.OpenShut
set_option linter.unusedVariables false
set_option linter.unusedSimpArgs false
set_option linter.unusedSectionVars false
namespace Go.Eng
open Go
open Go.RowKit (Below)
universe u v
def AV.a64 (a : AV) : Prop := ∀ (β : Beta) (loc' : Nat → Option Loc) (ys' : Nat → Prop) (v : Value), (∀ i, i < 64 → β.loc i ≠ none → loc' i = β.loc i) → V β a v → V ⟨loc', β.fz, ys'⟩ a v
theorem a64_loose {a : AV} (h : a.loose) : a.a64 := fun β loc' ys' v _ hv => h β loc' ys' v hv
theorem a64_loc {β : Beta} {loc' : Nat → Option Loc} {i : Nat} {l : Loc} (hi : i < 64) (h : ∀ i, i < 64 → β.loc i ≠ none → loc' i = β.loc i) (hl : β i = some l) : loc' i = some l := by
  rw [h i hi (by rw [hl]; simp)]; exact hl
theorem a64_ptr {i o : Nat} (hi : i < 64) : (AV.ptr i o).a64 := fun β loc' ys' v h hv => by
  simp only [V] at hv ⊢; obtain ⟨l, h1, h2⟩ := hv; exact ⟨l, a64_loc hi h h1, h2⟩
theorem a64_mp {i : Nat} (hi : i < 64) : (AV.mp i).a64 := fun β loc' ys' v h hv => by
  simp only [V] at hv ⊢; obtain ⟨l, h1, h2⟩ := hv; exact ⟨l, a64_loc hi h h1, h2⟩
theorem a64_tok {g sz n : Nat} {f : Nat → AV} (hi : g < 64) (hf : ∀ j, (f j).loose) : (AV.lst (.tok g) sz n f).a64 := fun β loc' ys' v h hv => by
  simp only [V] at hv ⊢
  obtain ⟨b, cap, h1, h2, ⟨l, h3, h3'⟩, h4⟩ := hv
  refine ⟨b, cap, h1, h2, ⟨l, a64_loc hi h h3, h3'⟩, fun j hj => ?_⟩
  obtain ⟨c, o, u, k1, k2, k3, k4⟩ := h4 j hj
  exact ⟨c, o, u, k1, k2, k3, hf j _ _ _ _ k4⟩
theorem Vs_a64 {aa : List AV} (h : ∀ a ∈ aa, a.a64) {β : Beta} {loc' : Nat → Option Loc} {ys' : Nat → Prop} (hl : ∀ i, i < 64 → β.loc i ≠ none → loc' i = β.loc i) : ∀ {vs : List Value}, Vs β aa vs → Vs ⟨loc', β.fz, ys'⟩ aa vs := by
  induction aa with
  | nil => intro vs hv; simpa [Vs] using hv
  | cons a aa ih =>
    intro vs hv
    simp only [Vs] at hv ⊢
    obtain ⟨v, vs', e, h1, h2⟩ := hv
    exact ⟨v, vs', e, h a (by simp) _ _ _ _ hl h1, ih (fun b hb => h b (by simp [hb])) h2⟩
theorem a64_ep {cs : List AV} {o : Nat} (h : ∀ a ∈ cs, a.a64) : (AV.ep cs o).a64 := fun β loc' ys' v hl hv => by
  simp only [V] at hv ⊢
  obtain ⟨c, q, vs, e, h1, h2⟩ := hv
  exact ⟨c, q, vs, e, h1, Vs_a64 h hl h2⟩
theorem a64_fn {f : FuncId} {fs cs : List AV} (h : ∀ a ∈ fs, a.a64) (k : ∀ a ∈ cs, a.a64) : (AV.fn f fs cs).a64 := fun β loc' ys' v hl hv => by
  simp only [V] at hv ⊢
  obtain ⟨x, y, e, h1, h2⟩ := hv
  exact ⟨x, y, e, Vs_a64 h hl h1, Vs_a64 k hl h2⟩
theorem a64_nil : ∀ a ∈ ([] : List AV), a.a64 := fun a h => by simp at h
theorem a64_cons {a : AV} {aa : List AV} (h : a.a64) (k : ∀ a ∈ aa, a.a64) : ∀ b ∈ a :: aa, b.a64 := fun b hb => by
  rcases List.mem_cons.1 hb with rfl | hb
  · exact h
  · exact k b hb

theorem HRel.poke {β : Beta} {H : Heap} {w : World} {B : Bd} (h : HRel β H w B) {l : Nat} {o o' : Obj} (hl : w.heap[l]? = some o) (hc : ∀ k, w.cell? ⟨l, k, none⟩ = none) (hown : ∀ i b li, H i = some b → β i = some li → 0 < li.k → li.c ≠ l) (hy : ¬ β.ys l) : HRel β H (w.putObj l o') B :=
  h.world (fun c k v hv => by
      have h0 := h.fz c k v hv
      have hne : c ≠ l := fun e => by subst e; rw [hc k] at h0; cases h0
      exact (World.cell?_of_block (w := w) (a := ⟨c, k, none⟩) (World.putObj_heap_other hne)).trans h0)
    (fun i b li hi hli hk => World.putObj_heap_other (hown i b li hi hli hk))
    ⟨rfl, rfl, rfl, by simp, Nat.le_refl _, fun k hk => World.putObj_heap_other fun e => hk (e ▸ hy)⟩
theorem HRel.supL {β : Beta} {H : Heap} {w : World} {B B' : Bd} (h : HRel β H w B) (k : ∀ c, c < w.heap.size → B c → B' c) : HRel β H w B' :=
  ⟨h.fz, fun i cs hi => let ⟨l, h1, h2, h3⟩ := h.own i cs hi; ⟨l, h1, h2, fun hk => let ⟨a, b⟩ := h3 hk; ⟨k _ (h.lt_of_own hi h1 hk).1 a, b⟩⟩, fun i es clk hi => let ⟨l, h1, h2, h3, h4⟩ := h.map i es clk hi; ⟨l, h1, h2, k _ (h.lt_of_own hi h1 h2).1 h3, h4⟩, h.sep,
    fun c hc => ⟨k _ (h.ys c hc).2 (h.ys c hc).1, (h.ys c hc).2⟩, h.yo, h.gh, h.gh1, fun i sz es clk ho hi => let ⟨l, h1, h2, h3, h4⟩ := h.mps i sz es clk ho hi; ⟨l, h1, h2, k _ (h.lt_of_own hi h1 h2).1 h3, h4⟩, h.mp1⟩
theorem HRel.supI {β : Beta} {H : Heap} {w : World} {B B' : Bd} (h : HRel β H w B) (k : ∀ i b l, H i = some b → β i = some l → 0 < l.k → B' l.c) (ky : ∀ c, β.ys c → B' c) : HRel β H w B' :=
  ⟨h.fz, fun i cs hi => let ⟨l, h1, h2, h3⟩ := h.own i cs hi; ⟨l, h1, h2, fun hk => let ⟨_, b⟩ := h3 hk; ⟨k i _ l hi h1 hk, b⟩⟩, fun i es clk hi => let ⟨l, h1, h2, _, h4⟩ := h.map i es clk hi; ⟨l, h1, h2, k i _ l hi h1 h2, h4⟩, h.sep,
    fun c hc => ⟨ky c hc, (h.ys c hc).2⟩, h.yo, h.gh, h.gh1, fun i sz es clk ho hi => let ⟨l, h1, h2, _, h4⟩ := h.mps i sz es clk ho hi; ⟨l, h1, h2, k i _ l hi h1 h2, h4⟩, h.mp1⟩
theorem V_ys {β : Beta} {ys' : Nat → Prop} {a : AV} {v : Value} (h : V β a v) : V ⟨β.loc, β.fz, ys'⟩ a v := V_mono (β := β) (β' := ⟨β.loc, β.fz, ys'⟩) ⟨fun _ _ h => h, fun _ _ _ h => h⟩ _ _ h
theorem HRel.noys {β : Beta} {H : Heap} {w : World} {B : Bd} (h : HRel β H w B) (hn : ∀ i b, H i = some b → noGh b = true) : HRel ⟨β.loc, β.fz, fun _ => False⟩ H w B :=
  ⟨h.fz, fun i cs hi => let ⟨l, h1, h2, h3⟩ := h.own i cs hi; ⟨l, h1, h2, fun hk => let ⟨a, b, full, e, p, q, r⟩ := h3 hk; ⟨a, b, full, e, p, q, fun j x hx => let ⟨v, y, z⟩ := r j x hx; ⟨v, y, V_ys z⟩⟩⟩,
    fun i es clk hi => let ⟨l, h1, h2, h3, ents, h4, m⟩ := h.map i es clk hi; ⟨l, h1, h2, h3, ents, h4, MRel.mono (β := β) (β' := ⟨β.loc, β.fz, fun _ => False⟩) ⟨fun _ _ h => h, fun _ _ _ h => h⟩ m⟩, h.sep, fun c hc => hc.elim, fun _ _ _ _ _ _ hc => hc.elim,
    fun i S G s hi => (by have := hn i _ hi; cases this), h.gh1, fun i sz es clk ho hi => (by have := hn i _ hi; cases this), h.mp1⟩
theorem loop_cell {w : World} {l : Nat} {r : Loop} (h : w.heap[l]? = some (.loop r)) (k : Nat) : w.cell? ⟨l, k, none⟩ = none := by simp [World.cell?, h]

def setP (sl : Nat → AV) : List Tmp → List AV → Nat → AV
  | [], _ => sl
  | _, [] => sl
  | p :: ps, a :: aa => setP (supd sl p a) ps aa
theorem setP_ok {β : Beta} {N : Nat} : ∀ (ps : List Tmp) (aa : List AV) (vs : List Value) (sl : Nat → AV) (tmps : Array Value), (∀ p ∈ ps, p < N) → tmps.size = N → Vs β aa vs → (∀ t, V β (sl t) (tmps.getD t undef)) →
    ((ps.zip vs).foldl (fun t p => t.setIfInBounds p.1 p.2) tmps).size = N ∧ ∀ t, V β (setP sl ps aa t) (((ps.zip vs).foldl (fun t p => t.setIfInBounds p.1 p.2) tmps).getD t undef)
  | [], aa, vs, sl, tmps, _, hN, _, h => by cases aa <;> exact ⟨hN, h⟩
  | p :: ps, [], vs, sl, tmps, _, hN, hv, h => by simp [Vs] at hv; subst hv; exact ⟨hN, h⟩
  | p :: ps, a :: aa, vs, sl, tmps, hp, hN, hv, h => by
    obtain ⟨v, vs', rfl, h1, h2⟩ := hv
    simp only [setP, List.zip_cons_cons, List.foldl_cons]
    refine setP_ok ps aa vs' _ _ (fun q hq => hp q (by simp [hq])) (by simpa using hN) h2 fun t => ?_
    have hpN : p < tmps.size := by rw [hN]; exact hp p (by simp)
    by_cases e : t = p
    · subst e
      simp only [supd, upd_same]
      rw [Array.getD_eq_getD_getElem?, Array.getElem?_setIfInBounds_self_of_lt hpN]
      exact h1
    · rw [supd_ap, if_neg e, Array.getD_eq_getD_getElem?, Array.getElem?_setIfInBounds_ne (Ne.symm e), ← Array.getD_eq_getD_getElem?]
      exact h t

def REnd (out : Nat) (b : Bool) : Exit → Prop
  | .normal => b = true
  | .exit id => b = false ∧ id = out
  | _ => False

set_option maxHeartbeats 2000000 in
theorem HT_rng {E : Env} {N : Nat} {Q : Exit → AS → Prop} {g : Operand} {ps : Array Tmp} {assign body : Code} {sl0 : Nat → AV} {hp0 : Heap} {b0 : Nat} (hrd : E.rd = false) (hcl : E.cl = true)
    {X S : Type} (encX : X → List AV) (encV : X → List Value) (hX : ∀ β x, Vs β (encX x) (encV x)) (hps : ∀ x, (encV x).length = ps.size) (hpN : ∀ p ∈ ps.toList, p < N)
    {gf : FuncId} {caps caps' : List AV} (hg : evA sl0 g = .fn gf [] caps) (hcaps : WkL caps caps') (out : Nat) (hb0 : 64 ≤ b0) (h64 : ∀ t, (sl0 t).a64)
    (bw : Nat → Bool) (hbw : ∀ i, bw i = true → i < 64 ∧ ∃ es clk, hp0 i = some (.map es clk) ∧ ∀ p ∈ es, p.2.1.plain ∧ p.2.2.plain)
    (hpS : S → Heap) (hng : ∀ s i b, hpS s i = some b → noGh b = true ∧ bw i = false) (y : X → S → Option (Bool × S)) (s0 : S) (hs0 : ∀ i b, hpS s0 i = some b → hp0 i = some b) (fin : Bool × S)
    (hrow : ∀ G : Gh (Bool × S), G.P = E.P → (∀ x s b s', y x s = some (b, s') → G.Y (encV x) (true, s) b (b, s')) →
      ∃ r, E.T gf (.yld b0 :: caps') (fun i => if i = b0 then some (.gh (Bool × S) G (true, s0)) else bif bw i then hp0 i else none) (b0 + 64) r (fun i => if i = b0 then some (.gh (Bool × S) G fin) else bif bw i then hp0 i else none))
    (hround : ∀ x s b s', y x s = some (b, s') → HT { E with rd := true } N assign ⟨setP sl0 ps.toList (encX x), hpS s, b0 + 64⟩ (Then (fun σ1 => HT { E with rd := true } N body σ1 fun e σ2 =>
      REnd out b e ∧ ∃ L, Weak L ⟨fun _ => .top, σ2.hp, σ2.b⟩ ⟨fun _ => .top, hpS s', b0 + 64⟩) fun _ _ => False))
    (hend1 : fin.1 = true → Q .normal ⟨sl0, fun i => bif bw i then hp0 i else hpS fin.2 i, b0 + 64⟩) (hend2 : fin.1 = false → Q (.exit out) ⟨sl0, fun i => bif bw i then hp0 i else hpS fin.2 i, b0 + 64⟩) :
    HT E N (.rangeFunc g ps assign body) ⟨sl0, hp0, b0⟩ Q := by
  intro ro F a w hro hF hr
  obtain rfl := hro hrd
  obtain ⟨β, ds, hsince, hs, hH, hnm, hbel, htop, hdf, hmk, hN⟩ := hr
  obtain ⟨hF1, hF2⟩ := hF hcl
  have hF32 : ∀ i, F.β0.loc i ≠ none → i < 32 := fun i hi => by have := hF1 i hi; rw [hrd] at this; simpa using this
  have hgv := evA_V hs g
  simp only at hgv
  rw [hg] at hgv
  simp only [V] at hgv
  obtain ⟨fv, cv, hgv, hfv, hcv⟩ := hgv
  simp only [Vs] at hfv
  subst hfv
  refine wpIn_rangeFunc (F := fen none) ?_
  intro fn _
  obtain ⟨D, hD⟩ : ∃ D, D = w.heap.size := ⟨_, rfl⟩
  obtain ⟨l, hl⟩ : ∃ l, l = w.heap.size + 1 := ⟨_, rfl⟩
  obtain ⟨rec, hrec⟩ : ∃ rec : LoopState → Option Code → Loop, rec = fun st pe => { state := st, pending := pe, fn, tmps := a.tmps, params := ps, assign, body, defers := w.heap.size } := ⟨_, rfl⟩
  obtain ⟨W1, hW1⟩ : ∃ W1, W1 = (w.alloc (.deferred (some []))).alloc (.loop (rec .ready none)) := ⟨_, rfl⟩
  have hL1 : W1.heap[l]? = some (.loop (rec .ready none)) := by
    rw [hW1, hl]; have := World.alloc_heap_new (w.alloc (.deferred (some []))) (.loop (rec .ready none)); rwa [World.size_alloc] at this
  have hD1 : W1.heap[D]? = some (.deferred (some [])) := by
    rw [hW1, hD]; exact (Below.heap_alloc _ _ _ (by simp)).trans (World.alloc_heap_new w _)
  have hbw1 : BelowP (fun c => w.heap.size ≤ c) w W1 := by
    rw [hW1]; exact (BelowP.alloc w (Nat.le_refl _) _).trans (BelowP.alloc _ (by simp) _)
  have hsz1 : W1.heap.size = w.heap.size + 2 := by rw [hW1]; simp
  have hgf : b0 ∉ [] := by simp
  have hβb0 : β b0 = none := by
    cases e : β b0 with
    | none => rfl
    | some x => exact absurd (hnm b0 (by rw [e]; simp)) (Nat.lt_irrefl _)
  let B1 : Bd := F.Bx ds
  have hB1top : B1.top w.heap.size := hmk.top htop
  let Ys0 : Nat → Prop := fun c => B1 c ∧ c < W1.heap.size ∧ ∀ i li, bw i = true → β i = some li → c ≠ li.c
  have hbwlt : ∀ i li, bw i = true → β i = some li → li.c < w.heap.size ∧ 0 < li.k := fun i li h1 h2 => by
    obtain ⟨_, es, clk, h3, _⟩ := hbw i h1
    obtain ⟨l', g1, g2, g3, _⟩ := hH.map i es clk h3
    rw [h2] at g1; cases g1
    exact ⟨(hH.lt_of_own h3 h2 g2).1, g2⟩
  have hlD : l ≠ D := by omega
  have ysl : Ys0 l := ⟨hB1top l (by omega), by omega, fun i li h1 h2 => by have := (hbwlt i li h1 h2).1; omega⟩
  have ysD : Ys0 D := ⟨hB1top D (by omega), by omega, fun i li h1 h2 => by have := (hbwlt i li h1 h2).1; omega⟩
  let Bd' : (Nat → Prop) → Bd := fun Ys c => Ys c ∧ c ≠ l ∧ c ≠ D
  let recOf : Bool → Loop := fun b => if b then rec .ready none else rec .done (some (.exit out))
  let JJ : Bool × S → (Nat → Prop) → Nat → World → Prop := fun t Ys l' w' => l' = l ∧ Ys l ∧ Ys D ∧ w'.heap[D]? = some (.deferred (some [])) ∧ w'.heap[l]? = some (.loop (recOf t.1)) ∧
    ∃ β' : Beta, (∀ i, i < 64 → β.loc i ≠ none → β'.loc i = β.loc i) ∧ (∀ c o v, β.fz c o = some v → β'.fz c o = some v) ∧ (∀ c o v, β'.fz c o = some v → Ys c ∨ β.fz c o = some v) ∧ (∀ j, β' j ≠ none → j < b0 + 64) ∧
      β'.ys = (fun _ => False) ∧ HRel β' (hpS t.2) w' (Bd' Ys)
  have hngS : ∀ s i b, hpS s i = some b → noGh b = true := fun s i b h => (hng s i b h).1
  have hslots : ∀ (β' : Beta), (∀ i, i < 64 → β.loc i ≠ none → β'.loc i = β.loc i) → (∀ c o v, β.fz c o = some v → β'.fz c o = some v) → ∀ t, V β' (sl0 t) (a.tmps.getD t undef) := fun β' h1 h2 t =>
    V_mono (β := ⟨β'.loc, β.fz, β'.ys⟩) (β' := β') ⟨fun _ _ h => h, h2⟩ _ _ (h64 t β β'.loc β'.ys _ h1 (hs t))
  let G : Gh (Bool × S) := {
    P := E.P
    J := JJ
    Y := fun args t b t' => ∃ x, args = encV x ∧ t.1 = true ∧ y x t.2 = some (b, t'.2) ∧ t'.1 = b
    fz := β.fz
    stable := fun t Ys l' w1 w2 hJ hb hfz => by
      obtain ⟨h1, h2, h3, h4, h5, β', k1, k2, k3, k4, k5, k6⟩ := hJ
      have same : ∀ c, Ys c → w2.heap[c]? = w1.heap[c]? := fun c hc => hb.block c fun h => h hc
      refine ⟨h1, h2, h3, (same D h3).trans h4, (same l h2).trans h5, β', k1, k2, k3, k4, k5, k6.world (fun c o v hv => ?_) (fun i b li hi hli hk => same _ (k6.lt_of_own hi hli hk).2.1) ⟨hb.os, hb.tape, hb.output, hb.size, hb.drawn, fun c hc => by rw [k5] at hc; exact absurd (fun h => h) hc⟩⟩
      rcases k3 c o v hv with h | h
      · exact (World.cell?_of_block (w := w1) (a := ⟨c, o, none⟩) (same c h)).trans (k6.fz c o v hv)
      · exact hfz c o v h
    cells := fun t Ys l' w1 c o v hJ hv => by
      obtain ⟨h1, h2, h3, h4, h5, β', k1, k2, k3, k4, k5, k6⟩ := hJ
      exact k6.fz c o v (k2 c o v hv)
    yield := fun t Ys l' w1 args b t' hJ hlt hY => by
      obtain ⟨rfl, h2, h3, h4, h5, β', k1, k2, k3, k4, k5, k6⟩ := hJ
      obtain ⟨x, rfl, hrun, hy, hb'⟩ := hY
      obtain ⟨run, s⟩ := t
      obtain ⟨run', s'⟩ := t'
      simp only at hrun hy hb' h5 k6
      subst hrun hb'
      have hR1 : w1.heap[l']? = some (.loop (rec .ready none)) := h5
      have hll : l' < w1.heap.size := hlt l' h2
      have hDl : D < w1.heap.size := hlt D h3
      have hrecf : (rec .ready none).fn = fn ∧ (rec .ready none).tmps = a.tmps ∧ (rec .ready none).params = ps ∧ (rec .ready none).assign = assign ∧ (rec .ready none).body = body := by rw [hrec]; exact ⟨rfl, rfl, rfl, rfl, rfl⟩
      have hyl := run_yield (P := E.P) (args := (encV x).toArray) hR1 (by rw [hrecf.2.2.1, List.size_toArray]; exact hps x)
      rw [hrecf.1, hrecf.2.1, hrecf.2.2.1, hrecf.2.2.2.1, hrecf.2.2.2.2] at hyl
      refine ⟨fn, _, assign, body, hyl, ?_⟩
      let Bb : Bd := fun c => Bd' Ys c ∨ w1.heap.size ≤ c
      have hnl : ¬ Bb l' := fun h => h.elim (fun h => h.2.1 rfl) fun h => by omega
      have hnD : ¬ Bb D := fun h => h.elim (fun h => h.2.2 rfl) fun h => by omega
      let Fb : World → Fr := fun w0 => ⟨Bb, w0, ⟨fun i => bif decide (i < 64) then β'.loc i else none, β'.fz, fun _ => False⟩, 0⟩
      have hFb : ∀ w0, (Fb w0).ok true true := fun w0 _ => ⟨fun i hi => by
        by_cases h : i < 64
        · exact h
        · exfalso; apply hi; show (bif decide (i < 64) then β'.loc i else none) = none; rw [decide_eq_false h]; rfl, rfl⟩
      have hset := setP_ok (β := β') (N := N) ps.toList (encX x) (encV x) sl0 a.tmps hpN hN (hX β' x) (hslots β' k1 k2)
      have hfold : (ps.zip (encV x).toArray).foldl (fun tmps p => tmps.setIfInBounds p.1 p.2) a.tmps = (ps.toList.zip (encV x)).foldl (fun t p => t.setIfInBounds p.1 p.2) a.tmps := by
        rw [← Array.foldl_toList, Array.toList_zip]
      have hrep1 : Rep (Fb w1) N ⟨setP sl0 ps.toList (encX x), hpS s, b0 + 64⟩ { tmps := (ps.zip (encV x).toArray).foldl (fun tmps p => tmps.setIfInBounds p.1 p.2) a.tmps, defers := [] } w1 := by
        refine ⟨β', [], ⟨⟨fun i li hi => ?_, fun _ _ _ h => h⟩, fun _ _ => .inr (Nat.zero_le _), Nat.zero_le _, fun c o h => .inl h⟩, ?_, ?_, k4, BelowP.refl _ _, fun c hc => .inr hc, rfl, Marks.nil _ _, ?_⟩
        · change (bif decide (i < 64) then β'.loc i else none) = some li at hi
          cases h : decide (i < 64) with
          | true => rw [h] at hi; exact hi
          | false => rw [h] at hi; cases hi
        · rw [hfold]; exact hset.2
        · rw [Fr.Bx_nil]; exact k6.supL fun c _ h => .inl h
        · rw [hfold]; exact hset.1
      have hro2 : (({ E with rd := true } : Env).rd = false → (some l' : Option Nat) = none) := fun h => by cases h
      have hok2 : ∀ w0, (Fb w0).ok ({ E with rd := true } : Env).cl ({ E with rd := true } : Env).rd := fun w0 => by show (Fb w0).ok E.cl true; rw [hcl]; exact hFb w0
      refine roundIn_of_wpIn (F := Fence.wide) trivial ?_
      refine wpIn_mono (hround x s _ s' hy (some l') (Fb w1) _ w1 hro2 (hok2 w1) hrep1) ?_
      intro e a1 w2 hq
      obtain ⟨σ1, q1, hr1⟩ := hq
      cases e with
      | normal =>
        obtain ⟨β1, ds1, g1, g2, g3, g4, g5, g6, g7, g8, g9⟩ := hr1
        have hR2 : w2.heap[l']? = some (.loop (rec .ready none)) := (g5.block l' hnl).trans hR1
        refine ⟨_, run_beginRound hR2 (by rw [hrec]), ?_⟩
        obtain ⟨w2', hw2'⟩ : ∃ w2', w2' = w2.putObj l' (.loop { rec .ready none with state := .busy }) := ⟨_, rfl⟩
        rw [← hw2']
        have hs2 : w2'.heap.size = w2.heap.size := by rw [hw2']; simp
        have hR2' : w2'.heap[l']? = some (.loop { rec .ready none with state := .busy }) := by rw [hw2']; exact World.putObj_heap_same (by have : w1.heap.size ≤ w2.heap.size := g5.size; omega)
        have ho2 : ∀ k, k ≠ l' → w2'.heap[k]? = w2.heap[k]? := fun k hk => by rw [hw2']; exact World.putObj_heap_other hk
        have hmk1 : ∀ E', E' ∈ ds1 → E' ≠ l' := fun E' hE e => hnl (e ▸ (g8.at_ E' hE).1)
        have hrep2 : Rep (Fb w2') N σ1 a1 w2' := by
          refine ⟨β1, ds1, ⟨g1.le, g1.dom, g1.b, g1.fz⟩, g2, ?_, g4, BelowP.refl _ _, fun c hc => g6 c (by omega), g7, ⟨g8.nodup, fun E' hE => ⟨(g8.at_ E' hE).1, (ho2 E' (hmk1 E' hE)).trans (g8.at_ E' hE).2⟩⟩, g9⟩
          rw [hw2']
          exact g3.poke hR2 (loop_cell hR2) (fun i b li hi hli hk e => hnl (e ▸ (g3.lt_of_own hi hli hk).2.1)) fun hy => hnl (g3.ys l' hy).1.1
        refine wpIn_mono (q1 (some l') (Fb w2') a1 w2' hro2 (hok2 w2') hrep2) ?_
        intro e2 a3 w3 hq2
        obtain ⟨σ2, ⟨hre, L, hweak⟩, hr2⟩ := hq2
        have hr2' : Rep (Fb w2') N ⟨fun _ => .top, σ2.hp, σ2.b⟩ a3 w3 := by
          obtain ⟨β2, ds2, p1, p2, p3⟩ := hr2
          exact ⟨β2, ds2, p1, fun t => by simp [V], p3⟩
        obtain ⟨β3, ds3, p1, _, p3, p4, p5, p6, _, p8, _⟩ := Weak.rep hweak (hFb w2') hr2'
        simp only at p3 p4
        have hR3 : w3.heap[l']? = some (.loop { rec .ready none with state := .busy }) := (p5.block l' hnl).trans hR2'
        have hle13 : w1.heap.size ≤ w3.heap.size := by
          have e1 : w1.heap.size ≤ w2.heap.size := g5.size
          have e2 : w2'.heap.size ≤ w3.heap.size := p5.size
          omega
        have finish : ∀ o' : Obj, o' = .loop (recOf run') → ∃ Ys', JJ (run', s') Ys' l' (w3.putObj l' o') ∧ (∀ c, Ys' c → Ys c ∨ w1.heap.size ≤ c) ∧ (∀ c, Ys' c → c < (w3.putObj l' o').heap.size) ∧ BelowP (fun c => Ys c ∨ w1.heap.size ≤ c) w1 (w3.putObj l' o') := by
          intro o' ho'
          have hoth : ∀ k, k ≠ l' → (w3.putObj l' o').heap[k]? = w3.heap[k]? := fun k hk => World.putObj_heap_other hk
          refine ⟨fun c => (Bb c ∧ c < w3.heap.size) ∨ c = l' ∨ c = D, ⟨rfl, .inr (.inl rfl), .inr (.inr rfl), ?_, ?_, ⟨β3.loc, β3.fz, fun _ => False⟩, fun i hi hne => ?_, fun c o v hv => p1.le.fz c o v (k2 c o v hv), fun c o v hv => ?_, p4, rfl, ?_⟩, ?_, ?_, ?_⟩
          · rw [hoth D (by omega), p5.block D hnD, ho2 D (by omega), g5.block D hnD]; exact h4
          · rw [World.putObj_heap_same (by omega), ho']
          · have hb : β'.loc i = β.loc i := k1 i hi hne
            cases e : β.loc i with
            | none => exact absurd e hne
            | some li =>
              rw [e] at hb
              exact p1.le.loc i li (by show (bif decide (i < 64) then β'.loc i else none) = some li; rw [decide_eq_true hi]; exact hb)
          · have hcl3 := cell_lt (p3.fz c o v hv)
            rcases p1.fz c o (by rw [show β3.fz c o = some v from hv]; simp) with h | h
            · change β'.fz c o ≠ none at h
              cases e : β'.fz c o with
              | none => exact absurd e h
              | some u =>
                have := p1.le.fz c o u e
                rw [show β3.fz c o = some v from hv] at this
                cases this
                rcases k3 c o v e with h | h
                · left
                  by_cases e1 : c = l'
                  · exact .inr (.inl e1)
                  · by_cases e2 : c = D
                    · exact .inr (.inr e2)
                    · exact .inl ⟨.inl ⟨h, e1, e2⟩, hcl3⟩
                · exact .inr h
            · exact .inl (.inl ⟨h, hcl3⟩)
          · have hq3 := (p3.noys (hngS s')).poke (o' := o') hR3 (loop_cell hR3) (fun i b li hi hli hk e => hnl (e ▸ (p3.lt_of_own hi hli hk).2.1)) (fun h => h)
            refine hq3.supL fun c hc h => ⟨.inl ⟨h.1, by simpa using hc⟩, fun e => hnl (e ▸ h.1), fun e => hnD (e ▸ h.1)⟩
          · rintro c (⟨h | h, _⟩ | rfl | rfl)
            · exact .inl h.1
            · exact .inr h
            · exact .inl h2
            · exact .inl h3
          · rintro c (⟨_, h⟩ | rfl | rfl)
            · simpa using h
            · simp; omega
            · simp; omega
          · have hBb : ∀ c, Bb c → Ys c ∨ w1.heap.size ≤ c := fun c h => h.imp (fun h => h.1) id
            have c1 := g5.weaken hBb
            have c2 : BelowP (fun c => Ys c ∨ w1.heap.size ≤ c) w2 w2' := by rw [hw2']; exact ⟨rfl, rfl, rfl, by simp, Nat.le_refl _, fun k hk => World.putObj_heap_other fun e => hk (.inl (e ▸ h2))⟩
            have c3 := p5.weaken hBb
            have c4 : BelowP (fun c => Ys c ∨ w1.heap.size ≤ c) w3 (w3.putObj l' o') := ⟨rfl, rfl, rfl, by simp, Nat.le_refl _, fun k hk => World.putObj_heap_other fun e => hk (.inl (e ▸ h2))⟩
            exact ((c1.trans c2).trans c3).trans c4
        cases e2 with
        | normal =>
          have hb1 : run' = true := hre
          subst hb1
          refine ⟨_, _, run_endRound none hR3, rfl, finish _ ?_⟩
          show _ = Obj.loop (rec .ready none)
          rw [hrec]; rfl
        | exit id =>
          obtain ⟨hb1, hid⟩ : run' = false ∧ id = out := hre
          subst hb1 hid
          refine ⟨_, _, run_endRound (some (.exit id)) hR3, rfl, finish _ ?_⟩
          show _ = Obj.loop (rec .done (some (.exit id)))
          rw [hrec]; rfl
        | _ => exact hre.elim
      | _ => exact q1.elim }
  obtain ⟨r, hTr⟩ := hrow G rfl fun x s b s' hy => ⟨x, rfl, rfl, hy, rfl⟩
  obtain ⟨henter, hcalls⟩ := E.hT _ _ _ _ _ _ hTr
  let βg : Beta := ⟨fun i => if i = b0 then some ⟨l, 0, 0⟩ else β.loc i, β.fz, Ys0⟩
  have hβg : ∀ i, i ≠ b0 → βg i = β i := fun i hi => by show (if i = b0 then _ else _) = _; rw [if_neg hi]
  have hleg : ∀ i li, β i = some li → βg i = some li := fun i li h => (hβg i fun e => by rw [e, hβb0] at h; cases h).trans h
  have hβγ : βg b0 = some ⟨l, 0, 0⟩ := by show (if b0 = b0 then _ else _) = _; simp
  have hH1 : HRel β hp0 W1 B1 := hH.keep hbw1
  let Hit : Bool × S → Heap := fun t i => if i = b0 then some (.gh (Bool × S) G t) else bif bw i then hp0 i else none
  have hit : ∀ {t i b}, Hit t i = some b → (i = b0 ∧ b = .gh (Bool × S) G t) ∨ (i ≠ b0 ∧ bw i = true ∧ hp0 i = some b) := fun {t i b} h => by
    change (if i = b0 then _ else _) = some b at h
    split at h
    · rename_i e; cases h; exact .inl ⟨e, rfl⟩
    · rename_i e
      cases e' : bw i with
      | true => rw [e'] at h; exact .inr ⟨e, rfl, h⟩
      | false => rw [e'] at h; cases h
  have mapOnly : ∀ {i cs}, bw i = true → hp0 i = some (.cells cs) → False := fun {i cs} h1 h2 => by obtain ⟨_, es, clk, h3, _⟩ := hbw i h1; rw [h2] at h3; cases h3
  have ghOnly : ∀ {i S' G' s'}, bw i = true → hp0 i = some (.gh S' G' s') → False := fun {i S' G' s'} h1 h2 => by obtain ⟨_, es, clk, h3, _⟩ := hbw i h1; rw [h2] at h3; cases h3
  have mapsOnly : ∀ {t i sz es clk ho}, Hit t i = some (.maps sz es clk ho) → False := fun {t i sz es clk ho} h => by
    rcases hit h with ⟨_, h⟩ | ⟨_, h1, h2⟩
    · cases h
    · obtain ⟨_, es, clk, h3, _⟩ := hbw i h1; rw [h2] at h3; cases h3
  have hVg : ∀ (a : AV) (v : Value), V β a v → V βg a v := fun a v h => V_mono (β := β) (β' := βg) ⟨hleg, fun _ _ _ h => h⟩ _ _ h
  have hHg : HRel βg (Hit (true, s0)) W1 B1 := by
    refine ⟨hH1.fz, fun i cs hi => ?_, fun i es clk hi => ?_, fun i j bi bj li lj hij hi hj ei ej pi pj => ?_, fun c hc => ⟨hc.1, hc.2.1⟩, fun i b li hi hli hk hc => ?_, fun i S' G' s' hi => ?_, fun i j S1 G1 s1 S2 G2 s2 hi hj => ?_, fun i sz es clk ho hi => (mapsOnly hi).elim, fun i j sz es clk ho b hi _ _ => (mapsOnly hi).elim⟩
    · rcases hit hi with ⟨_, h⟩ | ⟨_, h1, h2⟩
      · cases h
      · exact (mapOnly h1 h2).elim
    · rcases hit hi with ⟨_, h⟩ | ⟨h0, h1, h2⟩
      · cases h
      · obtain ⟨li, g1, g2, g3, ents, g4, m⟩ := hH1.map i es clk h2
        exact ⟨li, hleg i li g1, g2, g3, ents, g4, m.mono (β' := βg) ⟨hleg, fun _ _ _ h => h⟩⟩
    · rcases hit hi with ⟨e1, h1⟩ | ⟨e1, h1, h2⟩
      · rw [e1, hβγ] at ei; cases ei; simp at pi
      · rcases hit hj with ⟨e2, k1⟩ | ⟨e2, k1, k2⟩
        · rw [e2, hβγ] at ej; cases ej; simp at pj
        · rw [hβg i e1] at ei; rw [hβg j e2] at ej
          exact hH1.sep i j bi bj li lj hij h2 k2 ei ej pi pj
    · rcases hit hi with ⟨e1, h1⟩ | ⟨e1, h1, h2⟩
      · rw [e1, hβγ] at hli; cases hli; simp at hk
      · rw [hβg i e1] at hli
        exact hc.2.2 i li h1 hli rfl
    · rcases hit hi with ⟨e1, h1⟩ | ⟨e1, h1, h2⟩
      · cases h1
        rw [e1]
        refine ⟨⟨l, 0, 0⟩, hβγ, rfl, ⟨rfl, ysl, ysD, hD1, hL1, ⟨β.loc, β.fz, fun _ => False⟩, fun i _ _ => rfl, fun c o v h => h, fun c o v h => .inr h, fun j hj => Nat.lt_of_lt_of_le (hnm j hj) (by show b0 ≤ b0 + 64; omega), rfl, ?_⟩, fun c o v _ h => h, fun c o v h => h⟩
        have hsub : HRel β (hpS s0) W1 B1 := hH1.sub hs0
        refine (hsub.noys (hngS s0)).supI (fun i b li hi hli hk => ?_) (fun c hc => hc.elim)
        obtain ⟨q1, q2⟩ := hH.lt_of_own (hs0 i b hi) hli hk
        refine ⟨⟨q2, by omega, fun i' li' g1 g2 e => ?_⟩, by omega, by omega⟩
        obtain ⟨_, es, clk, g3, _⟩ := hbw i' g1
        exact hH.sep i i' b _ li li' (fun e => by subst e; have := (hng s0 i b hi).2; rw [g1] at this; cases this) (hs0 i b hi) g3 hli g2 hk (hbwlt i' li' g1 g2).2 e
      · exact (ghOnly h1 h2).elim
    · rcases hit hi with ⟨e1, _⟩ | ⟨e1, h1, h2⟩
      · rcases hit hj with ⟨e2, _⟩ | ⟨e2, k1, k2⟩
        · rw [e1, e2]
        · exact (ghOnly k1 k2).elim
      · exact (ghOnly h1 h2).elim
  have hargs : Vs βg (.yld b0 :: caps') (.func (.yield l) #[] #[] :: cv) := by
    refine ⟨_, _, rfl, ?_, hcaps βg cv ?_⟩
    · simp only [V]; exact ⟨_, hβγ, rfl⟩
    · exact Vs_mono (β := β) (β' := βg) ⟨hleg, fun _ _ _ h => h⟩ _ _ hcv
  have hcall := hcalls B1 W1 βg (.func (.yield l) #[] #[] :: cv) (fun j hj => by
    by_cases e : j = b0
    · subst e; omega
    · rw [hβg j e] at hj; have := hnm j hj; simp only at this; omega) hHg (fun c hc => hB1top c (by omega)) hargs
  refine ⟨l, [mark D], W1, { target := .fn (.func gf) cv.toArray, args := #[.func (.yield l) #[] #[]] }, W1, gf, (.func (.yield l) #[] #[] :: cv).toArray, W1, ?_, ?_, fun _ _ => trivial, ?_, (by intro h; cases h), callsIn_fen (hcall.mono ?_)⟩
  · rw [hW1, hrec, hl, hD]; exact run_enterLoop_outer _ _ _ _ _
  · simp only [resolve, hgv]
    simp [Deferred.ofValue, Act.eval]
  · simp [invoke, henter]
  rintro e we ⟨v, βf, rfl, hext, _, hHf, hbelf⟩
  have hγf : βf b0 = some ⟨l, 0, 0⟩ := hext.le.loc _ _ hβγ
  have hitb0 : (fun i => if i = b0 then some (AB.gh (Bool × S) G fin) else bif bw i then hp0 i else none) b0 = some (AB.gh (Bool × S) G fin) := by simp
  obtain ⟨lf, q1, _, hJ, _, _⟩ := hHf.gh b0 _ G fin hitb0
  rw [hγf] at q1; cases q1
  obtain ⟨_, h2, h3, h4, h5, β', k1, k2, k3, k4, k5, k6⟩ := hJ
  have hnb : (recOf fin.1).state ≠ .busy := by
    show (if fin.1 then rec .ready none else rec .done (some (.exit out))).state ≠ .busy
    rw [hrec]; cases fin.1 <;> simp
  refine ⟨_, _, run_endLoop h5 hnb, ?_⟩
  obtain ⟨o', ho'⟩ : ∃ o', o' = Obj.loop { recOf fin.1 with state := .exhausted } := ⟨_, rfl⟩
  rw [← ho']
  have hoth : ∀ k, k ≠ l → (we.putObj l o').heap[k]? = we.heap[k]? := fun k hk => World.putObj_heap_other hk
  have hsz : (we.putObj l o').heap.size = we.heap.size := by simp
  have hsame : ∀ c, ¬ B1 c → we.heap[c]? = W1.heap[c]? := fun c hc => hbelf.block c hc
  have hbwf : ∀ i li, bw i = true → β i = some li → βf i = some li ∧ i ≠ b0 := fun i li h1 h2 => ⟨hext.le.loc _ _ (hleg i li h2), fun e => by subst e; rw [hβb0] at h2; cases h2⟩
  have hbwm : ∀ i, bw i = true → ∃ es clk li, hp0 i = some (.map es clk) ∧ β i = some li ∧ β' i = some li ∧ 0 < li.k ∧ B1 li.c ∧ li.c ≠ l ∧ li.c ≠ D ∧ ¬ βf.ys li.c ∧ ∃ ents, we.heap[li.c]? = some (.map ents clk) ∧ MRel β' es ents := fun i hi => by
    obtain ⟨hi64, es, clk, g1, g2⟩ := hbw i hi
    obtain ⟨li, p1, p2, p3, _⟩ := hH.map i es clk g1
    obtain ⟨r1, r2⟩ := hbwf i li hi p1
    have hitI : (fun i => if i = b0 then some (AB.gh (Bool × S) G fin) else bif bw i then hp0 i else none) i = some (.map es clk) := by simp [r2, hi, g1]
    obtain ⟨li', t1, t2, t3, ents, t4, m⟩ := hHf.map i es clk hitI
    rw [r1] at t1; cases t1
    have hlt := (hbwlt i li hi p1).1
    refine ⟨es, clk, li, g1, p1, (k1 i hi64 (by rw [p1]; simp)).trans p1, p2, p3, by omega, by omega, hHf.yo i _ li hitI r1 p2, ents, t4, m.len, fun j p hp => ?_⟩
    obtain ⟨e, e1, e2, e3, e4⟩ := m.rel j p hp
    obtain ⟨pl1, pl2⟩ := g2 p (List.mem_of_getElem? hp)
    exact ⟨e, e1, e2, pl1 _ _ _ e3, pl2 _ _ _ e4⟩
  have hE : ∀ i b, (bif bw i then hp0 i else hpS fin.2 i) = some b → (bw i = true ∧ hp0 i = some b) ∨ (bw i = false ∧ hpS fin.2 i = some b) := fun i b h => by
    cases e : bw i with
    | true => rw [e] at h; exact .inl ⟨rfl, h⟩
    | false => rw [e] at h; exact .inr ⟨rfl, h⟩
  have mapsE : ∀ {i sz es clk ho}, (bif bw i then hp0 i else hpS fin.2 i) = some (.maps sz es clk ho) → False := fun {i sz es clk ho} h => by
    rcases hE i _ h with ⟨h1, h2⟩ | ⟨h1, h2⟩
    · obtain ⟨_, es, clk, h3, _⟩ := hbw i h1; rw [h2] at h3; cases h3
    · have := (hng fin.2 i _ h2).1; cases this
  have hysB : ∀ c, βf.ys c → B1 c := fun c hc => (hHf.ys c hc).1
  have hfin : HRel β' (fun i => bif bw i then hp0 i else hpS fin.2 i) we (fun c => (F.Bx ds) c ∧ c ≠ D ∧ c ≠ l) := by
    refine ⟨k6.fz, fun i cs hi => ?_, fun i es clk hi => ?_, fun i j bi bj li lj hij hi hj ei ej pi pj => ?_, fun c hc => by rw [k5] at hc; exact hc.elim, fun i b li hi hli hk hc => by rw [k5] at hc; exact hc.elim, fun i S' G' s' hi => ?_, fun i j S1 G1 s1 S2 G2 s2 hi hj => ?_, fun i sz es clk ho hi => (mapsE hi).elim, fun i j sz es clk ho b hi _ _ => (mapsE hi).elim⟩
    · rcases hE i _ hi with ⟨g1, g2⟩ | ⟨g1, g2⟩
      · exact (mapOnly g1 g2).elim
      · obtain ⟨li, p1, p2, p3⟩ := k6.own i cs g2
        refine ⟨li, p1, p2, fun hk => ?_⟩
        obtain ⟨a1, a2⟩ := p3 hk
        exact ⟨⟨hysB _ a1.1, a1.2.2, a1.2.1⟩, a2⟩
    · rcases hE i _ hi with ⟨g1, g2⟩ | ⟨g1, g2⟩
      · obtain ⟨es', clk', li, p1, p2, p3, p4, p5, p6, p7, _, ents, p8, p9⟩ := hbwm i g1
        rw [g2] at p1; cases p1
        exact ⟨li, p3, p4, ⟨p5, p7, p6⟩, ents, p8, p9⟩
      · obtain ⟨li, p1, p2, p3, p4⟩ := k6.map i es clk g2
        exact ⟨li, p1, p2, ⟨hysB _ p3.1, p3.2.2, p3.2.1⟩, p4⟩
    · rcases hE i _ hi with ⟨g1, g2⟩ | ⟨g1, g2⟩
      · obtain ⟨es', clk', li', p1, p2, p3, p4, p5, p6, p7, p8, _⟩ := hbwm i g1
        rw [p3] at ei; cases ei
        rcases hE j _ hj with ⟨q1, q2⟩ | ⟨q1, q2⟩
        · obtain ⟨es2, clk2, lj', r1, r2, r3, r4, _⟩ := hbwm j q1
          rw [r3] at ej; cases ej
          exact hH.sep i j _ _ _ _ hij g2 q2 p2 r2 pi pj
        · exact fun e => p8 (e ▸ (k6.lt_of_own q2 ej pj).2.1)
      · rcases hE j _ hj with ⟨q1, q2⟩ | ⟨q1, q2⟩
        · obtain ⟨es2, clk2, lj', r1, r2, r3, r4, r5, r6, r7, r8, _⟩ := hbwm j q1
          rw [r3] at ej; cases ej
          exact fun e => r8 (e ▸ (k6.lt_of_own g2 ei pi).2.1)
        · exact k6.sep i j _ _ _ _ hij g2 q2 ei ej pi pj
    · rcases hE i _ hi with ⟨g1, g2⟩ | ⟨g1, g2⟩
      · exact (ghOnly g1 g2).elim
      · have := hngS _ _ _ g2; cases this
    · rcases hE i _ hi with ⟨g1, g2⟩ | ⟨g1, g2⟩
      · exact (ghOnly g1 g2).elim
      · have := hngS _ _ _ g2; cases this
  have hrep : Rep F N ⟨sl0, fun i => bif bw i then hp0 i else hpS fin.2 i, b0 + 64⟩ { a with defers := [mark D] ++ a.defers } (we.putObj l o') := by
    refine ⟨β', D :: ds, ⟨⟨fun i li hi => ?_, fun c o v h => k2 c o v (hsince.le.fz c o v h)⟩, fun j _ => .inr (by rw [hF2]; exact Nat.zero_le _), by rw [hF2]; exact Nat.zero_le _, fun c o hc => ?_⟩, hslots β' k1 k2, ?_, k4, ?_, htop.mono ?_, ?_, ⟨?_, fun D' hD' => ?_⟩, hN⟩
    · have h32 := hF32 i (by rw [show F.β0.loc i = some li from hi]; simp)
      have hb := hsince.le.loc i li hi
      exact (k1 i (by omega) (by rw [show β.loc i = some li from hb]; simp)).trans hb
    · cases e : β'.fz c o with
      | none => exact absurd e hc
      | some u =>
        rcases k3 c o u e with h | h
        · exact .inr (hysB c h).1
        · exact hsince.fz c o (by rw [h]; simp)
    · have := hfin.poke (o' := o') h5 (loop_cell h5) (fun i b li hi hli hk e => (hfin.lt_of_own hi hli hk).2.2.2 e) (by rw [k5]; exact fun h => h)
      exact this.sup fun c hc => ⟨hc.1.1, fun hm => by
        rcases List.mem_cons.1 hm with h | h
        · exact hc.2.1 h
        · exact hc.1.2 h⟩
    · refine (hbel.trans (.of htop hbw1)).trans ((hbelf.weaken fun c hc => hc.1).trans ⟨rfl, rfl, rfl, by simp, Nat.le_refl _, fun k hk => World.putObj_heap_other fun e => hk (e ▸ (ysl.1).1)⟩)
    · rw [hsz]; have := hbelf.size; omega
    · simp [hdf]
    · rw [List.nodup_cons]
      refine ⟨fun hm => ?_, hmk.nodup⟩
      have := (Array.getElem?_eq_some_iff.1 (hmk.at_ D hm).2).1
      omega
    · rcases List.mem_cons.1 hD' with rfl | hm
      · exact ⟨(ysD.1).1, by rw [hoth _ (by omega)]; exact h4⟩
      · obtain ⟨m1, m2⟩ := hmk.at_ D' hm
        have hlt := (Array.getElem?_eq_some_iff.1 m2).1
        exact ⟨m1, by rw [hoth _ (by omega), hsame D' (fun h => h.2 hm), hbw1.block D' (Nat.not_le.2 hlt)]; exact m2⟩
  have hpend : (recOf fin.1).pending = if fin.1 then none else some (.exit out) := by
    show (if fin.1 then rec .ready none else rec .done (some (.exit out))).pending = _
    rw [hrec]; cases fin.1 <;> rfl
  rw [hpend]
  cases hfc : fin.1 with
  | true => exact ⟨_, hend1 hfc, hrep⟩
  | false => exact wpIn_exit ⟨_, hend2 hfc, hrep⟩
end Go.Eng
namespace Go.Eng
open Go
universe u v
structure GM (α : Type) where
  es : List (Nat × Int × α)
  clk : Nat
instance {α : Type} : Inhabited (GM α) := ⟨⟨[], 0⟩⟩
namespace GM
variable {α : Type}
def mt (α : Type) : GM α := ⟨[], 0⟩
def get (m : GM α) (n : Int) (d : α) : α := match mfind n m.es with | some p => p.2.2 | none => d
def has (m : GM α) (n : Int) : Bool := (mfind n m.es).isSome
def put (m : GM α) (n : Int) (v : α) : GM α := ⟨mput n v m.es m.clk, mclk n m.es m.clk⟩
def del (m : GM α) (n : Int) : GM α := ⟨mdel n m.es, m.clk⟩
def len (m : GM α) : Int := m.es.length
end GM
def encE {α : Type} (enc : α → AV) (L : List (Nat × Int × α)) : List (Nat × Int × AV) := L.map fun p => (p.1, p.2.1, enc p.2.2)
def abM {α : Type} (enc : α → AV) (m : GM α) : AB := .map (encM .i64 (encE enc m.es)) m.clk
theorem mfind_enc {α : Type} (enc : α → AV) (n : Int) (L : List (Nat × Int × α)) : mfind n (encE enc L) = (mfind n L).map fun p => (p.1, p.2.1, enc p.2.2) := by
  unfold mfind encE; rw [List.find?_map]; rfl
theorem fidx_enc {α : Type} (enc : α → AV) (n : Int) (L : List (Nat × Int × α)) : (encE enc L).findIdx? (fun p => p.2.1 == n) = L.findIdx? fun p => p.2.1 == n := by
  unfold encE; rw [List.findIdx?_map]; rfl
theorem modify_map {α β : Type} (g : α → β) (f : α → α) (f' : β → β) (h : ∀ a, f' (g a) = g (f a)) : ∀ (L : List α) (j : Nat), (L.map g).modify j f' = (L.modify j f).map g := fun L j => by
  refine List.ext_getElem? fun i => ?_
  rw [List.getElem?_modify, List.getElem?_map, List.getElem?_map, List.getElem?_modify]
  by_cases e : j = i
  · subst e; cases L[j]? <;> simp [h]
  · simp [e]
theorem mput_enc {α : Type} (enc : α → AV) (n : Int) (v : α) (L : List (Nat × Int × α)) (clk : Nat) : mput n (enc v) (encE enc L) clk = encE enc (mput n v L clk) := by
  unfold mput
  rw [fidx_enc]
  cases L.findIdx? fun p => p.2.1 == n with
  | some j => exact modify_map (fun p : Nat × Int × α => (p.1, p.2.1, enc p.2.2)) (fun p => (p.1, p.2.1, v)) (fun p => (p.1, p.2.1, enc v)) (fun _ => rfl) L j
  | none => simp [encE]
theorem mclk_enc {α : Type} (enc : α → AV) (n : Int) (L : List (Nat × Int × α)) (clk : Nat) : mclk n (encE enc L) clk = mclk n L clk := by
  unfold mclk; rw [fidx_enc]
theorem mdel_enc {α : Type} (enc : α → AV) (n : Int) (L : List (Nat × Int × α)) : mdel n (encE enc L) = encE enc (mdel n L) := by
  unfold mdel
  rw [fidx_enc]
  cases L.findIdx? fun p => p.2.1 == n with
  | some j =>
    show (L.map _).eraseIdx j = (L.eraseIdx j).map _
    refine List.ext_getElem? fun i => ?_
    rw [List.getElem?_eraseIdx, List.getElem?_map, List.getElem?_map, List.getElem?_map, List.getElem?_eraseIdx]
    split <;> rfl
  | none => rfl
section
variable {P : Program} {D : DT} {α : Type} {enc : α → AV} {t e : TypeId} {z : AV} {s b : Nat} {zs : List AV} {lim i : Nat} {n : Int} {m : GM α} {hp : Heap}
theorem mget_lk (hD : DOk P D) (ht : D t = some ⟨.map .i64 e z, s, zs, b⟩) (d : α) (hz : z = enc d) (hi : hp i = some (abM enc m)) (hlim : i < lim) {k : AV → Prop} (hk : k (enc (m.get n d))) : mlookK P lim t (.mp i) (.int .i64 n) false hp k := by
  have k1 := (hD _ _ ht).k
  simp only [TKok] at k1
  refine mlookK_of ⟨.i64, e, z, n, enc (m.get n d), m.has n, k1.1, k1.2, rfl, .inr ⟨i, _, m.clk, rfl, hlim, .inl hi, ?_⟩, Wk.refl _⟩ hk
  rw [mfind_enc]
  unfold GM.get GM.has
  cases mfind n m.es with
  | some p => exact ⟨rfl, rfl⟩
  | none => exact ⟨hz.symm, rfl⟩
theorem mget2_lk (hD : DOk P D) (ht : D t = some ⟨.map .i64 e z, s, zs, b⟩) (d : α) (hz : z = enc d) (hi : hp i = some (abM enc m)) (hlim : i < lim) {k : AV → Prop} (hk : k (.tup [enc (m.get n d), .bool (m.has n)])) : mlookK P lim t (.mp i) (.int .i64 n) true hp k := by
  have k1 := (hD _ _ ht).k
  simp only [TKok] at k1
  refine mlookK_of ⟨.i64, e, z, n, enc (m.get n d), m.has n, k1.1, k1.2, rfl, .inr ⟨i, _, m.clk, rfl, hlim, .inl hi, ?_⟩, Wk.refl _⟩ hk
  rw [mfind_enc]
  unfold GM.get GM.has
  cases mfind n m.es with
  | some p => exact ⟨rfl, rfl⟩
  | none => exact ⟨hz.symm, rfl⟩
theorem mput_lk (hD : DOk P D) (ht : D t = some ⟨.map .i64 e z, s, zs, b⟩) (hi : hp i = some (abM enc m)) {v : α} {k : AV → Heap → Prop} (hk : k .und (upd hp i (some (abM enc (m.put n v))))) : updK P t (.mp i) (.int .i64 n) (enc v) hp k := by
  have k1 := (hD _ _ ht).k
  simp only [TKok] at k1
  refine updK_of ⟨.i64, e, n, i, _, m.clk, k1.1, rfl, rfl, rfl, .inl ⟨hi, rfl⟩⟩ ?_
  rw [mput_enc, mclk_enc]; exact hk
theorem mlen_lk (hD : DOk P D) (ht : D t = some ⟨.map .i64 e z, s, zs, b⟩) (hi : hp i = some (abM enc m)) (hlim : i < lim) {k : AV → Prop} (hk : k (.int .i64 m.len)) : lenmK P lim t (.mp i) hp k := by
  have k1 := (hD _ _ ht).k
  simp only [TKok] at k1
  refine lenmK_of (.inr ⟨by rw [k1.1]; rfl, .inr ⟨i, _, m.clk, rfl, hlim, .inl hi, rfl⟩⟩) ?_
  have : ((encM .i64 (encE enc m.es)).length : Int) = m.len := by simp [encM, encE, GM.len]
  rw [this]; exact hk
end
theorem BkR_m {L : Ren} {hp : Heap} {i o : Nat} {α : Type} {enc : α → AV} {m : GM α} (h : hp o = some (abM enc m)) (hl : ∀ x, (enc x).loose) : BkR L hp i (some o) (abM enc m) := by
  unfold abM at h ⊢
  simp only [BkR, h]
  refine ⟨trivial, trivial, fun j p hp => ⟨p, hp, rfl, ?_⟩⟩
  unfold encM at hp
  rw [List.getElem?_map] at hp
  obtain ⟨q, h1, rfl⟩ := Option.map_eq_some_iff.1 hp
  unfold encE at h1
  rw [List.getElem?_map] at h1
  obtain ⟨r, _, rfl⟩ := Option.map_eq_some_iff.1 h1
  exact ⟨wkr (loose_int _ _), wkr (hl _)⟩

theorem run_isnil {P : Program} {t e : TypeId} (h : P.underlying t = some (.slice e)) (w : World) (a : Option Addr) (n c : Nat) (ox oy : Operand) :
    (do eqGuard .eql t ox oy (.slice a n c) (.slice none 0 0); binOp .eql t (.slice a n c) (.slice none 0 0) : Sem Value).run P w = .ok (.bool a.isNone) w := by
  have e1 := Go.run_equal_slice_nil (P := P) w t e a n c h
  simp [eqGuard, binOp, e1]
theorem HT_isnil {E : Env} {N : Nat} {id : Nat} {o1 o2 : Oper} {y : Code} {σ : AS} {Q : Exit → AS → Prop} {t0 t3 t4 : Tmp} {T e : TypeId} {m : LM} {sz n : Nat} {f : Nat → AV} (h1 : o1.op = .move (.tmp t0)) (h2 : o1.dst = some t3) (h3 : o1.guard = none)
    (h4 : o2.op = .binOp .eql T (.tmp t3) (.const (.slice none 0 0)) T) (h5 : o2.dst = some t4) (h6 : o2.guard = none) (hT : E.P.underlying T = some (.slice e)) (h0 : σ.sl t0 = .lst m sz n f) (hd : dstOk N #[o1, o2] = true)
    (h : ∀ b : Bool, (b = true → n = 0) → HT E N y ⟨supd (supd σ.sl t3 (.lst m sz n f)) t4 (.bool b), σ.hp, σ.b⟩ Q) : HT E N (.seq (.region id #[o1, o2] false) y) σ Q := by
  intro ro F a w hro hF hr
  obtain ⟨β, ds, g1, g2, g3, g4, g5, g6, g7, g8, g9⟩ := hr
  have hv := g2 t0
  rw [h0] at hv
  have hv' := hv
  simp only [V] at hv'
  obtain ⟨base, cap, hval, _, _, hel⟩ := hv'
  have hd3 : t3 < N := dstOk_spec hd 0 o1 t3 rfl h2
  have hd4 : t4 < N := dstOk_spec hd 1 o2 t4 rfl h5
  have s1 : (execOp a.eval o1).run E.P w = .ok (.value (a.tmps.getD t0 undef)) w := by
    unfold execOp; rw [h1]; simp [Act.eval]
  have e3 : (a.put o1.dst (a.tmps.getD t0 undef)).tmps.getD t3 undef = .slice base n cap := by
    rw [h2, ← hval]; simp [Act.put, g9, hd3]
  have s2 : (execOp (a.put o1.dst (a.tmps.getD t0 undef)).eval o2).run E.P w = .ok (.value (.bool base.isNone)) w := by
    have := run_isnil hT w base n cap (.tmp t3) (.const (.slice none 0 0))
    unfold execOp; rw [h4]
    simp only [Act.eval, e3, Sem.run_bind] at this ⊢
    simp only [this]; rfl
  refine wpIn_seq (wpIn_region ?_)
  show wpOpsIn (fen ro) 0 E.P #[o1, o2] _ [0, 1] a w
  have w1 : Region.wanted o1 (yielded #[o1, o2] a.tmps) = true := by simp [Region.wanted, h3]
  have w2 : Region.wanted o2 (yielded #[o1, o2] (a.put o1.dst (a.tmps.getD t0 undef)).tmps) = true := by simp [Region.wanted, h6]
  simp only [wpOpsIn, List.getElem?_toArray, List.getElem?_cons_zero, w1, if_true]
  refine wp_value (fun c hc => by rw [h1] at hc; cases hc) s1 ?_
  simp only [List.getElem?_cons_succ, List.getElem?_cons_zero, w2, if_true]
  refine wp_value (fun c hc => by rw [h4] at hc; cases hc) s2 ?_
  refine h base.isNone (fun hb => ?_) ro F _ w hro hF ⟨β, ds, g1, ?_, g3, g4, g5, g6, ?_, g8, ?_⟩
  · cases base with
    | some _ => cases hb
    | none =>
      cases n with
      | zero => rfl
      | succ k => obtain ⟨_, _, _, hx, _⟩ := hel 0 (Nat.succ_pos _); cases hx
  · intro t
    have k1 := put_V (β := β) (N := N) g2 g9 (d := o1.dst) (fun t ht => by rw [h2] at ht; cases ht; exact hd3) hv
    have k2 := put_V (β := β) (N := N) k1 (by rw [put_size]; exact g9) (d := o2.dst) (fun t ht => by rw [h5] at ht; cases ht; exact hd4) (r := .bool base.isNone) (v := .bool base.isNone) (by simp [V])
    have := k2 t
    rw [h2, h5] at this
    rw [h2, h5]; exact this
  · rw [put_defers, put_defers]; exact g7
  · rw [put_size, put_size]; exact g9

def cloneR {α : Type} (sz : Nat) (enc : α → AV) (d : α) : FSpec := fun args H base r H' =>
  ∃ l : List α, args = [eL sz enc d l] ∧ l.length ≤ 1048576 ∧ r = .so base 0 l.length sz ∧ H' = upd H base (some (.cells (flE (ceE enc) l)))
theorem callsK_clone {T : Tbl} {f : FuncId} {α : Type} {sz : Nat} {enc : α → AV} {d : α} {l : List α} {args : List AV} {hp : Heap} {id : Nat} {k : AV → Heap → Prop} (hT : T f = cloneR sz enc d) (hw : WkL args [eL sz enc d l]) (hl : l.length ≤ 1048576)
    (hk : k (.so id 0 l.length sz) (upd hp id (some (.cells (flE (ceE enc) l))))) : callsK T f args hp id k :=
  callsK_of hw (by rw [hT]; exact ⟨l, rfl, hl, rfl, rfl⟩) hk
theorem range_fl {α : Type} {enc : α → AV} {d : α} (l : List α) : ((List.range l.length).flatMap fun j => cellsL (enc (l.getD j d))) = flE (ceE enc) l := by
  have : l = (List.range l.length).map fun j => l.getD j d := by
    refine List.ext_getElem? fun i => ?_
    rw [List.getElem?_map]
    by_cases h : i < l.length
    · simp [h, List.getD_eq_getElem?_getD]
    · simp [h]
  conv => rhs; rw [this]
  simp [flE, ceE, List.flatMap_map]
theorem WkB_so {M : List (Nat × Nat)} {g i n sz : Nat} (h : (g, i) ∈ M) : WkB M (.so g 0 n sz) (.so i 0 n sz) := fun β0 loc ys v hM hv => by
  simp only [V] at hv ⊢
  obtain ⟨l, h1, h2⟩ := hv
  exact ⟨l, (hM _ h).trans h1, h2⟩
theorem WkB_loose {M : List (Nat × Nat)} {a a' : AV} (hw : Wk a a') (h : a'.loose) : WkB M a a' := fun _β0 _loc _ys _v _ hv => h _ _ _ _ (hw _ _ hv)
theorem WkA_loose {ids : List Nat} {a : AV} (h : a.loose) : WkA ids a a := fun _β _ys _v hv => h _ _ _ _ hv
theorem Len2_same {α : Type} {R : α → α → Prop} : ∀ {l : List α}, (∀ a ∈ l, R a a) → Len2 R l l
  | [], _ => .nil
  | a :: l, h => .cons (h a (by simp)) (Len2_same fun b hb => h b (by simp [hb]))
theorem BkX_fl {M : List (Nat × Nat)} {α : Type} {ce : α → List AV} (h : ∀ x, ∀ a ∈ ce x, a.loose) (l : List α) : BkX (WkB M) (.cells (flE ce l)) (.cells (flE ce l)) :=
  .cells (Len2_same fun a ha => WkB_loose (Wk.refl _) (loose_fl h l a ha))
theorem apcf_lk {P : Program} {D : DT} (hD : DOk P D) {α : Type} {enc : α → AV} {d : α} {t u : TypeId} {e e' : TypeId} {de : TD} {s1 s2 b1 b2 : Nat} {z1 z2 : List AV} {m' : LM} {sz : Nat} {l : List α} {id : Nat} {hp : Heap} {k : AV → Heap → Prop} {f : Nat → AV}
    (ht : D t = some ⟨.slice e, s1, z1, b1⟩) (hu : D u = some ⟨.slice e', s2, z2, b2⟩) (he : D e = some de)
    (h0 : de.size = sz ∧ 0 < sz ∧ 0 < de.bytes ∧ de.bytes ≤ 1048576 ∧ de.zero.length = sz) (hfl : ∀ y, (ceE enc y).all AV.flat = true) (hc : ∀ y, (enc y).cells ≠ none)
    (hl2 : l.length ≤ 1048576) (hk : k (.so id 0 l.length sz) (upd hp id (some (.cells (flE (ceE enc) l))))) :
    appendFK P t u (.lst .cap sz 0 f) (.lst m' sz l.length fun j => enc (l.getD j d)) id hp k := by
  have k1 := (hD _ _ ht).k
  have k2 := (hD _ _ hu).k
  simp only [TKok] at k1 k2
  obtain ⟨rfl, h1, h2, h3, h4⟩ := h0
  have hde := hD _ _ he
  by_cases hl : l = []
  · subst hl
    exact appendFK_of ⟨_, .inr fun H => ⟨e, e', _, _, _, 0, 0, f, (fun j => enc (([] : List α).getD j d)), f, k1, k2, hde.size, hde.bytes, hde.zero, h1, h2, h3, h4, by omega, .lst _ _ _, .lst _ _ _, fun j hj => absurd hj (Nat.not_lt_zero _), rfl, fun j hj => absurd hj (Nat.not_lt_zero _), fun j hj => absurd hj (Nat.not_lt_zero _), .inr (.inl ⟨rfl, rfl⟩)⟩, Wk_tokso⟩ hk
  · have hall : (flE (ceE enc) l).all AV.flat = true := by
      simp only [List.all_eq_true, flE, List.mem_flatMap]
      rintro a ⟨y, _, hy⟩
      exact List.all_eq_true.1 (hfl y) a hy
    have hpos : 0 < l.length := List.length_pos_iff.2 hl
    refine appendFK_of ⟨_, .inl ⟨fun j hj => absurd hj (Nat.not_lt_zero _), fun j hj => hc _, fun H => ?_⟩, Wk.refl _⟩ hk
    unfold appendA
    simp only [k1, k2, hde.size, hde.bytes, hde.zero, Option.bind_some, lenS, cellsOf, if_true, range_fl, hall, h1, h2, h3, h4, and_self, hpos, Nat.zero_add, hl2, List.range_zero, List.flatMap_nil, List.nil_append]

theorem HT_weakN {E : Env} {N n : Nat} {L : Ren} {c : Code} {σ σ' : AS} {Q : Exit → AS → Prop} (hcl : E.cl = true) (hrd : E.rd = false) (hn : 32 ≤ n) (h : WeakN n L σ σ') (k : HT E N c σ' Q) : HT E N c σ Q := fun ro F a w hro hF hr =>
  k ro F a w hro hF (WeakN.rep (rd := false) hn h (by rw [hcl, hrd] at hF; exact hF) hr)
theorem weak_kN {sl : Nat → AV} {hp : Heap} {b b' : Nat} {l : List (Nat × AV)} {hs : List (Nat × AB)}
    (h : forceS sl l fun ps => forceR ((0, some 0) :: (renP ps ++ renH (renP ps) hp hs)) fun L => renOkN 32 L b' = true ∧ allL (fun p => WkR L p.1 p.2) ps ∧ allL (fun p => ∃ o, lookR L p.1 = some o ∧ BkR L hp p.1 o p.2) hs) : ∃ L, WeakN 32 L ⟨sl, hp, b⟩ ⟨ofL l, ofH hs, b'⟩ := by
  rw [forceS_eq, forceR_eq] at h
  exact ⟨_, weak_ofN (by decide) _ (allL_map (β := AV × AV) (p := fun p => WkR _ p.1 p.2) h.2.1) h.2.2 h.1⟩
def setId (n : Nat) : AV → AV
  | .ptr _ o => .ptr n o
  | .mp _ => .mp n
  | .sl _ o a b c => .sl n o a b c
  | .so _ o a b => .so n o a b
  | .lst (.tok _) a b c => .lst (.tok n) a b c
  | a => a
def rsFind (rs : List (Nat × Nat)) (t : Nat) : Option Nat := match rs with
  | [] => none
  | (u, n) :: l => bif t == u then some n else rsFind l t
def anchL (σ : AS) (rs : List (Nat × Nat)) (ts : List Nat) : List (Nat × AV) := ts.map fun t => (t, match rsFind rs t with | some n => setId n (σ.sl t) | none => σ.sl t)
def anchH (σ : AS) (rs : List (Nat × Nat)) : List (Nat × AB) := rs.map fun p => (p.2, (σ.hp (ptrId (σ.sl p.1))).getD (.cells []))
theorem HT_ancK {E : Env} {N : Nat} {c : Code} {σ : AS} {Q : Exit → AS → Prop} (hcl : E.cl = true) (hrd : E.rd = false) (ts : List Nat) (rs : List (Nat × Nat))
    (H : forceP (anchL σ rs ts) fun l => forceHs (anchH σ rs) fun hs => forceN σ.b fun b => (∃ L, WeakN 32 L σ ⟨ofL l, ofH hs, b⟩) ∧ HT E N c ⟨ofL l, ofH hs, b⟩ Q) : HT E N c σ Q := by
  rw [forceP_eq, forceHs_eq, forceN_eq] at H
  obtain ⟨⟨L, h1⟩, h2⟩ := H
  exact HT_weakN hcl hrd (Nat.le_refl _) h1 h2
theorem WkR_yld {L : Ren} {i i' : Nat} (h : ∀ loc, rloc loc L i' = loc i) : WkR L (.yld i) (.yld i') := fun β v hv => by
  simp only [V] at hv ⊢
  obtain ⟨l, h1, h2⟩ := hv
  exact ⟨l, (h β.loc).trans h1, h2⟩
theorem WkR_ep {L : Ren} {cs cs' : List AV} {o : Nat} (h : VsR L cs cs') : WkR L (.ep cs o) (.ep cs' o) := fun β v hv => by
  simp only [V] at hv ⊢
  obtain ⟨c, q, vs, h1, h2, h3⟩ := hv
  exact ⟨c, q, vs, h1, h2, h _ _ h3⟩
def VsB (M : List (Nat × Nat)) (as bs : List AV) : Prop := ∀ (β0 : Beta) (loc : Nat → Option Loc) (ys : Nat → Prop) (vs : List Value), (∀ p ∈ M, loc p.2 = β0.loc p.1) → Vs β0 as vs → Vs ⟨loc, β0.fz, ys⟩ bs vs
theorem VsB_nil {M : List (Nat × Nat)} : VsB M [] [] := fun _ _ _ _ _ h => by simpa [Vs] using h
theorem VsB_cons {M : List (Nat × Nat)} {a b : AV} {as bs : List AV} (h : WkB M a b) (k : VsB M as bs) : VsB M (a :: as) (b :: bs) := fun β0 loc ys vs hm hv => by
  obtain ⟨v, vs', rfl, h1, h2⟩ := hv
  exact ⟨v, vs', rfl, h β0 loc ys v hm h1, k β0 loc ys vs' hm h2⟩
theorem WkB_mp {M : List (Nat × Nat)} {g i : Nat} (h : (g, i) ∈ M) : WkB M (.mp g) (.mp i) := fun β0 loc ys v hm hv => by
  simp only [V] at hv ⊢
  obtain ⟨l, h1, h2⟩ := hv
  exact ⟨l, (hm _ h).trans h1, h2⟩
theorem WkB_ep {M : List (Nat × Nat)} {cs cs' : List AV} {o : Nat} (h : VsB M cs cs') : WkB M (.ep cs o) (.ep cs' o) := fun β0 loc ys v hm hv => by
  simp only [V] at hv ⊢
  obtain ⟨c, q, vs, h1, h2, h3⟩ := hv
  exact ⟨c, q, vs, h1, h2, h β0 loc ys vs hm h3⟩
theorem WkB_fn {M : List (Nat × Nat)} {f : FuncId} {as bs cs ds : List AV} (h : VsB M as bs) (k : VsB M cs ds) : WkB M (.fn f as cs) (.fn f bs ds) := fun β0 loc ys v hm hv => by
  simp only [V] at hv ⊢
  obtain ⟨fv, cv, h1, h2, h3⟩ := hv
  exact ⟨fv, cv, h1, h β0 loc ys fv hm h2, k β0 loc ys cv hm h3⟩
theorem WkB_tup {M : List (Nat × Nat)} {as bs : List AV} (h : VsB M as bs) : WkB M (.tup as) (.tup bs) := fun β0 loc ys v hm hv => by
  simp only [V] at hv ⊢
  obtain ⟨fv, h1, h2⟩ := hv
  exact ⟨fv, h1, h β0 loc ys fv hm h2⟩
theorem WkA_mp {ids : List Nat} {i j : Nat} (h : ids[j]? = some i) : WkA ids (.mp i) (.mp j) := fun β ys v hv => by
  simp only [V] at hv ⊢
  obtain ⟨l, h1, h2⟩ := hv
  exact ⟨l, by show aloc β.loc ids j = _; unfold aloc; rw [h]; exact h1, h2⟩
theorem WkA_yld {ids : List Nat} {i j : Nat} (h : ids[j]? = some i) : WkA ids (.yld i) (.yld j) := fun β ys v hv => by
  simp only [V] at hv ⊢
  obtain ⟨l, h1, h2⟩ := hv
  exact ⟨l, by show aloc β.loc ids j = _; unfold aloc; rw [h]; exact h1, h2⟩
def VsA (ids : List Nat) (as bs : List AV) : Prop := ∀ (β : Beta) (ys : Nat → Prop) (vs : List Value), Vs β as vs → Vs ⟨aloc β.loc ids, β.fz, ys⟩ bs vs
theorem VsA_nil {ids : List Nat} : VsA ids [] [] := fun _ _ _ h => by simpa [Vs] using h
theorem VsA_cons {ids : List Nat} {a b : AV} {as bs : List AV} (h : WkA ids a b) (k : VsA ids as bs) : VsA ids (a :: as) (b :: bs) := fun β ys vs hv => by
  obtain ⟨v, vs', rfl, h1, h2⟩ := hv
  exact ⟨v, vs', rfl, h β ys v h1, k β ys vs' h2⟩
theorem WkA_ep {ids : List Nat} {cs cs' : List AV} {o : Nat} (h : VsA ids cs cs') : WkA ids (.ep cs o) (.ep cs' o) := fun β ys v hv => by
  simp only [V] at hv ⊢
  obtain ⟨c, q, vs, h1, h2, h3⟩ := hv
  exact ⟨c, q, vs, h1, h2, h β ys vs h3⟩
theorem Len2_encM {R : AV → AV → Prop} {α : Type} {enc : α → AV} (hi : ∀ k n, R (.int k n) (.int k n)) (h : ∀ x, R (enc x) (enc x)) : ∀ L : List (Nat × Int × α), Len2 (EnR R) (encM .i64 (encE enc L)) (encM .i64 (encE enc L))
  | [] => .nil
  | _p :: L => .cons ⟨rfl, hi _ _, h _⟩ (Len2_encM hi h L)
theorem BkX_m {M : List (Nat × Nat)} {α : Type} {enc : α → AV} {m : GM α} (h : ∀ x, (enc x).loose) : BkX (WkB M) (abM enc m) (abM enc m) := .map (Len2_encM (fun _ _ => WkB_loose (Wk.refl _) (loose_int _ _)) (fun x => WkB_loose (Wk.refl _) (h x)) m.es)
theorem BkA_m {ids : List Nat} {α : Type} {enc : α → AV} {m : GM α} (h : ∀ x, (enc x).loose) : BkX (WkA ids) (abM enc m) (abM enc m) := .map (Len2_encM (fun _ _ => WkA_loose (loose_int _ _)) (fun x => WkA_loose (h x)) m.es)
theorem a64_ofL : ∀ {l : List (Nat × AV)}, allL (fun p => p.2.a64) l → ∀ t, (ofL l t).a64
  | [], _, t => a64_loose loose_top
  | (u, a) :: l, h, t => by
    show (bif t == u then a else ofL l t).a64
    cases t == u
    · exact a64_ofL h.2 t
    · exact h.1
theorem HT_rngI {E : Env} {N : Nat} {Q : Exit → AS → Prop} {g : Operand} {p : Tmp} {assign body : Code} {l : List (Nat × AV)} {hs : List (Nat × AB)} {b0 : Nat} (hrd : E.rd = false) (hcl : E.cl = true) (hpN : p < N)
    {gf : FuncId} {caps : List AV} (hg : evA (ofL l) g = .fn gf [] caps) (out : Nat) (hb0 : 64 ≤ b0) (h64 : allL (fun p => p.2.a64) l) (mi bx q : Nat) (hmi : mi < 64) (hne : bx ≠ mi)
    {m : GM Int} (hm : ofH hs mi = some (abM eI m)) {cs : List AV} {s0 k : Int} (hb : ofH hs bx = some (.cells cs)) (hq : cs[q]? = some (eI s0)) (hng : allL (fun p => noGh p.2 = true) hs)
    (hrow : ∀ (G : Gh (Bool × Int)) (H : Heap), G.P = E.P → G.Y [.int .i64 k] (true, s0) false (false, k) → H b0 = some (.gh (Bool × Int) G (true, s0)) → (mi ≠ b0 → H mi = some (abM eI m)) → ∃ r, E.T gf (.yld b0 :: caps) H (b0 + 64) r (upd H b0 (some (.gh (Bool × Int) G (false, k)))))
    (hround : ∀ (x s : Int), HT { E with rd := true } N assign ⟨supd (ofL l) p (eI x), fun i => bif i == mi then none else if i = bx then some (.cells (cs.set q (eI s))) else ofH hs i, b0 + 64⟩ (Then (fun σ1 => HT { E with rd := true } N body σ1 fun e σ2 =>
      e = .exit out ∧ ∃ L, Weak L ⟨fun _ => .top, σ2.hp, σ2.b⟩ ⟨fun _ => .top, fun i => bif i == mi then none else if i = bx then some (.cells (cs.set q (eI x))) else ofH hs i, b0 + 64⟩) fun _ _ => False))
    (hend : Q (.exit out) ⟨ofL l, fun i => bif i == mi then ofH hs i else if i = bx then some (.cells (cs.set q (eI k))) else ofH hs i, b0 + 64⟩) :
    HT E N (.rangeFunc g #[p] assign body) ⟨ofL l, ofH hs, b0⟩ Q := by
  have hset : cs.set q (eI s0) = cs := by
    apply List.ext_getElem?
    intro j
    rw [List.getElem?_set]
    split
    · rename_i e; subst e
      rw [if_pos (List.getElem?_eq_some_iff.1 hq).1, hq]
    · rfl
  have hmib : mi ≠ b0 := by omega
  refine HT_rng (X := Int) (S := Int) hrd hcl (fun x => [eI x]) (fun x => [.int .i64 x]) (fun β x => ⟨_, _, rfl, by simp [V, eI], rfl⟩) (fun _ => rfl) (by simpa using hpN) hg (WkL.refl _) out hb0 (a64_ofL h64)
    (fun i => i == mi) (fun i hi => ?_) (fun s i => bif i == mi then none else if i = bx then some (.cells (cs.set q (eI s))) else ofH hs i) (fun s i b h => ?_) (fun x s => some (false, x)) s0 (fun i b h => ?_) (false, k) (fun G hP hy => ?_) (fun x s b s' hy => ?_) (fun h => by cases h) (fun _ => ?_)
  · have e : i = mi := by simpa using hi
    subst e
    refine ⟨hmi, _, _, hm, fun p hp => ?_⟩
    obtain ⟨r, _, rfl⟩ := List.mem_map.1 hp
    refine ⟨plain_int _ _, ?_⟩
    simp only [encE, List.mem_map] at *
    rename_i h1
    obtain ⟨r', _, rfl⟩ := h1
    exact plain_int _ _
  · cases e : (i == mi) with
    | true => simp only [e, cond_true] at h; cases h
    | false =>
      simp only [e, cond_false] at h
      refine ⟨?_, rfl⟩
      split at h
      · cases h; rfl
      · exact allL_mem hng _ (ofH_mem h)
  · cases e : (i == mi) with
    | true => simp only [e, cond_true] at h; cases h
    | false =>
      simp only [e, cond_false] at h
      split at h
      · rename_i e'; subst e'; cases h; rw [hset]; exact hb
      · exact h
  · obtain ⟨r, hr⟩ := hrow G (fun i => if i = b0 then some (.gh (Bool × Int) G (true, s0)) else bif i == mi then ofH hs i else none) hP (hy k s0 false k rfl) (by simp) (fun h => by simp [h, hm])
    refine ⟨r, ?_⟩
    have e : (fun i => if i = b0 then some (AB.gh (Bool × Int) G (false, k)) else bif i == mi then ofH hs i else none) = upd (fun i => if i = b0 then some (.gh (Bool × Int) G (true, s0)) else bif i == mi then ofH hs i else none) b0 (some (.gh (Bool × Int) G (false, k))) := by
      funext i; unfold upd; split
      · rfl
      · rename_i h; simp only [h, if_false]
    rw [e]; exact hr
  · cases hy
    refine (hround x s).mono fun e σ h => ?_
    cases e with
    | normal => exact HT.mono h fun e' σ' ⟨h1, h2⟩ => ⟨by rw [h1]; exact ⟨rfl, rfl⟩, h2⟩
    | _ => exact h
  · have e : (fun i => bif i == mi then ofH hs i else bif i == mi then none else if i = bx then some (AB.cells (cs.set q (eI k))) else ofH hs i) = fun i => bif i == mi then ofH hs i else if i = bx then some (.cells (cs.set q (eI k))) else ofH hs i := by
      funext i; cases i == mi <;> rfl
    rw [e]; exact hend
theorem WkR_a64 {a : AV} (h : a.a64) : WkR [] a a := fun β v hv => by
  refine h β (β.ren []).loc β.ys v (fun i hi _ => ?_) hv
  show (bif decide (i < 64) then β.loc i else none) = _
  simp [hi]
theorem CkR_a64 : ∀ {cs : List AV}, (∀ a ∈ cs, a.a64) → CkR [] cs cs
  | [], _ => trivial
  | a :: cs, h => ⟨WkR_a64 (h a (by simp)), CkR_a64 fun b hb => h b (by simp [hb])⟩
def AB.a64 : AB → Prop
  | .cells cs => ∀ a ∈ cs, a.a64
  | _ => False
theorem weak_rngI {hs : List (Nat × AB)} {mi bx b b' : Nat} {cs0 cs' : List AV} (hb' : 64 ≤ b') (hbx : bx < 64) (h1 : allL (fun p => p.1 < 64 ∧ (p.1 = bx ∨ p.1 = mi ∨ p.2.a64)) hs) (hcs : ∀ a ∈ cs', a.a64) :
    ∃ L, Weak L ⟨fun _ => .top, upd (fun i => bif i == mi then none else if i = bx then some (.cells cs0) else ofH hs i) bx (some (.cells cs')), b⟩ ⟨fun _ => .top, fun i => bif i == mi then none else if i = bx then some (.cells cs') else ofH hs i, b'⟩ := by
  have hx : upd (fun i => bif i == mi then none else if i = bx then some (.cells cs0) else ofH hs i) bx (some (AB.cells cs')) bx = some (.cells cs') := by simp
  have hhp : ∀ i, i ≠ bx → i ≠ mi → upd (fun i => bif i == mi then none else if i = bx then some (.cells cs0) else ofH hs i) bx (some (AB.cells cs')) i = ofH hs i := fun i h1 h2 => by
    rw [upd_other _ _ h1]
    have : (i == mi) = false := by simpa using h2
    simp [this, h1]
  generalize upd (fun i => bif i == mi then none else if i = bx then some (.cells cs0) else ofH hs i) bx (some (AB.cells cs')) = hp at hx hhp
  have look : ∀ i, i < 64 → lookR [] i = some (some i) := fun i hi => by simp [lookR, hi]
  have inv : ∀ {i o}, lookR [] i = some (some o) → i = o := fun {i o} h => by
    simp only [lookR] at h
    cases e : decide (i < 64) with
    | true => rw [e] at h; simpa using h
    | false => rw [e] at h; cases h
  refine ⟨[], ⟨fun t => WkR.top _ _, fun i c hi => ?_, fun i j o h1 h2 => (inv h1).trans (inv h2).symm, fun i o h => ?_, fun i hi => look i hi⟩⟩
  · simp only at hi
    cases e : (i == mi) with
    | true => rw [e] at hi; cases hi
    | false =>
      rw [e] at hi; simp only [cond_false] at hi
      have hne : i ≠ mi := by simpa using e
      split at hi
      · rename_i e'; subst e'; cases hi
        exact ⟨some i, look i hbx, BkR_c hx (CkR_a64 hcs)⟩
      · rename_i e'
        have hm := allL_mem h1 _ (ofH_mem hi)
        refine ⟨some i, look i hm.1, ?_⟩
        rcases hm.2 with h | h | h
        · exact absurd h e'
        · exact absurd h hne
        · cases c with
          | cells cs => exact BkR_c ((hhp i e' hne).trans hi) (CkR_a64 h)
          | _ => exact h.elim
  · simp only [lookR] at h
    show i < b'
    cases e : decide (i < 64) with
    | true => have : i < 64 := by simpa using e
              omega
    | false => rw [e] at h; cases h
def mo {α β : Type} (y : Option α) (x : Option β) (f : α → Option β) : Option β := match y with | none => x | some a => f a
theorem W_mo_n {α β : Type} {x : Option β} {f : α → Option β} {Φ : β → Prop} (h : W (mo none x f) Φ) : W x Φ := h
theorem W_mo_s {α β : Type} {a : α} {x : Option β} {f : α → Option β} {Φ : β → Prop} (h : W (mo (some a) x f) Φ) : W (f a) Φ := h
theorem mo_n {α β : Type} (x : Option β) (f : α → Option β) : mo none x f = x := rfl
theorem mo_s {α β : Type} (a : α) (x : Option β) (f : α → Option β) : mo (some a) x f = f a := rfl
attribute [irreducible] mo
theorem HRel.ysSub {β : Beta} {H : Heap} {w : World} {B : Bd} (h : HRel β H w B) (hn : ∀ i b, H i = some b → noGh b = true) (ys' : Nat → Prop) (hys : ∀ c, ys' c → B c ∧ c < w.heap.size) (hyo : ∀ i b l, H i = some b → β i = some l → 0 < l.k → ¬ ys' l.c) : HRel ⟨β.loc, β.fz, ys'⟩ H w B :=
  ⟨h.fz, fun i cs hi => let ⟨l, h1, h2, h3⟩ := h.own i cs hi; ⟨l, h1, h2, fun hk => let ⟨a, b, full, e, p, q, r⟩ := h3 hk; ⟨a, b, full, e, p, q, fun j x hx => let ⟨v, y, z⟩ := r j x hx; ⟨v, y, V_ys z⟩⟩⟩,
    fun i es clk hi => let ⟨l, h1, h2, h3, ents, h4, m⟩ := h.map i es clk hi; ⟨l, h1, h2, h3, ents, h4, MRel.mono (β := β) (β' := ⟨β.loc, β.fz, ys'⟩) ⟨fun _ _ h => h, fun _ _ _ h => h⟩ m⟩, h.sep, hys, hyo,
    fun i S G s hi => (by have := hn i _ hi; cases this), h.gh1, fun i sz es clk ho hi => (by have := hn i _ hi; cases this), h.mp1⟩
theorem HRel.unGh {β : Beta} {H : Heap} {w : World} {B : Bd} (h : HRel β H w B) {i sz : Nat} {es : List (Nat × AV × AV)} {clk : Nat} {ho : Option Nat} (hi : H i = some (.maps sz es clk ho)) : ∀ j b, upd H i none j = some b → noGh b = true := fun j b hj => by
  by_cases e : j = i
  · subst e; simp at hj
  · rw [upd_other _ _ e] at hj
    cases hb : noGh b with
    | true => rfl
    | false => exact absurd (h.mp1 i j _ _ _ _ b hi hj hb).symm e
theorem upd_upd {α : Type u} (f : Nat → α) (i : Nat) (x y : α) : upd (upd f i x) i y = upd f i y := by
  funext j; unfold upd; split <;> rfl
theorem HRel.reMaps {β : Beta} {H : Heap} {w : World} {B : Bd} (h : HRel β H w B) {i sz : Nat} {es es' : List (Nat × AV × AV)} {clk : Nat} {ho ho' : Option Nat} (hi : H i = some (.maps sz es clk ho))
    (hm : ∀ ents, MRel β es ents → MRel β es' ents) (hp : ∀ ents, MRel β es ents → Pool β.fz β.ys sz w (outE ho ents) → Pool β.fz β.ys sz w (outE ho' ents)) : HRel β (upd H i (some (.maps sz es' clk ho'))) w B := by
  obtain ⟨l, hl, hk, hB, ents, hw, hmr, hpl⟩ := h.mps i sz es clk ho hi
  have h2 := (h.drop i).addMaps (id := i) (l := l) (sz := sz) (es := es') (clk := clk) (ho := ho') hl hk hB hw (hm _ hmr) (hp _ hmr hpl) (fun j b lj hj hb hlj hkj => by
    rw [upd_other _ _ hj] at hb
    exact h.sep j i b _ lj l hj hb hi hlj hl hkj hk) (h.yo i _ l hi hl hk) fun j b hj hb => h.unGh hi j b hb
  rw [upd_upd] at h2; exact h2
section
variable {E : Env} {N : Nat} {c : Code} {σ : AS} {Q : Exit → AS → Prop}
theorem HT_hp {hp' : Heap} (h0 : ∀ β w B, HRel β σ.hp w B → HRel β hp' w B) (h : HT E N c ⟨σ.sl, hp', σ.b⟩ Q) : HT E N c σ Q := fun ro F a w hro hF ⟨β, ds, r1, r2, r3, r4⟩ => h ro F a w hro hF ⟨β, ds, r1, r2, h0 _ _ _ r3, r4⟩
theorem HT_mkMaps (i sz : Nat) (hi : σ.hp i = some (.map [] 0)) (hn : ∀ j b, j ≠ i → σ.hp j = some b → noGh b = true) (h : HT E N c ⟨σ.sl, upd σ.hp i (some (.maps sz [] 0 none)), σ.b⟩ Q) : HT E N c σ Q := by
  refine HT_hp (fun β w B hH => ?_) h
  obtain ⟨l, hl, hk, hB, ents, hw, hmr⟩ := hH.map i _ _ hi
  have h2 := (hH.drop i).addMaps (id := i) (l := l) (sz := sz) (es := []) (clk := 0) (ho := none) hl hk hB hw hmr (fun j v hv => by
    have : ents = #[] := Array.eq_empty_of_size_eq_zero (by simpa using hmr.len)
    subst this; simp [outE] at hv) (fun j b lj hj hb hlj hkj => by
    rw [upd_other _ _ hj] at hb
    exact hH.sep j i b _ lj l hj hb hi hlj hl hkj hk) (hH.yo i _ l hi hl hk) fun j b hj hb => by
      rw [upd_other _ _ hj] at hb; exact hn j b hj hb
  rw [upd_upd] at h2; exact h2
end
def abS {α : Type} (sz : Nat) (enc : α → AV) (d : α) (m : GM (List α)) : AB := .maps sz (encM .i64 (encE (eL sz enc d) m.es)) m.clk none
theorem mfind_key {α : Type} {n : Int} {L : List (Nat × Int × α)} {p : Nat × Int × α} (h : mfind n L = some p) : p.2.1 = n ∧ p ∈ L := by
  unfold mfind at h
  exact ⟨by simpa using List.find?_some h, List.mem_of_find?_eq_some h⟩
theorem HRel.outNo {β : Beta} {H : Heap} {w : World} {B : Bd} (h : HRel β H w B) {i sz : Nat} {es : List (Nat × AV × AV)} {clk : Nat} (n : Nat) (hi : H i = some (.maps sz es clk none)) : HRel β (upd H i (some (.maps sz es clk (some n)))) w B := by
  refine h.reMaps hi (fun _ h => h) fun ents _ hp => hp.inj id (fun j v hv => ?_) fun _ _ h => h
  unfold outE at hv ⊢
  show (match ents[j]? with | some e => bif (none : Option Nat) == some j then none else some e.val | none => none) = some v
  cases he : ents[j]? with
  | none => rw [he] at hv; cases hv
  | some e =>
    rw [he] at hv
    cases hk : ((some n : Option Nat) == some j) with
    | true => simp only [hk, cond_true] at hv; cases hv
    | false => simp only [hk, cond_false] at hv; simpa using hv
theorem encM_get {q : IntKind} {L : List (Nat × Int × AV)} {j : Nat} {p : Nat × Int × AV} (h : L[j]? = some p) : (encM q L)[j]? = some (p.1, .int q p.2.1, p.2.2) := by simp [encM, h]
theorem encM_modify {q : IntKind} {L : List (Nat × Int × AV)} {j : Nat} {a : AV} : encM q (L.modify j fun p => (p.1, p.2.1, a)) = (encM q L).modify j fun p => (p.1, p.2.1, a) := by
  unfold encM
  exact (modify_map (fun p : Nat × Int × AV => (p.1, AV.int q p.2.1, p.2.2)) (fun p => (p.1, p.2.1, a)) (fun p => (p.1, p.2.1, a)) (fun _ => rfl) L j).symm
theorem MRel.modify {β : Beta} {es : List (Nat × AV × AV)} {ents : Array MapEntry} (m : MRel β es ents) {j0 : Nat} {a : AV} (h : ∀ e, ents[j0]? = some e → V β a e.val) : MRel β (es.modify j0 fun p => (p.1, p.2.1, a)) ents :=
  ⟨m.len.trans (by simp), fun j p hp => by
    rw [List.getElem?_modify] at hp
    split at hp
    · rename_i ej; subst ej
      obtain ⟨p0, h1, rfl⟩ := Option.map_eq_some_iff.1 hp
      obtain ⟨e, e1, e2, e3, e4⟩ := m.rel _ p0 h1
      exact ⟨e, e1, e2, e3, h e e1⟩
    · exact m.rel j p (by simpa using hp)⟩
theorem HRel.outYes {β : Beta} {H : Heap} {w : World} {B : Bd} (h : HRel β H w B) {i sz g j0 : Nat} (hsz : 0 < sz) {es : List (Nat × AV × AV)} {clk : Nat} {p0 : Nat × AV × AV} {len : Nat} {f : Nat → AV} (hi : H i = some (.maps sz es clk none)) (hg : β g = none) (hgi : g ≠ i)
    (hp0 : es[j0]? = some p0) (ha : p0.2.2 = .lst .free sz len f) :
    ∃ β', Beta.le β β' ∧ (∀ j, β' j ≠ none → β j ≠ none ∨ j = g) ∧ β'.fz = β.fz ∧ HRel β' (upd (upd H i (some (.maps sz (es.modify j0 fun p => (p.1, p.2.1, .lst (.tok g) sz len f)) clk (some j0)))) g (some (.cells []))) w B := by
  obtain ⟨l, hl, hk, hB, ents, hw, hmr, hpl⟩ := h.mps i sz _ clk none hi
  obtain ⟨e0, he0, _, _, hv0⟩ := hmr.rel j0 p0 hp0
  rw [ha] at hv0
  simp only [V] at hv0
  obtain ⟨base, cap, hval, hlc, _, hels⟩ := hv0
  have hout0 : outE none ents j0 = some e0.val := by simp [outE, he0]
  obtain ⟨base', n', cap', hval', _, hpool⟩ := hpl j0 _ hout0
  rw [hval] at hval'; cases hval'
  have key : ∀ (ys' : Nat → Prop) (lg : Loc), (∀ c, ys' c → β.ys c) → (∀ j v, outE (some j0) ents j = some v → ∀ (c o n cap : Nat), v = .slice (some ⟨c, o, none⟩) n cap → cap ≠ n → β.ys c → ys' c) → lg.k ≠ 0 ∧ B lg.c ∧ lg.c < w.heap.size ∧ (∀ o, lg.o ≤ o → o < lg.o + lg.k → β.fz lg.c o = none) ∧ (∃ full ty, w.heap[lg.c]? = some (.cells full ty (0, 0)) ∧ lg.o + lg.k ≤ full.size) ∧ ¬ ys' lg.c ∧ β.ys lg.c ∨ lg.k = 0 →
      (cap = len ∨ ∃ o, base = some ⟨lg.c, o, none⟩ ∧ lg.o = o + len * sz ∧ cap * sz ≤ len * sz + lg.k) →
      ∃ β', Beta.le β β' ∧ (∀ j, β' j ≠ none → β j ≠ none ∨ j = g) ∧ β'.fz = β.fz ∧ HRel β' (upd (upd H i (some (.maps sz (es.modify j0 fun p => (p.1, p.2.1, .lst (.tok g) sz len f)) clk (some j0)))) g (some (.cells []))) w B := by
    intro ys' lg hsub hkeep hlg hcap
    have hd := h.drop i
    have hys' : HRel ⟨β.loc, β.fz, ys'⟩ (upd H i none) w B := hd.ysSub (h.unGh hi) ys' (fun c hc => h.ys c (hsub c hc)) fun k b lk h1 h2 h3 hc => hd.yo k b lk h1 h2 h3 (hsub _ hc)
    let β1 : Beta := (⟨β.loc, β.fz, ys'⟩ : Beta).put g lg
    have hgn : (⟨β.loc, β.fz, ys'⟩ : Beta) g = none := hg
    have hle1 : Beta.le ⟨β.loc, β.fz, ys'⟩ β1 := le_put hgn
    have hle : Beta.le β β1 := ⟨fun j x hx => hle1.loc j x hx, fun _ _ _ hv => hv⟩
    have hH1 : HRel β1 (upd H i none) w B := hys'.put _ hgn
    have hβg : β1 g = some lg := put_same _ _ _
    have hH2 : HRel β1 (upd (upd H i none) g (some (.cells []))) w B := by
      refine hH1.add hβg (by simp) (fun hpos => ?_) (fun hpos k b lk hk1 hb hlk hkk => ?_) (fun hpos hc => ?_)
      · rcases hlg with ⟨_, q1, q2, q3, ⟨full, ty, q4, q5⟩, q6, _⟩ | q
        · exact ⟨q1, q3, full, ty, q4, q5, fun j a ha => by simp at ha⟩
        · omega
      · rcases hlg with ⟨_, _, _, _, _, _, q7⟩ | q
        · have hlk' : β k = some lk := by
            have := put_other (⟨β.loc, β.fz, ys'⟩ : Beta) lg hk1
            rw [show β1 k = (⟨β.loc, β.fz, ys'⟩ : Beta) k from this] at hlk; exact hlk
          exact fun e => hd.yo k b lk hb hlk' hkk (e ▸ q7)
        · omega
      · rcases hlg with ⟨_, _, _, _, _, q6, _⟩ | q
        · exact q6 hc
        · omega
    have hig : i ≠ g := fun e => hgi e.symm
    have hbi : β1 i = some l := by
      have := put_other (⟨β.loc, β.fz, ys'⟩ : Beta) lg hig
      exact this.trans hl
    have hVtok : V β1 (.lst (.tok g) sz len f) e0.val := by
      rw [hval]
      simp only [V]
      refine ⟨base, cap, rfl, hlc, ⟨lg, hβg, hcap⟩, fun j hj => ?_⟩
      obtain ⟨cc, oo, u, u1, u2, u3, u4⟩ := hels j hj
      exact ⟨cc, oo, u, u1, u2, u3, V_mono hle _ _ u4⟩
    have hm2 : MRel β1 (es.modify j0 fun p => (p.1, p.2.1, .lst (.tok g) sz len f)) ents := (hmr.mono hle).modify fun e he => by rw [he0] at he; cases he; exact hVtok
    have hpl2 : Pool β1.fz β1.ys sz w (outE (some j0) ents) := fun j v hv => by
      have hv' : outE none ents j = some v := by
        unfold outE at hv ⊢
        cases he : ents[j]? with
        | none => rw [he] at hv; cases hv
        | some e =>
          rw [he] at hv
          cases hk : ((some j0 : Option Nat) == some j) with
          | true => simp only [hk, cond_true] at hv; cases hv
          | false => simp only [hk, cond_false] at hv; simpa using hv
      obtain ⟨bs, n, cp, q1, q2, q3⟩ := hpl j v hv'
      refine ⟨bs, n, cp, q1, q2, ?_⟩
      rcases q3 with q3 | ⟨c, o, full, ty, r1, r2, r3, r4, r5, r6⟩
      · exact .inl q3
      · by_cases hcn : cp = n
        · exact .inl hcn
        · refine .inr ⟨c, o, full, ty, r1, hkeep j v hv c o n cp (by rw [q1, r1]) hcn r2, r3, r4, r5, fun j' v' hj' hne => ?_⟩
          refine r6 j' v' ?_ hne
          unfold outE at hj' ⊢
          cases he : ents[j']? with
          | none => rw [he] at hj'; cases hj'
          | some e =>
            rw [he] at hj'
            cases hk : ((some j0 : Option Nat) == some j') with
            | true => simp only [hk, cond_true] at hj'; cases hj'
            | false => simp only [hk, cond_false] at hj'; simpa using hj'
    have hH3 := hH2.addMaps (id := i) (l := l) (sz := sz) (es := es.modify j0 fun p => (p.1, p.2.1, .lst (.tok g) sz len f)) (clk := clk) (ho := some j0) hbi hk hB hw hm2 hpl2 (fun k b lk hk1 hb hlk hkk => by
        by_cases e : k = g
        · subst e
          rw [hβg] at hlk; cases hlk
          rcases hlg with ⟨_, _, _, _, _, _, q7⟩ | q
          · exact fun e => h.yo i _ l hi hl hk (e ▸ q7)
          · omega
        · rw [upd_other _ _ e, upd_other _ _ hk1] at hb
          have hlk' : β k = some lk := by
            have := put_other (⟨β.loc, β.fz, ys'⟩ : Beta) lg e
            rw [show β1 k = (⟨β.loc, β.fz, ys'⟩ : Beta) k from this] at hlk; exact hlk
          exact h.sep k i b _ lk l hk1 hb hi hlk' hl hkk hk) (fun hc => h.yo i _ l hi hl hk (hsub _ hc)) (fun k b hk1 hb => by
        by_cases e : k = g
        · subst e; rw [upd_same] at hb; cases hb; rfl
        · rw [upd_other _ _ e] at hb; exact h.unGh hi k b hb)
    refine ⟨β1, hle, fun j hj => ?_, rfl, ?_⟩
    · by_cases e : j = g
      · exact .inr e
      · left; have := put_other (⟨β.loc, β.fz, ys'⟩ : Beta) lg e; rw [show β1 j = (⟨β.loc, β.fz, ys'⟩ : Beta) j from this] at hj; exact hj
    · have e1 : upd (upd (upd H i none) g (some (AB.cells []))) i (some (AB.maps sz (es.modify j0 fun p => (p.1, p.2.1, .lst (.tok g) sz len f)) clk (some j0))) = upd (upd H i (some (.maps sz (es.modify j0 fun p => (p.1, p.2.1, .lst (.tok g) sz len f)) clk (some j0)))) g (some (.cells [])) := by
        funext k; unfold upd
        by_cases e2 : k = i
        · subst e2; simp [hig]
        · by_cases e3 : k = g
          · subst e3; simp [e2]
          · simp [e2, e3]
      rw [e1] at hH3; exact hH3
  by_cases hcl : cap = len
  · exact key β.ys ⟨0, 0, 0⟩ (fun _ h => h) (fun _ _ _ _ _ _ _ _ _ h => h) (.inr rfl) (.inl hcl)
  · rcases hpool with hp | ⟨c, o, full, ty, r1, r2, r3, r4, r5, r6⟩
    · exact absurd hp hcl
    · have hlt : len < cap := by omega
      have hm := Nat.mul_le_mul_right sz (show len + 1 ≤ cap by omega)
      have hmm : (len + 1) * sz = len * sz + sz := by rw [Nat.add_mul, Nat.one_mul]
      refine key (fun x => β.ys x ∧ x ≠ c) ⟨c, o + len * sz, cap * sz - len * sz⟩ (fun _ h => h.1) (fun j v hv c' o' n' cp hv' hne hy => ⟨hy, fun e => ?_⟩) (.inl ⟨by simp only; omega, (h.ys c r2).1, (h.ys c r2).2, fun q h1 h2 => r3 q h1 (by simp only at h2; omega), ⟨full, ty, r4, by simp only; omega⟩, fun h => h.2 rfl, r2⟩) (.inr ⟨o, r1, rfl, by simp only; omega⟩)
      subst e
      have hv2 : outE none ents j = some v ∧ j ≠ j0 := by
        unfold outE at hv ⊢
        cases he : ents[j]? with
        | none => rw [he] at hv; cases hv
        | some e =>
          rw [he] at hv
          cases hk : ((some j0 : Option Nat) == some j) with
          | true => simp only [hk, cond_true] at hv; cases hv
          | false =>
            simp only [hk, cond_false] at hv
            exact ⟨by simpa using hv, fun e => by simp [e] at hk⟩
      exact hne (r6 j v hv2.1 hv2.2 o' n' cp hv')
theorem HRel.inPool {β : Beta} {H : Heap} {w : World} {B : Bd} (h : HRel β H w B) {i sz g j0 : Nat} (hsz : 0 < sz) {es : List (Nat × AV × AV)} {clk : Nat} {p0 : Nat × AV × AV} {len : Nat} {f : Nat → AV} {cs : List AV} (hi : H i = some (.maps sz es clk (some j0))) (hgi : g ≠ i)
    (hp0 : es[j0]? = some p0) (ha : p0.2.2 = .lst (.tok g) sz len f) (hg : H g = some (.cells cs)) :
    ∃ ys', HRel ⟨β.loc, β.fz, ys'⟩ (upd (upd H g none) i (some (.maps sz (es.modify j0 fun p => (p.1, p.2.1, .lst .free sz len f)) clk none))) w B := by
  obtain ⟨l, hl, hk, hB, ents, hw, hmr, hpl⟩ := h.mps i sz _ clk _ hi
  obtain ⟨e0, he0, _, _, hv0⟩ := hmr.rel j0 p0 hp0
  rw [ha] at hv0
  have hvf : V β (.lst .free sz len f) e0.val := Wk_free β _ hv0
  simp only [V] at hv0
  obtain ⟨base, cap, hval, hlc, ⟨lg, hlg, hcap⟩, hels⟩ := hv0
  obtain ⟨lg', hlg', _, hblk⟩ := h.own g cs hg
  rw [hlg] at hlg'; cases hlg'
  let ys' : Nat → Prop := fun c => β.ys c ∨ (0 < lg.k ∧ c = lg.c)
  refine ⟨ys', ?_⟩
  have hd := (h.drop i).drop g
  have hng : ∀ j b, upd (upd H i none) g none j = some b → noGh b = true := fun j b hj => by
    by_cases e : j = g
    · subst e; simp at hj
    · rw [upd_other _ _ e] at hj; exact h.unGh hi j b hj
  have back : ∀ {j b}, upd (upd H i none) g none j = some b → j ≠ g ∧ j ≠ i ∧ H j = some b := fun {j b} hj => by
    by_cases e : j = g
    · subst e; simp at hj
    · rw [upd_other _ _ e] at hj
      by_cases e' : j = i
      · subst e'; simp at hj
      · rw [upd_other _ _ e'] at hj; exact ⟨e, e', hj⟩
  have hH1 : HRel ⟨β.loc, β.fz, ys'⟩ (upd (upd H i none) g none) w B := hd.ysSub hng ys' (fun c hc => by
      rcases hc with hc | ⟨hpos, rfl⟩
      · exact h.ys c hc
      · obtain ⟨q1, _, full, ty, q2, _⟩ := hblk hpos
        exact ⟨q1, (Array.getElem?_eq_some_iff.1 q2).1⟩) fun j b lj h1 h2 h3 hc => by
      obtain ⟨e1, e2, h1⟩ := back h1
      rcases hc with hc | ⟨hpos, hc⟩
      · exact h.yo j b lj h1 h2 h3 hc
      · exact h.sep j g b _ lj lg e1 h1 hg h2 hlg h3 hpos hc
  have hle : Beta.le β ⟨β.loc, β.fz, ys'⟩ := ⟨fun _ _ h => h, fun _ _ _ h => h⟩
  have hm2 : MRel ⟨β.loc, β.fz, ys'⟩ (es.modify j0 fun p => (p.1, p.2.1, .lst .free sz len f)) ents := (hmr.mono hle).modify fun e he => by rw [he0] at he; cases he; exact V_mono hle _ _ hvf
  have split : ∀ {j v}, outE none ents j = some v → (j = j0 ∧ v = e0.val) ∨ (j ≠ j0 ∧ outE (some j0) ents j = some v) := fun {j v} hv => by
    unfold outE at hv ⊢
    by_cases e : j = j0
    · subst e; rw [he0] at hv; simp at hv; exact .inl ⟨rfl, hv.symm⟩
    · refine .inr ⟨e, ?_⟩
      cases he : ents[j]? with
      | none => rw [he] at hv; cases hv
      | some x =>
        rw [he] at hv
        have : ((some j0 : Option Nat) == some j) = false := by simpa using Ne.symm e
        simp only [this, cond_false]; simpa using hv
  have hpl2 : Pool β.fz ys' sz w (outE none ents) := fun j v hv => by
    rcases split hv with ⟨rfl, rfl⟩ | ⟨hj, hv1⟩
    · refine ⟨base, len, cap, hval, hlc, ?_⟩
      rcases hcap with hc | ⟨o, hb, ho, hle2⟩
      · exact .inl hc
      · by_cases hcl : cap = len
        · exact .inl hcl
        · have hm := Nat.mul_le_mul_right sz (show len + 1 ≤ cap by omega)
          have hmm : (len + 1) * sz = len * sz + sz := by rw [Nat.add_mul, Nat.one_mul]
          have hpos : 0 < lg.k := by omega
          obtain ⟨_, q2, full, ty, q3, q4, _⟩ := hblk hpos
          refine .inr ⟨lg.c, o, full, ty, hb, .inr ⟨hpos, rfl⟩, fun q h1 h2 => q2 q (by omega) (by omega), q3, by omega, fun j' v' hv' hne o2 n2 cap2 e2 => ?_⟩
          rcases split hv' with ⟨rfl, _⟩ | ⟨_, hv'⟩
          · exact absurd rfl hne
          · obtain ⟨b3, n3, c3, s1, s2, s3⟩ := hpl j' v' hv'
            rw [e2] at s1; cases s1
            rcases s3 with s3 | ⟨c4, o4, _, _, t1, t2, _⟩
            · exact s3
            · cases t1
              exact absurd t2 (h.yo g _ lg hg hlg hpos)
    · obtain ⟨b3, n3, c3, s1, s2, s3⟩ := hpl j v hv1
      refine ⟨b3, n3, c3, s1, s2, ?_⟩
      rcases s3 with s3 | ⟨c4, o4, full, ty, t1, t2, t3, t4, t5, t6⟩
      · exact .inl s3
      · refine .inr ⟨c4, o4, full, ty, t1, .inl t2, t3, t4, t5, fun j' v' hv' hne o2 n2 cap2 e2 => ?_⟩
        rcases split hv' with ⟨rfl, rfl⟩ | ⟨_, hv'⟩
        · rw [hval] at e2; cases e2
          rcases hcap with hc | ⟨o, hb, ho, hle2⟩
          · exact hc
          · cases hb
            by_cases hcl : cap = len
            · exact hcl
            · have hm := Nat.mul_le_mul_right sz (show len + 1 ≤ cap by omega)
              have hmm : (len + 1) * sz = len * sz + sz := by rw [Nat.add_mul, Nat.one_mul]
              exact absurd t2 (h.yo g _ lg hg hlg (by omega))
        · exact t6 j' v' hv' hne o2 n2 cap2 e2
  have hig : i ≠ g := fun e => hgi e.symm
  have hH3 := hH1.addMaps (id := i) (l := l) (sz := sz) (es := es.modify j0 fun p => (p.1, p.2.1, .lst .free sz len f)) (clk := clk) (ho := none) hl hk hB hw hm2 hpl2 (fun k b lk hk1 hb hlk hkk => by
      obtain ⟨_, _, hb⟩ := back hb
      exact h.sep k i b _ lk l hk1 hb hi hlk hl hkk hk) (fun hc => by
      rcases hc with hc | ⟨hpos, hc⟩
      · exact h.yo i _ l hi hl hk hc
      · exact h.sep i g _ _ l lg hig hi hg hl hlg hk hpos hc) (fun k b _ hb => hng k b hb)
  have e1 : upd (upd (upd H i none) g none) i (some (AB.maps sz (es.modify j0 fun p => (p.1, p.2.1, .lst .free sz len f)) clk none)) = upd (upd H g none) i (some (.maps sz (es.modify j0 fun p => (p.1, p.2.1, .lst .free sz len f)) clk none)) := by
    funext k; unfold upd
    by_cases e2 : k = i
    · simp [e2]
    · simp [e2]
  rw [e1] at hH3; exact hH3
section
variable {α : Type} {L : List (Nat × Int × α)} {n : Int} {a v : α} {clk : Nat}
theorem fidx_none (h : (mfind n L).isSome = false) : L.findIdx? (fun p => p.2.1 == n) = none := by
  rw [List.findIdx?_eq_none_iff]
  intro x hx
  cases e : mfind n L with
  | some p => rw [e] at h; cases h
  | none => have := List.find?_eq_none.1 e x hx; simpa using this
theorem fidx_some (h : (mfind n L).isSome = true) : ∃ j p, L.findIdx? (fun p => p.2.1 == n) = some j ∧ mfind n L = some p ∧ L[j]? = some p ∧ p.2.1 = n := by
  cases e : mfind n L with
  | none => rw [e] at h; cases h
  | some p =>
    cases e2 : L.findIdx? (fun p => p.2.1 == n) with
    | none =>
      have := List.findIdx?_eq_none_iff.1 e2 p (mfind_key e).2
      have hk := (mfind_key e).1
      simp [hk] at this
    | some j =>
      refine ⟨j, p, rfl, rfl, ?_, (mfind_key e).1⟩
      have h3 := List.find?_eq_some_iff_getElem.1 e
      obtain ⟨_, k, hk, hk2, hk3⟩ := h3
      have h4 := List.findIdx?_eq_some_iff_getElem.1 e2
      obtain ⟨hj, hj2, hj3⟩ := h4
      have : k = j := by
        rcases Nat.lt_trichotomy k j with h | h | h
        · have h5 := hj3 k h
          have h6 : L[k].2.1 = n := by rw [hk2]; exact (mfind_key e).1
          simp [h6] at h5
        · exact h
        · have := hk3 j h
          simp at this hj2
          exact absurd hj2 this
      subst this
      rw [List.getElem?_eq_getElem hj, hk2]
theorem mput_no (h : (mfind n L).isSome = false) : mput n v L clk = L ++ [(clk, n, v)] := by simp [mput, fidx_none h]
theorem hidx_no (h : (mfind n L).isSome = false) : hidx n L = L.length := by simp [hidx, fidx_none h]
theorem find_put (n : Int) (v : α) : ∀ (L : List (Nat × Int × α)) (clk : Nat), ∃ b, mfind n (mput n v L clk) = some (b, n, v) ∧ (mput n v L clk)[hidx n L]? = some (b, n, v) := by
  intro L clk
  cases h : (mfind n L).isSome with
  | false =>
    refine ⟨clk, ?_, ?_⟩
    · rw [mput_no h]
      unfold mfind at h ⊢
      rw [List.find?_append]
      have : List.find? (fun p => p.2.1 == n) L = none := by simpa using h
      rw [this]; simp
    · rw [mput_no h, hidx_no h]; simp
  | true =>
    obtain ⟨j, p, h1, h2, h3, h4⟩ := fidx_some h
    refine ⟨p.1, ?_, ?_⟩
    · have hm : mput n v L clk = L.modify j fun p => (p.1, p.2.1, v) := by simp [mput, h1]
      rw [hm]
      have h5 := List.findIdx?_eq_some_iff_getElem.1 h1
      obtain ⟨hj, hj2, hj3⟩ := h5
      unfold mfind
      rw [List.find?_eq_some_iff_getElem]
      refine ⟨by simp, j, by simpa using hj, ?_, fun k hk => ?_⟩
      · rw [List.getElem_modify]
        have : L[j] = p := by rw [List.getElem?_eq_getElem hj] at h3; exact Option.some.inj h3
        simp [this, h4]
      · rw [List.getElem_modify]
        have := hj3 k hk
        simp only [show j ≠ k by omega, if_false]
        simpa using this
    · have hm : mput n v L clk = L.modify j fun p => (p.1, p.2.1, v) := by simp [mput, h1]
      rw [hm]
      simp [hidx, h1, h3, h4]
theorem put_put (h : (mfind n L).isSome = true) : mput n v (mput n a L clk) clk = mput n v L clk ∧ hidx n (mput n a L clk) = hidx n L ∧ mclk n (mput n a L clk) clk = clk ∧ mclk n L clk = clk := by
  obtain ⟨j, p, h1, h2, h3, h4⟩ := fidx_some h
  have hm : ∀ v, mput n v L clk = L.modify j fun p => (p.1, p.2.1, v) := fun v => by simp [mput, h1]
  have hi : (L.modify j fun p => (p.1, p.2.1, a)).findIdx? (fun p => p.2.1 == n) = some j := by
    have h5 := List.findIdx?_eq_some_iff_getElem.1 h1
    obtain ⟨hj, hj2, hj3⟩ := h5
    rw [List.findIdx?_eq_some_iff_getElem]
    refine ⟨by simpa using hj, ?_, fun k hk => ?_⟩
    · rw [List.getElem_modify]; simpa using hj2
    · rw [List.getElem_modify]
      simp only [show j ≠ k by omega, if_false]
      exact hj3 k hk
  refine ⟨?_, by rw [hm]; simp [hidx, hi, h1], by rw [hm]; simp [mclk, hi], by simp [mclk, h1]⟩
  rw [hm, hm]
  unfold mput
  rw [hi]
  apply List.ext_getElem?
  intro k
  simp only [List.getElem?_modify]
  by_cases e : j = k
  · subst e; simp [h3]
  · simp [e]
end
theorem has_enc {α : Type} (enc : α → AV) (n : Int) (m : GM α) : (mfind n (encE enc m.es)).isSome = m.has n := by
  unfold GM.has; rw [mfind_enc]; cases mfind n m.es <;> rfl
section
variable {P : Program} {D : DT} {α : Type} {enc : α → AV} {d : α} {t e : TypeId} {s b : Nat} {zs : List AV} {lim i sz : Nat} {n : Int} {m : GM (List α)} {hp : Heap}
theorem mgetS_lk (hD : DOk P D) (ht : D t = some ⟨.map .i64 e .nils, s, zs, b⟩) (hi : hp i = some (abS sz enc d m)) (hlim : i < lim) {k : AV → Prop} (hk : k (eL sz enc d (m.get n []))) : mlookK P lim t (.mp i) (.int .i64 n) false hp k := by
  have k1 := (hD _ _ ht).k
  simp only [TKok] at k1
  cases h : mfind n m.es with
  | some p =>
    have hg : m.get n [] = p.2.2 := by unfold GM.get; rw [h]
    rw [hg] at hk
    refine mlookK_of ⟨.i64, e, .nils, n, eL sz enc d p.2.2, true, k1.1, k1.2, rfl, .inr ⟨i, _, m.clk, rfl, hlim, .inr ⟨sz, none, hi⟩, ?_⟩, Wk.refl _⟩ hk
    rw [mfind_enc, h]; exact ⟨rfl, rfl⟩
  | none =>
    have hg : m.get n [] = [] := by unfold GM.get; rw [h]
    rw [hg] at hk
    refine mlookK_of ⟨.i64, e, .nils, n, .nils, false, k1.1, k1.2, rfl, .inr ⟨i, _, m.clk, rfl, hlim, .inr ⟨sz, none, hi⟩, ?_⟩, Wk_nil⟩ hk
    rw [mfind_enc, h]; exact ⟨rfl, rfl⟩
theorem mgetN_lk (hD : DOk P D) (ht : D t = some ⟨.map .i64 e .nils, s, zs, b⟩) {ho : Option Nat} {clk : Nat} (hi : hp i = some (.maps sz (encM .i64 (encE (eL sz enc d) m.es)) clk ho)) (hlim : i < lim) (hno : m.has n = false) {k : AV → Prop} (hk : k .nils) : mlookK P lim t (.mp i) (.int .i64 n) false hp k := by
  have k1 := (hD _ _ ht).k
  simp only [TKok] at k1
  refine mlookK_of ⟨.i64, e, .nils, n, .nils, false, k1.1, k1.2, rfl, .inr ⟨i, _, clk, rfl, hlim, .inr ⟨sz, ho, hi⟩, ?_⟩, Wk.refl _⟩ hk
  have : mfind n (encE (eL sz enc d) m.es) = none := by
    have := has_enc (eL sz enc d) n m; rw [hno] at this; simpa using this
  rw [this]; exact ⟨rfl, rfl⟩
theorem mgetY_lk (hD : DOk P D) (ht : D t = some ⟨.map .i64 e .nils, s, zs, b⟩) {ho : Option Nat} {clk clk' : Nat} {a : AV} {L : List (Nat × Int × AV)} (hi : hp i = some (.maps sz (encM .i64 (mput n a L clk)) clk' ho)) (hlim : i < lim) {k : AV → Prop} (hk : k a) : mlookK P lim t (.mp i) (.int .i64 n) false hp k := by
  have k1 := (hD _ _ ht).k
  simp only [TKok] at k1
  refine mlookK_of ⟨.i64, e, .nils, n, a, true, k1.1, k1.2, rfl, .inr ⟨i, _, clk', rfl, hlim, .inr ⟨sz, ho, hi⟩, ?_⟩, Wk.refl _⟩ hk
  obtain ⟨b', h1, _⟩ := find_put n a L clk
  rw [h1]; exact ⟨rfl, rfl⟩
theorem mputN_lk (hD : DOk P D) (ht : D t = some ⟨.map .i64 e .nils, s, zs, b⟩) {L : List (Nat × Int × AV)} {clk : Nat} (hi : hp i = some (.maps sz (encM .i64 L) clk (some (hidx n L)))) {v : AV} {k : AV → Heap → Prop}
    (hk : k .und (upd hp i (some (.maps sz (encM .i64 (mput n v L clk)) (mclk n L clk) (some (hidx n L)))))) : updK P t (.mp i) (.int .i64 n) v hp k := by
  have k1 := (hD _ _ ht).k
  simp only [TKok] at k1
  exact updK_of ⟨.i64, e, n, i, L, clk, k1.1, rfl, rfl, rfl, .inr ⟨sz, hi, rfl⟩⟩ hk
theorem mputY_lk (hD : DOk P D) (ht : D t = some ⟨.map .i64 e .nils, s, zs, b⟩) {L : List (Nat × Int × AV)} {clk : Nat} {a : AV} (hy : (mfind n L).isSome = true) (hi : hp i = some (.maps sz (encM .i64 (mput n a L clk)) clk (some (hidx n L)))) {v : AV} {k : AV → Heap → Prop}
    (hk : k .und (upd hp i (some (.maps sz (encM .i64 (mput n v L clk)) (mclk n L clk) (some (hidx n L)))))) : updK P t (.mp i) (.int .i64 n) v hp k := by
  have k1 := (hD _ _ ht).k
  simp only [TKok] at k1
  obtain ⟨p1, p2, p3, p4⟩ := put_put (v := v) (a := a) (clk := clk) hy
  refine updK_of ⟨.i64, e, n, i, mput n a L clk, clk, k1.1, rfl, rfl, rfl, .inr ⟨sz, by rw [p2]; exact hi, rfl⟩⟩ ?_
  rw [p1, p2, p3]
  rw [p4] at hk; exact hk
theorem mdelS_lk (hD : DOk P D) (ht : D t = some ⟨.map .i64 e .nils, s, zs, b⟩) (hi : hp i = some (abS sz enc d m)) {k : AV → Heap → Prop} (hk : k (.tup []) (upd hp i (some (abS sz enc d (m.del n))))) : delK P t (.mp i) (.int .i64 n) hp k := by
  have k1 := (hD _ _ ht).k
  simp only [TKok] at k1
  refine delK_of ⟨.i64, e, n, i, _, m.clk, k1.1, rfl, rfl, rfl, .inr ⟨sz, hi, rfl⟩⟩ ?_
  rw [mdel_enc]; exact hk
theorem mlenS_lk (hD : DOk P D) (ht : D t = some ⟨.map .i64 e .nils, s, zs, b⟩) (hi : hp i = some (abS sz enc d m)) (hlim : i < lim) {k : AV → Prop} (hk : k (.int .i64 m.len)) : lenmK P lim t (.mp i) hp k := by
  have k1 := (hD _ _ ht).k
  simp only [TKok] at k1
  refine lenmK_of (.inr ⟨by rw [k1.1]; rfl, .inr ⟨i, _, m.clk, rfl, hlim, .inr ⟨sz, none, hi⟩, rfl⟩⟩) ?_
  have : ((encM .i64 (encE (eL sz enc d) m.es)).length : Int) = m.len := by simp [encM, encE, GM.len]
  rw [this]; exact hk
end
theorem BkR_S {L : Ren} {hp : Heap} {i o : Nat} {α : Type} {sz : Nat} {enc : α → AV} {d : α} {m : GM (List α)} (h : hp o = some (abS sz enc d m)) (hl : ∀ x, (enc x).loose) : BkR L hp i (some o) (abS sz enc d m) := by
  simp only [BkR, abS] at h ⊢
  rw [h]
  refine ⟨rfl, rfl, rfl, rfl, fun j p hp => ⟨p, hp, rfl, ?_, ?_⟩⟩
  · obtain ⟨r, _, rfl⟩ := List.mem_map.1 (List.mem_of_getElem? hp)
    exact wkr (loose_int _ _)
  · obtain ⟨r, hr, rfl⟩ := List.mem_map.1 (List.mem_of_getElem? hp)
    obtain ⟨r', _, rfl⟩ := List.mem_map.1 hr
    exact wkr (loose_lst fun _ => hl _)
section
variable {E : Env} {N : Nat} {c : Code} {σ : AS} {Q : Exit → AS → Prop}
theorem HT_outS {α : Type} {enc : α → AV} {d : α} {sz : Nat} (i : Nat) (n : Int) (hsz : 0 < sz) {m : GM (List α)} (hi : σ.hp i = some (abS sz enc d m)) (hib : i ≠ σ.b)
    (hno : m.has n = false → HT E N c ⟨σ.sl, upd σ.hp i (some (.maps sz (encM .i64 (encE (eL sz enc d) m.es)) m.clk (some (hidx n (encE (eL sz enc d) m.es))))), σ.b⟩ Q)
    (hyes : m.has n = true → HT E N c ⟨σ.sl, upd (upd σ.hp i (some (.maps sz (encM .i64 (mput n (.lst (.tok σ.b) sz (m.get n []).length fun j => enc ((m.get n []).getD j d)) (encE (eL sz enc d) m.es) m.clk)) m.clk (some (hidx n (encE (eL sz enc d) m.es)))))) σ.b (some (.cells [])), σ.b + 64⟩ Q) : HT E N c σ Q := by
  cases hh : m.has n with
  | false => exact HT_hp (fun β w B h => h.outNo _ hi) (hno hh)
  | true =>
    have hs : (mfind n (encE (eL sz enc d) m.es)).isSome = true := by rw [has_enc, hh]
    obtain ⟨j, p, h1, h2, h3, h4⟩ := fidx_some hs
    have hget : p.2.2 = .lst .free sz (m.get n []).length fun j => enc ((m.get n []).getD j d) := by
      rw [mfind_enc] at h2
      obtain ⟨p', h5, rfl⟩ := Option.map_eq_some_iff.1 h2
      show eL sz enc d p'.2.2 = _
      unfold GM.get; rw [h5]; rfl
    have hx : hidx n (encE (eL sz enc d) m.es) = j := by simp [hidx, h1]
    have hm : ∀ a, encM .i64 (mput n a (encE (eL sz enc d) m.es) m.clk) = (encM .i64 (encE (eL sz enc d) m.es)).modify j fun p => (p.1, p.2.1, a) := fun a => by
      rw [← encM_modify]; simp [mput, h1]
    intro ro F a w hro hF ⟨β, ds, r1, r2, r3, r4, r5⟩
    have hgn : β σ.b = none := by
      cases e : β σ.b with
      | none => rfl
      | some x => exact absurd (r4 σ.b (by rw [e]; simp)) (Nat.lt_irrefl _)
    obtain ⟨β', f1, f2, f3, f4⟩ := r3.outYes (g := σ.b) (j0 := j) hsz hi hgn (Ne.symm hib) (encM_get h3) hget
    have h' := hyes hh
    rw [hx, hm] at h'
    refine h' ro F a w hro hF ⟨β', ds, ⟨r1.le.trans f1, fun k hk => ?_, Nat.le_trans r1.b (Nat.le_add_right _ _), fun c o hc => by rw [f3] at hc; exact r1.fz c o hc⟩, fun t => V_mono f1 _ _ (r2 t), f4, fun k hk => ?_, r5⟩
    · rcases f2 k hk with e | e
      · exact r1.dom k e
      · exact .inr (e ▸ r1.b)
    · rcases f2 k hk with e | e
      · exact Nat.lt_of_lt_of_le (r4 k e) (Nat.le_add_right _ _)
      · subst e; show σ.b < σ.b + 64; omega
theorem HT_inS {α : Type} {enc : α → AV} {d : α} {sz : Nat} (i g : Nat) (n : Int) (hsz : 0 < sz) {m : GM (List α)} {l' : List α} {cs : List AV} (hig : g ≠ i)
    (hi : σ.hp i = some (.maps sz (encM .i64 (mput n (.lst (.tok g) sz l'.length fun j => enc (l'.getD j d)) (encE (eL sz enc d) m.es) m.clk)) (mclk n (encE (eL sz enc d) m.es) m.clk) (some (hidx n (encE (eL sz enc d) m.es))))) (hg : σ.hp g = some (.cells cs))
    (h : HT E N c ⟨σ.sl, upd (upd σ.hp g none) i (some (abS sz enc d (m.put n l'))), σ.b⟩ Q) : HT E N c σ Q := by
  obtain ⟨b, _, hb⟩ := find_put n (.lst (.tok g) sz l'.length fun j => enc (l'.getD j d)) (encE (eL sz enc d) m.es) m.clk
  intro ro F a w hro hF ⟨β, ds, r1, r2, r3, r4, r5⟩
  obtain ⟨ys', f4⟩ := r3.inPool (g := g) hsz hi hig (encM_get hb) rfl hg
  have e1 : (encM .i64 (mput n (.lst (.tok g) sz l'.length fun j => enc (l'.getD j d)) (encE (eL sz enc d) m.es) m.clk)).modify (hidx n (encE (eL sz enc d) m.es)) (fun p => (p.1, p.2.1, .lst .free sz l'.length fun j => enc (l'.getD j d))) = encM .i64 (encE (eL sz enc d) (m.put n l').es) := by
    rw [← encM_modify]
    congr 1
    show _ = encE (eL sz enc d) (mput n l' m.es m.clk)
    rw [← mput_enc]
    cases hs : (mfind n (encE (eL sz enc d) m.es)).isSome with
    | false =>
      rw [mput_no hs, mput_no hs, hidx_no hs]
      apply List.ext_getElem?
      intro k
      rw [List.getElem?_modify]
      split
      · rename_i e; subst e; simp; rfl
      · rename_i e
        rw [List.getElem?_append, List.getElem?_append]
        split
        · simp
        · rename_i h2
          have : k - (encE (eL sz enc d) m.es).length ≠ 0 := by omega
          obtain ⟨q, hq⟩ := Nat.exists_eq_succ_of_ne_zero this
          simp [hq]
    | true =>
      obtain ⟨j, p, h1, h2, h3, h4⟩ := fidx_some hs
      have hx : hidx n (encE (eL sz enc d) m.es) = j := by simp [hidx, h1]
      rw [hx]
      simp only [mput, h1]
      apply List.ext_getElem?
      intro k
      simp only [List.getElem?_modify]
      by_cases e : j = k
      · subst e; simp [h3]; rfl
      · simp [e]
  have e2 : mclk n (encE (eL sz enc d) m.es) m.clk = (m.put n l').clk := by show _ = mclk n m.es m.clk; rw [mclk_enc]
  rw [e1, e2] at f4
  exact h ro F a w hro hF ⟨⟨β.loc, β.fz, ys'⟩, ds, ⟨⟨r1.le.loc, r1.le.fz⟩, r1.dom, r1.b, r1.fz⟩, fun t => V_ys (r2 t), f4, r4, r5⟩
end
theorem get_no {α : Type} {m : GM α} {n : Int} {d : α} (h : m.has n = false) : m.get n d = d := by
  unfold GM.has at h; unfold GM.get
  cases e : mfind n m.es with
  | some p => rw [e] at h; cases h
  | none => rfl
end Go.Eng
namespace Go.Eng
open Go.RowKit (Below)
set_option maxHeartbeats 400000
def setO (w : World) (r : Nat) (o : Obj) : World := { w with heap := w.heap.setIfInBounds r o }
theorem setO_other {w : World} {r c : Nat} {o : Obj} (h : c ≠ r) : (setO w r o).heap[c]? = w.heap[c]? := by
  show (w.heap.setIfInBounds r o)[c]? = _
  rw [Array.getElem?_setIfInBounds_ne (Ne.symm h)]
theorem setO_same {w : World} {r : Nat} {o : Obj} (h : r < w.heap.size) : (setO w r o).heap[r]? = some o := by
  show (w.heap.setIfInBounds r o)[r]? = _
  simp [h]
theorem setO_size {w : World} {r : Nat} {o : Obj} : (setO w r o).heap.size = w.heap.size := by
  show (w.heap.setIfInBounds r o).size = _
  simp
theorem next_map {P : Program} {w : World} {ty : TypeId} {r bm : Nat} {seen : Array Nat} {es : Array MapEntry} {clock : Nat} (hr : w.heap[r]? = some (.mapIter (some bm) clock seen clock)) (hb : w.heap[bm]? = some (.map es clock)) (hold : ∀ x ∈ es.toList, x.born < clock) :
    ((leftOf es seen).size = 0 ∧ (Instr.next (.pointer (some ⟨r, 0, none⟩)) false ty).run P w = .ok (.tuple #[.bool false]) w) ∨
    ∃ e ∈ (leftOf es seen).toList, ∃ w1 : World, (w1 = w ∨ w1 = w.drew) ∧ (Instr.next (.pointer (some ⟨r, 0, none⟩)) false ty).run P w = .ok (.tuple #[.bool true, e.key, e.val]) (setO w1 r (.mapIter (some bm) clock (seen.push e.born) clock)) := by
  simp only [Instr.next, getObj, Sem.run_bind, Sem.run, hr, hb, Result.andThen, next_test_false seen es clock clock hold (Nat.le_refl _), Bool.false_eq_true, if_false]
  unfold leftOf
  have hmem : ∀ x ∈ (Array.filter (fun e => !seen.contains e.born) es).toList, x.born < clock := fun x hx => hold x (by simp at hx ⊢; exact hx.1)
  generalize Array.filter (fun e => !seen.contains e.born) es = L at hmem ⊢
  have e1 : L.filter (fun x => decide (x.born < clock)) = L := Array.filter_eq_self.2 (fun x hx => by simpa using hmem x (by simpa using hx))
  have e2 : L.filter (fun x => decide (x.born ≥ clock)) = #[] := by
    rw [Array.filter_eq_empty_iff]
    intro x hx
    have := hmem x (by simpa using hx)
    simp
    omega
  simp only [e1, e2, Array.append_empty]
  by_cases h0 : L.size = 0
  · left
    have : L = #[] := Array.eq_empty_of_size_eq_zero h0
    subst this
    refine ⟨rfl, ?_⟩
    simp [choose, Sem.run, Question.forced]
  · right
    have hne : L.isEmpty = false := by simp [Array.isEmpty, h0]
    simp only [hne, Bool.false_eq_true, if_false, Array.empty_append, Array.size_map]
    have hch : ∃ (j : Nat) (w1 : World), j < L.size ∧ (w1 = w ∨ w1 = w.drew) ∧ (choose (Question.mapNext L.size)).run P w = .ok j w1 := by
      by_cases hf : L.size ≤ 1
      · exact ⟨0, w, by omega, .inl rfl, by simp [choose, Sem.run, Question.forced, hf]⟩
      · exact ⟨_, w.drew, Nat.mod_lt _ (by omega), .inr rfl, by
          simp only [choose, Sem.run, Question.forced, decide_eq_true_eq, hf, if_false, Question.cut]
          rfl⟩
    obtain ⟨j, w1, hj, hal, hrun⟩ := hch
    refine ⟨L[j], by simp, w1, hal, ?_⟩
    have hh : w1.heap = w.heap := by rcases hal with rfl | rfl <;> rfl
    have hset : ∀ (o' : Obj), (setObj r o').run P w1 = .ok () (setO w1 r o') := fun o' => by
      simp only [setObj, Sem.run, hh, hr]
      simp only [setO, hh]
    simp only [hrun, Array.getElem?_map, Array.getElem?_eq_getElem hj, Option.map_some, Sem.run_bind, hset, Result.andThen]
    rfl
theorem entry_map {P : Program} {w : World} {r bm since : Nat} {seen : Array Nat} {es : Array MapEntry} {clock : Nat} {e : MapEntry} (hr : w.heap[r]? = some (.mapIter (some bm) since (seen.push e.born) clock)) (hb : w.heap[bm]? = some (.map es clock)) (he : e ∈ es.toList) (hn : (es.toList.map (·.born)).Nodup) :
    (Instr.entry (.pointer (some ⟨r, 0, none⟩))).run P w = .ok (.tuple #[e.key, e.val]) w := by
  have hf : es.find? (·.born == e.born) = some e := by rw [← Array.find?_toList]; exact find_born e es.toList hn he
  simp only [Instr.entry, getObj, Sem.run_bind, Sem.run, hr, hb, Result.andThen, Array.back?_push, bne_self_eq_false, Bool.false_eq_true, if_false, hf]
  rfl
theorem next_nil {P : Program} {w : World} {ty : TypeId} {r a b : Nat} {s : Array Nat} (hr : w.heap[r]? = some (.mapIter none a s b)) : (Instr.next (.pointer (some ⟨r, 0, none⟩)) false ty).run P w = .ok (.tuple #[.bool false]) w := by
  simp only [Instr.next, getObj, Sem.run_bind, Sem.run, hr, Result.andThen]
  rfl
theorem HRel.shrink {β : Beta} {H : Heap} {w : World} {B B' : Bd} (h : HRel β H w B) (k : ∀ i b l, H i = some b → β i = some l → 0 < l.k → B' l.c) (ky : ∀ c, β.ys c → B' c) : HRel β H w B' where
  fz := h.fz
  own i cs hi := by
    obtain ⟨l, h1, h2, h3⟩ := h.own i cs hi
    exact ⟨l, h1, h2, fun hk => ⟨k i _ l hi h1 hk, (h3 hk).2⟩⟩
  map i es clk hi := by
    obtain ⟨l, h1, h2, h3, h4⟩ := h.map i es clk hi
    exact ⟨l, h1, h2, k i _ l hi h1 h2, h4⟩
  sep := h.sep
  ys c hc := ⟨ky c hc, (h.ys c hc).2⟩
  yo := h.yo
  gh := h.gh
  gh1 := h.gh1
  mps i sz es clk ho hi := by
    obtain ⟨l, h1, h2, h3, h4⟩ := h.mps i sz es clk ho hi
    exact ⟨l, h1, h2, k i _ l hi h1 h2, h4⟩
  mp1 := h.mp1
theorem HRel.setO {β : Beta} {H : Heap} {w w1 : World} {B : Bd} {r : Nat} {o : Obj} (h : HRel β H w B) (hw : w1 = w ∨ w1 = w.drew) (hr : ¬ B r) (hc : ∀ q, w.cell? ⟨r, q, none⟩ = none) : HRel β H (setO w1 r o) B := by
  have hh : w1.heap = w.heap := by rcases hw with rfl | rfl <;> rfl
  have hblk : ∀ c, c ≠ r → (Go.Eng.setO w1 r o).heap[c]? = w.heap[c]? := fun c hc => by rw [setO_other hc, hh]
  refine h.world (fun c q v hv => ?_) (fun i b l hi hl hk => hblk _ fun e => hr (e ▸ (h.lt_of_own hi hl hk).2)) ⟨?_, ?_, ?_, ?_, ?_, fun k hk => hblk k fun e => ?_⟩
  · have h1 := h.fz c q v hv
    have : c ≠ r := fun e => by subst e; rw [hc] at h1; cases h1
    exact (World.cell?_of_block (w := w) (a := ⟨c, q, none⟩) (hblk c this)).trans h1
  · rcases hw with rfl | rfl <;> rfl
  · rcases hw with rfl | rfl <;> rfl
  · rcases hw with rfl | rfl <;> rfl
  · rw [setO_size, hh]; exact Nat.le_refl _
  · rcases hw with rfl | rfl
    · exact Nat.le_refl _
    · exact Nat.le_succ _
  · subst e
    have := Classical.not_not.1 hk
    exact hr (h.ys _ this).1
def IsOp (o : Oper) (op : Op) (t : Tmp) : Prop := o.op = op ∧ o.dst = some t ∧ o.guard = none
section
variable {P : Program} {ro : Option Nat}
theorem ops_step {ops : Array Oper} {i : Nat} {is : List Nat} {o : Oper} {op : Op} {t : Tmp} {a : Act} {w w' : World} {v : Value} {Q : Exit → Act → World → Prop} (ho : ops[i]? = some o) (h : IsOp o op t) (hd : ∀ c, op ≠ .defer c) (hrun : (execOp a.eval o).run P w = .ok (.value v) w') (k : wpOpsIn (fen ro) 0 P ops Q is (a.put (some t) v) w') : wpOpsIn (fen ro) 0 P ops Q (i :: is) a w := by
  obtain ⟨h1, h2, h3⟩ := h
  have w1 : Region.wanted o (yielded ops a.tmps) = true := by simp [Region.wanted, h3]
  simp only [wpOpsIn, ho, w1, if_true]
  exact wp_value (fun c hc => hd c (by rw [← h1]; exact hc)) hrun (by rw [h2]; exact k)
theorem ops_end {ops : Array Oper} {a : Act} {w : World} {Q : Exit → Act → World → Prop} (h : Q .normal a w) : wpOpsIn (fen ro) 0 P ops Q [] a w := h
theorem eval_put {a : Act} {t : Tmp} {v : Value} (h : t < a.tmps.size) : (a.put (some t) v).eval (.tmp t) = v := by simp [Act.put, Act.eval, h]
theorem eval_put_ne {a : Act} {t u : Tmp} {v : Value} (h : u ≠ t) : (a.put (some t) v).eval (.tmp u) = a.eval (.tmp u) := by
  simp only [Act.put, Act.eval, Array.getD_eq_getD_getElem?]
  rw [Array.getElem?_setIfInBounds_ne (Ne.symm h)]
theorem run_move {o : Oper} {t : Tmp} {x : Operand} {a : Act} {w : World} (h : IsOp o (.move x) t) : (execOp a.eval o).run P w = .ok (.value (a.eval x)) w := by
  unfold execOp; rw [h.1]; rfl
theorem run_assign {o : Oper} {t : Tmp} {x : Operand} {a : Act} {w : World} (h : IsOp o (.assign x) t) : (execOp a.eval o).run P w = .ok (.value (a.eval x)) w := by
  unfold execOp; rw [h.1]; rfl
theorem run_extract {o : Oper} {t : Tmp} {x : Operand} {i : Nat} {a : Act} {w : World} {vs : Array Value} {v : Value} (h : IsOp o (.extract x i) t) (hx : a.eval x = .tuple vs) (hv : (vs[i]? : Option Value) = some v) : (execOp a.eval o).run P w = .ok (.value v) w := by
  unfold execOp; rw [h.1]
  simp only [hx, Instr.extract, hv]
  rfl
theorem run_of {o : Oper} {a : Act} {w w' : World} {v : Value} {s : Sem Value} (h : execOp a.eval o = (do pure (.value (← s)))) (hs : s.run P w = .ok v w') : (execOp a.eval o).run P w = .ok (.value v) w' := by
  rw [h]; simp only [Sem.run_bind, hs]; rfl
end
theorem put_top {β : Beta} {sl : Nat → AV} {a : Act} {N t0 : Nat} {v : Value} (hs : ∀ t, V β (sl t) (a.tmps.getD t undef)) (hN : a.tmps.size = N) (h0 : t0 < N) (ht : sl t0 = .top) (t : Nat) : V β (sl t) ((a.put (some t0) v).tmps.getD t undef) := by
  have := put_V (β := β) (N := N) hs hN (d := some t0) (fun u hu => by cases hu; exact h0) (r := .top) (v := v) (by simp [V]) t
  simp only [putA, supd] at this
  by_cases e : t = t0
  · subst e; rw [ht]; simp [V]
  · rwa [upd_other _ _ e] at this
def Fr.lp (F : Fr) (ri lm : Nat) (l63 : Loc) (w : World) : Fr := ⟨fun c => F.B c ∧ c ≠ ri ∧ c ≠ lm, w, ⟨fun j => if j = 63 then some l63 else F.β0.loc j, F.β0.fz, F.β0.ys⟩, 0⟩
theorem Fr.lp_ok {F : Fr} {ri lm : Nat} {l63 : Loc} {w : World} (h : F.ok true false) : (F.lp ri lm l63 w).ok true true := fun _ => ⟨fun i hi => by
  show i < 64
  simp only [Fr.lp] at hi
  by_cases e : i = 63
  · omega
  · rw [if_neg e] at hi
    have := (h rfl).1 i hi
    simp only [cond_false] at this
    omega, rfl⟩
theorem Rep.unlp {F : Fr} {N ri lm : Nat} {l63 : Loc} {w w0 : World} {σ : AS} {a : Act} (h : Rep (F.lp ri lm l63 w0) N σ a w) (hF : F.ok true false) (hb : BelowP F.B F.w0 w) (ht : F.B.top w.heap.size) : Rep F N σ a w := by
  obtain ⟨β, ds, g1, g2, g3, g4, g5, g6, g7, g8, g9⟩ := h
  obtain ⟨f1, f2⟩ := hF rfl
  refine ⟨β, ds, ⟨⟨fun j l hl => ?_, fun c o v hv => g1.le.fz c o v hv⟩, fun j _ => .inr (by omega), by omega, fun c o hc => ?_⟩, g2, g3.shrink (fun j b l hj hl hk => ⟨(g3.lt_of_own hj hl hk).2.1.1, (g3.lt_of_own hj hl hk).2.2⟩) (fun c hc => ⟨(g3.ys c hc).1.1.1, (g3.ys c hc).1.2⟩), g4, hb, ht, g7, ⟨g8.nodup, fun D hD => ⟨(g8.at_ D hD).1.1, (g8.at_ D hD).2⟩⟩, g9⟩
  · have h3 := f1 j (by rw [hl]; simp)
    simp only [cond_false] at h3
    refine g1.le.loc j l ?_
    show (if j = 63 then some l63 else F.β0.loc j) = some l
    rw [if_neg (by omega)]; exact hl
  · rcases g1.fz c o hc with e | e
    · exact .inl e
    · exact .inr e.1
theorem cell_iter {w : World} {r o : Nat} {a : Option Nat} {b c : Nat} {s : Array Nat} (h : w.heap[r]? = some (.mapIter a b s c)) : w.cell? ⟨r, o, none⟩ = none := by simp [World.cell?, h]
theorem cell_map {w : World} {r o : Nat} {es : Array MapEntry} {c : Nat} (h : w.heap[r]? = some (.map es c)) : w.cell? ⟨r, o, none⟩ = none := by simp [World.cell?, h]
theorem Rep.relp {F : Fr} {N ri lm : Nat} {l63 : Loc} {w w0 : World} {σ : AS} {a : Act} (h : Rep (F.lp ri lm l63 w0) N σ a w) : Rep (F.lp ri lm l63 w) N σ a w := by
  obtain ⟨β, ds, g1, g2, g3, g4, g5, g6, g7, g8, g9⟩ := h
  exact ⟨β, ds, ⟨g1.le, g1.dom, g1.b, g1.fz⟩, g2, g3, g4, BelowP.refl _ _, g6, g7, g8, g9⟩
theorem Rep.lp18 {F : Fr} {N ri lm : Nat} {l63 : Loc} {w w0 : World} {σ : AS} {a : Act} {t : Tmp} (h : Rep (F.lp ri lm l63 w0) N σ a w) (hc : l63.c = ri) (ho : l63.o = 0) (ht : σ.sl t = .ptr 63 0) : a.eval (.tmp t) = .pointer (some ⟨ri, 0, none⟩) := by
  obtain ⟨β, ds, g1, g2, g3⟩ := h
  have := g2 t
  rw [ht] at this
  simp only [V] at this
  obtain ⟨l, e1, e2⟩ := this
  have e4 : (F.lp ri lm l63 w0).β0.loc 63 = some l63 := by simp [Fr.lp]
  have e3 : β 63 = some l63 := g1.le.loc 63 l63 e4
  rw [e3] at e1; cases e1
  show a.tmps.getD t undef = _
  rw [e2, hc, ho]
theorem Rep.put_top {F : Fr} {N : Nat} {w : World} {σ : AS} {a : Act} {t : Tmp} {v : Value} (h : Rep F N σ a w) (hN : t < N) (ht : σ.sl t = .top) : Rep F N σ (a.put (some t) v) w := by
  obtain ⟨β, ds, g1, g2, g3, g4, g5, g6, g7, g8, g9⟩ := h
  exact ⟨β, ds, g1, Go.Eng.put_top g2 g9 hN ht, g3, g4, g5, g6, by rw [put_defers]; exact g7, g8, by rw [put_size]; exact g9⟩
theorem Rep.put_int {F : Fr} {N : Nat} {w : World} {sl : Nat → AV} {hp : Heap} {b : Nat} {a : Act} {t : Tmp} {k : Int} (h : Rep F N ⟨sl, hp, b⟩ a w) (hN : t < N) : Rep F N ⟨putA sl (some t) (.int .i64 k), hp, b⟩ (a.put (some t) (.int .i64 k)) w := by
  obtain ⟨β, ds, g1, g2, g3, g4, g5, g6, g7, g8, g9⟩ := h
  exact ⟨β, ds, g1, put_V (d := some t) (r := .int .i64 k) (v := .int .i64 k) g2 g9 (fun u hu => by cases hu; exact hN) (by simp [V]), g3, g4, g5, g6, by rw [put_defers]; exact g7, g8, by rw [put_size]; exact g9⟩
theorem Rep.setO {F : Fr} {N ri lm : Nat} {l63 : Loc} {w w0 w1 : World} {σ : AS} {a : Act} {o : Obj} (h : Rep (F.lp ri lm l63 w0) N σ a w) (hw : w1 = w ∨ w1 = w.drew) (hc : ∀ q, w.cell? ⟨ri, q, none⟩ = none) : Rep (F.lp ri lm l63 (Go.Eng.setO w1 ri o)) N σ a (Go.Eng.setO w1 ri o) := by
  obtain ⟨β, ds, g1, g2, g3, g4, g5, g6, g7, g8, g9⟩ := h
  have hh : w1.heap = w.heap := by rcases hw with rfl | rfl <;> rfl
  refine ⟨β, ds, ⟨g1.le, g1.dom, g1.b, g1.fz⟩, g2, g3.setO hw (fun e => e.1.2.1 rfl) hc, g4, BelowP.refl _ _, ?_, g7, ⟨g8.nodup, fun D hD => ⟨(g8.at_ D hD).1, ?_⟩⟩, g9⟩
  · rw [setO_size, hh]; exact g6
  · rw [setO_other (g8.at_ D hD).1.2.1, hh]; exact (g8.at_ D hD).2
theorem BelowP.setO {B : Bd} {a w w1 : World} {r : Nat} {o : Obj} (h : BelowP B a w) (hw : w1 = w ∨ w1 = w.drew) (hr : B r) : BelowP B a (Go.Eng.setO w1 r o) := by
  refine h.trans ⟨?_, ?_, ?_, ?_, ?_, fun k hk => ?_⟩
  · rcases hw with rfl | rfl <;> rfl
  · rcases hw with rfl | rfl <;> rfl
  · rcases hw with rfl | rfl <;> rfl
  · rw [setO_size]; rcases hw with rfl | rfl <;> exact Nat.le_refl _
  · rcases hw with rfl | rfl
    · exact Nat.le_refl _
    · exact Nat.le_succ _
  · have hkr : k ≠ r := fun e => hk (by rw [e]; exact hr)
    rw [setO_other hkr]; rcases hw with rfl | rfl <;> rfl
theorem Rep.tolp {F : Fr} {N : Nat} {σ : AS} {a : Act} {w : World} {i : Nat} {es : List (Nat × AV × AV)} {clk : Nat} {l : Loc} {ents : Array MapEntry} {o : Obj} {t : Tmp} {β : Beta} {ds : List Nat}
    (h : Since F β σ.b ∧ (∀ t, V β (σ.sl t) (a.tmps.getD t undef)) ∧ HRel β σ.hp w (F.Bx ds) ∧ (∀ j, β j ≠ none → j < σ.b) ∧ BelowP F.B F.w0 w ∧ F.B.top w.heap.size ∧ a.defers = ds.map mark ∧ Marks F ds w ∧ a.tmps.size = N)
    (hm : σ.hp i = some (.map es clk)) (hl : β i = some l) (hk : 0 < l.k) (hh : w.heap[l.c]? = some (.map ents clk)) (_ho : o = .mapIter (some l.c) clk #[] clk) (hN : t < N) :
    Rep ⟨fun c => F.B c ∧ c ≠ w.heap.size ∧ c ≠ l.c, w.alloc o, F.β0, F.b0⟩ N ⟨putA σ.sl (some t) (.ptr σ.b 0), upd σ.hp i none, σ.b + 64⟩ (a.put (some t) (.pointer (some ⟨w.heap.size, 0, none⟩))) (w.alloc o) := by
  obtain ⟨g1, g2, g3, g4, g5, g6, g7, g8, g9⟩ := h
  have hnb : β σ.b = none := by
    cases e : β σ.b with
    | none => rfl
    | some x => have := g4 σ.b (by rw [e]; simp); omega
  have hle : Beta.le β (β.put σ.b ⟨w.heap.size, 0, 0⟩) := ⟨fun j x hx => by
    show upd β.loc σ.b _ j = some x
    rw [upd_other _ _ (fun e => by subst e; rw [hnb] at hx; cases hx)]; exact hx, fun _ _ _ h => h⟩
  have hlt : l.c < w.heap.size := (Array.getElem?_eq_some_iff.1 hh).1
  have hcell : ∀ c o v, β.fz c o = some v → c ≠ w.heap.size ∧ c ≠ l.c := fun c q v hv => by
    have h1 := g3.fz c q v hv
    refine ⟨fun e => ?_, fun e => ?_⟩
    · have := cell_lt h1; omega
    · subst e; rw [cell_map hh] at h1; cases h1
  have hkeep : BelowP (fun c => w.heap.size ≤ c) w (w.alloc o) := BelowP.alloc w (Nat.le_refl _) o
  have h3 : HRel (β.put σ.b ⟨w.heap.size, 0, 0⟩) (upd σ.hp i none) (w.alloc o) (Bd.x (fun c => F.B c ∧ c ≠ w.heap.size ∧ c ≠ l.c) ds) := by
    refine HRel.mono (HRel.keep (HRel.shrink (g3.drop i) (fun j b x hj hx hxk => ?_) (fun c hc => ?_)) hkeep) hle rfl rfl
    · have hji : j ≠ i := fun e => by subst e; simp at hj
      rw [upd_other _ _ hji] at hj
      have h1 := g3.lt_of_own hj hx hxk
      exact ⟨⟨h1.2.1, by have := h1.1; omega, g3.sep j i b _ x l hji hj hm hx hl hxk hk⟩, h1.2.2⟩
    · have h1 := g3.ys c hc
      exact ⟨⟨h1.1.1, by have := h1.2; omega, fun e => g3.yo i _ l hm hl hk (e ▸ hc)⟩, h1.1.2⟩
  have hsz : (w.alloc o).heap.size = w.heap.size + 1 := by show (w.heap.push o).size = _; simp
  refine ⟨β.put σ.b ⟨w.heap.size, 0, 0⟩, ds, ⟨g1.le.trans hle, fun j hj => ?_, by have := g1.b; show F.b0 ≤ σ.b + 64; omega, fun c q hc => ?_⟩, ?_, h3, fun j hj => ?_, BelowP.refl _ _, fun c hc => ?_, ?_, ⟨g8.nodup, fun D hD => ?_⟩, ?_⟩
  · by_cases e : j = σ.b
    · exact .inr (by have := g1.b; show F.b0 ≤ j; omega)
    · exact g1.dom j (by
        have : (β.put σ.b ⟨w.heap.size, 0, 0⟩) j = β j := upd_other _ _ e
        rw [this] at hj; exact hj)
  · rcases g1.fz c q hc with e | e
    · exact .inl e
    · refine .inr ⟨e, ?_⟩
      cases hv : β.fz c q with
      | none => exact absurd hv hc
      | some v => exact hcell c q v hv
  · exact put_V (d := some t) (r := .ptr σ.b 0) (v := .pointer (some ⟨w.heap.size, 0, none⟩)) (fun t => V_mono hle _ _ (g2 t)) g9 (fun u hu => by cases hu; exact hN) (by
      simp only [V]
      exact ⟨⟨w.heap.size, 0, 0⟩, upd_same _ _ _, rfl⟩)
  · show j < σ.b + 64
    by_cases e : j = σ.b
    · omega
    · have : (β.put σ.b ⟨w.heap.size, 0, 0⟩) j = β j := upd_other _ _ e
      rw [this] at hj
      have := g4 j hj; omega
  · rw [hsz] at hc; exact ⟨g6 c (by omega), by omega, by omega⟩
  · rw [put_defers]; exact g7
  · have h1 := g8.at_ D hD
    have h2 : D < w.heap.size := (Array.getElem?_eq_some_iff.1 h1.2).1
    exact ⟨⟨h1.1, by omega, fun e => by subst e; rw [hh] at h1; cases h1.2⟩, (hkeep.block D (by simp; exact h2)).trans h1.2⟩
  · rw [put_size]; exact g9
theorem ents_of {β : Beta} {es : List (Nat × Int × Int)} {ents : Array MapEntry} (h : MRel β (encM .i64 (encE eI es)) ents) : ents.toList.map (·.born) = es.map (·.1) ∧ (∀ e ∈ ents.toList, ∃ p ∈ es, p.1 = e.born ∧ e.key = .int .i64 p.2.1 ∧ e.val = .int .i64 p.2.2) := by
  have hlen : ents.size = es.length := by rw [h.len]; simp [encM, encE]
  have hat : ∀ (j : Nat) (p : Nat × Int × Int), es[j]? = some p → ∃ e : MapEntry, ents[j]? = some e ∧ e.born = p.1 ∧ e.key = .int .i64 p.2.1 ∧ e.val = .int .i64 p.2.2 := fun j p hp => by
    obtain ⟨e, h1, h2, h3, h4⟩ := h.rel j (p.1, .int .i64 p.2.1, eI p.2.2) (by simp [encM, encE, hp])
    refine ⟨e, h1, h2, ?_, ?_⟩
    · simpa [V] using h3
    · simpa [V, eI] using h4
  refine ⟨List.ext_getElem? fun j => ?_, fun e he => ?_⟩
  · rw [List.getElem?_map, List.getElem?_map]
    cases hp : es[j]? with
    | none =>
      have : ents.toList[j]? = none := by
        rw [List.getElem?_eq_none_iff] at hp ⊢
        rw [Array.length_toList]; omega
      rw [this]; rfl
    | some p =>
      obtain ⟨e, h1, h2, _⟩ := hat j p hp
      rw [Array.getElem?_toList, h1]; simp [h2]
  · obtain ⟨j, hj⟩ := List.mem_iff_getElem?.1 he
    rw [Array.getElem?_toList] at hj
    have hlt : j < es.length := by rw [← hlen]; exact (Array.getElem?_eq_some_iff.1 hj).1
    obtain ⟨e', h1, h2, h3, h4⟩ := hat j es[j] (List.getElem?_eq_getElem hlt)
    rw [hj] at h1; cases h1
    exact ⟨es[j], List.getElem_mem hlt, h2.symm, h3, h4⟩
structure LpI {S : Type} (F : Fr) (N ri lm : Nat) (l63 : Loc) (ents : Array MapEntry) (es : List (Nat × Int × Int)) (clk : Nat) (I : S → AS) (step : S → Int → Int → S) (s0 : S) (n : Nat) (done : List (Nat × Int × Int)) (seen : Array Nat) (a : Act) (w : World) : Prop where
  n : n = (leftOf ents seen).size
  sn : seen.toList = done.map (·.1)
  nd : (done.map (·.1)).Nodup
  sub : ∀ p ∈ done, p ∈ es
  rep : Rep (F.lp ri lm l63 w) N (I (done.foldl (fun s p => step s p.2.1 p.2.2) s0)) a w
  it : w.heap[ri]? = some (.mapIter (some lm) clk seen clk)
  mp : w.heap[lm]? = some (.map ents clk)
  bl : BelowP F.B F.w0 w
  top : F.B.top w.heap.size
theorem nodup_fst {α β : Type} {l : List (α × β)} (h : (l.map (·.1)).Nodup) : l.Nodup := by
  induction l with
  | nil => exact List.nodup_nil
  | cons x l ih =>
    simp only [List.map_cons, List.nodup_cons] at h ⊢
    exact ⟨fun hx => h.1 (List.mem_map_of_mem hx), ih h.2⟩
theorem fst_inj {α β : Type} {l : List (α × β)} (h : (l.map (·.1)).Nodup) {p q : α × β} (hp : p ∈ l) (hq : q ∈ l) (e : p.1 = q.1) : p = q := by
  induction l with
  | nil => cases hp
  | cons x l ih =>
    simp only [List.map_cons, List.nodup_cons] at h
    rcases List.mem_cons.1 hp with rfl | hp' <;> rcases List.mem_cons.1 hq with rfl | hq'
    · rfl
    · exact absurd (e ▸ List.mem_map_of_mem hq') h.1
    · exact absurd (e ▸ List.mem_map_of_mem hp') h.1
    · exact ih h.2 hp' hq'
theorem HT_rmap {E : Env} {N : Nat} {S : Type} {m : GM Int} {i : Nat} {T kT eT : TypeId} {id0 id1 id2 B0 B1 : Nat} {o17 o18 o19 o20 o21 o22 o23 o9 o10 : Oper} {tm t17 t18 t19 t20 t21 t22 t23 t9 t10 : Tmp} {y : Code} {σ : AS} {Q : Exit → AS → Prop}
    (hcl : E.cl = true) (hrd : E.rd = false)
    (h17 : IsOp o17 (.move (.tmp tm)) t17) (h18 : IsOp o18 (.range T (.tmp t17)) t18) (h19 : IsOp o19 (.next (.tmp t18) false) t19) (h20 : IsOp o20 (.extract (.tmp t19) 0) t20)
    (h21 : IsOp o21 (.entry (.tmp t18)) t21) (h22 : IsOp o22 (.extract (.tmp t21) 0) t22) (h23 : IsOp o23 (.extract (.tmp t21) 1) t23) (h9 : IsOp o9 (.assign (.tmp t22)) t9) (h10 : IsOp o10 (.assign (.tmp t23)) t10)
    (hT : E.P.underlying T = some (.map kT eT)) (hN : t17 < N ∧ t18 < N ∧ t19 < N ∧ t20 < N ∧ t21 < N ∧ t22 < N ∧ t23 < N ∧ t9 < N ∧ t10 < N) (hne : t21 ≠ t22 ∧ t22 ≠ t23 ∧ t23 ≠ t9)
    (hi : σ.sl tm = .mp i) (hm : σ.hp i = some (abM eI m)) (hS : (∀ p ∈ m.es, p.1 < m.clk) ∧ (m.es.map (·.1)).Nodup)
    (I : S → AS) (s0 : S) (step : S → Int → Int → S)
    (h0 : ∃ L, WeakN 32 L ⟨putA (putA σ.sl (some t17) .top) (some t18) (.ptr σ.b 0), upd σ.hp i none, σ.b + 64⟩ (I s0))
    (hI : ∀ s, (I s).sl t18 = .ptr 63 0) (hI2 : ∀ s, (I s).sl t19 = .top ∧ (I s).sl t20 = .top ∧ (I s).sl t21 = .top ∧ (I s).sl t22 = .top ∧ (I s).sl t23 = .top)
    (hy : ∀ s b k v, (b, k, v) ∈ m.es → HT { E with rd := true } N y ⟨putA (putA (I s).sl (some t9) (.int .i64 k)) (some t10) (.int .i64 v), (I s).hp, (I s).b⟩ (fun e σ' => (e = .normal ∨ e = .exit B1) ∧ ∃ L, Weak L σ' (I (step s k v))))
    (hend : ∀ L' : List (Nat × Int × Int), L'.Perm m.es → Q .normal (I (L'.foldl (fun s p => step s p.2.1 p.2.2) s0))) :
    HT E N (.seq (.region id0 #[o17, o18] false) (.block B0 (.loop (.seq (.region id1 #[o19, o20] false) (.seq (.cond (.tmp t20) .skip (.exit B0)) (.block B1 (.seq (.region id2 #[o21, o22, o23, o9, o10] false) y))))))) σ Q := by
  intro ro F a w hro hF hr
  have hF' : F.ok true false := by rw [hcl, hrd] at hF; exact hF
  obtain ⟨n17, n18, n19, n20, n21, n22, n23, n9, n10⟩ := hN
  obtain ⟨hne1, hne2, hne3⟩ := hne
  obtain ⟨β, ds, hr⟩ := hr
  obtain ⟨g1, g2, g3, g4, g5, g6, g7, g8, g9⟩ := id hr
  obtain ⟨l, hl, hk, hB, ents, hh, hmr⟩ := g3.map i _ _ hm
  obtain ⟨hb1, hb2⟩ := ents_of hmr
  have hv : a.eval (.tmp tm) = .map (some l.c) := by
    have := g2 tm
    rw [hi] at this
    simp only [V] at this
    obtain ⟨l', e1, e2⟩ := this
    rw [hl] at e1; cases e1; exact e2
  have hr1 : Since F β (AS.mk (putA σ.sl (some t17) .top) σ.hp σ.b).b ∧ (∀ t, V β ((AS.mk (putA σ.sl (some t17) .top) σ.hp σ.b).sl t) ((a.put (some t17) (.map (some l.c))).tmps.getD t undef)) ∧ HRel β (AS.mk (putA σ.sl (some t17) .top) σ.hp σ.b).hp w (F.Bx ds) ∧ (∀ j, β j ≠ none → j < (AS.mk (putA σ.sl (some t17) .top) σ.hp σ.b).b) ∧ BelowP F.B F.w0 w ∧ F.B.top w.heap.size ∧ (a.put (some t17) (.map (some l.c))).defers = ds.map mark ∧ Marks F ds w ∧ (a.put (some t17) (.map (some l.c))).tmps.size = N :=
    ⟨g1, put_V (d := some t17) (r := .top) (v := .map (some l.c)) g2 g9 (fun u hu => by cases hu; exact n17) (by simp [V]), g3, g4, g5, g6, by rw [put_defers]; exact g7, g8, by rw [put_size]; exact g9⟩
  have r1 := Rep.tolp (o := .mapIter (some l.c) m.clk #[] m.clk) hr1 hm hl hk hh rfl n18
  obtain ⟨L, hw⟩ := h0
  have r2 := WeakN.rep (rd := false) (Nat.le_refl _) hw (F := ⟨fun c => F.B c ∧ c ≠ w.heap.size ∧ c ≠ l.c, w.alloc (.mapIter (some l.c) m.clk #[] m.clk), F.β0, F.b0⟩) hF' r1
  have hv2 : ((a.put (some t17) (.map (some l.c))).put (some t18) (.pointer (some ⟨w.heap.size, 0, none⟩))).eval (.tmp t18) = .pointer (some ⟨w.heap.size, 0, none⟩) := eval_put (by rw [put_size, g9]; exact n18)
  refine wpIn_seq (wpIn_region ?_)
  show wpOpsIn (fen ro) 0 E.P #[o17, o18] _ [0, 1] a w
  refine ops_step (o := o17) (v := .map (some l.c)) (w' := w) rfl h17 nofun (by rw [run_move h17, hv]) ?_
  refine ops_step (o := o18) (v := .pointer (some ⟨w.heap.size, 0, none⟩)) (w' := w.alloc (.mapIter (some l.c) m.clk #[] m.clk)) rfl h18 nofun ?_ (ops_end ?_)
  · refine run_of (s := Instr.range T (.map (some l.c))) ?_ (run_range_map w T kT eT l.c ents m.clk hT hh)
    unfold execOp; rw [h18.1]
    simp only [eval_put (v := Value.map (some l.c)) (show t17 < a.tmps.size by rw [g9]; exact n17)]
  generalize ha2 : (a.put (some t17) (.map (some l.c))).put (some t18) (.pointer (some ⟨w.heap.size, 0, none⟩)) = a2 at r2 hv2 ⊢
  clear ha2 hr1 r1
  obtain ⟨β2, ds2, k1, k2, k3, k4, k5, k6, k7, k8, k9⟩ := r2
  have hv18 := k2 t18
  rw [hI s0] at hv18
  simp only [V] at hv18
  obtain ⟨l63, e63, e63'⟩ := hv18
  have hv3 : a2.tmps.getD t18 undef = .pointer (some ⟨w.heap.size, 0, none⟩) := hv2
  rw [hv3] at e63'
  have hc : l63.c = w.heap.size := by injection e63' with e; injection e with e; injection e with e1 e2; exact e1.symm
  have ho : l63.o = 0 := by injection e63' with e; injection e with e; injection e with e1 e2; omega
  have hBri : F.B w.heap.size := g6 _ (Nat.le_refl _)
  have hlt : l.c < w.heap.size := (Array.getElem?_eq_some_iff.1 hh).1
  have hold : ∀ x ∈ ents.toList, x.born < m.clk := fun x hx => by
    obtain ⟨p, hp, e, _⟩ := hb2 x hx
    rw [← e]; exact hS.1 p hp
  have hnd : (ents.toList.map (·.born)).Nodup := by rw [hb1]; exact hS.2
  have hkeep : BelowP F.B w (w.alloc (.mapIter (some l.c) m.clk #[] m.clk)) := BelowP.of g6 (BelowP.alloc w (Nat.le_refl _) _)
  have J0 : LpI F N w.heap.size l.c l63 ents m.es m.clk I step s0 (leftOf ents #[]).size [] #[] a2 (w.alloc (.mapIter (some l.c) m.clk #[] m.clk)) :=
    ⟨rfl, rfl, List.nodup_nil, nofun, ⟨β2, ds2, ⟨⟨fun j x hx => by
      simp only [Fr.lp] at hx
      by_cases e : j = 63
      · subst e; rw [if_pos rfl] at hx; cases hx; exact e63
      · rw [if_neg e] at hx; exact k1.le.loc j x hx, k1.le.fz⟩, fun j _ => .inr (Nat.zero_le _), Nat.zero_le _, k1.fz⟩, k2, k3, k4, BelowP.refl _ _, k6, k7, k8, k9⟩,
      heap_alloc_new _ _, (heap_alloc_old _ _ hlt).trans hh, g5.trans hkeep, g6.mono (hkeep.size)⟩
  generalize (w.alloc (.mapIter (some l.c) m.clk #[] m.clk)) = w1 at J0 ⊢
  generalize w.heap.size = ri at hc hBri J0
  generalize l.c = lm at J0
  clear hr g2 g3 g4 g5 g6 g7 g8 g9 g1 k1 k2 k3 k4 k5 k6 k7 k8 k9 hkeep hv2 hv3 e63' hv hw
  refine wpIn_block (wpIn_loop_ghost (fun n a w => ∃ done seen, LpI F N ri lm l63 ents m.es m.clk I step s0 n done seen a w) _ ⟨[], #[], J0⟩ fun n a w ⟨done, seen, J⟩ => ?_)
  have hsz : a.tmps.size = N := by obtain ⟨_, _, _, _, _, _, _, _, _, _, h⟩ := J.rep; exact h
  have hv18 := J.rep.lp18 hc ho (hI _)
  rcases next_map (P := E.P) (ty := o19.type) J.it J.mp hold with ⟨z, hrun⟩ | ⟨e, he, w2, hw2, hrun⟩
  · refine wpIn_seq (wpIn_region ?_)
    show wpOpsIn (fen ro) 0 E.P #[o19, o20] _ [0, 1] a w
    refine ops_step (o := o19) (v := .tuple #[.bool false]) (w' := w) rfl h19 nofun (run_of (s := Instr.next (.pointer (some ⟨ri, 0, none⟩)) false o19.type) (by unfold execOp; rw [h19.1]; simp only [hv18]) hrun) ?_
    refine ops_step (o := o20) (v := .bool false) (w' := w) rfl h20 nofun (run_extract h20 (eval_put (by rw [hsz]; exact n19)) rfl) (ops_end ?_)
    refine wpIn_seq (wpIn_cond_false (eval_put (by rw [put_size, hsz]; exact n20)) (wpIn_exit ?_))
    simp only [Exit.then, Exit.inBlock, if_true]
    refine ⟨_, hend done ?_, Rep.unlp ((J.rep.put_top n19 (hI2 _).1).put_top n20 (hI2 _).2.1) hF' J.bl J.top⟩
    refine (List.perm_ext_iff_of_nodup (nodup_fst J.nd) (nodup_fst hS.2)).2 fun p => ⟨J.sub p, fun hp => ?_⟩
    have h1 : p.1 ∈ ents.toList.map (·.born) := by rw [hb1]; exact List.mem_map_of_mem hp
    obtain ⟨e, he, heb⟩ := List.mem_map.1 h1
    have h2 : seen.contains e.born = true := by
      cases hcn : seen.contains e.born with
      | true => rfl
      | false =>
        have : e ∈ leftOf ents seen := Array.mem_filter.2 ⟨Array.mem_toList_iff.1 he, by rw [hcn]; rfl⟩
        have := Array.size_pos_of_mem this
        omega
    have h3 : p.1 ∈ done.map (·.1) := by
      rw [← J.sn, ← heb]
      exact Array.mem_toList_iff.2 (by simpa using h2)
    obtain ⟨q, hq, hqp⟩ := List.mem_map.1 h3
    have := fst_inj hS.2 (J.sub q hq) hp hqp
    rw [← this]; exact hq
  · obtain ⟨p, hp, hpb, hpk, hpv⟩ := hb2 e (mem_left he).1
    have hlm : lm ≠ ri := fun h => by
      have h1 := J.it; have h2 := J.mp
      rw [h, h1] at h2; cases h2
    have hh2 : w2.heap = w.heap := by rcases hw2 with rfl | rfl <;> rfl
    have hri : ri < w2.heap.size := by rw [hh2]; exact (Array.getElem?_eq_some_iff.1 J.it).1
    have it2 := setO_same (w := w2) (o := .mapIter (some lm) m.clk (seen.push e.born) m.clk) hri
    have mp2 : (setO w2 ri (.mapIter (some lm) m.clk (seen.push e.born) m.clk)).heap[lm]? = some (.map ents m.clk) := by rw [setO_other hlm, hh2]; exact J.mp
    have rep2 := J.rep.setO (o := .mapIter (some lm) m.clk (seen.push e.born) m.clk) hw2 (fun q => cell_iter J.it)
    have bl2 := J.bl.setO (o := .mapIter (some lm) m.clk (seen.push e.born) m.clk) hw2 hBri
    have sz2 : (setO w2 ri (.mapIter (some lm) m.clk (seen.push e.born) m.clk)).heap.size = w.heap.size := by rw [setO_size, hh2]
    generalize setO w2 ri (.mapIter (some lm) m.clk (seen.push e.born) m.clk) = w3 at hrun it2 mp2 rep2 bl2 sz2
    have rep3 := (rep2.put_top n19 (hI2 _).1 (v := .tuple #[.bool true, e.key, e.val])).put_top n20 (hI2 _).2.1 (v := .bool true)
    have hv3 := rep3.lp18 hc ho (hI _)
    refine wpIn_seq (wpIn_region ?_)
    show wpOpsIn (fen ro) 0 E.P #[o19, o20] _ [0, 1] a w
    refine ops_step (o := o19) (v := .tuple #[.bool true, e.key, e.val]) (w' := w3) rfl h19 nofun (run_of (s := Instr.next (.pointer (some ⟨ri, 0, none⟩)) false o19.type) (by unfold execOp; rw [h19.1]; simp only [hv18]) hrun) ?_
    refine ops_step (o := o20) (v := .bool true) (w' := w3) rfl h20 nofun (run_extract h20 (eval_put (by rw [hsz]; exact n19)) rfl) (ops_end ?_)
    refine wpIn_seq (wpIn_cond_true (eval_put (by rw [put_size, hsz]; exact n20)) (wpIn_skip ?_))
    refine wpIn_block (wpIn_seq (wpIn_region ?_))
    generalize (a.put (some t19) (.tuple #[.bool true, e.key, e.val])).put (some t20) (.bool true) = a3 at rep3 hv3 ⊢
    have hsz3 : a3.tmps.size = N := by obtain ⟨_, _, _, _, _, _, _, _, _, _, h⟩ := rep3; exact h
    show wpOpsIn (fen ro) 0 E.P #[o21, o22, o23, o9, o10] _ [0, 1, 2, 3, 4] a3 w3
    refine ops_step (o := o21) (v := .tuple #[e.key, e.val]) (w' := w3) rfl h21 nofun (run_of (s := Instr.entry (.pointer (some ⟨ri, 0, none⟩))) (by unfold execOp; rw [h21.1]; simp only [hv3]) (entry_map it2 mp2 (mem_left he).1 hnd)) ?_
    refine ops_step (o := o22) (v := .int .i64 p.2.1) (w' := w3) rfl h22 nofun (run_extract h22 (eval_put (by rw [hsz3]; exact n21)) (by rw [hpk]; rfl)) ?_
    refine ops_step (o := o23) (v := .int .i64 p.2.2) (w' := w3) rfl h23 nofun (run_extract h23 (by rw [eval_put_ne hne1]; exact eval_put (by rw [hsz3]; exact n21)) (by rw [hpv]; rfl)) ?_
    refine ops_step (o := o9) (v := .int .i64 p.2.1) (w' := w3) rfl h9 nofun (by rw [run_assign h9, eval_put_ne hne2, eval_put (by rw [put_size, hsz3]; exact n22)]) ?_
    refine ops_step (o := o10) (v := .int .i64 p.2.2) (w' := w3) rfl h10 nofun (by rw [run_assign h10, eval_put_ne hne3, eval_put (by rw [put_size, put_size, hsz3]; exact n23)]) (ops_end ?_)
    have rep4 := ((((rep3.put_top n21 (hI2 _).2.2.1 (v := .tuple #[e.key, e.val])).put_top n22 (hI2 _).2.2.2.1 (v := .int .i64 p.2.1)).put_top n23 (hI2 _).2.2.2.2 (v := .int .i64 p.2.2)).put_int n9 (k := p.2.1)).put_int n10 (k := p.2.2)
    refine wpIn_mono (hy _ p.1 p.2.1 p.2.2 hp ro _ _ w3 (fun h => by cases h) (by show Fr.ok _ E.cl true; rw [hcl]; exact Fr.lp_ok hF') rep4) fun e' a' w' hq => ?_
    obtain ⟨σ', ⟨he', L', hw'⟩, r'⟩ := hq
    have r5 := Weak.rep hw' (Fr.lp_ok hF') r'
    have b5 : BelowP (fun c => F.B c ∧ c ≠ ri ∧ c ≠ lm) w3 w' := by obtain ⟨_, _, _, _, _, _, h, _⟩ := r5; exact h
    have key : ∃ m', m' < n ∧ ∃ done seen, LpI F N ri lm l63 ents m.es m.clk I step s0 m' done seen a' w' := by
      refine ⟨(leftOf ents (seen.push e.born)).size, by rw [J.n]; exact left_shrinks ents seen e he, done ++ [p], seen.push e.born, rfl, by simp [J.sn, hpb], ?_, fun q hq => ?_, by rw [List.foldl_append]; exact r5.relp, (b5.block ri fun h => h.2.1 rfl).trans it2, (b5.block lm fun h => h.2.2 rfl).trans mp2, bl2.trans (b5.weaken fun c h => h.1), J.top.mono (by rw [← sz2]; exact b5.size)⟩
      · rw [List.map_append, List.nodup_append]
        refine ⟨J.nd, by simp, fun x hx y hy => ?_⟩
        simp at hy; subst hy
        intro hxp; subst hxp
        have h1 := (mem_left he).2
        rw [← J.sn, hpb] at hx
        have : seen.contains e.born = true := by simpa using Array.mem_toList_iff.1 hx
        rw [this] at h1; cases h1
      · rcases List.mem_append.1 hq with h | h
        · exact J.sub q h
        · simp at h; subst h; exact hp
    rcases he' with rfl | rfl
    · exact key
    · simp only [Exit.inBlock, if_true]; exact key
theorem Rep.put_any {F : Fr} {N : Nat} {w : World} {sl : Nat → AV} {hp : Heap} {b : Nat} {a : Act} {t : Tmp} {v : Value} (h : Rep F N ⟨sl, hp, b⟩ a w) (hN : t < N) : Rep F N ⟨putA sl (some t) .top, hp, b⟩ (a.put (some t) v) w := by
  obtain ⟨β, ds, g1, g2, g3, g4, g5, g6, g7, g8, g9⟩ := h
  exact ⟨β, ds, g1, put_V (d := some t) (r := .top) (v := v) g2 g9 (fun u hu => by cases hu; exact hN) (by simp [V]), g3, g4, g5, g6, by rw [put_defers]; exact g7, g8, by rw [put_size]; exact g9⟩
theorem Rep.alloc {F : Fr} {N : Nat} {w : World} {σ : AS} {a : Act} {o : Obj} (h : Rep F N σ a w) : Rep F N σ a (w.alloc o) := by
  obtain ⟨β, ds, g1, g2, g3, g4, g5, g6, g7, g8, g9⟩ := h
  have hkeep : BelowP (fun c => w.heap.size ≤ c) w (w.alloc o) := BelowP.alloc w (Nat.le_refl _) o
  exact ⟨β, ds, g1, g2, g3.keep hkeep, g4, g5.trans (BelowP.of g6 hkeep), g6.mono hkeep.size, g7, ⟨g8.nodup, fun D hD => ⟨(g8.at_ D hD).1, (hkeep.block D (by
    have := (Array.getElem?_eq_some_iff.1 (g8.at_ D hD).2).1
    simp; exact this)).trans (g8.at_ D hD).2⟩⟩, g9⟩
theorem HT_rmapN {E : Env} {N : Nat} {T kT eT : TypeId} {id0 id1 B0 : Nat} {o17 o18 o19 o20 : Oper} {tm t17 t18 t19 t20 : Tmp} {y : Code} {σ : AS} {Q : Exit → AS → Prop}
    (h17 : IsOp o17 (.move (.tmp tm)) t17) (h18 : IsOp o18 (.range T (.tmp t17)) t18) (h19 : IsOp o19 (.next (.tmp t18) false) t19) (h20 : IsOp o20 (.extract (.tmp t19) 0) t20)
    (hT : E.P.underlying T = some (.map kT eT)) (hN : t17 < N ∧ t18 < N ∧ t19 < N ∧ t20 < N) (hi : σ.sl tm = .nilm)
    (hend : Q .normal ⟨putA (putA (putA (putA σ.sl (some t17) .top) (some t18) .top) (some t19) .top) (some t20) .top, σ.hp, σ.b⟩) :
    HT E N (.seq (.region id0 #[o17, o18] false) (.block B0 (.loop (.seq (.region id1 #[o19, o20] false) (.seq (.cond (.tmp t20) .skip (.exit B0)) y))))) σ Q := by
  intro ro F a w hro hF hr
  obtain ⟨n17, n18, n19, n20⟩ := hN
  have hsz : a.tmps.size = N := by obtain ⟨_, _, _, _, _, _, _, _, _, _, h⟩ := hr; exact h
  have hv : a.eval (.tmp tm) = .map none := by
    obtain ⟨β, ds, g1, g2, _⟩ := hr
    have := g2 tm
    rw [hi] at this
    simp only [V] at this; exact this
  have r1 := ((Rep.put_any (sl := σ.sl) (hp := σ.hp) (b := σ.b) (v := .map none) hr n17).put_any n18 (v := .pointer (some ⟨w.heap.size, 0, none⟩))).alloc (o := .mapIter none 0 #[] 0)
  have hv2 : ((a.put (some t17) (.map none)).put (some t18) (.pointer (some ⟨w.heap.size, 0, none⟩))).eval (.tmp t18) = .pointer (some ⟨w.heap.size, 0, none⟩) := eval_put (by rw [put_size, hsz]; exact n18)
  refine wpIn_seq (wpIn_region ?_)
  show wpOpsIn (fen ro) 0 E.P #[o17, o18] _ [0, 1] a w
  refine ops_step (o := o17) (v := .map none) (w' := w) rfl h17 nofun (by rw [run_move h17, hv]) ?_
  refine ops_step (o := o18) (v := .pointer (some ⟨w.heap.size, 0, none⟩)) (w' := w.alloc (.mapIter none 0 #[] 0)) rfl h18 nofun ?_ (ops_end ?_)
  · refine run_of (s := Instr.range T (.map none)) ?_ (run_range_nilMap w T kT eT hT)
    unfold execOp; rw [h18.1]
    simp only [eval_put (v := Value.map none) (show t17 < a.tmps.size by rw [hsz]; exact n17)]
  refine wpIn_block (wpIn_loop_ghost (fun _ a w' => a.tmps.size = N ∧ a.eval (.tmp t18) = .pointer (some ⟨w.heap.size, 0, none⟩) ∧ w'.heap[w.heap.size]? = some (.mapIter none 0 #[] 0) ∧ Rep F N ⟨putA (putA σ.sl (some t17) .top) (some t18) .top, σ.hp, σ.b⟩ a w') 0 ⟨by rw [put_size, put_size]; exact hsz, hv2, heap_alloc_new _ _, r1⟩ fun n a w' ⟨hs, hv, hh, r⟩ => ?_)
  refine wpIn_seq (wpIn_region ?_)
  show wpOpsIn (fen ro) 0 E.P #[o19, o20] _ [0, 1] a w'
  refine ops_step (o := o19) (v := .tuple #[.bool false]) (w' := w') rfl h19 nofun (run_of (s := Instr.next (.pointer (some ⟨w.heap.size, 0, none⟩)) false o19.type) (by unfold execOp; rw [h19.1]; simp only [hv]) (next_nil hh)) ?_
  refine ops_step (o := o20) (v := .bool false) (w' := w') rfl h20 nofun (run_extract h20 (eval_put (by rw [hs]; exact n19)) rfl) (ops_end ?_)
  refine wpIn_seq (wpIn_cond_false (eval_put (by rw [put_size, hs]; exact n20)) (wpIn_exit ?_))
  simp only [Exit.then, Exit.inBlock, if_true]
  exact ⟨_, hend, (r.put_any n19).put_any n20⟩
end Go.Eng
namespace Go.Eng
open Go Go.ChangeShapes Go.WideShapes Go.RowKit
def allB (w : World) : Beta := ⟨fun _ => none, fun c o => w.cell? ⟨c, o, none⟩, fun _ => False⟩
def Opn (P : Program) (t : TypeId) {α : Type} (enc : α → AV) (ok : α → Prop) : Prop :=
  ∀ {H : Type} (eh : TypeId × Value → H) (w : World) (fuel : Nat) (cs : List Value) (x : DataW H × List MemPlace), DataW.trod eh P w 0 (fun _ => true) true fuel t cs = some x → ∃ a : α, ok a ∧ Vs (allB w) (cellsL (enc a)) cs
def Opn1 (P : Program) (t : TypeId) {α : Type} (enc : α → AV) : Prop :=
  (aggT P t = some true ∧ ∀ a, enc a = .agg (cellsL (enc a))) ∨ (aggT P t = some false ∧ ∀ a, cellsL (enc a) = [enc a] ∧ (enc a).flat = true)
def OpV (P : Program) (t : TypeId) {α : Type} (enc : α → AV) (ok : α → Prop) : Prop :=
  ∀ {H : Type} (eh : TypeId × Value → H) (w : World) (r : Reach) (b : Nat) (v : Value) (d : DataW H) (ps : List MemPlace), Value.okWide P w r b t v → DataW.Trod eh P w 0 (fun _ => true) true t v d ps → ∃ a : α, ok a ∧ V (allB w) (enc a) v
def okI (n : Int) : Prop := -9223372036854775808 ≤ n ∧ n ≤ 9223372036854775807
def okB (_ : Bool) : Prop := True
def okL {α : Type} (ok : α → Prop) (l : List α) : Prop := (∀ a ∈ l, ok a) ∧ l.length ≤ 9223372036854775807
theorem Op_int {P : Program} {t : TypeId} (h : P.underlying t = some (.int .i64)) : Opn P t eI okI := fun eh w fuel cs x hx => by
  obtain ⟨n, rfl, _, hw⟩ := DataW.trod_int h hx
  refine ⟨n, ?_, by simp [cellsL, AV.cells, eI, Vs, V]⟩
  simp only [Lit.wf, Bool.and_eq_true, decide_eq_true_eq] at hw
  unfold okI
  have h1 : IntKind.i64.min = -9223372036854775808 := by decide
  have h2 : IntKind.i64.max = 9223372036854775807 := by decide
  rw [h1, h2] at hw; exact hw
theorem OpV_of {P : Program} {t : TypeId} {α : Type} {enc : α → AV} {ok : α → Prop} (h : Opn P t enc ok) (h1 : Opn1 P t enc) (h2 : aggT P t = some false → ∀ (w : World) (r : Reach) (b : Nat) (v : Value), Value.okWide P w r b t v → v.cells = #[v]) : OpV P t enc ok := fun eh w r b v d ps hv hd => by
  obtain ⟨fuel, hx⟩ := hd
  obtain ⟨a, ha, hs⟩ := h eh w fuel _ _ hx
  refine ⟨a, ha, ?_⟩
  rcases h1 with ⟨ht, he⟩ | ⟨ht, he⟩
  · have hagg : ∃ cs, v = .agg cs := by
      unfold aggT at ht
      unfold Value.okWide at hv
      cases hu : P.underlying t with
      | none => rw [hu] at ht; cases ht
      | some u =>
        rw [hu] at ht hv
        cases u with
        | struct fs => obtain ⟨cs, rfl, _⟩ := hv; exact ⟨cs, rfl⟩
        | array n e => obtain ⟨cs, rfl, _⟩ := hv; exact ⟨cs, rfl⟩
        | _ => cases ht
    obtain ⟨cs, rfl⟩ := hagg
    rw [he]
    simp only [V]
    exact ⟨cs.toList, by simp, by simpa [Value.cells] using hs⟩
  · rw [(he a).1, h2 ht w r b v hv] at hs
    simp only [Vs] at hs
    obtain ⟨v', vs', e, hV, rfl⟩ := hs
    simp at e; subst e; exact hV
theorem one_int {P : Program} {t : TypeId} (h : P.underlying t = some (.int .i64)) (w : World) (r : Reach) (b : Nat) (v : Value) (hv : Value.okWide P w r b t v) : v.cells = #[v] := by
  obtain ⟨n, rfl⟩ := okWide_int h hv; rfl
theorem one_slice {P : Program} {t e : TypeId} (h : P.underlying t = some (.slice e)) (w : World) (r : Reach) (b : Nat) (v : Value) (hv : Value.okWide P w r b t v) : v.cells = #[v] := by
  simp only [Value.okWide, h, Cell.okWide, Cell.ok] at hv
  cases v <;> simp_all [Value.cells]
def OpFs (P : Program) (o : Nat) (fs : List (TypeId × Nat)) {α : Type} (encs : α → List AV) (ok : α → Prop) : Prop :=
  ∀ {H : Type} (eh : TypeId × Value → H) (w : World) (fuel : Nat) (cs : List Value) (xs : List (DataW H × List MemPlace)),
    (fs.mapM fun f => DataW.trod eh P w 0 (fun _ => true) true fuel f.1 ((cs.drop f.2).take (P.cellsOf f.1))) = some xs → cs.length = o + (fs.map fun f => P.cellsOf f.1).sum → ∃ a : α, ok a ∧ Vs (allB w) (encs a) (cs.drop o)
theorem OpFs_nil {P : Program} {o : Nat} : OpFs P o [] (fun _ : Unit => []) (fun _ => True) := fun eh w fuel cs xs _ hl => by
  simp at hl
  exact ⟨(), trivial, by rw [List.drop_eq_nil_of_le (by omega)]; simp [Vs]⟩
theorem OpFs_cons {P : Program} {o o' sz : Nat} {t : TypeId} {fs : List (TypeId × Nat)} {α β : Type} {enc : α → AV} {ok : α → Prop} {encs : β → List AV} {oks : β → Prop} (h : Opn P t enc ok) (hsz : P.cellsOf t = sz) (ho : o' = o + sz) (k : OpFs P o' fs encs oks) :
    OpFs P o ((t, o) :: fs) (fun p : α × β => cellsL (enc p.1) ++ encs p.2) (fun p => ok p.1 ∧ oks p.2) := fun eh w fuel cs xs hx hl => by
  subst ho hsz
  simp only [List.mapM_cons, List.map_cons, List.sum_cons] at hx hl
  cases h1 : DataW.trod eh P w 0 (fun _ => true) true fuel t ((cs.drop o).take (P.cellsOf t)) with
  | none => rw [h1] at hx; simp at hx
  | some y =>
    rw [h1] at hx
    cases h2 : (fs.mapM fun f => DataW.trod eh P w 0 (fun _ => true) true fuel f.1 ((cs.drop f.2).take (P.cellsOf f.1))) with
    | none => rw [h2] at hx; simp at hx
    | some ys =>
      obtain ⟨a, ha, hva⟩ := h eh w fuel _ _ h1
      obtain ⟨b, hb, hvb⟩ := k eh w fuel cs ys h2 (by omega)
      refine ⟨(a, b), ⟨ha, hb⟩, ?_⟩
      have := Vs_append hva hvb
      rw [show cs.drop (o + P.cellsOf t) = (cs.drop o).drop (P.cellsOf t) by rw [List.drop_drop], List.take_append_drop] at this
      exact this
theorem Op_array {P : Program} {t e : TypeId} {n : Nat} {fs : List (TypeId × Nat)} {α β : Type} {encs : β → List AV} {oks : β → Prop} {enc : α → AV} {ok : α → Prop} (ht : P.underlying t = some (.array n e)) (hF : (List.range n).map (fun i => (e, i * P.cellsOf e)) = fs)
    (hn : P.cellsOf t = (fs.map fun f => P.cellsOf f.1).sum) (k : OpFs P 0 fs encs oks) (g : β → α) (he : ∀ p, cellsL (enc (g p)) = encs p) (hk : ∀ p, oks p → ok (g p)) : Opn P t enc ok := fun eh w fuel cs x hx => by
  cases fuel with
  | zero => simp [DataW.trod] at hx
  | succ m =>
    subst hF
    have key : cs.length = P.cellsOf t ∧ ∃ xs, ((List.range n).mapM fun i => DataW.trod eh P w 0 (fun _ => true) true m e ((cs.drop (i * P.cellsOf e)).take (P.cellsOf e))) = some xs := by
      unfold DataW.trod at hx
      rw [ht] at hx
      simp only at hx
      split at hx
      · rename_i hl
        refine ⟨hl, ?_⟩
        cases hm : ((List.range n).mapM fun i => DataW.trod eh P w 0 (fun _ => true) true m e ((cs.drop (i * P.cellsOf e)).take (P.cellsOf e))) with
        | none => rw [hm] at hx; simp at hx
        | some xs => exact ⟨xs, rfl⟩
      · cases hx
    obtain ⟨hl, xs, hm⟩ := key
    obtain ⟨p, hp, hv⟩ := k eh w m cs xs (by rw [List.mapM_map]; exact hm) (by rw [hl, hn]; omega)
    exact ⟨g p, hk p hp, by rw [he]; exact hv⟩
theorem mapM_get {α β : Type} {f : α → Option β} : ∀ {l : List α} {ys : List β}, l.mapM f = some ys → ys.length = l.length ∧ ∀ (j : Nat) (a : α), l[j]? = some a → ∃ y, f a = some y
  | [], ys, h => by simp at h; subst h; exact ⟨rfl, fun j a ha => by simp at ha⟩
  | x :: l, ys, h => by
    simp only [List.mapM_cons] at h
    cases h1 : f x with
    | none => rw [h1] at h; simp at h
    | some y =>
      cases h2 : l.mapM f with
      | none => rw [h1, h2] at h; simp at h
      | some zs =>
        rw [h1, h2] at h; simp at h; subst h
        obtain ⟨e1, e2⟩ := mapM_get h2
        refine ⟨by simp [e1], fun j a ha => ?_⟩
        cases j with
        | zero => simp at ha; subst ha; exact ⟨y, h1⟩
        | succ j => exact e2 j a (by simpa using ha)
theorem mapM_at {α β : Type} {f : α → Option β} : ∀ {l : List α} {ys : List β}, l.mapM f = some ys → ∀ (j : Nat) (a : α), l[j]? = some a → ∃ y, f a = some y ∧ ys[j]? = some y
  | [], ys, h => fun j a ha => by simp at ha
  | x :: l, ys, h => by
    simp only [List.mapM_cons] at h
    cases h1 : f x with
    | none => rw [h1] at h; simp at h
    | some y =>
      cases h2 : l.mapM f with
      | none => rw [h1, h2] at h; simp at h
      | some zs =>
        rw [h1, h2] at h; simp at h; subst h
        intro j a ha
        cases j with
        | zero => simp at ha; subst ha; exact ⟨y, h1, by simp⟩
        | succ j =>
          obtain ⟨y', e1, e2⟩ := mapM_at h2 j a (by simpa using ha)
          exact ⟨y', e1, by simpa using e2⟩
theorem pick_list {α : Type} [Inhabited α] {p : Nat → α → Prop} : ∀ n : Nat, (∀ j, j < n → ∃ a, p j a) → ∃ l : List α, l.length = n ∧ ∀ j, j < n → p j (l.getD j default)
  | 0, _ => ⟨[], rfl, fun j hj => by omega⟩
  | n + 1, h => by
    obtain ⟨l, hl, hp⟩ := pick_list n fun j hj => h j (by omega)
    obtain ⟨a, ha⟩ := h n (by omega)
    refine ⟨l ++ [a], by simp [hl], fun j hj => ?_⟩
    by_cases e : j < n
    · have := hp j e
      simp only [List.getD_eq_getElem?_getD, List.getElem?_append_left (show j < l.length by omega)] at this ⊢
      exact this
    · have : j = n := by omega
      subst this
      simp only [List.getD_eq_getElem?_getD, List.getElem?_append_right (Nat.le_of_eq hl), hl, Nat.sub_self]
      exact ha
theorem Op_slice {P : Program} {t e : TypeId} {sz : Nat} {α : Type} [Inhabited α] {enc : α → AV} {ok : α → Prop} (ht : P.underlying t = some (.slice e)) (hsz : P.cellsOf e = sz) (hpos : 0 < sz) (h : Opn P e enc ok) (h1 : Opn1 P e enc) : Opn P t (eL sz enc default) (okL ok) := fun eh w fuel cs x hx => by
  cases fuel with
  | zero => simp [DataW.trod] at hx
  | succ n =>
    unfold DataW.trod at hx
    rw [ht] at hx
    simp only at hx
    split at hx
    all_goals try (cases hx; done)
    all_goals try (rename_i e' ; cases e'; done)
    · exact ⟨[], ⟨fun a ha => by simp at ha, by simp⟩, by simp only [cellsL, AV.cells, eL, Vs, V, List.length_nil]; exact ⟨_, _, rfl, ⟨none, 0, rfl, Nat.le_refl _, trivial, fun j hj => by omega⟩, rfl⟩⟩
    · rename_i e' a len cap heq
      cases heq
      subst hsz
      split at hx
      · rename_i hc
        cases hm : (List.range len).mapM fun i => (w.cells? 0 (a.add (i * P.cellsOf e)) (P.cellsOf e)).bind (DataW.trod eh P w 0 (fun _ => true) true n e) with
        | none => rw [hm] at hx; simp at hx
        | some ys =>
          have key : ∀ j, j < len → ∃ y : α, ok y ∧ ∃ us : List Value, us.length = P.cellsOf e ∧ (∀ (q : Nat) (v : Value), us[q]? = some v → w.cell? ((a.add (j * P.cellsOf e)).add q) = some v) ∧ Vs (allB w) (cellsL (enc y)) us := fun j hj => by
            obtain ⟨_, e2⟩ := mapM_get hm
            obtain ⟨y, hy⟩ := e2 j j (by simp [hj])
            cases hcs : w.cells? 0 (a.add (j * P.cellsOf e)) (P.cellsOf e) with
            | none => rw [hcs] at hy; simp at hy
            | some us =>
              rw [hcs] at hy
              simp only [Option.bind_some] at hy
              obtain ⟨b, hb, hv⟩ := h eh w n us _ hy
              unfold World.cells? at hcs
              rw [if_pos (Nat.zero_le _)] at hcs
              have hl := (mapM_get hcs).1
              refine ⟨b, hb, us, by simpa using hl, fun q v hq => ?_, hv⟩
              have hq2 : q < P.cellsOf e := by
                have := (List.getElem?_eq_some_iff.1 hq).1
                rw [hl] at this; simpa using this
              obtain ⟨v', g1, g2⟩ := mapM_at hcs q q (by simp [hq2])
              rw [hq] at g2; cases g2; exact g1
          obtain ⟨l, hl, hp⟩ := pick_list (p := fun j y => ok y ∧ ∃ us : List Value, us.length = P.cellsOf e ∧ (∀ (q : Nat) (v : Value), us[q]? = some v → w.cell? ((a.add (j * P.cellsOf e)).add q) = some v) ∧ Vs (allB w) (cellsL (enc y)) us) len key
          refine ⟨l, ⟨fun b hb => ?_, ?_⟩, ?_⟩
          · obtain ⟨j, hj, rfl⟩ := List.getElem_of_mem hb
            have := (hp j (by omega)).1
            rw [List.getD_eq_getElem?_getD, List.getElem?_eq_getElem hj] at this
            exact this
          · have : cap ≤ maxLen := hc.2.2
            have := hc.2.1
            unfold maxLen at *
            omega
          · simp only [cellsL, AV.cells, eL, Vs, V]
            refine ⟨_, _, rfl, ⟨some a, cap, by rw [hl], by rw [hl]; exact hc.2.1, trivial, fun j hj => ?_⟩, rfl⟩
            rw [hl] at hj
            obtain ⟨_, us, hul, hcell, hv⟩ := hp j hj
            have hsp : a.spot = none := by
              obtain ⟨_, us0, hul0, hcell0, _⟩ := hp 0 (by omega)
              have h0 : ∃ v, us0[0]? = some v := ⟨us0[0]'(by omega), List.getElem?_eq_getElem (by omega)⟩
              obtain ⟨v, hv0⟩ := h0
              have := hcell0 0 v hv0
              rw [Nat.zero_mul] at this
              unfold World.cell? at this
              split at this
              · split at this
                · cases this
                · rename_i hs
                  cases hsa : a.spot with
                  | none => rfl
                  | some s => exact absurd (by simp [Addr.add, hsa]) hs
              · cases this
            obtain ⟨ab, ao, asp⟩ := a
            simp only at hsp; subst hsp
            rcases h1 with ⟨_, he⟩ | ⟨_, he⟩
            · refine ⟨ab, ao, .agg us.toArray, rfl, by simp [Value.cells, hul], fun q v hq => ?_, by rw [he]; simp only [V]; exact ⟨us, rfl, hv⟩⟩
              have := hcell q v (by simpa [Value.cells] using hq)
              rw [add_none, add_none] at this; exact this
            · rw [(he _).1] at hv
              simp only [Vs] at hv
              obtain ⟨u, us', rfl, hV, rfl⟩ := hv
              have hu : u.cells = #[u] := by
                have hone := (he (l.getD j default)).2
                generalize enc (l.getD j default) = r at hone hV
                cases r <;> simp only [AV.flat, Bool.false_eq_true] at hone
                all_goals simp only [V] at hV
                case int => subst hV; rfl
                case bool => subst hV; rfl
                case str => subst hV; rfl
                case nilp => subst hV; rfl
                case ptr => obtain ⟨_, _, rfl⟩ := hV; rfl
                case ep => obtain ⟨_, _, _, rfl, _⟩ := hV; rfl
                case nils => subst hV; rfl
                case sl => obtain ⟨_, _, ⟨_, _, _, rfl⟩ | ⟨_, _, rfl⟩⟩ := hV <;> rfl
                case so => obtain ⟨_, _, ⟨_, _, rfl⟩ | ⟨_, _, _, rfl⟩⟩ := hV <;> rfl
                case lst => obtain ⟨_, _, rfl, _⟩ := hV; rfl
                case nilm => subst hV; rfl
                case mp => obtain ⟨_, _, rfl⟩ := hV; rfl
                case yld => obtain ⟨_, _, rfl⟩ := hV; rfl
                case nilf => subst hV; rfl
                case fn => obtain ⟨_, _, rfl, _⟩ := hV; rfl
              refine ⟨ab, ao, u, rfl, by rw [hu]; simpa using hul, fun q v hq => ?_, hV⟩
              rw [hu] at hq
              have := hcell q v (by simpa using hq)
              rw [add_none, add_none] at this; exact this
      · cases hx
theorem HRel_all (w : World) : HRel (allB w) (fun _ => none) w (fun c => w.heap.size ≤ c) where
  fz c o v h := h
  own i cs h := by cases h
  map i es clk h := by cases h
  sep i j bi bj li lj _ hi := by cases hi
  ys c h := h.elim
  yo i b l h := by cases h
  gh i S G s h := by cases h
  gh1 i j S G s S' G' s' h := by cases h
  mps i sz es clk ho h := by cases h
  mp1 i j sz es clk ho b h := by cases h
theorem call_of {P : Program} {f : FuncId} {S : List AV → AV → Prop} (h : FOk P f (pureR S)) {args : List AV} {r : AV} (hs : S args r) (hl : r.loose) (W : World) (av : List Value) (hv : Vs (allB W) args av) :
    Calls P f av.toArray W fun e W' => ∃ v β, e = .returned v ∧ V β r v ∧ Below W.heap.size W W' :=
  (h.2 args (fun _ => none) 0 r (fun _ => none) ⟨hs, hl, rfl⟩ (fun c => W.heap.size ≤ c) W (allB W) av (fun _j hj => absurd rfl hj) (HRel_all W) (fun _c hc => hc) hv).mono fun _e _W' ⟨v, β, e1, _, e3, _, e5⟩ => ⟨v, β, e1, e3, e5.to⟩
theorem trodAll_stays {H : Type} {eh : TypeId × Value → H} {P : Program} (hl : laidOutB P = true) {W W' : World} (hb : Below W.heap.size W W') {sp : Nat → Bool} : ∀ {ts : List TypeId} {vs : List Value} {ds : List (DataW H)} {ps : List MemPlace},
    (∀ t ∈ ts, P.readableRec t = true ∧ t < P.types.size) → DataW.TrodAll eh P W 0 (fun _ => true) true ts vs ds ps → (∀ x ∈ ps, x.block < W.heap.size) → (∀ x ∈ ps, sp x.block = true) → DataW.TrodAll eh P W' 0 sp true ts vs ds ps
  | [], [], [], ps, _, h, _, _ => h
  | t :: ts, v :: vs, d :: ds, ps, hr, ⟨p, q, h1, h2, e⟩, hlt, hsp => by
    subst e
    exact ⟨p, q, WideElems.Trod_stays hl (hr t (by simp)).1 (hr t (by simp)).2 h1 (fun x hx => hb.same (hlt x (by simp [hx]))) (fun x hx => hsp x (by simp [hx])),
      trodAll_stays hl hb (fun t' ht' => hr t' (by simp [ht'])) h2 (fun x hx => hlt x (by simp [hx])) (fun x hx => hsp x (by simp [hx])), rfl⟩
  | [], [], _ :: _, _, _, h, _, _ => h.elim
  | [], _ :: _, _, _, _, h, _, _ => by cases h
  | _ :: _, [], _, _, _, h, _, _ => h.elim
  | _ :: _, _ :: _, [], _, _, h, _, _ => h.elim
theorem post_law {H : Type} {eh : TypeId × Value → H} {P : Program} (hl : laidOutB P = true) {f : Func} {s : ChangeSpec} {apart fresh handsOn again : Bool} {W W' : World} {args : Array Value} {v : Value} {ds : List (DataW H)} {before : List MemPlace}
    (hW : DataW.Whole eh P f.params.toList s.vars apart W args.toList ds [] before) (hvar : s.vars = []) (hr : ∀ t ∈ f.params.toList, P.readableRec t = true ∧ t < P.types.size) (hbel : Below W.heap.size W W')
    (hres : ∀ (b : Nat) (sp : Nat → Bool) (hd : Bool), DataW.TrodAll eh P W' b sp hd f.resultTypes.toList (v.resultList f.resultTypes.size) (s.fn H ds).results []) (hargs : (s.fn H ds).args = ds) (hvars : (s.fn H ds).vars = [])
    (hok : ∀ (j : Nat) (t : TypeId) (r : Value), f.resultTypes[j]? = some t → (v.resultList f.resultTypes.size)[j]? = some r → Value.okWide P W' .any 0 t r) :
    s.post eh P f apart fresh handsOn again W args v W' := by
  have hlt := hW.lt
  obtain ⟨p, q, hA, hV, hpq, hz, hn⟩ := id hW
  rw [hvar] at hV
  obtain ⟨_, rfl⟩ := trodVars_none hV
  rw [List.append_nil] at hpq
  subst hpq
  have hst : ∀ sp : Nat → Bool, (∀ x ∈ before, sp x.block = true) → DataW.TrodAll eh P W' 0 sp true f.params.toList args.toList (s.fn H (ds ++ [])).args before := fun sp hsp => by
    rw [List.append_nil, hargs]; exact trodAll_stays hl hbel hr hA hlt hsp
  have hvv : ∀ sp : Nat → Bool, DataW.TrodVars eh P W' sp s.vars (s.fn H (ds ++ [])).vars [] := fun sp => by
    rw [List.append_nil, hvars, hvar]; rfl
  have hrr : ∀ (b : Nat) (sp : Nat → Bool) (hd : Bool), DataW.TrodAll eh P W' b sp hd f.resultTypes.toList (v.resultList f.resultTypes.size) (s.fn H (ds ++ [])).results [] := fun b sp hd => by
    rw [List.append_nil]; exact hres b sp hd
  refine ⟨ds, [], before, [], before, [], hW, hrr _ _ _, hst _ fun x hx => by simpa using hlt x hx, hvv _, hbel.frame _, fun _ => ?_⟩
  refine ⟨hok, _, _, ([] ++ before) ++ [], ⟨[] ++ before, [], trodAll_append (hst _ fun _ _ => rfl) (hrr _ _ _), hvv _, rfl, ?_, ?_⟩, ?_⟩
  · intro b off hp
    have hp' : MemPlace.cell b off ∈ before := by simpa using hp
    rw [hbel.frozen (p := ⟨b, off, none⟩) (hlt _ hp')]
    exact hz b off hp'
  · intro ha; simpa using hn ha
  · intro x hx _; simpa using hx
theorem PfOk_T0 (pf : FuncId → Bool) : PfOk T0 pf := fun _f _ _args _H _base _r _H' h => h.elim
theorem PfOk_ext {T : Tbl} {pf : FuncId → Bool} {f : FuncId} {s : FSpec} (h : PfOk T pf) (k : pf f = true → ∃ S, s = pureR S) : PfOk (ext T f s) pf := fun g hg args H base r H' e => by
  by_cases hgf : g = f
  · subst hgf
    obtain ⟨S, rfl⟩ := k hg
    rw [ext_same] at e
    refine ⟨e.2.2, e.2.1, fun base' H1 => ?_⟩
    rw [ext_same]; exact ⟨e.1, e.2.1, rfl⟩
  · rw [ext_other _ _ hgf] at e
    obtain ⟨a, b, c⟩ := h g hg args H base r H' e
    refine ⟨a, b, fun base' H1 => ?_⟩
    rw [ext_other _ _ hgf]; exact c base' H1
end Go.Eng
namespace Go.Eng
section
variable {α : Type} {n k : Int} {v d : α}
theorem mput_nil (n : Int) (v : α) (clk : Nat) : mput n v [] clk = [(clk, n, v)] := by simp [mput]
theorem mput_cons (n : Int) (v : α) (x : Nat × Int × α) (L : List (Nat × Int × α)) (clk : Nat) : mput n v (x :: L) clk = if x.2.1 = n then (x.1, x.2.1, v) :: L else x :: mput n v L clk := by
  unfold mput
  rw [List.findIdx?_cons]
  by_cases h : x.2.1 = n
  · simp [h]
  · simp only [beq_iff_eq, h, if_false]
    cases L.findIdx? fun p => p.2.1 == n with
    | none => simp
    | some j => simp
theorem mclk_cons (n : Int) (x : Nat × Int × α) (L : List (Nat × Int × α)) (clk : Nat) : mclk n (x :: L) clk = if x.2.1 = n then clk else mclk n L clk := by
  unfold mclk
  rw [List.findIdx?_cons]
  by_cases h : x.2.1 = n
  · simp [h]
  · simp only [beq_iff_eq, h, if_false]
    cases L.findIdx? fun p => p.2.1 == n <;> simp
theorem mdel_cons (n : Int) (x : Nat × Int × α) (L : List (Nat × Int × α)) : mdel n (x :: L) = if x.2.1 = n then L else x :: mdel n L := by
  unfold mdel
  rw [List.findIdx?_cons]
  by_cases h : x.2.1 = n
  · simp [h]
  · simp only [beq_iff_eq, h, if_false]
    cases L.findIdx? fun p => p.2.1 == n with
    | none => simp
    | some j => simp
theorem mfind_cons (n : Int) (x : Nat × Int × α) (L : List (Nat × Int × α)) : mfind n (x :: L) = if x.2.1 = n then some x else mfind n L := by
  unfold mfind
  rw [List.find?_cons]
  by_cases h : x.2.1 = n
  · simp [h]
  · have : (x.2.1 == n) = false := by simpa using h
    rw [this, if_neg h]
theorem mfind_put_ne (h : k ≠ n) : ∀ (L : List (Nat × Int × α)) (clk : Nat), mfind k (mput n v L clk) = mfind k L
  | [], clk => by
    rw [mput_nil, mfind_cons]
    simp only
    rw [if_neg (fun e => h e.symm)]
  | x :: L, clk => by
    rw [mput_cons]
    by_cases e : x.2.1 = n
    · rw [if_pos e, mfind_cons, mfind_cons]
      simp only
      rw [if_neg (fun e2 => h (by rw [← e2, e])), if_neg (fun e2 => h (by rw [← e2, e]))]
    · rw [if_neg e, mfind_cons, mfind_cons, mfind_put_ne h L clk]
theorem mput_keys : ∀ (L : List (Nat × Int × α)) (clk : Nat), (mput n v L clk).map (·.2.1) = if (mfind n L).isSome then L.map (·.2.1) else L.map (·.2.1) ++ [n]
  | [], clk => by simp [mput_nil, mfind]
  | x :: L, clk => by
    rw [mput_cons, mfind_cons]
    by_cases e : x.2.1 = n
    · simp [e]
    · rw [if_neg e, if_neg e, List.map_cons, mput_keys L clk]
      split <;> simp
theorem mfind_keys : ∀ (L : List (Nat × Int × α)), (mfind n L).isSome = true ↔ n ∈ L.map (·.2.1)
  | [] => by simp [mfind]
  | x :: L => by
    rw [mfind_cons]
    by_cases e : x.2.1 = n
    · simp [e]
    · rw [if_neg e, mfind_keys L]
      simp only [List.map_cons, List.mem_cons]
      exact ⟨.inr, fun h => h.elim (fun h => absurd h.symm e) id⟩
theorem mput_births : ∀ (L : List (Nat × Int × α)) (clk : Nat), (mput n v L clk).map (·.1) = if (mfind n L).isSome then L.map (·.1) else L.map (·.1) ++ [clk]
  | [], clk => by simp [mput_nil, mfind]
  | x :: L, clk => by
    rw [mput_cons, mfind_cons]
    by_cases e : x.2.1 = n
    · simp [e]
    · rw [if_neg e, if_neg e, List.map_cons, mput_births L clk]
      split <;> simp
theorem mclk_eq : ∀ (L : List (Nat × Int × α)) (clk : Nat), mclk n L clk = if (mfind n L).isSome then clk else clk + 1
  | [], clk => by simp [mclk, mfind]
  | x :: L, clk => by
    rw [mclk_cons, mfind_cons]
    by_cases e : x.2.1 = n
    · simp [e]
    · rw [if_neg e, if_neg e, mclk_eq L clk]
structure GM.WF (m : GM α) : Prop where
  lt : ∀ p ∈ m.es, p.1 < m.clk
  nd : (m.es.map (·.1)).Nodup
  kd : (m.es.map (·.2.1)).Nodup
namespace GM
variable {m : GM α}
theorem WF_mt : (GM.mt α).WF := ⟨nofun, by simp [GM.mt], by simp [GM.mt]⟩
theorem get_put : (m.put n v).get n d = v := by
  unfold GM.get GM.put
  obtain ⟨b, h, _⟩ := find_put n v m.es m.clk
  simp only [h]
theorem get_put_ne (h : k ≠ n) : (m.put n v).get k d = m.get k d := by
  unfold GM.get GM.put
  simp only [mfind_put_ne h]
theorem has_put : (m.put n v).has n = true := by
  unfold GM.has GM.put
  obtain ⟨b, h, _⟩ := find_put n v m.es m.clk
  simp only [h]; rfl
theorem has_put_ne (h : k ≠ n) : (m.put n v).has k = m.has k := by
  unfold GM.has GM.put
  simp only [mfind_put_ne h]
theorem get_mt : (GM.mt α).get k d = d := rfl
theorem has_mt : (GM.mt α).has k = false := rfl
theorem has_key : m.has k = true ↔ k ∈ m.es.map (·.2.1) := mfind_keys m.es
theorem WF.put (h : m.WF) (n : Int) (v : α) : (m.put n v).WF := by
  have h1 := mput_births (n := n) (v := v) m.es m.clk
  have h2 := mput_keys (n := n) (v := v) m.es m.clk
  have h3 := mclk_eq (n := n) m.es m.clk
  refine ⟨fun p hp => ?_, ?_, ?_⟩
  · have hm : p.1 ∈ (mput n v m.es m.clk).map (·.1) := List.mem_map_of_mem hp
    show p.1 < mclk n m.es m.clk
    rw [h1] at hm
    rw [h3]
    split
    · rename_i e
      rw [if_pos e] at hm
      obtain ⟨q, hq, e⟩ := List.mem_map.1 hm
      rw [← e]; exact h.lt q hq
    · rename_i e
      rw [if_neg e] at hm
      rcases List.mem_append.1 hm with hm | hm
      · obtain ⟨q, hq, e⟩ := List.mem_map.1 hm
        have := h.lt q hq
        omega
      · simp at hm; omega
  · show ((mput n v m.es m.clk).map (·.1)).Nodup
    rw [h1]
    split
    · exact h.nd
    · rw [List.nodup_append]
      refine ⟨h.nd, by simp, fun a ha b hb => ?_⟩
      obtain ⟨q, hq, e⟩ := List.mem_map.1 ha
      have := h.lt q hq
      simp at hb
      omega
  · show ((mput n v m.es m.clk).map (·.2.1)).Nodup
    rw [h2]
    split
    · exact h.kd
    · rename_i e
      rw [List.nodup_append]
      refine ⟨h.kd, by simp, fun a ha b hb => ?_⟩
      simp at hb; subst hb
      intro e2; subst e2
      exact e ((mfind_keys _).2 ha)
theorem mem_get (h : m.WF) {p : Nat × Int × α} (hp : p ∈ m.es) : m.get p.2.1 d = p.2.2 := by
  have key : ∀ (L : List (Nat × Int × α)), (L.map (·.2.1)).Nodup → p ∈ L → mfind p.2.1 L = some p := by
    intro L
    induction L with
    | nil => intro _ h; cases h
    | cons x L ih =>
      intro hn hm
      rw [mfind_cons]
      simp only [List.map_cons, List.nodup_cons] at hn
      rcases List.mem_cons.1 hm with rfl | hm
      · rw [if_pos rfl]
      · rw [if_neg (fun e => hn.1 (by rw [e]; exact List.mem_map_of_mem hm)), ih hn.2 hm]
  unfold GM.get
  rw [key _ h.kd hp]
end GM
end
end Go.Eng
