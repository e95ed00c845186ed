import Derived.Test.YtcidmnpihffphaaEngM
namespace Go.Eng
universe u v
open Go.RowKit (Below)

/-- One function's row of the table. -/
abbrev FSpec := List AV → Heap → Nat → AV → Heap → Prop

def FOk (P : Program) (f : FuncId) (s : FSpec) : Prop :=
  (∀ av w, (callFunc f av).run P w = .ok (.enter f av) w) ∧
  ∀ args H base r H', s args H base r H' → ∀ (B : Bd) (w : World) (β : Beta) (av : List Value), (∀ j, β j ≠ none → j < base) → HRel β H w B → B.top w.heap.size → Vs β args av →
    Calls P f av.toArray w (Outcome P β B base w r H')

def T0 : Tbl := fun _ _ _ _ _ _ => False
def ext (T : Tbl) (f : FuncId) (s : FSpec) : Tbl := fun g => if g = f then s else T g

theorem TOk_T0 (P : Program) : TOk P T0 := fun _ _ _ _ _ _ h => h.elim
theorem TOk_ext {P : Program} {T : Tbl} {f : FuncId} {s : FSpec} (hT : TOk P T) (hf : FOk P f s) : TOk P (ext T f s) := by
  intro g args H base r H' h
  unfold ext at h
  by_cases e : g = f
  · subst e; simp only [if_true] at h; exact ⟨hf.1, hf.2 args H base r H' h⟩
  · simp only [e, if_false] at h; exact hT g args H base r H' h
theorem ext_same (T : Tbl) (f : FuncId) (s : FSpec) : ext T f s f = s := by simp [ext]
theorem ext_other (T : Tbl) {f g : FuncId} (s : FSpec) (h : g ≠ f) : ext T f s g = T g := by simp [ext, h]

/-- A function that only computes. -/
def pureR (S : List AV → AV → Prop) : FSpec := fun args H _ r H' => S args r ∧ r.loose ∧ H' = H

theorem loose_int (k : IntKind) (n : Int) : (AV.int k n).loose := fun _ _ _ _ h => by simpa [V] using h
theorem loose_bool (b : Bool) : (AV.bool b).loose := fun _ _ _ _ h => by simpa [V] using h
theorem loose_top : AV.top.loose := fun _ _ _ _ _ => by simp [V]
theorem loose_nils : AV.nils.loose := fun _ _ _ _ h => by simpa [V] using h
theorem loose_nilp : AV.nilp.loose := fun _ _ _ _ h => by simpa [V] using h
theorem loose_nilm : AV.nilm.loose := fun _ _ _ _ h => by simpa [V] using h
theorem loose_nilf : AV.nilf.loose := fun _ _ _ _ h => by simpa [V] using h
theorem loose_und : AV.und.loose := fun _ _ _ _ h => by simpa [V] using h
theorem Vs_loose {as : List AV} (h : ∀ a ∈ as, a.loose) {β : Beta} {loc' : Nat → Option Loc} {ys' : Nat → Prop} : ∀ {vs : List Value}, Vs β as vs → Vs ⟨loc', β.fz, ys'⟩ as vs := by
  induction as with
  | nil => intro vs hv; simpa [Vs] using hv
  | cons a as ih =>
    intro vs hv
    simp only [Vs] at hv ⊢
    obtain ⟨v, vs', e, h1, h2⟩ := hv
    exact ⟨v, vs', e, h a (by simp) _ _ _ _ h1, ih (fun b hb => h b (by simp [hb])) h2⟩
theorem loose_agg {cs : List AV} (h : ∀ a ∈ cs, a.loose) : (AV.agg cs).loose := fun _ _ _ _ hv => by
  simp only [V] at hv ⊢; obtain ⟨vs, e, hv⟩ := hv; exact ⟨vs, e, Vs_loose h hv⟩
theorem loose_tup {cs : List AV} (h : ∀ a ∈ cs, a.loose) : (AV.tup cs).loose := fun _ _ _ _ hv => by
  simp only [V] at hv ⊢; obtain ⟨vs, e, hv⟩ := hv; exact ⟨vs, e, Vs_loose h hv⟩
theorem loose_nil : ∀ a ∈ ([] : List AV), a.loose := fun a h => by simp at h
theorem loose_cons {a : AV} {as : List AV} (h : a.loose) (k : ∀ a ∈ as, a.loose) : ∀ b ∈ a :: as, b.loose := fun b hb => by
  rcases List.mem_cons.1 hb with rfl | hb
  · exact h
  · exact k b hb
theorem loose_map {α : Type} {g : α → AV} {l : List α} (h : ∀ x, (g x).loose) : ∀ a ∈ l.map g, a.loose := fun a ha => by
  obtain ⟨x, _, rfl⟩ := List.mem_map.1 ha; exact h x
theorem loose_lst {sz n : Nat} {f : Nat → AV} (h : ∀ j, (f j).loose) : (AV.lst .free sz n f).loose := fun _ _ _ _ hv => by
  simp only [V] at hv ⊢
  obtain ⟨b, cap, h1, h2, h3, h4⟩ := hv
  refine ⟨b, cap, h1, h2, trivial, fun j hj => ?_⟩
  obtain ⟨c, o, u, k1, k2, k3, k4⟩ := h4 j hj
  exact ⟨c, o, u, k1, k2, k3, h j _ _ _ _ k4⟩

/-- A table's function is pure. -/
theorem PfOk_of {T : Tbl} {pf : FuncId → Bool} (h : ∀ f, pf f = true → ∃ S, T f = pureR S) : PfOk T pf := by
  intro f hf args H base r H' e
  obtain ⟨S, hS⟩ := h f hf
  rw [hS] at e ⊢
  obtain ⟨h1, h2, rfl⟩ := e
  exact ⟨rfl, h2, fun base' H1 => ⟨h1, h2, rfl⟩⟩

/-- The result of a function, as its slots and cells hold it. -/
def res1 (P : Program) (lim : Nat) (σ : AS) : ResultVar → Option AV
  | .tmp t => some (σ.sl t)
  | .cell a t => loadA P lim t (σ.sl a) σ.hp
def resA (P : Program) (rs : Array ResultVar) (σ : AS) : Option AV :=
  (rs.toList.mapM (res1 P σ.b σ)).map fun l => match l with | [x] => x | l => .tup l

def resSem (a : Act) : ResultVar → Sem Value
  | .tmp t => pure (a.tmps.getD t undef)
  | .cell x t => do loadVar t (← asAddr (a.tmps.getD x undef))

theorem mapM_res {P : Program} {β : Beta} {w : World} {B : Bd} {σ : AS} {a : Act} (hs : ∀ t, V β (σ.sl t) (a.tmps.getD t undef)) (hH : HRel β σ.hp w B) : ∀ (l : List ResultVar) (rs : List AV), l.mapM (res1 P σ.b σ) = some rs →
    ∃ vs : List Value, (l.mapM (resSem a)).run P w = .ok vs w ∧ Vs β rs vs
  | [], rs, h => by simp at h; subst h; exact ⟨[], by simp, by simp [Vs]⟩
  | x :: l, rs, h => by
    simp only [List.mapM_cons] at h
    obtain ⟨y, hy, h1⟩ := bind_some' h
    obtain ⟨ys, hys, h2⟩ := bind_some' h1
    simp at h2; subst h2
    obtain ⟨vs, hv, hvs⟩ := mapM_res hs hH l ys hys
    cases x with
    | tmp t =>
      simp only [res1, Option.some.injEq] at hy; subst hy
      exact ⟨_ :: vs, by simp only [List.mapM_cons, resSem, Sem.run_bind, Sem.run_pure, Result.andThen_ok, hv], _, _, rfl, hs t, hvs⟩
    | cell q t =>
      simp only [res1] at hy
      obtain ⟨z, hz, hzv⟩ := load_ok (P := P) hH hy (hs q)
      have hq : ∃ ad, a.tmps.getD q undef = .pointer (some ad) := by
        unfold loadA at hy
        split at hy <;> (try (simp at hy; done))
        · rename_i e
          have := hs q
          rw [e] at this
          obtain ⟨l, _, hv⟩ := V_ptr this
          exact ⟨_, hv⟩
        · rename_i e
          have := hs q
          rw [e] at this
          obtain ⟨_, _, _, hv, _⟩ := V_ep this
          exact ⟨_, hv⟩
      obtain ⟨ad, had⟩ := hq
      rw [had] at hz
      simp only [Instr.loadAt, Instr.sureAddr, Sem.run_bind, Sem.run_pure, Result.andThen_ok] at hz
      exact ⟨z :: vs, by simp only [List.mapM_cons, resSem, Sem.run_bind, had, asAddr, Sem.run_pure, Result.andThen_ok, hz, hv], _, _, rfl, hzv, hvs⟩

theorem resA_ok {P : Program} {fn : Func} {β : Beta} {w : World} {B : Bd} {σ : AS} {a : Act} {r : AV} (h : resA P fn.results σ = some r) (hs : ∀ t, V β (σ.sl t) (a.tmps.getD t undef)) (hH : HRel β σ.hp w B) :
    ∃ v, (results fn a.tmps).run P w = .ok v w ∧ V β r v := by
  unfold resA at h
  obtain ⟨rs, hrs, hr⟩ := Option.map_eq_some_iff.1 h
  obtain ⟨vs, hv, hvs⟩ := mapM_res (P := P) hs hH _ _ hrs
  have hm : (fn.results.mapM (resSem a)).run P w = .ok vs.toArray w := by
    rw [Array.mapM_eq_mapM_toList, Sem.run_map, hv]; rfl
  have hres : results fn a.tmps = (fn.results.mapM (resSem a) >>= fun vs => pure (if h : vs.size = 1 then vs[0] else .tuple vs)) := rfl
  rw [hres, Sem.run_bind, hm]
  simp only [Result.andThen_ok, Sem.run_pure]
  refine ⟨_, rfl, ?_⟩
  cases rs with
  | nil =>
    simp [Vs] at hvs; subst hvs; subst hr
    exact ⟨[], by simp, by simp [Vs]⟩
  | cons x rs =>
    obtain ⟨u, us, rfl, h1, h2⟩ := hvs
    cases rs with
    | nil => simp [Vs] at h2; subst h2; subst hr; simpa using h1
    | cons y rs =>
      subst hr
      obtain ⟨u2, us2, rfl, h3, h4⟩ := h2
      have hne : ¬ ((u :: u2 :: us2).toArray.size = 1) := by simp
      simp only [dif_neg hne]
      exact ⟨u :: u2 :: us2, rfl, u, u2 :: us2, rfl, h1, u2, us2, rfl, h3, h4⟩

def undF : Nat → AV := fun _ => .und
def argF : Nat → List AV → Nat → AV
  | _, [] => undF
  | k, a :: l => supd (argF (k + 1) l) k a
theorem argF_eq : ∀ (args : List AV) (k t : Nat), argF k args t = if t < k then .und else (args[t - k]?).getD .und
  | [], k, t => by simp [argF, undF]
  | a :: l, k, t => by
    simp only [argF, supd, upd, argF_eq l (k + 1) t]
    by_cases e : t = k
    · subst e; simp
    · simp only [e, if_false]
      by_cases h : t < k
      · simp [h, show t < k + 1 by omega]
      · rw [if_neg (by omega), if_neg h]
        obtain ⟨m, hm⟩ : ∃ m, t - k = m + 1 := ⟨t - k - 1, by omega⟩
        rw [hm, show t - (k + 1) = m by omega]; rfl
def argSl (args : List AV) : Nat → AV := argF 0 args
theorem argSl_eq (args : List AV) (t : Nat) : argSl args t = (args[t]?).getD .und := by simp [argSl, argF_eq]

/-- Nothing of ours is touched by one that knows nothing of it. -/
theorem HRel.frame {β β' : Beta} {H _H2 : Heap} {w w' : World} {B _B2 : Bd} (h : HRel β H w B) (hle : Beta.le β β') (hloc : β'.loc = β.loc) (hys : β'.ys = β.ys) (hnew : ∀ c o, β'.fz c o ≠ none → β.fz c o ≠ none ∨ w.heap.size ≤ c) (hfz : ∀ c o v, β'.fz c o = some v → w'.cell? ⟨c, o, none⟩ = some v)
    (hb : BelowP (fun c => w.heap.size ≤ c) w w') : HRel β' H w' B where
  fz := hfz
  own i cs hi := by
    obtain ⟨l, h1, h2, h3⟩ := h.own i cs hi
    refine ⟨l, hle.loc _ _ h1, h2, fun hk => ?_⟩
    obtain ⟨hB, hu, full, e, p, q, r⟩ := h3 hk
    have hlt := (h.lt_of_own hi h1 hk).1
    refine ⟨hB, fun o ho1 ho2 => ?_, full, e, (hb.block _ (Nat.not_le.2 hlt)).trans p, q, fun j a ha => let ⟨v, x, y⟩ := r j a ha; ⟨v, x, V_mono hle _ _ y⟩⟩
    cases hh : β'.fz l.c o with
    | none => rfl
    | some v =>
      rcases hnew l.c o (by simp [hh]) with e | e
      · exact absurd (hu o ho1 ho2) e
      · omega
  map i es clk hi := by
    obtain ⟨l, h1, h2, h3, ents, h4, m⟩ := h.map i es clk hi
    have hlt := (h.lt_of_own hi h1 h2).1
    exact ⟨l, hle.loc _ _ h1, h2, h3, ents, (hb.block _ (Nat.not_le.2 hlt)).trans h4, m.mono hle⟩
  sep i j bi bj li lj hne hi hj ei ej pi pj := by
    rw [hloc] at ei ej
    exact h.sep i j bi bj li lj hne hi hj ei ej pi pj
  ys c hc := by rw [hys] at hc; exact ⟨(h.ys c hc).1, Nat.lt_of_lt_of_le (h.ys c hc).2 hb.size⟩
  yo i b l hi hl pi := by rw [hloc] at hl; rw [hys]; exact h.yo i b l hi hl pi
  gh i S G s hi := by
    obtain ⟨l, h1, h2, h3, h4, h5⟩ := h.gh i S G s hi
    refine ⟨l, hle.loc _ _ h1, h2, by rw [hys]; exact G.stable _ _ _ _ _ h3 ⟨hb.os, hb.tape, hb.output, hb.size, hb.drawn, fun c hc => hb.block c (Nat.not_le.2 (h.ys c (Classical.not_not.1 hc)).2)⟩ (fun c o v hv => hfz c o v (hle.fz c o v (h5 c o v hv))), fun c o v hc hv => ?_, fun c o v hv => hle.fz c o v (h5 c o v hv)⟩
    rw [hys] at hc
    have hlt := (h.ys c hc).2
    refine h4 c o v hc ?_
    cases hh : β.fz c o with
    | none =>
      rcases hnew c o (by simp [hv]) with e | e
      · exact absurd hh e
      · omega
    | some u => rw [hle.fz _ _ _ hh] at hv; exact hv
  gh1 := h.gh1
  mps i sz es clk ho hi := by
    obtain ⟨l, h1, h2, h3, ents, h4, m, m2⟩ := h.mps i sz es clk ho hi
    have hlt := (h.lt_of_own hi h1 h2).1
    refine ⟨l, hle.loc _ _ h1, h2, h3, ents, (hb.block _ (Nat.not_le.2 hlt)).trans h4, m.mono hle, m2.mono (fun c hc => by rw [hys]; exact hc) (fun c q hc hq => ?_) fun c hc => hb.block c (Nat.not_le.2 (h.ys c hc).2)⟩
    cases hh : β'.fz c q with
    | none => rfl
    | some u =>
      rcases hnew c q (by simp [hh]) with e | e
      · exact absurd hq e
      · have := (h.ys c hc).2; omega
  mp1 := h.mp1

/-- What a pure function's end asks. -/
def PostP (P : Program) (rs : Array ResultVar) (r : AV) : Exit → AS → Prop := fun e σ => match e with
  | .normal | .ret => ∃ r0, resA P rs σ = some r0 ∧ Wk r0 r
  | _ => False

theorem Rep_begin {N : Nat} {β : Beta} {B : Bd} {base : Nat} {w : World} {args : List AV} {av : List Value} {H : Heap} (hβ : ∀ j, β j ≠ none → j < base) (hH : HRel β H w B) (hB : B.top w.heap.size) (hv : Vs β args av) (hle : args.length ≤ N) :
    Rep ⟨B, w, β, base⟩ N ⟨argSl args, H, base⟩ { tmps := (av.toArray ++ Array.replicate (N - av.toArray.size) undef), defers := [] } w := by
  have hal := Vs_length hv
  refine ⟨β, [], ⟨Beta.le.refl _, fun j hj => .inl hj, Nat.le_refl _, fun c o h => .inl h⟩, fun t => ?_, by rw [Fr.Bx_nil]; exact hH, hβ, BelowP.refl _ _, hB, rfl, Marks.nil _ _, ?_⟩
  · show V β (argSl args t) _
    rw [argSl_eq]
    cases ht : args[t]? with
    | some a =>
      obtain ⟨v, h1, h2⟩ := Vs_get hv t a ht
      have hlt : t < av.length := (List.getElem?_eq_some_iff.1 h1).1
      rw [Array.getD_eq_getD_getElem?, Array.getElem?_append_left (by simpa using hlt)]
      simpa [h1] using h2
    | none =>
      have hge : args.length ≤ t := by simpa using ht
      simp only [Option.getD_none, V]
      rw [Array.getD_eq_getD_getElem?, Array.getElem?_append_right (by simp; omega)]
      rw [Array.getElem?_replicate]
      split <;> rfl
  · simp; omega

theorem Rep_zero {N : Nat} {B : Bd} {b0 b : Nat} {β : Beta} {w0 w : World} {sl : Nat → AV} {H : Heap} {a : Act} (h : Rep ⟨B, w0, β, b0⟩ N ⟨sl, H, b⟩ a w) : Rep ⟨B, w0, β, 0⟩ N ⟨sl, H, b⟩ a w := by
  obtain ⟨β1, ds, h0, h1⟩ := h
  exact ⟨β1, ds, ⟨h0.le, fun _ _ => .inr (Nat.zero_le _), Nat.zero_le _, h0.fz⟩, h1⟩
theorem enters {P : Program} {f : FuncId} {fn : Func} {c : Code} (hf : P.funcs[f]? = some fn) (hn : (fn.name == "runtime.NumGoroutine") = false) (hb : fn.body = some c) (av : Array Value) (w : World) :
    (callFunc f av).run P w = .ok (.enter f av) w := by
  have hn2 : ¬ fn.name = "runtime.NumGoroutine" := by simpa using hn
  simp [callFunc, hf, hn2, hb]


/-- The marks' blocks are shut. -/
structure Shut (ds : List Nat) (w w2 : World) : Prop where
  bel : BelowP (fun c => c ∈ ds) w w2
theorem HRel.shut {β : Beta} {H : Heap} {w w2 : World} {F : Fr} {ds : List Nat} (h : HRel β H w (F.Bx ds)) (hm : Marks F ds w) (k : Shut ds w w2) : HRel β H w2 (F.Bx ds) :=
  h.world (fun c o v hv => by
      have h0 := h.fz c o v hv
      have hne : c ∉ ds := fun hd => by
        have := (hm.at_ c hd).2
        simp [World.cell?, this] at h0
      exact (World.cell?_of_block (w := w) (a := ⟨c, o, none⟩) (k.bel.block c hne)).trans h0)
    (fun i b l hi hl hk => k.bel.block _ (h.lt_of_own hi hl hk).2.2)
    (k.bel.weaken fun c hc hy => (h.ys c hy).1.2 hc)
theorem leaves_marks {P : Program} {fn : Func} {tmps : Array Value} {R : Ending → World → Prop} : ∀ (ds : List Nat) (w : World), ds.Nodup → (∀ D, D ∈ ds → w.heap[D]? = some (.deferred (some []))) →
    (∀ w2, Shut ds w w2 → ∃ v, (results fn tmps).run P w2 = .ok v w2 ∧ R (.returned v) w2) → LeavesInM (fen none) 0 P fn tmps R (ds.map mark) .returning w
  | [], w, _, _, h => h w ⟨BelowP.refl _ _⟩
  | D :: ds, w, hn, hd, h => by
    have hD := hd D (by simp)
    refine ⟨(by intro h; cases h), .inl ⟨D, _, rfl, run_takeDeferred hD, ?_⟩⟩
    rw [List.nodup_cons] at hn
    have hput : BelowP (fun c => c = D) w (w.putObj D (.deferred none)) := ⟨rfl, rfl, rfl, by simp, Nat.le_refl _, fun k hk => World.putObj_heap_other hk⟩
    refine leaves_marks ds _ hn.2 (fun E hE => ?_) fun w2 hw2 => h w2 ⟨(hput.weaken fun c hc => by simp [hc]).trans (hw2.bel.weaken fun c hc => by simp [hc])⟩
    have hne : E ≠ D := fun e => by subst e; exact hn.1 hE
    rw [World.putObj_heap_other hne]
    exact hd E (by simp [hE])

/-- A function's body walked: what its call does. -/
theorem calls_of_HT {P : Program} {T : Tbl} {pf : FuncId → Bool} {cl : Bool} {hT : TOk P T} {hpf : PfOk T pf} {f : FuncId} {fn : Func} {c : Code} {N : Nat} {F : Fr} {σ : AS} {Q : Exit → AS → Prop} {R : Ending → World → Prop} {args : Array Value} {w : World}
    (hf : P.funcs[f]? = some fn) (hb : fn.body = some c) (h : HT ⟨P, T, pf, cl, false, hT, hpf⟩ N c σ Q) (hok : F.ok cl false)
    (hr : Rep F N σ { tmps := args ++ Array.replicate (fn.ntmps - args.size) undef, defers := [] } w)
    (hend : ∀ (e : Exit) (σ' : AS) (a' : Act) (w2 : World) (β' : Beta) (ds : List Nat), Q e σ' → Since F β' σ'.b → (∀ t, V β' (σ'.sl t) (a'.tmps.getD t undef)) → HRel β' σ'.hp w2 (F.Bx ds) → (∀ j, β' j ≠ none → j < σ'.b) → BelowP F.B F.w0 w2 → F.B.top w2.heap.size →
      (e = .normal ∨ e = .ret) ∧ ∃ v, (results fn a'.tmps).run P w2 = .ok v w2 ∧ R (.returned v) w2) : Calls P f args w R := by
  refine (callsIn_wide (n := 0)).1 (callsIn_of_wp_marks (F := fen none) hf hb trivial (wpIn_mono (h none F _ w (fun _ => rfl) hok hr) ?_) rfl)
  intro e a' w' hq
  obtain ⟨σ', q, β', ds, hsince, hs, hH', hb', hbel, hB', hdf, hmk, _⟩ := hq
  have fin : ∀ w2, Shut ds w' w2 → (e = .normal ∨ e = .ret) ∧ ∃ v, (results fn a'.tmps).run P w2 = .ok v w2 ∧ R (.returned v) w2 := fun w2 hw2 =>
    hend e σ' a' w2 β' ds q hsince hs (hH'.shut hmk hw2) hb' (hbel.trans (hw2.bel.weaken fun c hc => (hmk.at_ c hc).1)) (hB'.mono hw2.bel.size)
  have hl : LeavesInM (fen none) 0 P fn a'.tmps R a'.defers .returning w' := by
    rw [hdf]; exact leaves_marks ds w' hmk.nodup (fun D hD => (hmk.at_ D hD).2) fun w2 hw2 => (fin w2 hw2).2
  have hlast : ∃ w2, Shut ds w' w2 := by
    suffices H : ∀ (ds : List Nat) (w : World), ∃ w2, Shut ds w w2 from H ds w'
    intro ds w; exact ⟨w, ⟨BelowP.refl _ _⟩⟩
  obtain ⟨w2, hw2⟩ := hlast
  rcases (fin w2 hw2).1 with rfl | rfl
  · exact hl
  · exact hl

theorem FOk_pure {P : Program} {T : Tbl} {pf : FuncId → Bool} (hT : TOk P T) (hpf : PfOk T pf) {f : FuncId} {fn : Func} {c : Code} {S : List AV → AV → Prop} {N : Nat} {rs : Array ResultVar} (hf : P.funcs[f]? = some fn) (hb : fn.body = some c) (hN : fn.ntmps = N) (hrs : fn.results = rs)
    (hn : (fn.name == "runtime.NumGoroutine") = false)
    (h : ∀ args r, S args r → args.length ≤ N ∧ (∀ a ∈ args, a.loose) ∧ HT ⟨P, T, pf, true, false, hT, hpf⟩ N c ⟨argSl args, fun _ => none, 64⟩ (PostP P rs r)) : FOk P f (pureR S) := by
  subst hN hrs
  refine ⟨fun av w => enters hf hn hb av w, fun args H base r H' e B w β av hβ hH hB hv => ?_⟩
  obtain ⟨e, hloose, rfl⟩ := e
  obtain ⟨hle, hla, hh⟩ := h args r e
  have h0 : HRel ⟨fun _ => none, β.fz, fun _ => False⟩ (fun _ => none) w (fun c => w.heap.size ≤ c) := ⟨hH.fz, fun i cs hi => by simp at hi, fun i es clk hi => by simp at hi, fun i j bi bj li lj _ hi => by simp at hi, fun c hc => hc.elim, fun i b l hi => by simp at hi, fun i S G s hi => by simp at hi, fun i j S G s S' G' s' hi => by simp at hi, fun i sz es clk ho hi => by simp at hi, fun i j sz es clk ho b hi => by simp at hi⟩
  refine calls_of_HT (F := ⟨fun c => w.heap.size ≤ c, w, ⟨fun _ => none, β.fz, fun _ => False⟩, 0⟩) hf hb hh (fun _ => ⟨fun _ h => absurd rfl h, rfl⟩) (Rep_zero (Rep_begin (β := ⟨fun _ => none, β.fz, fun _ => False⟩) (base := 64) (fun j hj => absurd rfl hj) h0 (fun _ h => h) (Vs_loose hla hv) hle)) ?_
  intro e' σ' a' w' β' ds q hsince hs hH' hb' hbel hB'
  have fin : (∃ r0, resA P fn.results σ' = some r0 ∧ Wk r0 r) → ∃ v, (results fn a'.tmps).run P w' = .ok v w' ∧ Outcome P β B base w r H' (.returned v) w' := by
    rintro ⟨r0, hr, hwk⟩
    obtain ⟨v, hv1, hv2⟩ := resA_ok (P := P) hr hs hH'
    have hle2 : Beta.le β ⟨β.loc, β'.fz, β.ys⟩ := ⟨fun _ _ h => h, hsince.le.fz⟩
    refine ⟨v, hv1, v, ⟨β.loc, β'.fz, β.ys⟩, rfl, ⟨hle2, fun j hj => .inl hj, fun c o hc => ?_⟩, hloose _ _ _ _ (hwk _ _ hv2), ?_, .of hB hbel⟩
    · rcases hsince.fz c o hc with h1 | h1
      · exact .inl h1
      · exact .inr (hB _ h1)
    · exact hH.frame (_H2 := σ'.hp) (_B2 := fun c => w.heap.size ≤ c) hle2 rfl rfl (fun c o hc => hsince.fz c o hc) hH'.fz hbel
  cases e' with
  | normal => exact ⟨.inl rfl, fin q⟩
  | ret => exact ⟨.inr rfl, fin q⟩
  | _ => exact q.elim

/-- From what a body leaves to what the table tells. -/
def Fin (H : Heap) (base : Nat) (r0 : AV) (hp : Heap) (r : AV) (H' : Heap) : Prop :=
  ∀ (β0 β : Beta) (B : Bd) (w0 w : World) (v : Value), HRel β0 H w0 B → Beta.le β0 β → (∀ j, β0 j ≠ none → j < base) → (∀ j, β j ≠ none → β0 j ≠ none ∨ base ≤ j) → (∀ c o, β.fz c o ≠ none → β0.fz c o ≠ none ∨ B c) → HRel β hp w B → V β r0 v →
    ∃ β', ExtR β0 β' B base ∧ V β' r v ∧ HRel β' H' w B

def PostF (P : Program) (rs : Array ResultVar) (H : Heap) (base : Nat) (r : AV) (H' : Heap) : Exit → AS → Prop := fun e σ => match e with
  | .normal | .ret => ∃ r0, resA P rs σ = some r0 ∧ Fin H base r0 σ.hp r H'
  | _ => False

theorem HRel.sup {β : Beta} {H : Heap} {w : World} {B B' : Bd} (h : HRel β H w B) (k : ∀ c, B c → B' c) : HRel β H w B' :=
  ⟨h.fz, fun i cs hi => let ⟨l, h1, h2, h3⟩ := h.own i cs hi; ⟨l, h1, h2, fun hk => let ⟨a, b⟩ := h3 hk; ⟨k _ a, b⟩⟩, fun i es clk hi => let ⟨l, h1, h2, h3, h4⟩ := h.map i es clk hi; ⟨l, h1, h2, k _ h3, h4⟩, h.sep, fun c hc => ⟨k _ (h.ys c hc).1, (h.ys c hc).2⟩, h.yo, h.gh, h.gh1, fun i sz es clk ho hi => let ⟨l, h1, h2, h3, h4⟩ := h.mps i sz es clk ho hi; ⟨l, h1, h2, k _ h3, h4⟩, h.mp1⟩

/-- A function's body walked: its row. -/
theorem FOk_of {P : Program} {T : Tbl} {pf : FuncId → Bool} (hT : TOk P T) (hpf : PfOk T pf) {f : FuncId} {fn : Func} {c : Code} {s : FSpec} {N : Nat} {rs : Array ResultVar} (hf : P.funcs[f]? = some fn) (hb : fn.body = some c) (hN : fn.ntmps = N) (hrs : fn.results = rs)
    (hn : (fn.name == "runtime.NumGoroutine") = false)
    (h : ∀ args H base r H', (∀ i b, H i = some b → i < base) → s args H base r H' → args.length ≤ N ∧ HT ⟨P, T, pf, false, false, hT, hpf⟩ N c ⟨argSl args, H, base⟩ (PostF P rs H base r H')) : FOk P f s := by
  subst hN hrs
  refine ⟨fun av w => enters hf hn hb av w, fun args H base r H' e B w β av hβ hH hB hv => ?_⟩
  obtain ⟨hle, hh⟩ := h args H base r H' (fun i b hi => let ⟨l, hl⟩ := hH.locOf hi; hβ i (by simp [hl])) e
  refine calls_of_HT hf hb hh (fun h => by cases h) (Rep_begin hβ hH hB hv hle) ?_
  intro e' σ' a' w' β' ds q hsince hs hH' hb' hbel hB'
  have fin : (∃ r0, resA P fn.results σ' = some r0 ∧ Fin H base r0 σ'.hp r H') → ∃ v, (results fn a'.tmps).run P w' = .ok v w' ∧ Outcome P β B base w r H' (.returned v) w' := by
    rintro ⟨r0, hr, hfin⟩
    obtain ⟨v, hv1, hv2⟩ := resA_ok (P := P) hr hs hH'
    obtain ⟨β'', g1, g3, g4⟩ := hfin β β' B w w' v hH hsince.le hβ hsince.dom hsince.fz (hH'.sup fun c hc => hc.1) hv2
    exact ⟨v, hv1, v, β'', rfl, g1, g3, g4, hbel⟩
  cases e' with
  | normal => exact ⟨.inl rfl, fin q⟩
  | ret => exact ⟨.inr rfl, fin q⟩
  | _ => exact q.elim

/-- Slots read off what was written. -/
theorem supd_ap (f : Nat → AV) (i j : Nat) (x : AV) : supd f i x j = if j = i then x else f j := rfl
theorem supd_self {sl : Nat → AV} {t : Nat} {a : AV} (h : sl t = a) : supd sl t a = sl := by
  funext j; unfold supd upd; split
  · rename_i e; subst e; exact h.symm
  · rfl

@[simp] theorem Then_normal {K : AS → Prop} {Q : Exit → AS → Prop} {σ : AS} : Then K Q .normal σ = K σ := rfl
@[simp] theorem Then_ret {K : AS → Prop} {Q : Exit → AS → Prop} {σ : AS} : Then K Q .ret σ = Q .ret σ := rfl
@[simp] theorem Then_exit {K : AS → Prop} {Q : Exit → AS → Prop} {σ : AS} {i : Nat} : Then K Q (.exit i) σ = Q (.exit i) σ := rfl
@[simp] theorem InBlock_normal {i : Nat} {Q : Exit → AS → Prop} {σ : AS} : InBlock i Q .normal σ = Q .normal σ := rfl
@[simp] theorem InBlock_ret {i : Nat} {Q : Exit → AS → Prop} {σ : AS} : InBlock i Q .ret σ = Q .ret σ := rfl
@[simp] theorem InBlock_exit {i j : Nat} {Q : Exit → AS → Prop} {σ : AS} : InBlock i Q (.exit j) σ = if j = i then Q .normal σ else Q (.exit j) σ := rfl
@[simp] theorem NoGoto_normal {Q : Exit → AS → Prop} {σ : AS} : NoGoto Q .normal σ = Q .normal σ := rfl
@[simp] theorem NoGoto_ret {Q : Exit → AS → Prop} {σ : AS} : NoGoto Q .ret σ = Q .ret σ := rfl
@[simp] theorem NoGoto_exit {j : Nat} {Q : Exit → AS → Prop} {σ : AS} : NoGoto Q (.exit j) σ = Q (.exit j) σ := rfl


theorem wrap64 {x : Int} (h1 : -9223372036854775808 ≤ x) (h2 : x ≤ 9223372036854775807) : IntKind.i64.wrap x = x := by
  rw [IntKind.wrap_i64]; omega
theorem upd_at {α : Type} (f : Nat → α) {i j : Nat} (x : α) (h : j = i) : upd f i x j = x := by simp [upd, h]
theorem some_inv {g : Prop} [Decidable g] {α : Type u} {x y : α} (h : (if g then some x else none) = some y) : g ∧ y = x := by
  split at h <;> simp_all
end Go.Eng
