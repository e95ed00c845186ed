import Derived.Test.YtcidmnpihffphaaEngW
namespace Go.Eng
open Go.RowKit (Below)

/-- A value that names no block. -/
def AV.loose (r : AV) : Prop := ∀ (β : Beta) (loc' : Nat → Option Loc) (ys' : Nat → Prop) (v : Value), V β r v → V ⟨loc', β.fz, ys'⟩ r v

/-- How a map of places grows at a call. -/
structure ExtR (β β' : Beta) (B : Bd) (base : Nat) : Prop where
  le : Beta.le β β'
  dom : ∀ j, β' j ≠ none → β j ≠ none ∨ (base ≤ j ∧ j < base + 64)
  fz : ∀ c o, β'.fz c o ≠ none → β.fz c o ≠ none ∨ B c
theorem Ext.toR {β β' : Beta} {B : Bd} {id : Nat} (h : Ext β β' B id) : ExtR β β' B id := ⟨h.le, fun j hj => (h.dom j hj).imp (fun h => h) fun e => by omega, h.fz⟩

/-- What is known of a call's outcome. -/
def Outcome (_P : Program) (β : Beta) (B : Bd) (base : Nat) (w : World) (r : AV) (H' : Heap) : Ending → World → Prop := fun e w' =>
  ∃ v β', e = .returned v ∧ ExtR β β' B base ∧ V β' r v ∧ HRel β' H' w' B ∧ BelowP B w w'

/-- The table tells the truth. -/
def TOk (P : Program) (T : Tbl) : Prop :=
  ∀ f args H base r H', T f args H base r H' →
    (∀ av w, (callFunc f av).run P w = .ok (.enter f av) w) ∧
    ∀ (B : Bd) (w : World) (β : Beta) (av : List Value), (∀ j, β j ≠ none → j < base) → HRel β H w B → B.top w.heap.size → Vs β args av →
      Calls P f av.toArray w (Outcome P β B base w r H')

/-- The functions that are told to be pure turn nothing and hand back no block. -/
def PfOk (T : Tbl) (pf : FuncId → Bool) : Prop :=
  ∀ f, pf f = true → ∀ args H base r H', T f args H base r H' → H' = H ∧ r.loose ∧ ∀ base' H1, T f args H1 base' r H1

section
variable {P : Program} {β : Beta} {w : World}

/-- Nothing is fenced; the frame of a function, or that of a round. -/
def fen (ro : Option Nat) : Fence := { Fence.wide with round := ro }
theorem callsIn_fen {ro : Option Nat} {n : Nat} {f : FuncId} {args : Array Value} {R : Ending → World → Prop} (h : Calls P f args w R) : CallsIn (fen ro) n P f args w R :=
  let k : CallsIn Fence.wide n P f args w R := callsIn_wide.2 h
  ⟨trivial, k.2⟩
theorem roundIn_fen {ro : Option Nat} {n : Nat} {l : Nat} {f : FuncId} {tmps : Array Value} {x y : Code} {R : Ending → World → Prop} (h : RoundIn Fence.wide 0 P l f tmps x y w R) : RoundIn (fen ro) n P l f tmps x y w R :=
  ⟨trivial, fun c cs _ => h.2 c cs (room_wide _)⟩
theorem wp_any {ro : Option Nat} {o : Oper} {a : Act} {K : Act → World → Prop} {Q : Exit → Act → World → Prop} (hd : ∀ c, o.op ≠ .defer c) (h : o.uponIn (fen ro) 0 P a K Q ((execOp a.eval o).run P w)) : o.wpIn (fen ro) 0 P a w K Q :=
  ⟨fun _ _ => trivial, by rw [Oper.semAt_eq _ _ _ hd]; exact h⟩
theorem wp_value {ro : Option Nat} {o : Oper} {a : Act} {w' : World} {v : Value} {K : Act → World → Prop} {Q : Exit → Act → World → Prop} (hd : ∀ c, o.op ≠ .defer c) (h : (execOp a.eval o).run P w = .ok (.value v) w') (k : K (a.put o.dst v) w') : o.wpIn (fen ro) 0 P a w K Q :=
  wp_any hd (by rw [h]; exact k)
theorem wp_skip' {ro : Option Nat} {o : Oper} {a : Act} {w' : World} {K : Act → World → Prop} {Q : Exit → Act → World → Prop} (hd : ∀ c, o.op ≠ .defer c) (h : (execOp a.eval o).run P w = .ok .skip w') (k : K (a.put o.dst undef) w') : o.wpIn (fen ro) 0 P a w K Q :=
  wp_any hd (by rw [h]; exact k)
theorem wp_enter' {ro : Option Nat} {o : Oper} {a : Act} {f : FuncId} {args : Array Value} {K : Act → World → Prop} {Q : Exit → Act → World → Prop} (hd : ∀ c, o.op ≠ .defer c) (h : (execOp a.eval o).run P w = .ok (.enter f args) w)
    (k : Calls P f args w fun e w' => ∃ v, e = .returned v ∧ K (a.put o.dst v) w') : o.wpIn (fen ro) 0 P a w K Q :=
  wp_any hd (by
    rw [h]
    refine ⟨(by intro h; cases h), callsIn_fen (k.mono fun e w' ⟨v, he, hk⟩ => ?_)⟩
    subst he; exact hk)
theorem wp_round' {ro : Option Nat} {o : Oper} {a : Act} {l : Nat} {f : FuncId} {tmps : Array Value} {x y : Code} {K : Act → World → Prop} {Q : Exit → Act → World → Prop} (hd : ∀ c, o.op ≠ .defer c) (h : (execOp a.eval o).run P w = .ok (.round l f tmps x y) w)
    (k : RoundIn Fence.wide 0 P l f tmps x y w fun e w' => ∃ v, e = .returned v ∧ K (a.put o.dst v) w') : o.wpIn (fen ro) 0 P a w K Q :=
  wp_any hd (by
    rw [h]
    refine ⟨(by intro h; cases h), roundIn_fen (k.mono fun e w' ⟨v, he, hk⟩ => ?_)⟩
    subst he; exact hk)

/-- What was told of the blocks by the old map is told by it still. -/
theorem HRel.backTo {β0 β : Beta} {H : Heap} {w0 w : World} {B : Bd} (h0 : HRel β0 H w0 B) (hle : Beta.le β0 β) (h : HRel β H w B) : HRel (β0.keep β) H w B where
  fz := h.fz
  own i cs hi := by
    obtain ⟨l, h1, h2, h3⟩ := h0.own i cs hi
    refine ⟨l, h1, h2, fun hk => ?_⟩
    obtain ⟨hB, _, full, e, p, q, r⟩ := h3 hk
    obtain ⟨l', h1', _, h3'⟩ := h.own i cs hi
    have := same_loc hle h1 h1'; subst this
    obtain ⟨_, hu, full', e', p', q', r'⟩ := h3' hk
    refine ⟨hB, hu, full', e', p', q', fun j a ha => ?_⟩
    obtain ⟨v0, _, y0⟩ := r j a ha
    obtain ⟨v1, x1, y1⟩ := r' j a ha
    exact ⟨v1, x1, V_back hle _ _ _ y0 y1⟩
  map i es clk hi := by
    obtain ⟨l, h1, h2, h3, ents, h4, m⟩ := h0.map i es clk hi
    obtain ⟨l', h1', _, _, ents', h4', m'⟩ := h.map i es clk hi
    have := same_loc hle h1 h1'; subst this
    refine ⟨l', h1, h2, h3, ents', h4', m'.len, fun j p hp => ?_⟩
    obtain ⟨e0, _, _, a0, b0⟩ := m.rel j p hp
    obtain ⟨e1, x1, y1, a1, b1⟩ := m'.rel j p hp
    exact ⟨e1, x1, y1, V_back hle _ _ _ a0 a1, V_back hle _ _ _ b0 b1⟩
  sep := h0.sep
  ys := h.ys
  yo i b l hi hl pi := h.yo i b l hi (hle.loc _ _ hl) pi
  gh i S G s hi := by
    obtain ⟨l, h1, _⟩ := h0.gh i S G s hi
    obtain ⟨l', h1', h2, h3, h4⟩ := h.gh i S G s hi
    have := same_loc hle h1 h1'; subst this
    exact ⟨_, h1, h2, h3, h4⟩
  gh1 := h0.gh1
  mps i sz es clk ho hi := by
    obtain ⟨l, h1, h2, h3, ents, h4, m, _⟩ := h0.mps i sz es clk ho hi
    obtain ⟨l', h1', _, _, ents', h4', m', m2⟩ := h.mps i sz es clk ho hi
    have := same_loc hle h1 h1'; subst this
    refine ⟨l', h1, h2, h3, ents', h4', ⟨m'.len, fun j p hp => ?_⟩, m2⟩
    obtain ⟨e0, _, _, a0, b0⟩ := m.rel j p hp
    obtain ⟨e1, x1, y1, a1, b1⟩ := m'.rel j p hp
    exact ⟨e1, x1, y1, V_back hle _ _ _ a0 a1, V_back hle _ _ _ b0 b1⟩
  mp1 := h0.mp1

/-- Back from a pure call: nothing has turned. -/
theorem pure_back {c : Ctx} (hpf : PfOk c.T c.pf) {f : FuncId} (hf : c.pf f = true) {args : List AV} {H H' : Heap} {base : Nat} {B : Bd} {r : AV} (hT : c.T f args H base r H') (hH : HRel β H w B) {e : Ending} {w' : World} (ho : Outcome P β B base w r H' e w') :
    ∃ v β', e = .returned v ∧ Beta.le β β' ∧ (∀ j, β' j ≠ none → β j ≠ none) ∧ (∀ c o, β'.fz c o ≠ none → β.fz c o ≠ none ∨ B c) ∧ V β' r v ∧ HRel β' H w' B ∧ BelowP B w w' := by
  obtain ⟨v, β', he, hx, hv, hH', hb⟩ := ho
  obtain ⟨rfl, hcl, _⟩ := hpf f hf args H base r H' hT
  exact ⟨v, β.keep β', he, Beta.le_keep hx.le, fun j hj => hj, hx.fz, hcl _ _ _ _ hv, hH.backTo hx.le hH', hb⟩

theorem eval_args {sl : Nat → AV} {a : Act} (hs : ∀ t, V β (sl t) (a.tmps.getD t undef)) (xs : Array Operand) : Vs β (xs.toList.map (evA sl)) (xs.map a.eval).toList := by
  rw [Array.toList_map]; exact evAs_V hs _

set_option maxHeartbeats 800000 in
theorem op_sound {ro : Option Nat} (c : Ctx) (hT : TOk c.P c.T) (hpf : PfOk c.T c.pf) {i : Nat} {o : Oper} {sl : Nat → AV} {a : Act} {H H' : Heap} {B : Bd} {r : AV} (hs : ∀ t, V β (sl t) (a.tmps.getD t undef)) (hH : HRel β H w B) (hB : B.top w.heap.size)
    (he : effR (opA c i o sl) H (c.b + i * 64) r H')
    (hfresh : (opA c i o sl).uses = true → ∀ j, c.b + i * 64 ≤ j → j < c.b + i * 64 + 64 → β j = none)
    (hlow : (opA c i o sl).isWrite = true → ∀ j, β j ≠ none → j < c.b + i * 64)
    (hall : ∀ j, β j ≠ none → j < c.b + c.n * 64)
    {K : Act → World → Prop} {Q : Exit → Act → World → Prop}
    (hK : ∀ β' v w', Beta.le β β' → (∀ j, β' j ≠ none → β j ≠ none ∨ ((opA c i o sl).uses = true ∧ c.b + i * 64 ≤ j ∧ j < c.b + i * 64 + 64)) → (∀ c o, β'.fz c o ≠ none → β.fz c o ≠ none ∨ B c) → V β' r v → HRel β' H' w' B → BelowP B w w' → K (a.put o.dst v) w') :
    o.wpIn (fen ro) 0 c.P a w K Q := by
  obtain ⟨dst, op, type, pos, after, guard⟩ := o
  have hd : ∀ d, (⟨dst, op, type, pos, after, guard⟩ : Oper).op ≠ .defer d := fun d h => by
    simp only at h; subst h; exact he.1
  have kpure : ∀ {v : Value} {e : AV → Prop}, opA c i ⟨dst, op, type, pos, after, guard⟩ sl = .pure e → (∀ r, e r → ∃ v, (execOp a.eval ⟨dst, op, type, pos, after, guard⟩).run c.P w = .ok (.value v) w ∧ V β r v) → Oper.wpIn (fen ro) 0 c.P ⟨dst, op, type, pos, after, guard⟩ a w K Q := by
    intro _ e hop hr
    rw [hop] at he
    obtain ⟨he, rfl⟩ := he
    obtain ⟨v, h1, h2⟩ := hr _ he
    exact wp_value hd h1 (hK β v w (Beta.le.refl _) (fun j hj => .inl hj) (fun c o h => .inl h) h2 hH (BelowP.refl _ _))
  have kalloc : ∀ {e : AV → AB → Prop}, opA c i ⟨dst, op, type, pos, after, guard⟩ sl = .alloc e →
      (∀ r blk, e r blk → β (c.b + i * 64) = none → ∃ β' w' v, (execOp a.eval ⟨dst, op, type, pos, after, guard⟩).run c.P w = .ok (.value v) w' ∧ Ext β β' B (c.b + i * 64) ∧ V β' r v ∧ HRel β' (upd H (c.b + i * 64) (some blk)) w' B ∧ BelowP (fun c => w.heap.size ≤ c) w w') →
      Oper.wpIn (fen ro) 0 c.P ⟨dst, op, type, pos, after, guard⟩ a w K Q := by
    intro e hop hr
    have huse : (opA c i ⟨dst, op, type, pos, after, guard⟩ sl).uses = true := by rw [hop]; rfl
    have hf := hfresh huse (c.b + i * 64) (Nat.le_refl _) (by omega)
    rw [hop] at he
    obtain ⟨blk, he, rfl⟩ := he
    obtain ⟨β', w', v, h1, h2, h4, h5, h6⟩ := hr _ _ he hf
    exact wp_value hd h1 (hK β' v w' h2.le (fun j hj => (h2.dom j hj).imp id fun e => ⟨huse, by omega, by omega⟩) h2.fz h4 h5 (.of hB h6))
  cases op with
  | move x => exact kpure (v := undef) rfl fun r hr => by cases hr; exact ⟨a.eval x, by simp [execOp], evA_V hs x⟩
  | assign x => exact kpure (v := undef) rfl fun r hr => by cases hr; exact ⟨a.eval x, by simp [execOp], evA_V hs x⟩
  | pick q x y =>
    refine kpure (v := undef) rfl fun r hr => ?_
    have hq := evA_V hs q
    split at hr <;> (try (exact hr.elim))
    rename_i t hqt
    rw [hqt] at hq
    have hb := V_bool hq
    subst hr
    cases t
    · exact ⟨a.eval y, by simp [execOp, hb, asBool], evA_V hs y⟩
    · exact ⟨a.eval x, by simp [execOp, hb, asBool], evA_V hs x⟩
  | alloc t =>
    refine kalloc rfl fun r blk hr hf => ?_
    obtain ⟨z, hz, rfl, rfl⟩ := hr
    obtain ⟨β', w', h1, h2, h3, h4, h5, h6, h7⟩ := alloc_ok (P := c.P) hH hB hf hz
    exact ⟨β', w', _, by simp [execOp, h1], ⟨h2, h3, fun c o h => .inl (h7 ▸ h)⟩, h4, h5, h6⟩
  | box t x =>
    refine kalloc rfl fun r blk hr hf => ?_
    obtain ⟨z, hz, rfl, rfl⟩ := hr
    obtain ⟨β', w', h1, h2, h3, h4, h5, h6, h7⟩ := box_ok (P := c.P) (t := t) hH hB hf hz (evA_V hs x)
    exact ⟨β', w', _, by simp [execOp, h1], ⟨h2, h3, fun c o h => .inl (h7 ▸ h)⟩, h4, h5, h6⟩
  | build t ps =>
    refine kpure (v := undef) rfl fun r hr => ?_
    obtain ⟨h1, h2⟩ := parts_V hs ps.toList
    obtain ⟨z, h3, h4⟩ := build_ok (w := w) (ps := ps.map fun (i, x) => (i, a.eval x)) hr (by simp) (by simpa using h2)
    exact ⟨z, by simp [execOp, h3], h4⟩
  | buildSlice t n ps =>
    refine kalloc rfl fun r blk hr hf => ?_
    obtain ⟨h1, h2⟩ := parts_V hs ps.toList
    obtain ⟨β', w', v, g1, g2, g3, g4, g5, g6, g7⟩ := buildSlice_ok (w := w) (ps := ps.map fun (i, x) => (i, a.eval x)) hH hB hf hr (by simp) (by simpa using h2)
    exact ⟨β', w', v, by simp [execOp, g1], ⟨g2, g3, g7⟩, g4, g5, g6⟩
  | load t p =>
    obtain ⟨hl, rfl⟩ := he
    obtain ⟨z, h1, h2⟩ := load_ok (P := c.P) hH hl (evA_V hs p)
    exact wp_value hd (by simp [execOp, h1]) (hK β z w (Beta.le.refl _) (fun j hj => .inl hj) (fun c o h => .inl h) h2 hH (BelowP.refl _ _))
  | store t p x =>
    obtain ⟨w', h1, rfl, h2, h3⟩ := store_ok (P := c.P) hH he (evA_V hs p) (evA_V hs x)
    exact wp_skip' hd (by simp [execOp, h1]) (hK β undef w' (Beta.le.refl _) (fun j hj => .inl hj) (fun c o h => .inl h) (by simp [V]) h2 h3)
  | nilCheck x =>
    refine kpure (v := undef) rfl fun r hr => ?_
    have hx := evA_V hs x
    obtain ⟨rfl, hr⟩ := hr
    split at hr <;> (try (exact hr.elim))
    · rename_i k o hk
      rw [hk] at hx ⊢
      obtain ⟨l, hl, hv⟩ := V_ptr hx
      exact ⟨.pointer (some ⟨l.c, l.o + o, none⟩), by simp [execOp, hv], by unfold V; exact ⟨l, hl, rfl⟩⟩
    · rename_i cs o hk
      rw [hk] at hx ⊢
      obtain ⟨b, q, vs, hv, h1, h2⟩ := V_ep hx
      exact ⟨.pointer (some ⟨b, q + o, none⟩), by simp [execOp, hv], by unfold V; exact ⟨b, q, vs, rfl, h1, h2⟩⟩
    · rename_i f fs cs hk
      rw [hk] at hx ⊢
      simp only [V] at hx
      obtain ⟨fv, cv, hv, hfv, hcv⟩ := hx
      exact ⟨.func (.func f) fv.toArray cv.toArray, by simp [execOp, hv], by unfold V; exact ⟨fv, cv, rfl, hfv, hcv⟩⟩
  | binOp op t x y yt =>
    refine kpure (v := undef) rfl fun r hr => ?_
    rcases hr with hr | ⟨b, hr, hop⟩
    · obtain ⟨z, h1, h2⟩ := bin_ok (P := c.P) (w := w) t yt x y hr (evA_V hs x) (evA_V hs y)
      exact ⟨z, by simp only [execOp, Sem.run_bind] at h1 ⊢; simp only [h1]; rfl, h2⟩
    · obtain ⟨e1, e2⟩ := hr β w _ _ x y (evA_V hs x) (evA_V hs y)
      rcases hop with ⟨rfl, rfl⟩ | ⟨rfl, rfl⟩
      · exact ⟨.bool b, by simp only [execOp, Sem.run_bind] at e1 ⊢; simp only [e1]; rfl, by simp [V]⟩
      · exact ⟨.bool !b, by simp only [execOp, Sem.run_bind] at e2 ⊢; simp only [e2]; rfl, by simp [V]⟩
  | unOp op t x =>
    refine kpure (v := undef) rfl fun r hr => ?_
    obtain ⟨z, h1, h2⟩ := un_ok (P := c.P) (w := w) hr (evA_V hs x)
    exact ⟨z, by simp [execOp, h1], h2⟩
  | convert s d x =>
    refine kpure (v := undef) rfl fun r hr => ?_
    obtain ⟨z, h1, h2⟩ := conv_ok (P := c.P) (w := w) hr (evA_V hs x)
    exact ⟨z, by simp [execOp, h1], h2⟩
  | makeFunc fn first caps =>
    refine kpure (v := undef) rfl fun r hr => ?_
    split at hr <;> (try (exact hr.elim))
    rename_i f
    cases hr
    exact ⟨.func (.func f) (first.map a.eval) (caps.map a.eval), by simp [execOp, Instr.makeFunc], by unfold V; exact ⟨first.toList.map a.eval, caps.toList.map a.eval, by rw [show (caps.toList.map a.eval).toArray = caps.map a.eval from by apply Array.toList_inj.1; simp, show (first.toList.map a.eval).toArray = first.map a.eval from by apply Array.toList_inj.1; simp], evAs_V hs _, evAs_V hs _⟩⟩
  | makeSlice t l k =>
    refine kalloc rfl fun r blk hr hf => ?_
    obtain ⟨r0, hr, hwk⟩ := hr
    obtain ⟨β', w', v, g1, g2, g3, g4, g5, g6, g7⟩ := makeSlice_ok (P := c.P) hH hB hf hr (evA_V hs l) (evA_V hs k)
    exact ⟨β', w', v, by simp [execOp, g1], ⟨g2, g3, fun c o h => .inl (g7 ▸ h)⟩, hwk _ _ g4, g5, g6⟩
  | makeMap t rv =>
    cases rv with
    | some _ => exact he.1.elim
    | none =>
      refine kalloc rfl fun r blk hr hf => ?_
      obtain ⟨rfl, rfl⟩ := hr
      obtain ⟨β', w', v, g1, g2, g3, g4, g5, g6, g7⟩ := mkm_ok (P := c.P) hH hB hf t
      exact ⟨β', w', v, by simp [execOp, g1], ⟨g2, g3, fun c o h => .inl (g7 ▸ h)⟩, g4, g5, g6⟩
  | lookup t x k ok =>
    obtain ⟨hl, rfl⟩ := he
    obtain ⟨z, h1, h2⟩ := look_ok (P := c.P) hH hl (evA_V hs x) (evA_V hs k)
    exact wp_value hd (by simp [execOp, h1]) (hK β z w (Beta.le.refl _) (fun j hj => .inl hj) (fun c o h => .inl h) h2 hH (BelowP.refl _ _))
  | mapUpdate t m k x =>
    obtain ⟨w', h1, rfl, h2, h3⟩ := upd_ok (P := c.P) hH he (evA_V hs m) (evA_V hs k) (evA_V hs x)
    exact wp_skip' hd (by simp [execOp, h1]) (hK β undef w' (Beta.le.refl _) (fun j hj => .inl hj) (fun c o h => .inl h) (by simp [V]) h2 h3)
  | mapEntry t m k =>
    obtain ⟨w', z, h1, h0, h2, h3⟩ := ent_ok (P := c.P) hH he (evA_V hs m) (evA_V hs k)
    exact wp_value hd (by simp [execOp, h1]) (hK β z w' (Beta.le.refl _) (fun j hj => .inl hj) (fun c o h => .inl h) h0 h2 h3)
  | entryStore t m s x =>
    obtain ⟨w', h1, rfl, h2, h3⟩ := est_ok (P := c.P) (t := t) hH he (evA_V hs m) (evA_V hs s) (evA_V hs x)
    exact wp_skip' hd (by simp [execOp, h1]) (hK β undef w' (Beta.le.refl _) (fun j hj => .inl hj) (fun c o h => .inl h) (by simp [V]) h2 h3)
  | slice t x lo hi mx =>
    refine kpure (v := undef) rfl fun r hr => ?_
    obtain ⟨r0, hr, hrwk⟩ := hr
    obtain ⟨z, h1, h2⟩ := slice_ok (P := c.P) (w := w) hr (evA_V hs x) (evO_V hs lo) (evO_V hs hi) (evO_V hs mx)
    exact ⟨z, by simp [execOp, h1], hrwk _ _ h2⟩
  | fieldAddr t x f =>
    refine kpure (v := undef) rfl fun r hr => ?_
    obtain ⟨z, h1, h2⟩ := fieldAddr_ok (P := c.P) (w := w) hr (evA_V hs x)
    exact ⟨z, by simp [execOp, h1], h2⟩
  | field t x f =>
    refine kpure (v := undef) rfl fun r hr => ?_
    obtain ⟨z, h1, h2⟩ := field_ok (P := c.P) (w := w) hr (evA_V hs x)
    exact ⟨z, by simp [execOp, h1], h2⟩
  | indexAddr t x k =>
    refine kpure (v := undef) rfl fun r hr => ?_
    obtain ⟨z, h1, h2⟩ := indexAddr_ok (P := c.P) (w := w) hr (evA_V hs x) (evA_V hs k)
    exact ⟨z, by simp [execOp, h1], h2⟩
  | index t x k =>
    refine kpure (v := undef) rfl fun r hr => ?_
    obtain ⟨z, h1, h2⟩ := index_ok (P := c.P) (w := w) hr (evA_V hs x) (evA_V hs k)
    exact ⟨z, by simp [execOp, h1], h2⟩
  | extract x k =>
    refine kpure (v := undef) rfl fun r hr => ?_
    have hx := evA_V hs x
    split at hr <;> (try (exact hr.elim))
    rename_i vs hk
    rw [hk] at hx
    simp only [V] at hx
    obtain ⟨us, hv, hus⟩ := hx
    obtain ⟨u, h1, h2⟩ := Vs_get hus _ _ hr
    exact ⟨u, by simp [execOp, hv, Instr.extract, h1], h2⟩
  | call cl =>
    obtain ⟨callee, args, argTypes⟩ := cl
    cases callee with
    | invoke r m => exact absurd he.1 (by simp)
    | builtin b =>
      cases b
      case len =>
        simp only [opA, effR] at he
        obtain ⟨he, rfl⟩ := he
        split at he <;> (try (exact he.elim))
        rename_i x t tl hargs htys
        have e1 : args = #[x] := by apply Array.toList_inj.1; simpa using hargs
        have e2 : argTypes[0]? = some t := by rw [← Array.getElem?_toList, htys]; rfl
        subst e1
        obtain ⟨z, h1, h2⟩ := lenm_ok (P := c.P) (w := w) (ty := type) hH argTypes e2 he (evA_V hs x)
        exact wp_value hd (by simp [execOp, resolve, invoke, builtin, h1]) (hK β z w (Beta.le.refl _) (fun j hj => .inl hj) (fun c o h => .inl h) h2 hH (BelowP.refl _ _))
      case delete =>
        simp only [opA, effR] at he
        split at he <;> (try (exact he.elim))
        rename_i m k t kt hargs htys
        have e1 : args = #[m, k] := by apply Array.toList_inj.1; simpa using hargs
        have e2 : argTypes = #[t, kt] := by apply Array.toList_inj.1; simpa using htys
        subst e1 e2
        obtain ⟨w', z, g1, g2, g3, g4⟩ := del_ok (P := c.P) (ty := type) (kt' := kt) hH he (evA_V hs m) (evA_V hs k)
        exact wp_value hd (by simp [execOp, resolve, invoke, builtin, g1]) (hK β z w' (Beta.le.refl _) (fun j hj => .inl hj) (fun c o h => .inl h) g2 g3 g4)
      case min =>
        refine kpure (v := undef) rfl fun r hr => ?_
        obtain ⟨z, h1, h2⟩ := min_ok (P := c.P) (w := w) (vs := args.map a.eval) argTypes type hr (eval_args hs args)
        exact ⟨z, by simp [execOp, resolve, invoke, builtin, h1], h2⟩
      case max =>
        refine kpure (v := undef) rfl fun r hr => ?_
        obtain ⟨z, h1, h2⟩ := max_ok (P := c.P) (w := w) (vs := args.map a.eval) argTypes type hr (eval_args hs args)
        exact ⟨z, by simp [execOp, resolve, invoke, builtin, h1], h2⟩
      case append =>
        have huse : (opA c i ⟨dst, .call ⟨.builtin .append, args, argTypes⟩, type, pos, after, guard⟩ sl).uses = true := by
          simp only [opA]; split <;> rfl
        have hfr := hfresh huse (c.b + i * 64) (Nat.le_refl _) (by omega)
        simp only [opA] at he
        split at he
        · simp only [effR] at he
          obtain ⟨blk, he, rfl⟩ := he
          split at he <;> (try (exact he.elim))
          rename_i s x t u hargs htys
          have e1 : args = #[s, x] := by apply Array.toList_inj.1; simpa using hargs
          have e2 : argTypes = #[t, u] := by apply Array.toList_inj.1; simpa using htys
          subst e1 e2
          have : ∃ β' w' v, (Builtin.append_ #[t, u] type #[a.eval s, a.eval x]).run c.P w = .ok v w' ∧ Ext β β' B (c.b + i * 64) ∧ V β' r v ∧ HRel β' (upd H (c.b + i * 64) (some blk)) w' B ∧ BelowP B w w' := by
            obtain ⟨r0, he, hwk⟩ := he
            have : ∃ β' w' v, (Builtin.append_ #[t, u] type #[a.eval s, a.eval x]).run c.P w = .ok v w' ∧ Ext β β' B (c.b + i * 64) ∧ V β' r0 v ∧ HRel β' (upd H (c.b + i * 64) (some blk)) w' B ∧ BelowP B w w' := by
              rcases he with ⟨k1, k2, he⟩ | he
              · exact append_ok (P := c.P) (ty := type) hH hB hfr k1 k2 (he H) (evA_V hs s) (evA_V hs x)
              · exact appendT_ok (P := c.P) (ty := type) hH hB hfr (he H) (evA_V hs s) (evA_V hs x)
            obtain ⟨β', w', v, g1, g2, g3, g4, g5⟩ := this
            exact ⟨β', w', v, g1, g2, hwk _ _ g3, g4, g5⟩
          obtain ⟨β', w', v, g1, g2, g4, g5, g6⟩ := this
          exact wp_value hd (by simp [execOp, resolve, invoke, builtin, g1]) (hK β' v w' g2.le (fun j hj => (g2.dom j hj).imp id fun e => ⟨huse, by omega, by omega⟩) g2.fz g4 g5 g6)
        simp only [effR] at he
        split at he <;> (try (exact he.elim))
        rename_i s x t u hargs htys
        have e1 : args = #[s, x] := by apply Array.toList_inj.1; simpa using hargs
        have e2 : argTypes = #[t, u] := by apply Array.toList_inj.1; simpa using htys
        subst e1 e2
        have : ∃ β' w' v, (Builtin.append_ #[t, u] type #[a.eval s, a.eval x]).run c.P w = .ok v w' ∧ Ext β β' B (c.b + i * 64) ∧ V β' r v ∧ HRel β' H' w' B ∧ BelowP B w w' := by
          obtain ⟨r0, he, hwk⟩ := he
          have : ∃ β' w' v, (Builtin.append_ #[t, u] type #[a.eval s, a.eval x]).run c.P w = .ok v w' ∧ Ext β β' B (c.b + i * 64) ∧ V β' r0 v ∧ HRel β' H' w' B ∧ BelowP B w w' := by
            rcases he with ⟨k1, k2, he⟩ | he
            · exact append_ok (P := c.P) (ty := type) hH hB hfr k1 k2 he (evA_V hs s) (evA_V hs x)
            · exact appendT_ok (P := c.P) (ty := type) hH hB hfr he (evA_V hs s) (evA_V hs x)
          obtain ⟨β', w', v, g1, g2, g3, g4, g5⟩ := this
          exact ⟨β', w', v, g1, g2, hwk _ _ g3, g4, g5⟩
        obtain ⟨β', w', v, g1, g2, g4, g5, g6⟩ := this
        exact wp_value hd (by simp [execOp, resolve, invoke, builtin, g1]) (hK β' v w' g2.le (fun j hj => (g2.dom j hj).imp id fun e => ⟨huse, by omega, by omega⟩) g2.fz g4 g5 g6)
      all_goals exact absurd he.1 (by simp)
    | value f =>
      have dyn : ∀ (g : AV), V β g (a.eval f) → callR c i g (args.toList.map (evA sl)) H r H' → (∀ j, β j ≠ none → j < c.b + i * 64) →
          (∀ β' v w', Beta.le β β' → (∀ j, β' j ≠ none → β j ≠ none ∨ (c.b + i * 64 ≤ j ∧ j < c.b + i * 64 + 64)) → (∀ c o, β'.fz c o ≠ none → β.fz c o ≠ none ∨ B c) → V β' r v → HRel β' H' w' B → BelowP B w w' → K (a.put dst v) w') →
          Oper.wpIn (fen ro) 0 c.P ⟨dst, .call ⟨.value f, args, argTypes⟩, type, pos, after, guard⟩ a w K Q := by
        intro g hg hcall hl hk
        unfold callR at hcall
        split at hcall <;> (try (exact hcall.elim))
        case h_2 j =>
          obtain ⟨S, G, s, b, s', av, hj, hP, hav, hY, rfl, rfl⟩ := hcall
          simp only [V] at hg
          obtain ⟨l, hlj, hcv⟩ := hg
          obtain ⟨l', hlj', hk0, hJ, hfz, hfz2⟩ := hH.gh j S G s hj
          rw [hlj] at hlj'; cases hlj'
          have hargs := hav _ _ (eval_args hs args)
          obtain ⟨fn, tmps, x, y, hy, hR⟩ := G.yield s β.ys l.c w av b s' hJ (fun c hc => (hH.ys c hc).2) hY
          rw [hP] at hy hR
          have hrun : (execOp a.eval ⟨dst, .call ⟨.value f, args, argTypes⟩, type, pos, after, guard⟩).run c.P w = .ok (.round l.c fn tmps x y) w := by
            have e : args.map a.eval = av.toArray := by rw [← hargs, Array.toArray_toList]
            simp [execOp, resolve, hcv, Deferred.ofValue, invoke, e, hy]
          refine wp_round' hd hrun (hR.mono fun e w' ho => ?_)
          obtain ⟨rfl, Ys', hJ', hsub, hlt, hbel⟩ := ho
          have hbB : BelowP B w w' := hbel.weaken fun c hc => hc.elim (fun h => (hH.ys c h).1) (fun h => hB c h)
          have hle : Beta.le β ⟨β.loc, β.fz, Ys'⟩ := ⟨fun _ _ h => h, fun _ _ _ h => h⟩
          have hold : ∀ c, c < w.heap.size → ¬ β.ys c → w'.heap[c]? = w.heap[c]? := fun c h1 h2 => hbel.block c fun h => h.elim h2 (fun h => by omega)
          have hcell : ∀ c o v, β.fz c o = some v → w'.cell? ⟨c, o, none⟩ = some v := fun c o v hv => by
            by_cases hc : β.ys c
            · exact G.cells _ _ _ _ c o v hJ' (hfz c o v hc hv)
            · have h0 := hH.fz c o v hv
              exact (World.cell?_of_block (w := w) (a := ⟨c, o, none⟩) (hold c (cell_lt h0) hc)).trans h0
          have hys' : ∀ c, Ys' c → B c ∧ c < w'.heap.size := fun c hc => ⟨(hsub c hc).elim (fun h => (hH.ys c h).1) (fun h => hB c h), hlt c hc⟩
          have hyo' : ∀ i b l, H i = some b → β i = some l → 0 < l.k → ¬ Ys' l.c := fun i b l hi hl hk hc =>
            (hsub _ hc).elim (hH.yo i b l hi hl hk) fun h => by have := (hH.lt_of_own hi hl hk).1; omega
          refine ⟨.bool b, rfl, hk ⟨β.loc, β.fz, Ys'⟩ _ _ hle (fun j hj => .inl hj) (fun c o h => .inl h) (by simp [V]) ?_ hbB⟩
          have hne : ∀ {k cs}, upd H j (some (.gh S G s')) k = some (.cells cs) → H k = some (.cells cs) := fun {k cs} h => by
            unfold upd at h; split at h
            · cases h
            · exact h
          have hneM : ∀ {k es clk}, upd H j (some (.gh S G s')) k = some (.map es clk) → H k = some (.map es clk) := fun {k es clk} h => by
            unfold upd at h; split at h
            · cases h
            · exact h
          have hnm : ∀ {k sz es clk ho}, upd H j (some (.gh S G s')) k = some (.maps sz es clk ho) → False := fun {k sz es clk ho} h => by
            unfold upd at h; split at h
            · cases h
            · rename_i e; exact e (hH.mp1 _ _ _ _ _ _ _ h hj rfl)
          have hneA : ∀ {k b lk}, upd H j (some (.gh S G s')) k = some b → β k = some lk → 0 < lk.k → H k = some b := fun {k b lk} h hlk hpos => by
            unfold upd at h; split at h
            · rename_i e; subst e; rw [hlj] at hlk; cases hlk; omega
            · exact h
          refine ⟨hcell, fun k cs hk => ?_, fun k es clk hk => ?_, fun a b ba bb la lb hab ha hb ea eb pa pb => hH.sep a b ba bb la lb hab (hneA ha ea pa) (hneA hb eb pb) ea eb pa pb, hys', fun k b lk hk hlk hpos => hyo' k b lk (hneA hk hlk hpos) hlk hpos, fun k S2 G2 s2 hk => ?_, fun k k' S2 G2 s2 S3 G3 s3 h2 h3 => ?_, fun k sz es clk ho hk => absurd (hnm hk) (fun e => e), fun k k' sz es clk ho b hk _ _ => absurd (hnm hk) (fun e => e)⟩
          · obtain ⟨lk, g1, g2, g3⟩ := hH.own k cs (hne hk)
            refine ⟨lk, g1, g2, fun hpos => ?_⟩
            obtain ⟨hB', hu, full, e, p, q, r⟩ := g3 hpos
            exact ⟨hB', hu, full, e, (hold _ (Array.getElem?_eq_some_iff.1 p).1 (hH.yo k _ lk (hne hk) g1 hpos)).trans p, q, fun j a ha => let ⟨v, x, y⟩ := r j a ha; ⟨v, x, V_mono hle _ _ y⟩⟩
          · obtain ⟨lk, g1, g2, g3, ents, g4, g5⟩ := hH.map k es clk (hneM hk)
            exact ⟨lk, g1, g2, g3, ents, (hold _ (Array.getElem?_eq_some_iff.1 g4).1 (hH.yo k _ lk (hneM hk) g1 g2)).trans g4, g5.mono hle⟩
          · have hkj : k = j := by
              by_cases e : k = j
              · exact e
              · rw [upd_other _ _ e] at hk; exact hH.gh1 _ _ _ _ _ _ _ _ hk hj
            subst hkj
            simp only [upd_same, Option.some.injEq, AB.gh.injEq] at hk
            obtain ⟨rfl, hk⟩ := hk
            obtain ⟨h1, h2⟩ := hk
            cases h1; cases h2
            refine ⟨l, hlj, hk0, hJ', fun c o v hc hv => ?_, hfz2⟩
            rcases hsub c hc with h | h
            · exact hfz c o v h hv
            · rw [hH.fz_none h] at hv; cases hv
          · have one : ∀ {k S2 G2 s2}, upd H j (some (.gh S G s')) k = some (.gh S2 G2 s2) → k = j := fun {k S2 G2 s2} h => by
              by_cases e : k = j
              · exact e
              · rw [upd_other _ _ e] at h; exact hH.gh1 _ _ _ _ _ _ _ _ h hj
            rw [one h2, one h3]
        rename_i f' first caps
        obtain ⟨args', hwk, hcall⟩ := hcall
        simp only [V] at hg
        obtain ⟨fv, cv, hcv, hfvs, hcvs⟩ := hg
        obtain ⟨henter, hcalls⟩ := hT _ _ _ _ _ _ hcall
        have hrun : (execOp a.eval ⟨dst, .call ⟨.value f, args, argTypes⟩, type, pos, after, guard⟩).run c.P w = .ok (.enter f' (fv.toArray ++ args.map a.eval ++ cv.toArray)) w := by
          simp [execOp, resolve, hcv, Deferred.ofValue, invoke, henter]
        refine wp_enter' hd hrun ?_
        have hargs : (fv.toArray ++ args.map a.eval ++ cv.toArray) = (fv ++ (args.map a.eval).toList ++ cv).toArray := by apply Array.toList_inj.1; simp
        rw [hargs]
        refine (hcalls B w β _ hl hH hB (hwk _ _ (Vs_append (Vs_append hfvs (eval_args hs args)) hcvs))).mono fun e w' ho => ?_
        obtain ⟨v, β', he', hx, hv, hH', hb⟩ := ho
        exact ⟨v, he', hk β' v w' hx.le hx.dom hx.fz hv hH' hb⟩
      have stat : ∀ g, f = .func g → Oper.wpIn (fen ro) 0 c.P ⟨dst, .call ⟨.value f, args, argTypes⟩, type, pos, after, guard⟩ a w K Q := by
        rintro g rfl
        by_cases hp : c.pf g = true
        · simp only [opA, hp, if_true, effR] at he
          obtain ⟨⟨args', H2, hwk, hcall⟩, rfl⟩ := he
          obtain ⟨henter, hcalls⟩ := hT _ _ _ _ _ _ hcall
          have hrun : (execOp a.eval ⟨dst, .call ⟨.value (.func g), args, argTypes⟩, type, pos, after, guard⟩).run c.P w = .ok (.enter g (args.map a.eval)) w := by
            simp [execOp, resolve, Act.eval, Deferred.ofValue, invoke, henter]
          refine wp_enter' hd hrun ?_
          have hargs : (args.map a.eval) = ((args.map a.eval).toList).toArray := by rw [Array.toArray_toList]
          rw [hargs]
          refine (hcalls B w β _ hall hH hB (hwk _ _ (eval_args hs args))).mono fun e w' ho => ?_
          obtain ⟨v, β', he', hle, hdom, hfz, hv, hH', hb⟩ := pure_back (c := c) hpf hp hcall hH ho
          exact ⟨v, he', hK β' v w' hle (fun j hj => .inl (hdom j hj)) hfz hv hH' hb⟩
        · have hop : opA c i ⟨dst, .call ⟨.value (.func g), args, argTypes⟩, type, pos, after, guard⟩ sl = .write (callR c i (.fn g [] []) (args.toList.map (evA sl))) := by simp [opA, hp]
          rw [hop] at he hlow hK
          exact dyn (.fn g [] []) (by unfold V; exact ⟨[], [], rfl, by simp [Vs], by simp [Vs]⟩) he (hlow rfl) fun β' v w' h1 h2 => hK β' v w' h1 fun j hj => (h2 j hj).imp id fun h => ⟨rfl, h⟩
      cases f with
      | func g => exact stat g rfl
      | tmp t => exact dyn _ (evA_V hs (.tmp t)) he (hlow rfl) fun β' v w' h1 h2 => hK β' v w' h1 fun j hj => (h2 j hj).imp id fun h => ⟨rfl, h⟩
      | const v => exact dyn _ (evA_V hs (.const v)) he (hlow rfl) fun β' v w' h1 h2 => hK β' v w' h1 fun j hj => (h2 j hj).imp id fun h => ⟨rfl, h⟩
      | global g => exact dyn _ (evA_V hs (.global g)) he (hlow rfl) fun β' v w' h1 h2 => hK β' v w' h1 fun j hj => (h2 j hj).imp id fun h => ⟨rfl, h⟩
  | _ => exact absurd he.1 (by simp)

end
end Go.Eng
