import Derived.Test.YtcidmnpihffphaaEngJ
namespace Go.Eng
open Go.RowKit (Below)

/-- What a call began with: the bound of old memory, the world, the map of blocks, the first number for new blocks. -/
structure Fr where
  B : Bd
  w0 : World
  β0 : Beta
  b0 : Nat

/-- What holds of the map since the call began. -/
structure Since (F : Fr) (β : Beta) (b : Nat) : Prop where
  le : Beta.le F.β0 β
  dom : ∀ j, β j ≠ none → F.β0 j ≠ none ∨ F.b0 ≤ j
  b : F.b0 ≤ b
  fz : ∀ c o, β.fz c o ≠ none → F.β0.fz c o ≠ none ∨ F.B c

/-- What a range over a function leaves among the deferred calls. -/
def mark (D : Nat) : Deferred := { target := .collected D, args := #[] }
/-- What may be turned, but for the marks' blocks. -/
def Bd.x (B : Bd) (ds : List Nat) : Bd := fun c => B c ∧ c ∉ ds
abbrev Fr.Bx (F : Fr) (ds : List Nat) : Bd := F.B.x ds
structure MarksB (B : Bd) (ds : List Nat) (w : World) : Prop where
  nodup : ds.Nodup
  at_ : ∀ D, D ∈ ds → B D ∧ w.heap[D]? = some (.deferred (some []))
abbrev Marks (F : Fr) (ds : List Nat) (w : World) : Prop := MarksB F.B ds w
theorem Marks.nil (F : Fr) (w : World) : Marks F [] w := ⟨List.nodup_nil, fun _ h => by cases h⟩
theorem MarksB.top {B : Bd} {ds : List Nat} {w : World} (h : MarksB B ds w) (hB : B.top w.heap.size) : (B.x ds).top w.heap.size := fun c hc => ⟨hB c hc, fun hd => by
  have := (Array.getElem?_eq_some_iff.1 (h.at_ c hd).2).1; omega⟩
theorem MarksB.step {B : Bd} {ds : List Nat} {w w' : World} (h : MarksB B ds w) (k : BelowP (B.x ds) w w') : MarksB B ds w' :=
  ⟨h.nodup, fun D hD => ⟨(h.at_ D hD).1, (k.block D fun hb => hb.2 hD).trans (h.at_ D hD).2⟩⟩
theorem Fr.Bx_nil (F : Fr) : F.Bx [] = F.B := by funext c; simp [Fr.Bx, Bd.x]

/-- What holds inside a region. -/
def RR (c : Ctx) (F : Fr) (N : Nat) (s : RS) (a : Act) (w : World) : Prop :=
  ∃ β ds, Since F β c.b ∧ (∀ t, V β (s.sl t) (a.tmps.getD t undef)) ∧ HRel β s.hp w (F.Bx ds) ∧ (∀ j, β j ≠ none → j < c.b ∨ ∃ i, i < c.n ∧ s.ex i = true ∧ c.b + i * 64 ≤ j ∧ j < c.b + i * 64 + 64) ∧
    BelowP F.B F.w0 w ∧ F.B.top w.heap.size ∧ a.defers = ds.map mark ∧ Marks F ds w ∧ a.tmps.size = N

theorem put_V {β : Beta} {sl : Nat → AV} {a : Act} {N : Nat} (hs : ∀ t, V β (sl t) (a.tmps.getD t undef)) (hN : a.tmps.size = N) {d : Option Tmp} (hd : ∀ t, d = some t → t < N) {r : AV} {v : Value} (hv : V β r v) :
    ∀ t, V β (putA sl d r t) ((a.put d v).tmps.getD t undef) := by
  cases d with
  | none => exact hs
  | some e =>
    intro t
    have := hd e rfl
    by_cases h : t = e
    · subst h
      simp [putA, supd, Act.put, hN, this, hv]
    · simp only [putA, supd, upd_other _ _ h, Act.put]
      have h1 := hs t
      rw [Array.getD_eq_getD_getElem?, Array.getElem?_setIfInBounds_ne (Ne.symm h), ← Array.getD_eq_getD_getElem?]
      exact h1

theorem put_size {a : Act} {d : Option Tmp} {v : Value} : (a.put d v).tmps.size = a.tmps.size := by cases d <;> simp [Act.put]
theorem put_defers {a : Act} {d : Option Tmp} {v : Value} : (a.put d v).defers = a.defers := by cases d <;> simp [Act.put]

theorem want_ok {β : Beta} {ops : Array Oper} {o : Oper} {sl : Nat → AV} {a : Act} {b : Bool} (h : wantA ops o sl = some b) (hs : ∀ t, V β (sl t) (a.tmps.getD t undef)) : Region.wanted o (yielded ops a.tmps) = b := by
  unfold wantA at h
  unfold Region.wanted
  cases hg : o.guard with
  | none => simp [hg] at h; simp [h]
  | some p =>
    obtain ⟨j, want⟩ := p
    simp only [hg] at h
    simp only
    cases hd : (ops[j]?).bind (·.dst) with
    | none => simp [hd] at h
    | some t =>
      simp only [hd] at h
      have hv := hs t
      unfold yielded
      simp only [hd, Option.bind_some]
      split at h <;> (try (simp at h; done))
      · rename_i x hx
        rw [hx] at hv
        have hv := V_bool hv
        cases ht : a.tmps[t]? with
        | none => rw [Array.getD_eq_getD_getElem?, ht] at hv; simp [undef] at hv
        | some u =>
          rw [Array.getD_eq_getD_getElem?, ht] at hv
          simp only [Option.getD_some] at hv
          subst hv
          simp only [Option.some.injEq] at h
          simp [← h]
      · rename_i hx
        rw [hx] at hv
        simp only [V] at hv
        simp only [Option.some.injEq] at h
        subst h
        cases ht : a.tmps[t]? with
        | none => simp
        | some u =>
          rw [Array.getD_eq_getD_getElem?, ht] at hv
          simp only [Option.getD_some] at hv
          subst hv
          simp [undef]

theorem step_sound {ro : Option Nat} (c : Ctx) (hT : TOk c.P c.T) (hpf : PfOk c.T c.pf) {ops : Array Oper} (hn : ops.size = c.n) {i : Nat} {s s' : RS} {a : Act} {w : World} {F : Fr} {N : Nat} (hd : ∀ (o : Oper) (t : Tmp), ops[i]? = some o → o.dst = some t → t < N)
    (h : stepR c ops i s s') (hr : RR c F N s a w) {K : Act → World → Prop} {Q : Exit → Act → World → Prop} (hK : ∀ a' w', RR c F N s' a' w' → K a' w') : wpOpIn (fen ro) 0 c.P ops Q i K a w := by
  unfold stepR at h
  unfold wpOpIn
  cases ho : ops[i]? with
  | none => simp only [ho] at h; subst h; exact hK _ _ hr
  | some o =>
    have hin : i < c.n := by rw [← hn]; exact (Array.getElem?_eq_some_iff.1 ho).1
    simp only [ho] at h ⊢
    obtain ⟨β, ds, h0, hs, hH, hβ, hb, hB, hdf, hmk, hN⟩ := hr
    cases hw : wantA ops o s.sl with
    | none => simp [hw] at h
    | some b =>
      have hwant := want_ok hw hs
      cases b with
      | false =>
        simp only [hw] at h
        subst h
        simp only [hwant, Bool.false_eq_true, if_false]
        exact ⟨fun _ _ => trivial, hK _ _ ⟨β, ds, h0, put_V hs hN (fun t ht => hd o t ho ht) (by simp [V]), hH, hβ, hb, hB, by rw [put_defers]; exact hdf, hmk, by rw [put_size]; exact hN⟩⟩
      | true =>
        simp only [hw] at h
        simp only [hwant, if_true]
        obtain ⟨r, ⟨hu, hw2, hp, hex⟩, hsl⟩ := h
        simp only at hu hw2 hp hex
        refine op_sound c hT hpf hs hH (hmk.top hB) hp ?_ ?_ ?_ ?_
        · intro huse j h1 h2
          cases hj : β j with
          | none => rfl
          | some l =>
            rcases hβ j (by simp [hj]) with h3 | ⟨k, hk1, hk2, hk3, hk4⟩
            · omega
            · have : k = i := by omega
              subst this
              exact absurd ⟨huse, hk2⟩ hu
        · intro hwr j hj
          rcases hβ j hj with h3 | ⟨k, hk1, hk2, hk3, hk4⟩
          · omega
          · have hlt : k < i := hw2 hwr k hk1 hk2
            omega
        · intro j hj
          rcases hβ j hj with h3 | ⟨k, hk1, hk2, hk3, hk4⟩
          · omega
          · omega
        · intro β' v w' hle hnew hfz hv hH' hb'
          refine hK _ _ ⟨β', ds, ⟨h0.le.trans hle, fun j hj => ?_, h0.b, fun q o' hq => ?_⟩, fun t => ?_, hH', fun j hj => ?_, hb.trans (hb'.weaken fun _ h => h.1), hB.mono hb'.size, by rw [put_defers]; exact hdf, hmk.step hb', by rw [put_size]; exact hN⟩
          · rcases hnew j hj with h1 | ⟨h1, h2, h3⟩
            · exact h0.dom j h1
            · have := h0.b; right; omega
          · rcases hfz q o' hq with h1 | h1
            · exact h0.fz q o' h1
            · exact .inr h1.1
          · rw [hsl]; exact put_V (fun t => V_mono hle _ _ (hs t)) hN (fun t ht => hd o t ho ht) hv t
          rcases hnew j hj with h1 | ⟨h1, h2, h3⟩
          · rcases hβ j h1 with h4 | ⟨k, hk1, hk2, hk3, hk4⟩
            · exact .inl h4
            · refine .inr ⟨k, hk1, ?_, hk3, hk4⟩
              rw [hex]
              split
              · by_cases e : k = i
                · subst e; simp
                · rw [upd_other _ _ e]; exact hk2
              · exact hk2
          · refine .inr ⟨i, hin, ?_, h2, h3⟩
            rw [hex, if_pos h1]; simp

/-- A region in its lexical order. -/
def runL (c : Ctx) (ops : Array Oper) : List Nat → RS → RS → Prop
  | [], s, s' => s' = s
  | i :: l, s, s' => ∃ s1, stepR c ops i s s1 ∧ runL c ops l s1 s'

theorem runL_sound {ro : Option Nat} (c : Ctx) (hT : TOk c.P c.T) (hpf : PfOk c.T c.pf) {ops : Array Oper} (hn : ops.size = c.n) {F : Fr} {N : Nat} (hd : ∀ (i : Nat) (o : Oper) (t : Tmp), ops[i]? = some o → o.dst = some t → t < N) {Q : Exit → Act → World → Prop} :
    ∀ (l : List Nat) (s s' : RS) (a : Act) (w : World), runL c ops l s s' → RR c F N s a w → (∀ a' w', RR c F N s' a' w' → Q .normal a' w') → wpOpsIn (fen ro) 0 c.P ops Q l a w
  | [], s, s', a, w, h, hr, hQ => by simp only [runL] at h; subst h; exact hQ _ _ hr
  | i :: l, s, s', a, w, h, hr, hQ => by
    obtain ⟨s1, h1, h2⟩ := h
    rw [wpOpsIn_cons]
    exact step_sound c hT hpf hn (hd i) h1 hr fun a' w' hr' => runL_sound c hT hpf hn hd l s1 s' a' w' h2 hr' hQ

/-! ### Regions whose order is open -/

def anyA (c : Ctx) (ops : Array Oper) (Q : RS → Prop) : Nat → Array Bool → RS → Prop
  | 0, listed, s => Region.ready .any ops listed = [] ∧ Q s
  | fuel + 1, listed, s => (Region.ready .any ops listed = [] → Q s) ∧ ∀ i ∈ Region.ready .any ops listed, ∃ s', stepR c ops i s s' ∧ anyA c ops Q fuel (listed.setIfInBounds i true) s'

theorem anyA_sound {ro : Option Nat} (c : Ctx) (hT : TOk c.P c.T) (hpf : PfOk c.T c.pf) {ops : Array Oper} (hn : ops.size = c.n) {F : Fr} {N : Nat} (hd : ∀ (i : Nat) (o : Oper) (t : Tmp), ops[i]? = some o → o.dst = some t → t < N) {Q : Exit → Act → World → Prop} {Q' : RS → Prop}
    (hQ : ∀ s a w, Q' s → RR c F N s a w → Q .normal a w) : ∀ (fuel : Nat) (listed : Array Bool) (s : RS) (a : Act) (w : World), anyA c ops Q' fuel listed s → RR c F N s a w → wpAnyIn (fen ro) 0 c.P .any ops Q fuel listed a w
  | 0, listed, s, a, w, h, hr => ⟨h.1, hQ _ _ _ h.2 hr⟩
  | fuel + 1, listed, s, a, w, h, hr => ⟨fun h0 => hQ _ _ _ (h.1 h0) hr, fun i hi => by
      obtain ⟨s', h1, h2⟩ := h.2 i hi
      exact step_sound c hT hpf hn (hd i) h1 hr fun a' w' hr' => anyA_sound c hT hpf hn hd hQ fuel _ s' a' w' h2 hr'⟩

/-- The kinds of operations, by what they have to do with memory: none, a load, a pure call, a new block, all else. -/
inductive Cls where
  | P | L | C | M | A | W
  deriving DecidableEq

def cls (pf : FuncId → Bool) (bt : Tmp → Bool) (o : Oper) : Cls :=
  match o.op with
  | .alloc _ | .box .. | .buildSlice .. | .makeSlice .. | .makeMap _ none => .A
  | .lookup .. => .M
  | .mapUpdate .. | .mapEntry .. | .entryStore .. => .W
  | .call { callee := .builtin .delete, .. } => .W
  | .call { callee := .builtin .len, .. } => .M
  | .load .. => .L
  | .store .. => .W
  | .call { callee := .builtin .append, args, .. } => if freshArg bt args = true then .A else .W
  | .call { callee := .value (.func f), .. } => if pf f = true then .C else .W
  | .call { callee := .value _, .. } => .W
  | _ => .P

def heapInd : Cls → Cls → Bool
  | .P, _ | _, .P => true
  | .L, .L | .L, .C | .C, .L | .C, .C | .L, .A | .A, .L | .A, .A | .C, .A | .A, .C => true
  | .M, .M | .M, .L | .L, .M | .M, .C | .C, .M | .M, .A | .A, .M => true
  | _, _ => false

abbrev HX := Heap × (Nat → Bool)

/-- What an operation does to slot, heap and the list of those that have made blocks. -/
def effE (c : Ctx) (ops : Array Oper) (i : Nat) (o : Oper) (sl : Nat → AV) (h : HX) (r : AV) (h' : HX) : Prop :=
  match wantA ops o sl with
  | none => False
  | some false => r = .und ∧ h' = h
  | some true => effX c i (opA c i o sl) h r h'

theorem stepR_eq (c : Ctx) (ops : Array Oper) (i : Nat) (o : Oper) (s s' : RS) (ho : ops[i]? = some o) :
    stepR c ops i s s' ↔ ∃ r, effE c ops i o s.sl (s.hp, s.ex) r (s'.hp, s'.ex) ∧ s'.sl = putA s.sl o.dst r := by
  unfold stepR effE
  simp only [ho]
  cases wantA ops o s.sl with
  | none => simp
  | some b =>
    cases b with
    | false =>
      simp only
      obtain ⟨sl, hp, ex⟩ := s
      obtain ⟨sl', hp', ex'⟩ := s'
      simp only [RS.mk.injEq, Prod.mk.injEq]
      constructor
      · rintro ⟨rfl, rfl, rfl⟩; exact ⟨_, ⟨rfl, rfl, rfl⟩, rfl⟩
      · rintro ⟨_, ⟨rfl, rfl, rfl⟩, rfl⟩; exact ⟨rfl, rfl, rfl⟩
    | true => rfl

theorem evA_congr {sl sl' : Nat → AV} {x : Operand} (h : ∀ t, x = .tmp t → sl t = sl' t) : evA sl x = evA sl' x := by
  cases x with
  | tmp t => exact h t rfl
  | _ => rfl

theorem evAs_congr {sl sl' : Nat → AV} {xs : List Operand} (h : ∀ x ∈ xs, evA sl x = evA sl' x) : xs.map (evA sl) = xs.map (evA sl') := List.map_congr_left h

theorem opA_congr (c : Ctx) (i : Nat) (o : Oper) {sl sl' : Nat → AV} (h : ∀ x ∈ o.op.operands, evA sl x = evA sl' x) : opA c i o sl = opA c i o sl' := by
  obtain ⟨dst, op, type, pos, after, guard⟩ := o
  have pairs : ∀ ps : List (Nat × Operand), (∀ x ∈ ps.map (·.2), evA sl x = evA sl' x) → (ps.map fun p => (p.1, evA sl p.2)) = (ps.map fun p => (p.1, evA sl' p.2)) := fun ps hp =>
    List.map_congr_left fun p hm => by simp only [hp p.2 (List.mem_map.2 ⟨p, hm, rfl⟩)]
  have many : ∀ xs : Array Operand, (∀ x ∈ xs, evA sl x = evA sl' x) → xs.toList.map (evA sl) = xs.toList.map (evA sl') := fun xs hx =>
    List.map_congr_left fun x hm => hx x (by simpa using hm)
  cases op <;> simp only [Op.operands] at h
  case build t ps => simp only [opA]; rw [pairs ps.toList fun x hx => h x (by simpa using hx)]
  case buildSlice t n ps => simp only [opA]; rw [pairs ps.toList fun x hx => h x (by simpa using hx)]
  case makeFunc fn first captured => simp only [opA]; rw [many captured fun x hx => h x (by simp [hx]), many first fun x hx => h x (by simp [hx])]
  case makeMap t rv => cases rv <;> rfl
  case slice t x lo hi mx => simp only [opA]; cases lo <;> cases hi <;> cases mx <;> simp_all
  case call cl =>
    obtain ⟨callee, args, argTypes⟩ := cl
    have hargs := many args fun x hx => h x (by simp [Call.operands, hx])
    cases callee with
    | invoke r m => rfl
    | builtin b =>
      cases b
      case len =>
        simp only [opA]
        congr 1
        funext H r
        split
        · rename_i x t tl e1 e2
          have : x ∈ args := by rw [← Array.mem_toList_iff, e1]; simp
          rw [h x (by simp [Call.operands, this])]
        · rfl
      case min => simp only [opA]; rw [hargs]
      case max => simp only [opA]; rw [hargs]
      case delete =>
        simp only [opA]
        congr 1
        funext H r H'
        split
        · rename_i s x t u e1 e2
          have h1 : s ∈ args := by rw [← Array.mem_toList_iff, e1]; simp
          have h2 : x ∈ args := by rw [← Array.mem_toList_iff, e1]; simp
          rw [h s (by simp [Call.operands, h1]), h x (by simp [Call.operands, h2])]
        · rfl
      case append =>
        simp only [opA]
        by_cases hfr : freshArg c.bt args = true
        · rw [if_pos hfr, if_pos hfr]
          congr 1
          funext r blk
          split
          · rename_i s x t u e1 e2
            have h1 : s ∈ args := by rw [← Array.mem_toList_iff, e1]; simp
            have h2 : x ∈ args := by rw [← Array.mem_toList_iff, e1]; simp
            rw [h s (by simp [Call.operands, h1]), h x (by simp [Call.operands, h2])]
          · rfl
        rw [if_neg hfr, if_neg hfr]
        congr 1
        funext H r H'
        split
        · rename_i s x t u e1 e2
          have h1 : s ∈ args := by rw [← Array.mem_toList_iff, e1]; simp
          have h2 : x ∈ args := by rw [← Array.mem_toList_iff, e1]; simp
          rw [h s (by simp [Call.operands, h1]), h x (by simp [Call.operands, h2])]
        · rfl
      all_goals rfl
    | value f =>
      have hf : evA sl f = evA sl' f := h f (by simp [Call.operands])
      cases f with
      | func g => simp only [opA]; rw [hargs]
      | tmp t => simp only [opA]; rw [hargs, hf]
      | const v => simp only [opA]; rw [hargs, hf]
      | global g => simp only [opA]; rw [hargs, hf]
  all_goals first | rfl | (simp only [opA]; simp_all; done)

theorem opA_put (c : Ctx) (ops : Array Oper) (i : Nat) (o : Oper) (sl : Nat → AV) (d : Option Tmp) (v : AV) (h : ∀ t, d = some t → t ∉ o.looksAt ops) : opA c i o (putA sl d v) = opA c i o sl :=
  opA_congr c i o fun x hx => evA_congr fun t ht => by
    subst ht
    cases d with
    | none => rfl
    | some e =>
      have : t ≠ e := fun e' => h e rfl (by subst e'; exact List.mem_append_left _ (List.mem_filterMap.2 ⟨.tmp t, by simpa using hx, rfl⟩))
      simp [putA, supd, upd_other _ _ this]

theorem wantA_put (ops : Array Oper) (o : Oper) (sl : Nat → AV) (d : Option Tmp) (v : AV) (h : ∀ t, d = some t → t ∉ o.looksAt ops) : wantA ops o (putA sl d v) = wantA ops o sl := by
  cases d with
  | none => rfl
  | some e =>
    unfold wantA
    cases hg : o.guard with
    | none => rfl
    | some p =>
      obtain ⟨j, want⟩ := p
      simp only
      cases ht : (ops[j]?).bind (·.dst) with
      | none => rfl
      | some t =>
        have hne : t ≠ e := fun e' => h e rfl (by subst e'; simp [Oper.looksAt, hg, ht])
        simp [putA, supd, upd_other _ _ hne]

theorem effE_put (c : Ctx) (ops : Array Oper) (i : Nat) (o : Oper) (sl : Nat → AV) (d : Option Tmp) (v : AV) (h : ∀ t, d = some t → t ∉ o.looksAt ops) : effE c ops i o (putA sl d v) = effE c ops i o sl := by
  funext x r y
  unfold effE
  rw [opA_put c ops i o sl d v h, wantA_put ops o sl d v h]

theorem putA_comm (sl : Nat → AV) {d e : Option Tmp} (x y : AV) (h : ∀ t, d = some t → e ≠ some t) : putA (putA sl d x) e y = putA (putA sl e y) d x := by
  cases d with
  | none => rfl
  | some d =>
    cases e with
    | none => rfl
    | some e => exact upd_comm _ _ _ fun e' => h d rfl (by rw [e'])

/-- Two effects that may be exchanged. -/
def ECom (f g : HX → AV → HX → Prop) : Prop :=
  ∀ h r1 h1 r2 h2, f h r1 h1 → g h1 r2 h2 → ∃ h1', g h r2 h1' ∧ f h1' r1 h2

theorem step_comm (c : Ctx) (ops : Array Oper) {i j : Nat} {oi oj : Oper} (hi : ops[i]? = some oi) (hj : ops[j]? = some oj) (hap : oi.apart ops oj = true) (hc : ∀ sl, ECom (effE c ops i oi sl) (effE c ops j oj sl)) {s s1 s2 : RS}
    (h1 : stepR c ops i s s1) (h2 : stepR c ops j s1 s2) : ∃ s1', stepR c ops j s s1' ∧ stepR c ops i s1' s2 := by
  obtain ⟨a1, a2, a3⟩ := Oper.apart_spec hap
  rw [stepR_eq c ops i oi _ _ hi] at h1
  obtain ⟨r1, e1, hs1⟩ := h1
  rw [stepR_eq c ops j oj _ _ hj] at h2
  obtain ⟨r2, e2, hs2⟩ := h2
  rw [hs1, effE_put c ops j oj s.sl oi.dst r1 a1] at e2
  obtain ⟨h1', e3, e4⟩ := hc s.sl _ _ _ _ _ e1 e2
  refine ⟨{ sl := putA s.sl oj.dst r2, hp := h1'.1, ex := h1'.2 }, (stepR_eq c ops j oj _ _ hj).2 ⟨r2, e3, rfl⟩, ?_⟩
  rw [stepR_eq c ops i oi _ _ hi]
  refine ⟨r1, by rw [effE_put c ops i oi s.sl oj.dst r2 a3]; exact e4, ?_⟩
  rw [hs2, hs1]
  exact putA_comm s.sl r1 r2 a2

end Go.Eng
