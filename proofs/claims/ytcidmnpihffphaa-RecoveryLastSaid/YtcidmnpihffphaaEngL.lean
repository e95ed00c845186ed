import Derived.Test.YtcidmnpihffphaaEngK
namespace Go.Eng
open Go.RowKit (Below)

/-- What an operation of a kind can be. -/
inductive EffOf (c : Ctx) (i : Nat) : Cls → Eff → Prop where
  | P (r : AV → Prop) : EffOf c i .P (.pure r)
  | L (t : TypeId) (p : AV) : EffOf c i .L (.look (fun H r => loadA c.P c.lim t p H = some r))
  | C (r : AV → Prop) : EffOf c i .C (.look fun _ => r)
  | M (q : Heap → AV → Prop) (hq : ∀ H id b r, c.lim ≤ id → (q (upd H id b) r ↔ q H r)) : EffOf c i .M (.look q)
  | A (r : AV → AB → Prop) : EffOf c i .A (.alloc r)
  | W (e : Eff) : EffOf c i .W e

theorem mapAt_upd {H : Heap} {id i : Nat} {b : Option AB} {es : List (Nat × AV × AV)} {clk : Nat} (h : upd H id b i = H i) : mapAt (upd H id b) i es clk ↔ mapAt H i es clk := by unfold mapAt; rw [h]
theorem mlookR_upd {P : Program} {lim id : Nat} {t : TypeId} {x k r : AV} {ok : Bool} {H : Heap} {b : Option AB} (h : lim ≤ id) : mlookR P lim t x k ok (upd H id b) r ↔ mlookR P lim t x k ok H r := by
  have e : ∀ i, i < lim → upd H id b i = H i := fun i hi => upd_other _ _ (by omega)
  constructor
  · rintro ⟨q, e', z, n, v, b', h1, h2, h3, h4, h5⟩
    refine ⟨q, e', z, n, v, b', h1, h2, h3, h4.imp _root_.id ?_, h5⟩
    rintro ⟨i, L, clk, g1, g2, g3, g4⟩
    exact ⟨i, L, clk, g1, g2, (mapAt_upd (e i g2)).1 g3, g4⟩
  · rintro ⟨q, e', z, n, v, b', h1, h2, h3, h4, h5⟩
    refine ⟨q, e', z, n, v, b', h1, h2, h3, h4.imp _root_.id ?_, h5⟩
    rintro ⟨i, L, clk, g1, g2, g3, g4⟩
    exact ⟨i, L, clk, g1, g2, (mapAt_upd (e i g2)).2 g3, g4⟩
theorem lenR_upd {P : Program} {lim id : Nat} {t : TypeId} {x r : AV} {H : Heap} {b : Option AB} (h : lim ≤ id) : lenR P lim t x (upd H id b) r ↔ lenR P lim t x H r := by
  have e : ∀ i, i < lim → upd H id b i = H i := fun i hi => upd_other _ _ (by omega)
  constructor
  · rintro (h1 | ⟨h1, h2⟩)
    · exact .inl h1
    · refine .inr ⟨h1, h2.imp _root_.id ?_⟩
      rintro ⟨i, es, clk, g1, g2, g3, g4⟩
      exact ⟨i, es, clk, g1, g2, (mapAt_upd (e i g2)).1 g3, g4⟩
  · rintro (h1 | ⟨h1, h2⟩)
    · exact .inl h1
    · refine .inr ⟨h1, h2.imp _root_.id ?_⟩
      rintro ⟨i, es, clk, g1, g2, g3, g4⟩
      exact ⟨i, es, clk, g1, g2, (mapAt_upd (e i g2)).2 g3, g4⟩

theorem cls_ok (c : Ctx) (hpf : PfOk c.T c.pf) (i : Nat) (o : Oper) (sl : Nat → AV) : EffOf c i (cls c.pf c.bt o) (opA c i o sl) := by
  obtain ⟨dst, op, type, pos, after, guard⟩ := o
  cases op
  case makeMap t rv => cases rv <;> first | exact .A _ | exact .P _
  case lookup t x k ok => exact .M _ fun H id b r h => mlookR_upd h
  case call cl =>
    obtain ⟨callee, args, argTypes⟩ := cl
    cases callee with
    | invoke r m => exact .P _
    | builtin b =>
      cases b
      case len =>
        refine .M _ fun H id b r h => ?_
        skip
        split
        · exact lenR_upd h
        · exact Iff.rfl
      case append =>
        simp only [cls, opA]
        split
        · exact .A _
        · exact .W _
      all_goals first | exact .P _ | exact .W _
    | value f =>
      cases f with
      | func g =>
        by_cases hp : c.pf g = true
        · simp only [cls, opA, hp, if_true]
          have : (fun (H : Heap) r => ∃ args' H2, WkL (args.toList.map (evA sl)) args' ∧ c.T g args' H (c.b + c.n * 64) r H2) = fun _ r => ∃ args' H2, WkL (args.toList.map (evA sl)) args' ∧ c.T g args' (fun _ => none) (c.b + c.n * 64) r H2 := by
            funext H r
            apply propext
            constructor
            · rintro ⟨args', H2, h1, h2⟩; exact ⟨args', _, h1, (hpf g hp _ _ _ _ _ h2).2.2 _ _⟩
            · rintro ⟨args', H2, h1, h2⟩; exact ⟨args', _, h1, (hpf g hp _ _ _ _ _ h2).2.2 _ _⟩
          rw [this]; exact .C _
        · simp only [cls, opA, hp]; exact .W _
      | tmp t => exact .W _
      | const v => exact .W _
      | global g => exact .W _
  all_goals first | exact .P _ | exact .L _ _ | exact .A _ | exact .W _

theorem loadA_upd {P : Program} {lim id : Nat} (h : lim ≤ id) (t : TypeId) (p : AV) (H : Heap) (b : Option AB) : loadA P lim t p (upd H id b) = loadA P lim t p H := by
  unfold loadA
  split
  · rename_i i o
    by_cases hi : i < lim
    · simp only [hi, if_true]
      rw [upd_other _ _ (by omega)]
    · simp [hi]
  · rfl
  · rfl

/-- The forms that an effect takes. -/
inductive Form (c : Ctx) (i : Nat) (f : HX → AV → HX → Prop) : Cls → Prop where
  | P (k : Cls) (p : AV → Prop) (h : ∀ h r h', f h r h' ↔ p r ∧ h' = h) : Form c i f k
  | L (t : TypeId) (p : AV) (h : ∀ h r h', f h r h' ↔ loadA c.P c.lim t p h.1 = some r ∧ h' = h) : Form c i f .L
  | C (q : AV → Prop) (h : ∀ h r h', f h r h' ↔ q r ∧ h' = h) : Form c i f .C
  | M (q : Heap → AV → Prop) (hq : ∀ H id b r, c.lim ≤ id → (q (upd H id b) r ↔ q H r)) (h : ∀ h r h', f h r h' ↔ q h.1 r ∧ h' = h) : Form c i f .M
  | A (p : AV → AB → Prop) (h : ∀ h r h', f h r h' ↔ h.2 i ≠ true ∧ ∃ b, p r b ∧ h' = (upd h.1 (c.b + i * 64) (some b), upd h.2 i true)) : Form c i f .A
  | W : Form c i f .W

theorem effX_look {c : Ctx} {i : Nat} {q : Heap → AV → Prop} {h : HX} {r : AV} {h' : HX} : effX c i (.look q) h r h' ↔ q h.1 r ∧ h' = h := by
  obtain ⟨H, ex⟩ := h
  obtain ⟨H', ex'⟩ := h'
  simp [effX, effR, Eff.uses, Eff.isWrite, and_assoc]
theorem effX_pure {c : Ctx} {i : Nat} {p : AV → Prop} {h : HX} {r : AV} {h' : HX} : effX c i (.pure p) h r h' ↔ p r ∧ h' = h := by
  obtain ⟨H, ex⟩ := h
  obtain ⟨H', ex'⟩ := h'
  simp [effX, effR, Eff.uses, Eff.isWrite, and_assoc]
theorem effX_alloc {c : Ctx} {i : Nat} {p : AV → AB → Prop} {h : HX} {r : AV} {h' : HX} : effX c i (.alloc p) h r h' ↔ h.2 i ≠ true ∧ ∃ b, p r b ∧ h' = (upd h.1 (c.b + i * 64) (some b), upd h.2 i true) := by
  obtain ⟨H, ex⟩ := h
  obtain ⟨H', ex'⟩ := h'
  simp only [effX, effR, Eff.uses, Eff.isWrite, true_and, Bool.false_eq_true, false_implies, if_true, Prod.mk.injEq]
  constructor
  · rintro ⟨h1, ⟨b, h2, h3⟩, h4⟩; exact ⟨h1, b, h2, h3, h4⟩
  · rintro ⟨h1, b, h2, h3, h4⟩; exact ⟨h1, ⟨b, h2, h3⟩, h4⟩

theorem form_of (c : Ctx) (hpf : PfOk c.T c.pf) (ops : Array Oper) (i : Nat) (o : Oper) (sl : Nat → AV) : Form c i (effE c ops i o sl) (cls c.pf c.bt o) := by
  cases hw : wantA ops o sl with
  | none => exact .P _ (fun _ => False) fun h r h' => by simp [effE, hw]
  | some b =>
    cases b with
    | false => exact .P _ (fun r => r = .und) fun h r h' => by simp [effE, hw]
    | true =>
      have he := cls_ok c hpf i o sl
      have hE : ∀ h r h', effE c ops i o sl h r h' ↔ effX c i (opA c i o sl) h r h' := fun h r h' => by simp only [effE, hw]
      generalize opA c i o sl = e at he hE
      generalize cls c.pf c.bt o = k at he
      cases he with
      | P p => exact .P _ p fun h r h' => by rw [hE, effX_pure]
      | L t p => exact .L t p fun h r h' => by rw [hE, effX_look]
      | C q => exact .C q fun h r h' => by rw [hE, effX_look (q := fun _ => q)]
      | M q hq => exact .M q hq fun h r h' => by rw [hE, effX_look]
      | A p => exact .A p fun h r h' => by rw [hE, effX_alloc]
      | W e => exact .W

theorem ecom_P {f g : HX → AV → HX → Prop} {p : AV → Prop} (hf : ∀ h r h', f h r h' ↔ p r ∧ h' = h) : ECom f g ∧ ECom g f := by
  constructor
  · intro h r1 h1 r2 h2 e1 e2
    rw [hf] at e1
    obtain ⟨hp, rfl⟩ := e1
    exact ⟨h2, e2, (hf _ _ _).2 ⟨hp, rfl⟩⟩
  · intro h r1 h1 r2 h2 e1 e2
    rw [hf] at e2
    obtain ⟨hp, rfl⟩ := e2
    exact ⟨h, (hf _ _ _).2 ⟨hp, rfl⟩, e1⟩
theorem ecom_QQ {f g : HX → AV → HX → Prop} {p q : Heap → AV → Prop} (hf : ∀ h r h', f h r h' ↔ p h.1 r ∧ h' = h) (hg : ∀ h r h', g h r h' ↔ q h.1 r ∧ h' = h) : ECom f g := by
  intro h r1 h1 r2 h2 e1 e2
  rw [hf] at e1
  obtain ⟨hp, rfl⟩ := e1
  rw [hg] at e2
  obtain ⟨hq, rfl⟩ := e2
  exact ⟨_, (hg _ _ _).2 ⟨hq, rfl⟩, (hf _ _ _).2 ⟨hp, rfl⟩⟩

theorem ecom_QA {c : Ctx} {i : Nat} {f g : HX → AV → HX → Prop} {q : Heap → AV → Prop} {p : AV → AB → Prop} (hlim : c.lim ≤ c.b) (hq : ∀ H id b r, c.lim ≤ id → (q (upd H id b) r ↔ q H r)) (hf : ∀ h r h', f h r h' ↔ q h.1 r ∧ h' = h)
    (hg : ∀ h r h', g h r h' ↔ h.2 i ≠ true ∧ ∃ b, p r b ∧ h' = (upd h.1 (c.b + i * 64) (some b), upd h.2 i true)) : ECom f g ∧ ECom g f := by
  constructor
  · intro h r1 h1 r2 h2 e1 e2
    rw [hf] at e1
    obtain ⟨hp, rfl⟩ := e1
    rw [hg] at e2
    obtain ⟨hx, b, hb, rfl⟩ := e2
    exact ⟨_, (hg _ _ _).2 ⟨hx, b, hb, rfl⟩, (hf _ _ _).2 ⟨(hq _ _ _ _ (by omega)).2 hp, rfl⟩⟩
  · intro h r1 h1 r2 h2 e1 e2
    rw [hg] at e1
    obtain ⟨hx, b, hb, rfl⟩ := e1
    rw [hf] at e2
    obtain ⟨hp, rfl⟩ := e2
    exact ⟨_, (hf _ _ _).2 ⟨(hq _ _ _ _ (by omega)).1 hp, rfl⟩, (hg _ _ _).2 ⟨hx, b, hb, rfl⟩⟩

theorem ecom (c : Ctx) (hpf : PfOk c.T c.pf) (hlim : c.lim ≤ c.b) (ops : Array Oper) {i j : Nat} (hij : i ≠ j) (oi oj : Oper) (h : heapInd (cls c.pf c.bt oi) (cls c.pf c.bt oj) = true) (sl : Nat → AV) : ECom (effE c ops i oi sl) (effE c ops j oj sl) := by
  have fi := form_of c hpf ops i oi sl
  have fj := form_of c hpf ops j oj sl
  generalize effE c ops i oi sl = f at fi
  generalize effE c ops j oj sl = g at fj
  generalize cls c.pf c.bt oi = ki at fi h
  generalize cls c.pf c.bt oj = kj at fj h
  have hl : ∀ t p H id b r, c.lim ≤ id → (loadA c.P c.lim t p (upd H id b) = some r ↔ loadA c.P c.lim t p H = some r) := fun t p H id b r h => by rw [loadA_upd h]
  cases fi with
  | P _ p hf => exact (ecom_P hf).1
  | L t p hf =>
    cases fj with
    | P _ p' hg => exact (ecom_P hg).2
    | L t' p' hg => exact ecom_QQ (p := fun H r => loadA c.P c.lim t p H = some r) (q := fun H r => loadA c.P c.lim t' p' H = some r) hf hg
    | M q hq hg => exact ecom_QQ (p := fun H r => loadA c.P c.lim t p H = some r) (q := q) hf hg
    | C q hg => exact (ecom_P hg).2
    | A p' hg => exact (ecom_QA (q := fun H r => loadA c.P c.lim t p H = some r) hlim (hl t p) hf hg).1
    | W => simp [heapInd] at h
  | C q hf => exact (ecom_P hf).1
  | M q hq hf =>
    cases fj with
    | P _ p' hg => exact (ecom_P hg).2
    | L t' p' hg => exact ecom_QQ (p := q) (q := fun H r => loadA c.P c.lim t' p' H = some r) hf hg
    | M q' hq' hg => exact ecom_QQ (p := q) (q := q') hf hg
    | C q hg => exact (ecom_P hg).2
    | A p' hg => exact (ecom_QA (q := q) hlim hq hf hg).1
    | W => simp [heapInd] at h
  | A p hf =>
    cases fj with
    | P _ p' hg => exact (ecom_P hg).2
    | L t' p' hg => exact (ecom_QA (q := fun H r => loadA c.P c.lim t' p' H = some r) hlim (hl t' p') hg hf).2
    | M q hq hg => exact (ecom_QA (q := q) hlim hq hg hf).2
    | C q hg => exact (ecom_P hg).2
    | A p' hg =>
      intro h r1 h1 r2 h2 e1 e2
      rw [hf] at e1
      obtain ⟨hx, b, hb, rfl⟩ := e1
      rw [hg] at e2
      obtain ⟨hy, b', hb', rfl⟩ := e2
      simp only at hy
      rw [upd_other _ _ (Ne.symm hij)] at hy
      refine ⟨(upd h.1 (c.b + j * 64) (some b'), upd h.2 j true), (hg _ _ _).2 ⟨hy, b', hb', rfl⟩, (hf _ _ _).2 ⟨?_, b, hb, ?_⟩⟩
      · simp only
        rw [upd_other _ _ hij]; exact hx
      · simp only
        rw [upd_comm h.1 _ _ (by omega : c.b + j * 64 ≠ c.b + i * 64), upd_comm h.2 _ _ (Ne.symm hij)]
    | W => simp [heapInd] at h
  | W =>
    cases fj with
    | P _ p' hg => exact (ecom_P hg).2
    | _ => simp [heapInd] at h

/-- An operation that waits for k, by way of others too. -/
inductive Waits (ops : Array Oper) (k : Nat) : Nat → Prop where
  | one {j : Nat} {oj : Oper} {e : Edge} (h : ops[j]? = some oj) (he : e ∈ oj.after) (hb : Region.binds .any e = true) (hk : e.on = k) : Waits ops k j
  | more {j : Nat} {oj : Oper} {e : Edge} (h : ops[j]? = some oj) (he : e ∈ oj.after) (hb : Region.binds .any e = true) (hk : Waits ops k e.on) : Waits ops k j
def waitL (ops : Array Oper) (k : Nat) : Nat → List Nat
  | 0 => []
  | n + 1 => let acc := waitL ops k n
    match ops[n]? with
    | none => acc
    | some o => if o.after.any (fun e => Region.binds .any e && (e.on == k || acc.contains e.on)) = true then n :: acc else acc
theorem waitL_spec (ops : Array Oper) (k : Nat) : ∀ (n j : Nat), (waitL ops k n).contains j = true → Waits ops k j
  | 0, j, h => by simp [waitL] at h
  | n + 1, j, h => by
    simp only [waitL] at h
    split at h
    · exact waitL_spec ops k n j h
    · rename_i o ho
      split at h
      · rename_i ha
        simp only [List.contains_cons, Bool.or_eq_true, beq_iff_eq] at h
        rcases h with rfl | h
        · obtain ⟨e, he, h2⟩ := Array.any_eq_true'.1 ha
          simp only [Bool.and_eq_true, Bool.or_eq_true, beq_iff_eq] at h2
          rcases h2 with ⟨hb, h2 | h2⟩
          · exact .one ho he hb h2
          · exact .more ho he hb (waitL_spec ops k _ _ h2)
        · exact waitL_spec ops k n j h
      · exact waitL_spec ops k n j h
/-- What is listed waits for nothing that is not. -/
def Closed (ops : Array Oper) (listed : Array Bool) : Prop := ∀ (j : Nat) (oj : Oper), ops[j]? = some oj → listed.getD j false = true → ∀ e ∈ oj.after, Region.binds .any e = true → listed.getD e.on false = true
theorem Waits.unlisted {ops : Array Oper} {listed : Array Bool} (hc : Closed ops listed) {k : Nat} (hk : listed.getD k false = false) {j : Nat} (h : Waits ops k j) : listed.getD j false = false := by
  induction h with
  | @one j oj e h he hb hk' =>
    cases hj : listed.getD j false with
    | false => rfl
    | true => have := hc _ _ h hj e he hb; rw [hk', hk] at this; cases this
  | @more j oj e h he hb _ ih =>
    cases hj : listed.getD j false with
    | false => rfl
    | true => have := hc _ _ h hj e he hb; rw [ih] at this; cases this
theorem getD_tf {listed : Array Bool} {k : Nat} (h : listed.getD k true = false) : listed.getD k false = false := by
  rcases Nat.lt_or_ge k listed.size with h' | h'
  · simp [h'] at h ⊢; exact h
  · simp [Array.getD, Nat.not_lt.2 h'] at h
theorem Closed.ready {ops : Array Oper} {listed : Array Bool} (hc : Closed ops listed) {k : Nat} (hk : listed.getD k true = false) {j : Nat} (hj : j ∈ Region.ready .any ops listed) : ¬ Waits ops k j := fun h => by
  obtain ⟨_, oj, hoj, hall⟩ := mem_ready.1 hj
  cases h with
  | one h he hb hk' =>
    rw [hoj] at h; cases h
    have := hall _ he hb
    rw [hk', getD_tf hk] at this; cases this
  | more h he hb hw =>
    rw [hoj] at h; cases h
    have := hall _ he hb
    rw [hw.unlisted hc (getD_tf hk)] at this; cases this
theorem getD_set_f {listed : Array Bool} {i j : Nat} (h : listed.getD j false = true) : (listed.setIfInBounds i true).getD j false = true := by
  by_cases e : i = j
  · subst e
    rcases Nat.lt_or_ge i listed.size with h' | h'
    · simp [h']
    · simp [Array.getD, Nat.not_lt.2 h'] at h
  · rw [getD_set_ne false e]; exact h
theorem Closed.set {ops : Array Oper} {listed : Array Bool} (hc : Closed ops listed) {i : Nat} (hi : i ∈ Region.ready .any ops listed) : Closed ops (listed.setIfInBounds i true) := fun j oj hoj hl e he hb => by
  by_cases hij : i = j
  · subst hij
    obtain ⟨_, oi, hoi, hall⟩ := mem_ready.1 hi
    rw [hoj] at hoi; cases hoi
    exact getD_set_f (hall e he hb)
  · rw [getD_set_ne false hij] at hl
    exact getD_set_f (hc j oj hoj hl e he hb)
theorem Closed_start (ops : Array Oper) (n : Nat) : Closed ops (Array.replicate n false) := fun j oj _ h => by
  rcases Nat.lt_or_ge j n with h' | h'
  · simp [h'] at h
  · simp [Array.getD, Nat.not_lt.2 h'] at h
/-- Nothing that is still to come and does not wait for k stands in k's way. -/
def freeI (pf : FuncId → Bool) (bt : Tmp → Bool) (ops : Array Oper) (listed : Array Bool) (k : Nat) : Bool :=
  match ops[k]? with
  | none => false
  | some ok => (List.range ops.size).all fun j =>
      match ops[j]? with
      | none => true
      | some oj => j == k || listed.getD j true || oj.after.any (fun e => Region.binds .any e && e.on == k) || (ok.apart ops oj && heapInd (cls pf bt ok) (cls pf bt oj)) || (waitL ops k ops.size).contains j
def lexI (pf : FuncId → Bool) (bt : Tmp → Bool) (ops : Array Oper) : Nat → Nat → Array Bool → Bool
  | 0, _, listed => (Region.ready .any ops listed).isEmpty
  | fuel + 1, k, listed => (Region.ready .any ops listed).contains k && freeI pf bt ops listed k && lexI pf bt ops fuel (k + 1) (listed.setIfInBounds k true)

theorem anyA_first (c : Ctx) (hpf : PfOk c.T c.pf) (hlim : c.lim ≤ c.b) (ops : Array Oper) {Q : RS → Prop} {i : Nat} {oi : Oper} (hi : ops[i]? = some oi) : ∀ (fuel : Nat) (listed : Array Bool) (s s1 : RS), Closed ops listed →
    (∀ (j : Nat) (oj : Oper), ops[j]? = some oj → j ≠ i → listed.getD j true = false → ¬ Waits ops i j → oi.apart ops oj = true ∧ heapInd (cls c.pf c.bt oi) (cls c.pf c.bt oj) = true) →
    i ∈ Region.ready .any ops listed → stepR c ops i s s1 → anyA c ops Q fuel (listed.setIfInBounds i true) s1 → anyA c ops Q (fuel + 1) listed s := by
  intro fuel
  induction fuel with
  | zero =>
    intro listed s s1 _ _ hr hst H
    refine ⟨fun h => (by rw [h] at hr; cases hr), fun j hj => ?_⟩
    by_cases hji : j = i
    · subst hji; exact ⟨s1, hst, H⟩
    · have := ready_mono hj hji
      rw [H.1] at this
      cases this
  | succ fuel ih =>
    intro listed s s1 hcl hfree hr hst H
    refine ⟨fun h => (by rw [h] at hr; cases hr), fun j hj => ?_⟩
    by_cases hji : j = i
    · subst hji; exact ⟨s1, hst, H⟩
    · obtain ⟨s2, h1, h2⟩ := H.2 j (ready_mono hj hji)
      obtain ⟨hjun, oj, hoj, hall⟩ := mem_ready.1 hj
      obtain ⟨hap, hind⟩ := hfree j oj hoj hji hjun (hcl.ready (mem_ready.1 hr).1 hj)
      obtain ⟨s1', h3, h4⟩ := step_comm c ops hi hoj hap (fun sl => ecom c hpf hlim ops (Ne.symm hji) oi oj hind sl) hst h1
      have hfree' : ∀ (k : Nat) (ok : Oper), ops[k]? = some ok → k ≠ i → (listed.setIfInBounds j true).getD k true = false →
          ¬ Waits ops i k → oi.apart ops ok = true ∧ heapInd (cls c.pf c.bt oi) (cls c.pf c.bt ok) = true := fun k ok hk hki hun hno => by
        refine hfree k ok hk hki ?_ hno
        by_cases hjk : j = k
        · subst hjk; exact hjun
        · rw [getD_set_ne true hjk] at hun; exact hun
      refine ⟨s1', h3, ih (listed.setIfInBounds j true) s1' s2 (hcl.set hj) hfree' (ready_mono hr (Ne.symm hji)) h4 ?_⟩
      rw [Array.setIfInBounds_comm _ _ hji]
      exact h2

theorem freeI_spec {pf : FuncId → Bool} {bt : Tmp → Bool} {ops : Array Oper} {listed : Array Bool} {k : Nat} {ok : Oper} (hk : ops[k]? = some ok) (h : freeI pf bt ops listed k = true) :
    ∀ (j : Nat) (oj : Oper), ops[j]? = some oj → j ≠ k → listed.getD j true = false → ¬ Waits ops k j → ok.apart ops oj = true ∧ heapInd (cls pf bt ok) (cls pf bt oj) = true := by
  intro j oj hj hne hl hno
  unfold freeI at h
  simp only [hk, List.all_eq_true, List.mem_range] at h
  have h1 := h j (Array.getElem?_eq_some_iff.1 hj).1
  simp only [hj, Bool.or_eq_true, Bool.and_eq_true] at h1
  rcases h1 with (((h1 | h1) | h1) | h1) | h1
  · simp at h1; exact absurd h1 hne
  · rw [hl] at h1; cases h1
  · obtain ⟨e, he, h2⟩ := Array.any_eq_true'.1 h1
    simp only [Bool.and_eq_true, beq_iff_eq] at h2
    exact absurd (Waits.one hj he h2.1 h2.2) hno
  · exact h1
  · exact absurd (waitL_spec ops k _ _ h1) hno

theorem anyA_lex (c : Ctx) (hpf : PfOk c.T c.pf) (hlim : c.lim ≤ c.b) (ops : Array Oper) {Q : RS → Prop} : ∀ (n k : Nat) (listed : Array Bool) (s s' : RS), Closed ops listed → k + n = ops.size →
    lexI c.pf c.bt ops n k listed = true → runL c ops (List.range' k n) s s' → Q s' → anyA c ops Q n listed s
  | 0, k, listed, s, s', _, _, hB, hrun, hQ => by
    simp only [List.range'_zero, runL] at hrun
    subst hrun
    exact ⟨by simpa [lexI] using hB, hQ⟩
  | n + 1, k, listed, s, s', hcl, hk, hB, hrun, hQ => by
    simp only [List.range'_succ, runL] at hrun
    obtain ⟨s1, h1, h2⟩ := hrun
    simp only [lexI, Bool.and_eq_true] at hB
    obtain ⟨⟨hr, hf⟩, hB'⟩ := hB
    have hlt : k < ops.size := by omega
    have h0 : ops[k]? = some ops[k] := Array.getElem?_eq_getElem hlt
    have hr' : k ∈ Region.ready .any ops listed := by simpa using hr
    exact anyA_first c hpf hlim ops h0 n listed s s1 hcl (freeI_spec h0 hf) hr' h1
      (anyA_lex c hpf hlim ops n (k + 1) _ s1 s' (hcl.set hr') (by omega) hB' h2 hQ)

/-! ### Plans: where two operations stand in each other's way, both orders are walked. -/
inductive Pl where
  | nil
  | step (k : Nat) (r : Pl)
  | two (k1 k2 : Nat) (r1 r2 : Pl)
def usesC (pf : FuncId → Bool) (bt : Tmp → Bool) (ops : Array Oper) (j : Nat) : Bool := match ops[j]? with
  | none => false
  | some o => cls pf bt o == .A || cls pf bt o == .W
/-- A write comes behind the lower-numbered ones that use the heap. -/
def lowOk (pf : FuncId → Bool) (bt : Tmp → Bool) (ops : Array Oper) (listed : Array Bool) (k : Nat) : Bool := match ops[k]? with
  | none => false
  | some o => (cls pf bt o != .W || (List.range ops.size).all fun j => !(listed.getD j false && usesC pf bt ops j) || decide (j < k)) && listed.getD k true == false
def okPl (pf : FuncId → Bool) (bt : Tmp → Bool) (ops : Array Oper) : Pl → Nat → Array Bool → Bool
  | .nil, _, listed => (Region.ready .any ops listed).isEmpty
  | .step k r, fuel + 1, listed => (Region.ready .any ops listed).contains k && freeI pf bt ops listed k && lowOk pf bt ops listed k && okPl pf bt ops r fuel (listed.setIfInBounds k true)
  | .two k1 k2 r1 r2, fuel + 1, listed => (Region.ready .any ops listed).contains k1 && ((Region.ready .any ops listed).all fun j => j == k1 || j == k2) && lowOk pf bt ops listed k1 && lowOk pf bt ops listed k2 &&
      okPl pf bt ops r1 fuel (listed.setIfInBounds k1 true) && okPl pf bt ops r2 fuel (listed.setIfInBounds k2 true)
  | _, 0, _ => false
/-- One operation, with what is asked behind it. -/
def oneV (c : Ctx) (ops : Array Oper) (i : Nat) (sl : Nat → AV) (hp : Heap) (K : (Nat → AV) → Heap → Prop) : Prop := match ops[i]? with
  | none => False
  | some o => match wantA ops o sl with
    | none => False
    | some false => K (putA sl o.dst .und) hp
    | some true => ∃ r H', effR (opA c i o sl) hp (c.b + i * 64) r H' ∧ K (putA sl o.dst r) H'
def runPV (c : Ctx) (ops : Array Oper) : Pl → (Nat → AV) → Heap → ((Nat → AV) → Heap → Prop) → Prop
  | .nil, sl, hp, K => K sl hp
  | .step k r, sl, hp, K => oneV c ops k sl hp fun sl hp => runPV c ops r sl hp K
  | .two k1 k2 r1 r2, sl, hp, K => (oneV c ops k1 sl hp fun sl hp => runPV c ops r1 sl hp K) ∧ oneV c ops k2 sl hp fun sl hp => runPV c ops r2 sl hp K
theorem getD_set_self {listed : Array Bool} {k : Nat} (h : listed.getD k true = false) : (listed.setIfInBounds k true).getD k false = true := by
  have hk : k < listed.size := by
    rcases Nat.lt_or_ge k listed.size with h1 | h1
    · exact h1
    · simp [Array.getD, Nat.not_lt.2 h1] at h
  simp [Array.getD, hk]
theorem uses_cls {c : Ctx} (hpf : PfOk c.T c.pf) {i : Nat} {o : Oper} {sl : Nat → AV} (h : (opA c i o sl).uses = true) : (cls c.pf c.bt o == .A || cls c.pf c.bt o == .W) = true := by
  have := cls_ok c hpf i o sl
  generalize opA c i o sl = e at this h
  generalize cls c.pf c.bt o = k at this ⊢
  cases this <;> first | rfl | cases h
theorem write_cls {c : Ctx} (hpf : PfOk c.T c.pf) {i : Nat} {o : Oper} {sl : Nat → AV} (h : (opA c i o sl).isWrite = true) : cls c.pf c.bt o = .W := by
  have := cls_ok c hpf i o sl
  generalize opA c i o sl = e at this h
  generalize cls c.pf c.bt o = k at this ⊢
  cases this <;> first | rfl | cases h
theorem anyA_plan (c : Ctx) (hpf : PfOk c.T c.pf) (hlim : c.lim ≤ c.b) (ops : Array Oper) (hn : c.n = ops.size) {K : (Nat → AV) → Heap → Prop} : ∀ (p : Pl) (fuel : Nat) (listed : Array Bool) (s : RS), Closed ops listed →
    (∀ j, s.ex j = true → listed.getD j false = true ∧ usesC c.pf c.bt ops j = true) → okPl c.pf c.bt ops p fuel listed = true → runPV c ops p s.sl s.hp K → anyA c ops (fun s => K s.sl s.hp) fuel listed s := by
  have step : ∀ {k : Nat} {listed : Array Bool} {s : RS} {K2 : (Nat → AV) → Heap → Prop}, (∀ j, s.ex j = true → listed.getD j false = true ∧ usesC c.pf c.bt ops j = true) → lowOk c.pf c.bt ops listed k = true → oneV c ops k s.sl s.hp K2 →
      ∃ s', stepR c ops k s s' ∧ K2 s'.sl s'.hp ∧ ∀ j, s'.ex j = true → (listed.setIfInBounds k true).getD j false = true ∧ usesC c.pf c.bt ops j = true := by
    intro k listed s K2 hex hlow h1
    unfold oneV at h1
    unfold lowOk at hlow
    cases ho : ops[k]? with
    | none => rw [ho] at h1; exact h1.elim
    | some o =>
      rw [ho] at h1 hlow
      simp only [Bool.and_eq_true, beq_iff_eq] at hlow
      obtain ⟨hlow, hun⟩ := hlow
      have hmono : ∀ j, listed.getD j false = true → (listed.setIfInBounds k true).getD j false = true := fun j hj => getD_set_f hj
      have hexk : s.ex k = false := by
        cases e : s.ex k with
        | false => rfl
        | true => have := (hex k e).1; rw [getD_tf hun] at this; cases this
      unfold stepR
      simp only [ho] at h1 ⊢
      cases hw : wantA ops o s.sl with
      | none => simp only [hw] at h1
      | some b =>
        cases b with
        | false =>
          simp only [hw] at h1
          exact ⟨_, rfl, h1, fun j hj => ⟨hmono j (hex j hj).1, (hex j hj).2⟩⟩
        | true =>
          simp only [hw] at h1
          obtain ⟨r, H', he, h1⟩ := h1
          refine ⟨{ sl := putA s.sl o.dst r, hp := H', ex := if (opA c k o s.sl).uses = true then upd s.ex k true else s.ex }, ⟨r, ⟨by simp [hexk], fun hwr j hj hxj => ?_, he, rfl⟩, rfl⟩, h1, fun j hj => ?_⟩
          · have hcl := write_cls hpf hwr
            rw [hcl] at hlow
            simp only [bne_self_eq_false, Bool.false_or, List.all_eq_true, List.mem_range] at hlow
            have := hlow j (hn ▸ hj)
            simp only [(hex j hxj).1, (hex j hxj).2, Bool.and_self, Bool.not_true, Bool.false_or, decide_eq_true_eq] at this
            exact this
          · simp only at hj
            split at hj
            · rename_i hu
              by_cases e : j = k
              · subst e
                exact ⟨getD_set_self hun, by unfold usesC; rw [ho]; exact uses_cls hpf hu⟩
              · rw [upd_other _ _ e] at hj; exact ⟨hmono j (hex j hj).1, (hex j hj).2⟩
            · exact ⟨hmono j (hex j hj).1, (hex j hj).2⟩
  intro p
  induction p with
  | nil =>
    intro fuel listed s _ _ hB h
    have hr : Region.ready .any ops listed = [] := by
      cases fuel <;> simpa [okPl] using hB
    cases fuel with
    | zero => unfold anyA; exact And.intro hr h
    | succ n =>
      unfold anyA
      refine And.intro (fun _ => h) (fun i hi => ?_)
      rw [hr] at hi; cases hi
  | step k r ih =>
    intro fuel listed s hcl hex hB h
    cases fuel with
    | zero => simp [okPl] at hB
    | succ n =>
      simp only [okPl, Bool.and_eq_true] at hB
      obtain ⟨⟨⟨hr, hf⟩, hlow⟩, hB'⟩ := hB
      have hr' : k ∈ Region.ready .any ops listed := by simpa using hr
      obtain ⟨s', h1, h2, h3⟩ := step hex hlow h
      obtain ⟨_, o, ho, _⟩ := mem_ready.1 hr'
      exact anyA_first c hpf hlim ops ho n listed s s' hcl (freeI_spec ho hf) hr' h1 (ih n _ s' (hcl.set hr') h3 hB' h2)
  | two k1 k2 r1 r2 ih1 ih2 =>
    intro fuel listed s hcl hex hB h
    cases fuel with
    | zero => simp [okPl] at hB
    | succ n =>
      simp only [okPl, Bool.and_eq_true] at hB
      obtain ⟨⟨⟨⟨⟨hr, hall⟩, hl1⟩, hl2⟩, hB1⟩, hB2⟩ := hB
      have hr' : k1 ∈ Region.ready .any ops listed := by simpa using hr
      refine ⟨fun e => (by rw [e] at hr'; cases hr'), fun i hi => ?_⟩
      have := List.all_eq_true.1 hall i hi
      simp only [Bool.or_eq_true, beq_iff_eq] at this
      rcases this with rfl | rfl
      · obtain ⟨s', h1, h2, h3⟩ := step hex hl1 h.1
        exact ⟨s', h1, ih1 n _ s' (hcl.set hi) h3 hB1 h2⟩
      · obtain ⟨s', h1, h2, h3⟩ := step hex hl2 h.2
        exact ⟨s', h1, ih2 n _ s' (hcl.set hi) h3 hB2 h2⟩
end Go.Eng
