import Derived.Test.YthbonailomfjlaaEngL
import Derived.Deep.LoopGhost
import Derived.Scope
namespace Go.Eng
open Go.RowKit (Below)

structure Env where
  P : Program
  T : Tbl
  pf : FuncId → Bool
  cl : Bool
  hT : TOk P T
  hpf : PfOk T pf

/-- The state between two statements. -/
structure AS where
  sl : Nat → AV
  hp : Heap
  b : Nat

theorem BelowP.drew {B : Bd} {a w : World} (h : BelowP B a w) : BelowP B a w.drew := ⟨h.os, h.tape, h.output, h.size, h.block⟩
def Rep (F : Fr) (N : Nat) (σ : AS) (a : Act) (w : World) : Prop :=
  ∃ β, Since F β σ.b ∧ (∀ t, V β (σ.sl t) (a.tmps.getD t undef)) ∧ HRel β σ.hp w F.B ∧ (∀ j, β j ≠ none → j < σ.b) ∧
    BelowP F.B F.w0 w ∧ F.B.top w.heap.size ∧ a.defers = [] ∧ a.tmps.size = N

/-- In a closed walk no block was named before. -/
def Fr.ok (F : Fr) (cl : Bool) : Prop := cl = true → (∀ i, F.β0.loc i ≠ none → i = 0) ∧ F.b0 = 0

def HT (E : Env) (N : Nat) (c : Code) (σ : AS) (Q : Exit → AS → Prop) : Prop :=
  ∀ (F : Fr) (a : Act) (w : World), F.ok E.cl → Rep F N σ a w → c.wp E.P (fun e a' w' => ∃ σ', Q e σ' ∧ Rep F N σ' a' w') a w

/-- A region's operations, one behind the other, each with what it asks. -/
def runV (c : Ctx) (ops : Array Oper) : List Oper → Nat → (Nat → AV) → Heap → ((Nat → AV) → Heap → Prop) → Prop
  | [], _, sl, hp, K => K sl hp
  | o :: os, i, sl, hp, K =>
    match wantA ops o sl with
    | none => False
    | some false => runV c ops os (i + 1) (putA sl o.dst .und) hp K
    | some true => ∃ r H', effR (opA c i o sl) hp (c.b + i * 64) r H' ∧ runV c ops os (i + 1) (putA sl o.dst r) H' K

theorem runV_runL (c : Ctx) (ops : Array Oper) {K : (Nat → AV) → Heap → Prop} : ∀ (os : List Oper) (i : Nat) (s : RS), (∀ j, os[j]? = ops[i + j]?) → (∀ k, s.ex k = true → k < i) →
    runV c ops os i s.sl s.hp K → ∃ s', runL c ops (List.range' i os.length) s s' ∧ K s'.sl s'.hp
  | [], i, s, _, _, h => ⟨s, rfl, h⟩
  | o :: os, i, s, ho, hex, h => by
    have h0 : ops[i]? = some o := by have := ho 0; simpa using this.symm
    have hos : ∀ j, os[j]? = ops[i + 1 + j]? := fun j => by have := ho (j + 1); rw [show i + 1 + j = i + (j + 1) by omega]; simpa using this
    simp only [runV] at h
    simp only [List.length_cons, List.range'_succ, runL]
    unfold stepR
    simp only [h0]
    cases hw : wantA ops o s.sl with
    | none => simp [hw] at h
    | some b =>
      cases b with
      | false =>
        simp only [hw] at h
        obtain ⟨s', h1, h2⟩ := runV_runL c ops os (i + 1) { s with sl := putA s.sl o.dst .und } hos (fun k hk => by have := hex k hk; omega) h
        exact ⟨s', ⟨_, rfl, by simpa using h1⟩, h2⟩
      | true =>
        simp only [hw] at h
        obtain ⟨r, H', he, h⟩ := h
        have hexi : s.ex i = false := by
          cases hh : s.ex i with
          | false => rfl
          | true => have := hex i hh; omega
        obtain ⟨s', h1, h2⟩ := runV_runL c ops os (i + 1) { sl := putA s.sl o.dst r, hp := H', ex := if (opA c i o s.sl).uses = true then upd s.ex i true else s.ex } hos (fun k hk => by
          dsimp only at hk
          split at hk
          · by_cases e : k = i
            · omega
            · rw [upd_other _ _ e] at hk; have := hex k hk; omega
          · have := hex k hk; omega) h
        exact ⟨s', ⟨_, ⟨r, ⟨by simp [hexi], fun _ k _ hk => hex k hk, he, rfl⟩, rfl⟩, by simpa using h1⟩, h2⟩

section
variable {E : Env} {N : Nat}

theorem Rep.toRR {F : Fr} {σ : AS} {a : Act} {w : World} {n lim : Nat} (h : Rep F N σ a w) : RR ⟨E.P, E.T, E.pf, σ.b, n, lim⟩ F N ⟨σ.sl, σ.hp, fun _ => false⟩ a w := by
  obtain ⟨β, h0, h1, h2, h3, h4⟩ := h
  exact ⟨β, h0, h1, h2, fun j hj => .inl (h3 j hj), h4⟩

theorem RR.toRep {F : Fr} {b n lim : Nat} {s : RS} {a : Act} {w : World} (h : RR ⟨E.P, E.T, E.pf, b, n, lim⟩ F N s a w) : Rep F N ⟨s.sl, s.hp, b + n * 64⟩ a w := by
  obtain ⟨β, h0, h1, h2, h3, h4⟩ := h
  refine ⟨β, ⟨h0.le, h0.dom, ?_, h0.fz⟩, h1, h2, fun j hj => ?_, h4⟩
  · have := h0.b; simp only at this ⊢; omega
  · rcases h3 j hj with h | ⟨i, hi, _, _, h⟩
    · simp only at h ⊢; omega
    · simp only at h hi ⊢; omega

def dstOk (N : Nat) (ops : Array Oper) : Bool := ops.toList.all fun o => match o.dst with | some t => t < N | none => true

theorem dstOk_spec {ops : Array Oper} (h : dstOk N ops = true) : ∀ (i : Nat) (o : Oper) (t : Tmp), ops[i]? = some o → o.dst = some t → t < N := by
  intro i o t ho ht
  unfold dstOk at h
  rw [List.all_eq_true] at h
  have := h o (by rw [← Array.getElem?_toList] at ho; exact List.mem_of_getElem? ho)
  rw [ht] at this
  simpa using this

theorem HT_region {id : Nat} {ops : Array Oper} {σ : AS} {Q : Exit → AS → Prop} (hd : dstOk N ops = true)
    (h : runV ⟨E.P, E.T, E.pf, σ.b, ops.size, σ.b + ops.size * 64⟩ ops ops.toList 0 σ.sl σ.hp fun sl hp => Q .normal ⟨sl, hp, σ.b + ops.size * 64⟩) : HT E N (.region id ops false) σ Q := by
  intro F a w hF hr
  obtain ⟨s', h1, h2⟩ := runV_runL _ ops ops.toList 0 ⟨σ.sl, σ.hp, fun _ => false⟩ (by simp) (by simp) h
  refine wp_region ?_
  rw [List.range_eq_range']
  refine runL_sound ⟨E.P, E.T, E.pf, σ.b, ops.size, σ.b + ops.size * 64⟩ E.hT E.hpf rfl (dstOk_spec hd) _ _ s' a w (by simpa using h1) hr.toRR ?_
  intro a' w' hr'
  exact ⟨_, h2, hr'.toRep⟩

theorem HT_draw {id : Nat} {ops : Array Oper} {σ : AS} {Q : Exit → AS → Prop} (hm : E.P.follows .mixedOrders = true) (hd : dstOk N ops = true) (hB : lexI E.pf ops ops.size 0 (Array.replicate ops.size false) = true)
    (h : runV ⟨E.P, E.T, E.pf, σ.b, ops.size, σ.b⟩ ops ops.toList 0 σ.sl σ.hp fun sl hp => Q .normal ⟨sl, hp, σ.b + ops.size * 64⟩) : HT E N (.region id ops true) σ Q := by
  intro F a w hF hr
  obtain ⟨s', h1, h2⟩ := runV_runL _ ops ops.toList 0 ⟨σ.sl, σ.hp, fun _ => false⟩ (by simp) (by simp) h
  refine wp_region_any hm ?_
  have h1' : runL ⟨E.P, E.T, E.pf, σ.b, ops.size, σ.b⟩ ops (List.range' 0 ops.size) ⟨σ.sl, σ.hp, fun _ => false⟩ s' := by simpa using h1
  have hany := anyA_lex (Q := fun s => s = s') ⟨E.P, E.T, E.pf, σ.b, ops.size, σ.b⟩ E.hpf (Nat.le_refl _) ops ops.size 0 _ _ s' (Closed_start ops _) (by simp) hB h1' rfl
  refine anyA_sound ⟨E.P, E.T, E.pf, σ.b, ops.size, σ.b⟩ E.hT E.hpf rfl (dstOk_spec hd) (F := F) (N := N) (Q' := fun s => s = s') ?_ _ _ _ a _ hany ?_
  · rintro s a w rfl hr'
    exact ⟨_, h2, hr'.toRep⟩
  · obtain ⟨β, g0, g1, g2, g3, g4, g5, g6⟩ := hr
    exact Rep.toRR ⟨β, g0, g1, g2.drew, g3, g4.drew, g5, g6⟩

theorem HT.mono {c : Code} {σ : AS} {Q Q' : Exit → AS → Prop} (h : HT E N c σ Q) (k : ∀ e σ, Q e σ → Q' e σ) : HT E N c σ Q' := fun F a w hF hr =>
  wp_mono (h F a w hF hr) fun _ _ _ ⟨σ', q, r⟩ => ⟨σ', k _ _ q, r⟩

/-- What follows where a piece of code ends normally. -/
def Then (K : AS → Prop) (Q : Exit → AS → Prop) : Exit → AS → Prop
  | .normal, σ => K σ
  | e, σ => Q e σ

theorem HT_seq {x y : Code} {σ : AS} {Q : Exit → AS → Prop} (h : HT E N x σ (Then (fun σ' => HT E N y σ' Q) Q)) : HT E N (.seq x y) σ Q := fun F a w hF hr =>
  wp_seq (wp_mono (h F a w hF hr) fun e a' w' hq => by
    obtain ⟨σ', q, r⟩ := hq
    cases e with
    | normal => exact q F a' w' hF r
    | _ => exact ⟨σ', q, r⟩)

theorem HT_skip {σ : AS} {Q : Exit → AS → Prop} (h : Q .normal σ) : HT E N .skip σ Q := fun _ _ _ _ hr => wp_skip ⟨σ, h, hr⟩
theorem HT_label {l : Nat} {σ : AS} {Q : Exit → AS → Prop} (h : Q .normal σ) : HT E N (.label l) σ Q := fun _ _ _ _ hr => wp_label ⟨σ, h, hr⟩
theorem HT_exit {id : Nat} {σ : AS} {Q : Exit → AS → Prop} (h : Q (.exit id) σ) : HT E N (.exit id) σ Q := fun _ _ _ _ hr => wp_exit ⟨σ, h, hr⟩
theorem HT_ret {σ : AS} {Q : Exit → AS → Prop} (h : Q .ret σ) : HT E N .ret σ Q := fun _ _ _ _ hr => wp_ret ⟨σ, h, hr⟩

theorem HT_cond {q : Operand} {x y : Code} {σ : AS} {Q : Exit → AS → Prop} {t : Bool} (hq : evA σ.sl q = .bool t) (h1 : t = true → HT E N x σ Q) (h2 : t = false → HT E N y σ Q) : HT E N (.cond q x y) σ Q := by
  intro F a w hF hr
  have hv : a.eval q = .bool t := by
    obtain ⟨β, _, hs, _⟩ := hr
    have := evA_V hs q
    rw [hq] at this
    exact V_bool this
  exact wp_cond_split hv (fun h => h1 h F a w hF hr) fun h => h2 h F a w hF hr

/-- Out of a block. -/
def InBlock (id : Nat) (Q : Exit → AS → Prop) : Exit → AS → Prop
  | .exit id', σ => if id' = id then Q .normal σ else Q (.exit id') σ
  | e, σ => Q e σ

theorem HT_block {id : Nat} {c : Code} {σ : AS} {Q : Exit → AS → Prop} (h : HT E N c σ (InBlock id Q)) : HT E N (.block id c) σ Q := fun F a w hF hr =>
  wp_block (wp_mono (h F a w hF hr) fun e a' w' hq => by
    obtain ⟨σ', q, r⟩ := hq
    cases e with
    | exit id' =>
      simp only [InBlock] at q
      simp only [Exit.inBlock]
      split
      · rename_i e; rw [if_pos e] at q; exact ⟨σ', q, r⟩
      · rename_i e; rw [if_neg e] at q; exact ⟨σ', q, r⟩
    | _ => exact ⟨σ', q, r⟩)

def NoGoto (Q : Exit → AS → Prop) : Exit → AS → Prop
  | .goto _, _ => False
  | e, σ => Q e σ

theorem HT_scope {c : Code} {σ : AS} {Q : Exit → AS → Prop} (h : HT E N c σ (NoGoto Q)) : HT E N (.scope c) σ Q := fun F a w hF hr =>
  wp_scope_straight (wp_mono (h F a w hF hr) fun e a' w' hq => by
    obtain ⟨σ', q, r⟩ := hq
    cases e with
    | goto l => exact q.elim
    | _ => exact ⟨σ', q, r⟩)

/-- Places under new names; a name for no place at all. -/
abbrev Ren := List (Nat × Option Nat)
def rloc (loc : Nat → Option Loc) : Ren → Nat → Option Loc
  | [], _ => none
  | (n, o) :: L, i => if i = n then (match o with | some o => loc o | none => some ⟨0, 0, 0⟩) else rloc loc L i
def Beta.ren (β : Beta) (L : Ren) : Beta := ⟨rloc β.loc L, β.fz⟩
/-- a' tells no more than a, under the new names. -/
def WkR (L : Ren) (a a' : AV) : Prop := ∀ β v, V β a v → V (β.ren L) a' v
theorem WkR.top (L : Ren) (a : AV) : WkR L a .top := fun _ _ _ => by simp [V]
theorem WkR.wk {L : Ren} {a a' : AV} (h : Wk a a') (hl : a'.loose) : WkR L a a' := fun β v hv => hl _ _ _ (h β v hv)
theorem WkR.ptr {L : Ren} {i i' o : Nat} (h : ∀ loc, rloc loc L i' = loc i) : WkR L (.ptr i o) (.ptr i' o) := fun β v hv => by
  simp only [V] at hv ⊢; obtain ⟨l, h1, h2⟩ := hv; exact ⟨l, (h β.loc).trans h1, h2⟩
theorem WkR.mp {L : Ren} {i i' : Nat} (h : ∀ loc, rloc loc L i' = loc i) : WkR L (.mp i) (.mp i') := fun β v hv => by
  simp only [V] at hv ⊢; obtain ⟨l, h1, h2⟩ := hv; exact ⟨l, (h β.loc).trans h1, h2⟩
theorem WkR.sl {L : Ren} {i i' o n m z : Nat} (h : ∀ loc, rloc loc L i' = loc i) : WkR L (.sl i o n m z) (.sl i' o n m z) := fun β v hv => by
  simp only [V] at hv ⊢; obtain ⟨l, h1, h2⟩ := hv; exact ⟨l, (h β.loc).trans h1, h2⟩
theorem WkR.so {L : Ren} {i i' o n z : Nat} (h : ∀ loc, rloc loc L i' = loc i) : WkR L (.so i o n z) (.so i' o n z) := fun β v hv => by
  simp only [V] at hv ⊢; obtain ⟨l, h1, h2⟩ := hv; exact ⟨l, (h β.loc).trans h1, h2⟩
theorem WkR.tok {L : Ren} {g g' sz n n' : Nat} {f f' : Nat → AV} (h : ∀ loc, rloc loc L g' = loc g) (hn : n = n') (hf : ∀ j, j < n → Wk (f j) (f' j)) (hl : ∀ j, (f' j).loose) : WkR L (.lst (.tok g) sz n f) (.lst (.tok g') sz n' f') := fun β v hv => by
  subst hn
  simp only [V] at hv ⊢
  obtain ⟨b, cap, h1, h2, ⟨l, h3, h3'⟩, h4⟩ := hv
  refine ⟨b, cap, h1, h2, ⟨l, (h β.loc).trans h3, h3'⟩, fun j hj => ?_⟩
  obtain ⟨c, o, u, k1, k2, k3, k4⟩ := h4 j hj
  exact ⟨c, o, u, k1, k2, k3, hl j _ _ _ (hf j hj _ _ k4)⟩
theorem WkR.nil {L : Ren} {g sz : Nat} {f : Nat → AV} (h : ∀ loc, rloc loc L g = some ⟨0, 0, 0⟩) : WkR L .nils (.lst (.tok g) sz 0 f) := fun β v hv => by
  simp only [V] at hv ⊢
  subst hv
  exact ⟨none, 0, rfl, Nat.le_refl _, ⟨_, h β.loc, .inl rfl⟩, fun j hj => by omega⟩
theorem WkR.cap {L : Ren} {g sz n n' : Nat} {f f' : Nat → AV} (h : ∀ loc, rloc loc L g = some ⟨0, 0, 0⟩) (hn : n = n') (hf : ∀ j, j < n → Wk (f j) (f' j)) (hl : ∀ j, (f' j).loose) : WkR L (.lst .cap sz n f) (.lst (.tok g) sz n' f') := fun β v hv => by
  subst hn
  simp only [V] at hv ⊢
  obtain ⟨b, cap, h1, h2, h3, h4⟩ := hv
  refine ⟨b, cap, h1, h2, ⟨_, h β.loc, .inl h3⟩, fun j hj => ?_⟩
  obtain ⟨c, o, u, k1, k2, k3, k4⟩ := h4 j hj
  exact ⟨c, o, u, k1, k2, k3, hl j _ _ _ (hf j hj _ _ k4)⟩

/-- The cells of the second tell no more. -/
def CkR (L : Ren) : List AV → List AV → Prop
  | _, [] => True
  | [], _ :: _ => False
  | a :: as, b :: bs => WkR L a b ∧ CkR L as bs
theorem CkR.get {L : Ren} : ∀ {as bs : List AV}, CkR L as bs → ∀ (j : Nat) (b : AV), bs[j]? = some b → ∃ a, as[j]? = some a ∧ WkR L a b
  | _, [], _, j, b, h => by simp at h
  | [], _ :: _, h, _, _, _ => h.elim
  | a :: as, b :: bs, h, 0, c, hc => by simp at hc; subst hc; exact ⟨a, by simp, h.1⟩
  | a :: as, b :: bs, h, j + 1, c, hc => by
    obtain ⟨x, hx, hw⟩ := CkR.get h.2 j c (by simpa using hc)
    exact ⟨x, by simpa using hx, hw⟩
theorem CkR.len {L : Ren} : ∀ {as bs : List AV}, CkR L as bs → bs.length ≤ as.length
  | _, [], _ => by simp
  | [], _ :: _, h => h.elim
  | a :: as, b :: bs, h => by have := CkR.len h.2; simp; exact this
theorem CkR.of {L : Ren} {as bs : List AV} (hl : bs.length ≤ as.length) (h : ∀ (j : Nat) (b : AV), bs[j]? = some b → ∃ a, as[j]? = some a ∧ WkR L a b) : CkR L as bs := by
  induction bs generalizing as with
  | nil => cases as <;> trivial
  | cons b bs ih =>
    cases as with
    | nil => simp at hl
    | cons a as =>
      refine ⟨?_, ih (by simpa using hl) fun j c hc => ?_⟩
      · obtain ⟨x, hx, hw⟩ := h 0 b rfl; simp at hx; subst hx; exact hw
      · obtain ⟨x, hx, hw⟩ := h (j + 1) c (by simpa using hc); exact ⟨x, by simpa using hx, hw⟩

/-- A block under a new name. -/
def BkR (L : Ren) (hp : Heap) (n : Nat) (o : Option Nat) : AB → Prop
  | .cells bs => match o with
    | none => bs = []
    | some o => match hp o with
      | some (.cells as) => CkR L as bs
      | _ => False
  | .map es => match o with
    | none => False
    | some o => match hp o with
      | some (.map ds) => ds.length = es.length ∧ ∀ (j : Nat) (p : AV × AV), es[j]? = some p → ∃ q, ds[j]? = some q ∧ WkR L q.1 p.1 ∧ WkR L q.2 p.2
      | _ => False

def lookR : Ren → Nat → Option (Option Nat)
  | [], _ => none
  | (n, o) :: L, i => if i = n then some o else lookR L i
theorem rloc_look (loc : Nat → Option Loc) : ∀ (L : Ren) (i : Nat), rloc loc L i = match lookR L i with | none => none | some none => some ⟨0, 0, 0⟩ | some (some o) => loc o
  | [], _ => rfl
  | (n, o) :: L, i => by
    simp only [rloc, lookR]
    by_cases e : i = n
    · simp only [e, if_true]; cases o <;> rfl
    · simp only [e, if_false]; exact rloc_look loc L i

/-- σ' knows no more than σ, under new names. -/
structure Weak (L : Ren) (σ σ' : AS) : Prop where
  sl : ∀ t, WkR L (σ.sl t) (σ'.sl t)
  hp : ∀ i b, σ'.hp i = some b → ∃ o, lookR L i = some o ∧ BkR L σ.hp i o b
  inj : ∀ i j o, lookR L i = some (some o) → lookR L j = some (some o) → i = j
  b : ∀ i o, lookR L i = some o → i < σ'.b
  anc : lookR L 0 = some (some 0)

theorem Weak.rep {L : Ren} {F : Fr} {σ σ' : AS} {a : Act} {w : World} (h : Weak L σ σ') (hF : F.ok true) (hr : Rep F N σ a w) : Rep F N σ' a w := by
  obtain ⟨β, h0, h1, h2, h3, h4⟩ := hr
  obtain ⟨f1, f2⟩ := hF rfl
  have hloc : ∀ i, (β.ren L) i = rloc β.loc L i := fun _ => rfl
  refine ⟨β.ren L, ⟨⟨fun i l hl => (by have := f1 i (by rw [hl]; simp); subst this; rw [hloc, rloc_look, h.anc]; exact h0.le.loc _ _ hl), h0.le.fz⟩, fun j _ => .inr (by omega), by omega, h0.fz⟩, fun t => h.sl t _ _ (h1 t), ?_, fun j hj => ?_, h4⟩
  · constructor
    · exact h2.fz
    · intro i cs hi
      obtain ⟨o, e1, e2⟩ := h.hp i _ hi
      cases o with
      | none =>
        simp only [BkR] at e2; subst e2
        exact ⟨⟨0, 0, 0⟩, by rw [hloc, rloc_look, e1], by simp, fun hk => by simp at hk⟩
      | some o =>
        simp only [BkR] at e2
        split at e2
        · rename_i as ho
          obtain ⟨l, g1, g2, g3⟩ := h2.own o as ho
          refine ⟨l, by rw [hloc, rloc_look, e1]; exact g1, Nat.le_trans e2.len g2, fun hk => ?_⟩
          obtain ⟨hB, hu, full, e', p, q, r⟩ := g3 hk
          refine ⟨hB, hu, full, e', p, q, fun j b hb => ?_⟩
          obtain ⟨x, hx, hw⟩ := e2.get j b hb
          obtain ⟨v, y, z⟩ := r j x hx
          exact ⟨v, y, hw _ _ z⟩
        · exact e2.elim
    · intro i es hi
      obtain ⟨o, e1, e2⟩ := h.hp i _ hi
      cases o with
      | none => exact e2.elim
      | some o =>
        simp only [BkR] at e2
        split at e2
        · rename_i ds ho
          obtain ⟨l, g1, g2, g3, ents, clk, g4, m⟩ := h2.map o ds ho
          obtain ⟨el, er⟩ := e2
          refine ⟨l, by rw [hloc, rloc_look, e1]; exact g1, g2, g3, ents, clk, g4, by rw [m.len, el], fun j p hp => ?_, m.born, m.inj⟩
          obtain ⟨q, hq, w1, w2⟩ := er j p hp
          obtain ⟨e, x, y, z⟩ := m.rel j q hq
          exact ⟨e, x, w1 _ _ y, w2 _ _ z⟩
        · exact e2.elim
    · intro i j bi bj li lj hne hi hj ei ej pi pj
      have old : ∀ {k b l}, σ'.hp k = some b → (β.ren L) k = some l → 0 < l.k → ∃ o b0, lookR L k = some (some o) ∧ σ.hp o = some b0 ∧ β o = some l := fun {k b l} hk hl hpos => by
        obtain ⟨o, e1, e2⟩ := h.hp k _ hk
        rw [hloc, rloc_look, e1] at hl
        cases o with
        | none => cases hl; simp at hpos
        | some o =>
          refine ⟨o, ?_⟩
          cases b with
          | cells bs => simp only [BkR] at e2; split at e2; rename_i as ho; exact ⟨_, e1, ho, hl⟩; exact e2.elim
          | map es => simp only [BkR] at e2; split at e2; rename_i ds ho; exact ⟨_, e1, ho, hl⟩; exact e2.elim
      obtain ⟨oi, bi0, x1, x2, x3⟩ := old hi ei pi
      obtain ⟨oj, bj0, y1, y2, y3⟩ := old hj ej pj
      have : oi ≠ oj := fun e => hne (h.inj i j oi x1 (e ▸ y1))
      exact h2.sep oi oj bi0 bj0 li lj this x2 y2 x3 y3 pi pj
  · have hj' : rloc β.loc L j ≠ none := hj
    rw [rloc_look] at hj'
    cases e : lookR L j with
    | none => rw [e] at hj'; exact absurd rfl hj'
    | some o => exact h.b j o e

theorem HT_weak {L : Ren} {c : Code} {σ σ' : AS} {Q : Exit → AS → Prop} (hcl : E.cl = true) (h : Weak L σ σ') (k : HT E N c σ' Q) : HT E N c σ Q := fun F a w hF hr => k F a w hF (h.rep (hcl ▸ hF) hr)

/-- A loop by what it leaves known. -/
theorem HT_loopW {c : Code} {σ : AS} {Q : Exit → AS → Prop} (hcl : E.cl = true) (I : Nat → AS → Prop) (n : Nat) (h0 : ∃ L σ0, Weak L σ σ0 ∧ I n σ0)
    (round : ∀ n σ, I n σ → HT E N c σ (Then (fun σ' => ∃ m, m < n ∧ ∃ L σ0, Weak L σ' σ0 ∧ I m σ0) Q)) : HT E N (.loop c) σ Q := by
  obtain ⟨L, σ0, hw, hI⟩ := h0
  refine HT_weak hcl hw ?_
  exact fun F a w hF hr =>
    wp_loop_ghost (fun n a w => ∃ σ', I n σ' ∧ Rep F N σ' a w) n ⟨σ0, hI, hr⟩ fun n a w ⟨σ', hI, hr'⟩ =>
    wp_mono (round n σ' hI F a w hF hr') fun e a' w' hq => by
      obtain ⟨σ'', q, r⟩ := hq
      cases e with
      | normal => obtain ⟨m, hm, L', σ3, hw, hI'⟩ := q; exact ⟨m, hm, σ3, hI', hw.rep (hcl ▸ hF) r⟩
      | _ => exact ⟨σ'', q, r⟩

/-- The slots that are named; of the others nothing is known. -/
def ofL (l : List (Nat × AV)) : Nat → AV := fun t => match l with
  | [] => .top
  | (u, a) :: l => bif t == u then a else ofL l t
theorem ofL_wk {L : Ren} {sl : Nat → AV} : ∀ {l : List (Nat × AV)}, (∀ p ∈ l, WkR L (sl p.1) p.2) → ∀ t, WkR L (sl t) (ofL l t)
  | [], _, t => WkR.top L _
  | (u, a) :: l, h, t => by
    unfold ofL
    cases e : t == u with
    | true => simp only [beq_iff_eq] at e; subst e; exact h (t, a) (by simp)
    | false => exact ofL_wk (fun p hp => h p (by simp [hp])) t

end
end Go.Eng
