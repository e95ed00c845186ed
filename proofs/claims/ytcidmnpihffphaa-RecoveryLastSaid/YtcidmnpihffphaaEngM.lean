import Derived.Test.YtcidmnpihffphaaEngL
import Derived.Deep.LoopGhost
import Derived.Scope
namespace Go.Eng
open Go.RowKit (Below)

structure Env where
  P : Program
  T : Tbl
  pf : FuncId → Bool
  cl : Bool
  rd : Bool
  hT : TOk P T
  hpf : PfOk T pf

/-- The state between two statements. -/
structure AS where
  sl : Nat → AV
  hp : Heap
  b : Nat

theorem BelowP.drew {B : Bd} {a w : World} (h : BelowP B a w) : BelowP B a w.drew := ⟨h.os, h.tape, h.output, h.size, Nat.le_trans h.drawn (Nat.le_succ _), h.block⟩
def Rep (F : Fr) (N : Nat) (σ : AS) (a : Act) (w : World) : Prop :=
  ∃ β ds, Since F β σ.b ∧ (∀ t, V β (σ.sl t) (a.tmps.getD t undef)) ∧ HRel β σ.hp w (F.Bx ds) ∧ (∀ j, β j ≠ none → j < σ.b) ∧
    BelowP F.B F.w0 w ∧ F.B.top w.heap.size ∧ a.defers = ds.map mark ∧ Marks F ds w ∧ a.tmps.size = N

/-- In a closed walk no block was named before, but for those that are handed over: their names are below 64. -/
def Fr.ok (F : Fr) (cl rd : Bool) : Prop := cl = true → (∀ i, F.β0.loc i ≠ none → i < bif rd then 64 else 32) ∧ F.b0 = 0

def HT (E : Env) (N : Nat) (c : Code) (σ : AS) (Q : Exit → AS → Prop) : Prop :=
  ∀ (ro : Option Nat) (F : Fr) (a : Act) (w : World), (E.rd = false → ro = none) → F.ok E.cl E.rd → Rep F N σ a w → c.wpIn (fen ro) 0 E.P (fun e a' w' => ∃ σ', Q e σ' ∧ Rep F N σ' a' w') a w

/-- A region's operations, one behind the other, each with what it asks. -/
def runV (c : Ctx) (ops : Array Oper) : List Oper → Nat → (Nat → AV) → Heap → ((Nat → AV) → Heap → Prop) → Prop
  | [], _, sl, hp, K => K sl hp
  | o :: os, i, sl, hp, K =>
    match wantA ops o sl with
    | none => False
    | some false => runV c ops os (i + 1) (putA sl o.dst .und) hp K
    | some true => ∃ r H', effR (opA c i o sl) hp (c.b + i * 64) r H' ∧ runV c ops os (i + 1) (putA sl o.dst r) H' K

theorem runV_runL (c : Ctx) (ops : Array Oper) {K : (Nat → AV) → Heap → Prop} : ∀ (os : List Oper) (i : Nat) (s : RS), (∀ j, os[j]? = ops[i + j]?) → (∀ k, s.ex k = true → k < i) →
    runV c ops os i s.sl s.hp K → ∃ s', runL c ops (List.range' i os.length) s s' ∧ K s'.sl s'.hp
  | [], i, s, _, _, h => ⟨s, rfl, h⟩
  | o :: os, i, s, ho, hex, h => by
    have h0 : ops[i]? = some o := by have := ho 0; simpa using this.symm
    have hos : ∀ j, os[j]? = ops[i + 1 + j]? := fun j => by have := ho (j + 1); rw [show i + 1 + j = i + (j + 1) by omega]; simpa using this
    simp only [runV] at h
    simp only [List.length_cons, List.range'_succ, runL]
    unfold stepR
    simp only [h0]
    cases hw : wantA ops o s.sl with
    | none => simp [hw] at h
    | some b =>
      cases b with
      | false =>
        simp only [hw] at h
        obtain ⟨s', h1, h2⟩ := runV_runL c ops os (i + 1) { s with sl := putA s.sl o.dst .und } hos (fun k hk => by have := hex k hk; omega) h
        exact ⟨s', ⟨_, rfl, by simpa using h1⟩, h2⟩
      | true =>
        simp only [hw] at h
        obtain ⟨r, H', he, h⟩ := h
        have hexi : s.ex i = false := by
          cases hh : s.ex i with
          | false => rfl
          | true => have := hex i hh; omega
        obtain ⟨s', h1, h2⟩ := runV_runL c ops os (i + 1) { sl := putA s.sl o.dst r, hp := H', ex := if (opA c i o s.sl).uses = true then upd s.ex i true else s.ex } hos (fun k hk => by
          dsimp only at hk
          split at hk
          · by_cases e : k = i
            · omega
            · rw [upd_other _ _ e] at hk; have := hex k hk; omega
          · have := hex k hk; omega) h
        exact ⟨s', ⟨_, ⟨r, ⟨by simp [hexi], fun _ k _ hk => hex k hk, he, rfl⟩, rfl⟩, by simpa using h1⟩, h2⟩

section
variable {E : Env} {N : Nat}

theorem Rep.toRR {F : Fr} {σ : AS} {a : Act} {w : World} {n lim : Nat} {bt : Tmp → Bool} (h : Rep F N σ a w) : RR ⟨E.P, E.T, E.pf, σ.b, n, lim, bt⟩ F N ⟨σ.sl, σ.hp, fun _ => false⟩ a w := by
  obtain ⟨β, ds, h0, h1, h2, h3, h4⟩ := h
  exact ⟨β, ds, h0, h1, h2, fun j hj => .inl (h3 j hj), h4⟩

theorem RR.toRep {F : Fr} {b n lim : Nat} {bt : Tmp → Bool} {s : RS} {a : Act} {w : World} (h : RR ⟨E.P, E.T, E.pf, b, n, lim, bt⟩ F N s a w) : Rep F N ⟨s.sl, s.hp, b + n * 64⟩ a w := by
  obtain ⟨β, ds, h0, h1, h2, h3, h4⟩ := h
  refine ⟨β, ds, ⟨h0.le, h0.dom, ?_, h0.fz⟩, h1, h2, fun j hj => ?_, h4⟩
  · have := h0.b; simp only at this ⊢; omega
  · rcases h3 j hj with h | ⟨i, hi, _, _, h⟩
    · simp only at h ⊢; omega
    · simp only at h hi ⊢; omega

def dstOk (N : Nat) (ops : Array Oper) : Bool := ops.toList.all fun o => match o.dst with | some t => t < N | none => true

theorem dstOk_spec {ops : Array Oper} (h : dstOk N ops = true) : ∀ (i : Nat) (o : Oper) (t : Tmp), ops[i]? = some o → o.dst = some t → t < N := by
  intro i o t ho ht
  unfold dstOk at h
  rw [List.all_eq_true] at h
  have := h o (by rw [← Array.getElem?_toList] at ho; exact List.mem_of_getElem? ho)
  rw [ht] at this
  simpa using this

theorem HT_region {id : Nat} {ops : Array Oper} {σ : AS} {Q : Exit → AS → Prop} (hd : dstOk N ops = true)
    (h : runV ⟨E.P, E.T, E.pf, σ.b, ops.size, σ.b + ops.size * 64, built ops⟩ ops ops.toList 0 σ.sl σ.hp fun sl hp => Q .normal ⟨sl, hp, σ.b + ops.size * 64⟩) : HT E N (.region id ops false) σ Q := by
  intro ro F a w hro hF hr
  obtain ⟨s', h1, h2⟩ := runV_runL _ ops ops.toList 0 ⟨σ.sl, σ.hp, fun _ => false⟩ (by simp) (by simp) h
  refine wpIn_region ?_
  rw [List.range_eq_range']
  refine runL_sound ⟨E.P, E.T, E.pf, σ.b, ops.size, σ.b + ops.size * 64, built ops⟩ E.hT E.hpf rfl (dstOk_spec hd) _ _ s' a w (by simpa using h1) hr.toRR ?_
  intro a' w' hr'
  exact ⟨_, h2, hr'.toRep⟩

theorem HT_draw {id : Nat} {ops : Array Oper} {σ : AS} {Q : Exit → AS → Prop} (hm : E.P.follows .mixedOrders = true) (hd : dstOk N ops = true) (hB : lexI E.pf (built ops) ops ops.size 0 (Array.replicate ops.size false) = true)
    (h : runV ⟨E.P, E.T, E.pf, σ.b, ops.size, σ.b, built ops⟩ ops ops.toList 0 σ.sl σ.hp fun sl hp => Q .normal ⟨sl, hp, σ.b + ops.size * 64⟩) : HT E N (.region id ops true) σ Q := by
  intro ro F a w hro hF hr
  obtain ⟨s', h1, h2⟩ := runV_runL _ ops ops.toList 0 ⟨σ.sl, σ.hp, fun _ => false⟩ (by simp) (by simp) h
  refine wpIn_region_any hm ?_
  have h1' : runL ⟨E.P, E.T, E.pf, σ.b, ops.size, σ.b, built ops⟩ ops (List.range' 0 ops.size) ⟨σ.sl, σ.hp, fun _ => false⟩ s' := by simpa using h1
  have hany := anyA_lex (Q := fun s => s = s') ⟨E.P, E.T, E.pf, σ.b, ops.size, σ.b, built ops⟩ E.hpf (Nat.le_refl _) ops ops.size 0 _ _ s' (Closed_start ops _) (by simp) hB h1' rfl
  refine anyA_sound ⟨E.P, E.T, E.pf, σ.b, ops.size, σ.b, built ops⟩ E.hT E.hpf rfl (dstOk_spec hd) (F := F) (N := N) (Q' := fun s => s = s') ?_ _ _ _ a _ hany ?_
  · rintro s a w rfl hr'
    exact ⟨_, h2, hr'.toRep⟩
  · obtain ⟨β, ds, g0, g1, g2, g3, g4, g5, g6, g7, g8⟩ := hr
    exact Rep.toRR ⟨β, ds, g0, g1, g2.drew, g3, g4.drew, g5, g6, g7.step (BelowP.refl _ w).drew, g8⟩

theorem HT_plan {id : Nat} {ops : Array Oper} {σ : AS} {Q : Exit → AS → Prop} (p : Pl) (hm : E.P.follows .mixedOrders = true) (hd : dstOk N ops = true) (hB : okPl E.pf (built ops) ops p ops.size (Array.replicate ops.size false) = true)
    (h : runPV ⟨E.P, E.T, E.pf, σ.b, ops.size, σ.b, built ops⟩ ops p σ.sl σ.hp fun sl hp => Q .normal ⟨sl, hp, σ.b + ops.size * 64⟩) : HT E N (.region id ops true) σ Q := by
  intro ro F a w hro hF hr
  refine wpIn_region_any hm ?_
  have hany := anyA_plan ⟨E.P, E.T, E.pf, σ.b, ops.size, σ.b, built ops⟩ E.hpf (Nat.le_refl _) ops rfl p ops.size _ ⟨σ.sl, σ.hp, fun _ => false⟩ (Closed_start ops _) (fun j hj => by cases hj) hB h
  refine anyA_sound ⟨E.P, E.T, E.pf, σ.b, ops.size, σ.b, built ops⟩ E.hT E.hpf rfl (dstOk_spec hd) (F := F) (N := N) (Q' := fun s => Q .normal ⟨s.sl, s.hp, σ.b + ops.size * 64⟩) ?_ _ _ _ a _ hany ?_
  · intro s a w hq hr'
    exact ⟨_, hq, hr'.toRep⟩
  · obtain ⟨β, ds, g0, g1, g2, g3, g4, g5, g6, g7, g8⟩ := hr
    exact Rep.toRR ⟨β, ds, g0, g1, g2.drew, g3, g4.drew, g5, g6, g7.step (BelowP.refl _ w).drew, g8⟩

theorem HT.mono {c : Code} {σ : AS} {Q Q' : Exit → AS → Prop} (h : HT E N c σ Q) (k : ∀ e σ, Q e σ → Q' e σ) : HT E N c σ Q' := fun ro F a w hro hF hr =>
  wpIn_mono (h ro F a w hro hF hr) fun _ _ _ ⟨σ', q, r⟩ => ⟨σ', k _ _ q, r⟩

/-- What follows where a piece of code ends normally. -/
def Then (K : AS → Prop) (Q : Exit → AS → Prop) : Exit → AS → Prop
  | .normal, σ => K σ
  | e, σ => Q e σ

theorem HT_seq {x y : Code} {σ : AS} {Q : Exit → AS → Prop} (h : HT E N x σ (Then (fun σ' => HT E N y σ' Q) Q)) : HT E N (.seq x y) σ Q := fun ro F a w hro hF hr =>
  wpIn_seq (wpIn_mono (h ro F a w hro hF hr) fun e a' w' hq => by
    obtain ⟨σ', q, r⟩ := hq
    cases e with
    | normal => exact q ro F a' w' hro hF r
    | _ => exact ⟨σ', q, r⟩)

theorem HT_skip {σ : AS} {Q : Exit → AS → Prop} (h : Q .normal σ) : HT E N .skip σ Q := fun _ _ _ _ _ _ hr => wpIn_skip ⟨σ, h, hr⟩
theorem HT_label {l : Nat} {σ : AS} {Q : Exit → AS → Prop} (h : Q .normal σ) : HT E N (.label l) σ Q := fun _ _ _ _ _ _ hr => wpIn_label ⟨σ, h, hr⟩
theorem HT_exit {id : Nat} {σ : AS} {Q : Exit → AS → Prop} (h : Q (.exit id) σ) : HT E N (.exit id) σ Q := fun _ _ _ _ _ _ hr => wpIn_exit ⟨σ, h, hr⟩
theorem HT_ret {σ : AS} {Q : Exit → AS → Prop} (h : Q .ret σ) : HT E N .ret σ Q := fun _ _ _ _ _ _ hr => wpIn_ret ⟨σ, h, hr⟩

theorem HT_cond {q : Operand} {x y : Code} {σ : AS} {Q : Exit → AS → Prop} {t : Bool} (hq : evA σ.sl q = .bool t) (h1 : t = true → HT E N x σ Q) (h2 : t = false → HT E N y σ Q) : HT E N (.cond q x y) σ Q := by
  intro ro F a w hro hF hr
  have hv : a.eval q = .bool t := by
    obtain ⟨β, _, _, hs, _⟩ := hr
    have := evA_V hs q
    rw [hq] at this
    exact V_bool this
  exact wpIn_cond_split hv (fun h => h1 h ro F a w hro hF hr) fun h => h2 h ro F a w hro hF hr

/-- Out of a block. -/
def InBlock (id : Nat) (Q : Exit → AS → Prop) : Exit → AS → Prop
  | .exit id', σ => if id' = id then Q .normal σ else Q (.exit id') σ
  | e, σ => Q e σ

theorem HT_block {id : Nat} {c : Code} {σ : AS} {Q : Exit → AS → Prop} (h : HT E N c σ (InBlock id Q)) : HT E N (.block id c) σ Q := fun ro F a w hro hF hr =>
  wpIn_block (wpIn_mono (h ro F a w hro hF hr) fun e a' w' hq => by
    obtain ⟨σ', q, r⟩ := hq
    cases e with
    | exit id' =>
      simp only [InBlock] at q
      simp only [Exit.inBlock]
      split
      · rename_i e; rw [if_pos e] at q; exact ⟨σ', q, r⟩
      · rename_i e; rw [if_neg e] at q; exact ⟨σ', q, r⟩
    | _ => exact ⟨σ', q, r⟩)

def NoGoto (Q : Exit → AS → Prop) : Exit → AS → Prop
  | .goto _, _ => False
  | e, σ => Q e σ

theorem stepR_scope {P : Program} {b : Frame} {a : Act} {k : List Item} {cs : List Frame} {w : World} {c : Code} : step P (lone (b.atR a (.code (.scope c) :: k)) cs w) = .next (lone (b.atR a (.code c :: .inScope c :: k)) cs w) :=
  step_lone_go (by simp [stepG, stepG.exec, Frame.atR])
theorem stepR_inScope {P : Program} {b : Frame} {a : Act} {k : List Item} {cs : List Frame} {w : World} {c : Code} : step P (lone (b.atR a (.inScope c :: k)) cs w) = .next (lone (b.atR a k) cs w) :=
  step_lone_go (by simp [stepG, stepG.exec, Frame.atR])
theorem wpIn_scope_straight {F : Fence} {n : Nat} {P : Program} {Q : Exit → Act → World → Prop} {a : Act} {w : World} {c : Code} (h : c.wpIn F n P (Exit.noGoto Q) a w) : (Code.scope c).wpIn F n P Q a w := by
  intro b k cs hro hb hr
  have h0 : (lone (b.atR a (.code (.scope c) :: k)) cs w).fenced P F := fenced_calm hb hr rfl
  obtain ⟨e, a₁, w₁, hq, harr⟩ := h b (.inScope c :: k) cs hro hb hr
  cases e with
  | normal => exact ⟨.normal, a₁, w₁, hq, .head h0 stepR_scope (StepsIn.trans harr (.one (fenced_calm hb hr rfl) stepR_inScope))⟩
  | exit id =>
    have hx : exitTo id (.inScope c :: k) = exitTo id k := by simp [exitTo]
    exact ⟨.exit id, a₁, w₁, hq, fun k' hk => .head h0 stepR_scope (harr.1 k' (by rw [hx]; exact hk)),
      fun hr' hk => let ⟨k₁, h1, h2⟩ := harr.2 hr' (by rw [hx]; exact hk); ⟨k₁, h1, .head h0 stepR_scope h2⟩⟩
  | goto l => exact hq.elim
  | ret => exact ⟨_, a₁, w₁, hq, .of_steps (.one h0 stepR_scope) harr⟩
  | panic ch => exact ⟨_, a₁, w₁, hq, .of_steps (.one h0 stepR_scope) harr⟩
  | outgrown => exact ⟨_, a₁, w₁, hq, .of_steps (.one h0 stepR_scope) harr⟩

theorem HT_scope {c : Code} {σ : AS} {Q : Exit → AS → Prop} (h : HT E N c σ (NoGoto Q)) : HT E N (.scope c) σ Q := fun ro F a w hro hF hr =>
  wpIn_scope_straight (wpIn_mono (h ro F a w hro hF hr) fun e a' w' hq => by
    obtain ⟨σ', q, r⟩ := hq
    cases e with
    | goto l => exact q.elim
    | _ => exact ⟨σ', q, r⟩)

/-- Places under new names; a name for no place at all. -/
abbrev Ren := List (Nat × Option Nat)
def rloc (loc : Nat → Option Loc) : Ren → Nat → Option Loc
  | [], i => bif i < 64 then loc i else none
  | (n, o) :: L, i => if i = n then (match o with | some o => loc o | none => some ⟨0, 0, 0⟩) else rloc loc L i
def Beta.ren (β : Beta) (L : Ren) : Beta := ⟨rloc β.loc L, β.fz, β.ys⟩
/-- a' tells no more than a, under the new names. -/
def WkR (L : Ren) (a a' : AV) : Prop := ∀ β v, V β a v → V (β.ren L) a' v
theorem WkR.top (L : Ren) (a : AV) : WkR L a .top := fun _ _ _ => by simp [V]
theorem WkR.wk {L : Ren} {a a' : AV} (h : Wk a a') (hl : a'.loose) : WkR L a a' := fun β v hv => hl _ _ _ _ (h β v hv)
theorem WkR.ptr {L : Ren} {i i' o : Nat} (h : ∀ loc, rloc loc L i' = loc i) : WkR L (.ptr i o) (.ptr i' o) := fun β v hv => by
  simp only [V] at hv ⊢; obtain ⟨l, h1, h2⟩ := hv; exact ⟨l, (h β.loc).trans h1, h2⟩
theorem WkR.mp {L : Ren} {i i' : Nat} (h : ∀ loc, rloc loc L i' = loc i) : WkR L (.mp i) (.mp i') := fun β v hv => by
  simp only [V] at hv ⊢; obtain ⟨l, h1, h2⟩ := hv; exact ⟨l, (h β.loc).trans h1, h2⟩
theorem WkR.sl {L : Ren} {i i' o n m z : Nat} (h : ∀ loc, rloc loc L i' = loc i) : WkR L (.sl i o n m z) (.sl i' o n m z) := fun β v hv => by
  simp only [V] at hv ⊢; obtain ⟨l, h1, h2⟩ := hv; exact ⟨l, (h β.loc).trans h1, h2⟩
theorem WkR.so {L : Ren} {i i' o n z : Nat} (h : ∀ loc, rloc loc L i' = loc i) : WkR L (.so i o n z) (.so i' o n z) := fun β v hv => by
  simp only [V] at hv ⊢; obtain ⟨l, h1, h2⟩ := hv; exact ⟨l, (h β.loc).trans h1, h2⟩
theorem WkR.tok {L : Ren} {g g' sz n n' : Nat} {f f' : Nat → AV} (h : ∀ loc, rloc loc L g' = loc g) (hn : n = n') (hf : ∀ j, j < n → Wk (f j) (f' j)) (hl : ∀ j, (f' j).loose) : WkR L (.lst (.tok g) sz n f) (.lst (.tok g') sz n' f') := fun β v hv => by
  subst hn
  simp only [V] at hv ⊢
  obtain ⟨b, cap, h1, h2, ⟨l, h3, h3'⟩, h4⟩ := hv
  refine ⟨b, cap, h1, h2, ⟨l, (h β.loc).trans h3, h3'⟩, fun j hj => ?_⟩
  obtain ⟨c, o, u, k1, k2, k3, k4⟩ := h4 j hj
  exact ⟨c, o, u, k1, k2, k3, hl j _ _ _ _ (hf j hj _ _ k4)⟩
theorem WkR.nil {L : Ren} {g sz : Nat} {f : Nat → AV} (h : ∀ loc, rloc loc L g = some ⟨0, 0, 0⟩) : WkR L .nils (.lst (.tok g) sz 0 f) := fun β v hv => by
  simp only [V] at hv ⊢
  subst hv
  exact ⟨none, 0, rfl, Nat.le_refl _, ⟨_, h β.loc, .inl rfl⟩, fun j hj => by omega⟩
theorem WkR.cap {L : Ren} {g sz n n' : Nat} {f f' : Nat → AV} (h : ∀ loc, rloc loc L g = some ⟨0, 0, 0⟩) (hn : n = n') (hf : ∀ j, j < n → Wk (f j) (f' j)) (hl : ∀ j, (f' j).loose) : WkR L (.lst .cap sz n f) (.lst (.tok g) sz n' f') := fun β v hv => by
  subst hn
  simp only [V] at hv ⊢
  obtain ⟨b, cap, h1, h2, h3, h4⟩ := hv
  refine ⟨b, cap, h1, h2, ⟨_, h β.loc, .inl h3⟩, fun j hj => ?_⟩
  obtain ⟨c, o, u, k1, k2, k3, k4⟩ := h4 j hj
  exact ⟨c, o, u, k1, k2, k3, hl j _ _ _ _ (hf j hj _ _ k4)⟩

/-- The cells of the second tell no more. -/
def CkR (L : Ren) : List AV → List AV → Prop
  | _, [] => True
  | [], _ :: _ => False
  | a :: as, b :: bs => WkR L a b ∧ CkR L as bs
theorem CkR.get {L : Ren} : ∀ {as bs : List AV}, CkR L as bs → ∀ (j : Nat) (b : AV), bs[j]? = some b → ∃ a, as[j]? = some a ∧ WkR L a b
  | _, [], _, j, b, h => by simp at h
  | [], _ :: _, h, _, _, _ => h.elim
  | a :: as, b :: bs, h, 0, c, hc => by simp at hc; subst hc; exact ⟨a, by simp, h.1⟩
  | a :: as, b :: bs, h, j + 1, c, hc => by
    obtain ⟨x, hx, hw⟩ := CkR.get h.2 j c (by simpa using hc)
    exact ⟨x, by simpa using hx, hw⟩
theorem CkR.len {L : Ren} : ∀ {as bs : List AV}, CkR L as bs → bs.length ≤ as.length
  | _, [], _ => by simp
  | [], _ :: _, h => h.elim
  | a :: as, b :: bs, h => by have := CkR.len h.2; simp; exact this
theorem CkR.of {L : Ren} {as bs : List AV} (hl : bs.length ≤ as.length) (h : ∀ (j : Nat) (b : AV), bs[j]? = some b → ∃ a, as[j]? = some a ∧ WkR L a b) : CkR L as bs := by
  induction bs generalizing as with
  | nil => cases as <;> trivial
  | cons b bs ih =>
    cases as with
    | nil => simp at hl
    | cons a as =>
      refine ⟨?_, ih (by simpa using hl) fun j c hc => ?_⟩
      · obtain ⟨x, hx, hw⟩ := h 0 b rfl; simp at hx; subst hx; exact hw
      · obtain ⟨x, hx, hw⟩ := h (j + 1) c (by simpa using hc); exact ⟨x, by simpa using hx, hw⟩

/-- A block under a new name. -/
def BkR (L : Ren) (hp : Heap) (_n : Nat) (o : Option Nat) : AB → Prop
  | .cells bs => match o with
    | none => bs = []
    | some o => match hp o with
      | some (.cells as) => CkR L as bs
      | _ => False
  | .map es clk => match o with
    | none => False
    | some o => match hp o with
      | some (.map ds clk') => clk' = clk ∧ ds.length = es.length ∧ ∀ (j : Nat) (p : Nat × AV × AV), es[j]? = some p → ∃ q, ds[j]? = some q ∧ q.1 = p.1 ∧ WkR L q.2.1 p.2.1 ∧ WkR L q.2.2 p.2.2
      | _ => False
  | .gh S G s => match o with
    | none => False
    | some o => hp o = some (.gh S G s)
  | .maps sz es clk ho => match o with
    | none => False
    | some o => match hp o with
      | some (.maps sz' ds clk' ho') => sz' = sz ∧ ho' = ho ∧ clk' = clk ∧ ds.length = es.length ∧ ∀ (j : Nat) (p : Nat × AV × AV), es[j]? = some p → ∃ q, ds[j]? = some q ∧ q.1 = p.1 ∧ WkR L q.2.1 p.2.1 ∧ WkR L q.2.2 p.2.2
      | _ => False

def lookR : Ren → Nat → Option (Option Nat)
  | [], i => bif i < 64 then some (some i) else none
  | (n, o) :: L, i => if i = n then some o else lookR L i
theorem rloc_look (loc : Nat → Option Loc) : ∀ (L : Ren) (i : Nat), rloc loc L i = match lookR L i with | none => none | some none => some ⟨0, 0, 0⟩ | some (some o) => loc o
  | [], i => by simp only [rloc, lookR]; cases decide (i < 64) <;> rfl
  | (n, o) :: L, i => by
    simp only [rloc, lookR]
    by_cases e : i = n
    · simp only [e, if_true]; cases o <;> rfl
    · simp only [e, if_false]; exact rloc_look loc L i

/-- σ' knows no more than σ, under new names. -/
structure WeakN (n : Nat) (L : Ren) (σ σ' : AS) : Prop where
  sl : ∀ t, WkR L (σ.sl t) (σ'.sl t)
  hp : ∀ i b, σ'.hp i = some b → ∃ o, lookR L i = some o ∧ BkR L σ.hp i o b
  inj : ∀ i j o, lookR L i = some (some o) → lookR L j = some (some o) → i = j
  b : ∀ i o, lookR L i = some o → i < σ'.b
  anc : ∀ i, i < n → lookR L i = some (some i)
abbrev Weak : Ren → AS → AS → Prop := WeakN 64

theorem WeakN.rep {n : Nat} {L : Ren} {F : Fr} {σ σ' : AS} {a : Act} {w : World} {rd : Bool} (hn : (bif rd then 64 else 32) ≤ n) (h : WeakN n L σ σ') (hF : F.ok true rd) (hr : Rep F N σ a w) : Rep F N σ' a w := by
  obtain ⟨β, ds, h0, h1, h2, h3, h4⟩ := hr
  obtain ⟨f1, f2⟩ := hF rfl
  have hloc : ∀ i, (β.ren L) i = rloc β.loc L i := fun _ => rfl
  have old : ∀ {k b l}, σ'.hp k = some b → (β.ren L) k = some l → 0 < l.k → ∃ o b0, lookR L k = some (some o) ∧ σ.hp o = some b0 ∧ β o = some l := fun {k b l} hk hl hpos => by
    obtain ⟨o, e1, e2⟩ := h.hp k _ hk
    rw [hloc, rloc_look, e1] at hl
    cases o with
    | none => cases hl; simp at hpos
    | some o =>
      refine ⟨o, ?_⟩
      cases b with
      | cells bs => simp only [BkR] at e2; split at e2; rename_i as ho; exact ⟨_, e1, ho, hl⟩; exact e2.elim
      | map es clk => simp only [BkR] at e2; split at e2; rename_i ds ck ho; exact ⟨_, e1, ho, hl⟩; exact e2.elim
      | gh S G s => simp only [BkR] at e2; exact ⟨_, e1, e2, hl⟩
      | maps sz es clk ho => simp only [BkR] at e2; split at e2; rename_i hh; exact ⟨_, e1, hh, hl⟩; exact e2.elim
  have hanc : ∀ i l, F.β0 i = some l → (β.ren L) i = some l := fun i l hl => by
    rw [hloc, rloc_look, h.anc i (Nat.lt_of_lt_of_le (f1 i (by rw [hl]; simp)) hn)]; exact h0.le.loc _ _ hl
  refine ⟨β.ren L, ds, ⟨⟨hanc, h0.le.fz⟩, fun j _ => .inr (by omega), by omega, h0.fz⟩, fun t => h.sl t _ _ (h1 t), ?_, fun j hj => ?_, h4⟩
  · constructor
    · exact h2.fz
    · intro i cs hi
      obtain ⟨o, e1, e2⟩ := h.hp i _ hi
      cases o with
      | none =>
        simp only [BkR] at e2; subst e2
        exact ⟨⟨0, 0, 0⟩, by rw [hloc, rloc_look, e1], by simp, fun hk => by simp at hk⟩
      | some o =>
        simp only [BkR] at e2
        split at e2
        · rename_i as ho
          obtain ⟨l, g1, g2, g3⟩ := h2.own o as ho
          refine ⟨l, by rw [hloc, rloc_look, e1]; exact g1, Nat.le_trans e2.len g2, fun hk => ?_⟩
          obtain ⟨hB, hu, full, e', p, q, r⟩ := g3 hk
          refine ⟨hB, hu, full, e', p, q, fun j b hb => ?_⟩
          obtain ⟨x, hx, hw⟩ := e2.get j b hb
          obtain ⟨v, y, z⟩ := r j x hx
          exact ⟨v, y, hw _ _ z⟩
        · exact e2.elim
    · intro i es clk hi
      obtain ⟨o, e1, e2⟩ := h.hp i _ hi
      cases o with
      | none => exact e2.elim
      | some o =>
        simp only [BkR] at e2
        split at e2
        · rename_i ds ck ho
          obtain ⟨l, g1, g2, g3, ents, g4, m⟩ := h2.map o ds ck ho
          obtain ⟨rfl, el, er⟩ := e2
          refine ⟨l, by rw [hloc, rloc_look, e1]; exact g1, g2, g3, ents, g4, by rw [m.len, el], fun j p hp => ?_⟩
          obtain ⟨q, hq, w0, w1, w2⟩ := er j p hp
          obtain ⟨e, x, x', y, z⟩ := m.rel j q hq
          exact ⟨e, x, x'.trans w0, w1 _ _ y, w2 _ _ z⟩
        · exact e2.elim
    · intro i j bi bj li lj hne hi hj ei ej pi pj
      obtain ⟨oi, bi0, x1, x2, x3⟩ := old hi ei pi
      obtain ⟨oj, bj0, y1, y2, y3⟩ := old hj ej pj
      have : oi ≠ oj := fun e => hne (h.inj i j oi x1 (e ▸ y1))
      exact h2.sep oi oj bi0 bj0 li lj this x2 y2 x3 y3 pi pj
    · exact h2.ys
    · intro i b l hi ei pi
      obtain ⟨o, b0, x1, x2, x3⟩ := old hi ei pi
      exact h2.yo o b0 l x2 x3 pi
    · intro i S G s hi
      obtain ⟨o, e1, e2⟩ := h.hp i _ hi
      cases o with
      | none => exact e2.elim
      | some o =>
        simp only [BkR] at e2
        obtain ⟨l, g1, g2⟩ := h2.gh o S G s e2
        exact ⟨l, by rw [hloc, rloc_look, e1]; exact g1, g2⟩
    · intro i j S G s S' G' s' hi hj
      obtain ⟨o, e1, e2⟩ := h.hp i _ hi
      obtain ⟨o', e1', e2'⟩ := h.hp j _ hj
      cases o with
      | none => exact e2.elim
      | some o =>
        cases o' with
        | none => exact e2'.elim
        | some o' =>
          simp only [BkR] at e2 e2'
          have := h2.gh1 o o' S G s S' G' s' e2 e2'
          subst this
          exact h.inj i j o e1 e1'
    · intro i sz es clk ho hi
      obtain ⟨o, e1, e2⟩ := h.hp i _ hi
      cases o with
      | none => exact e2.elim
      | some o =>
        simp only [BkR] at e2
        split at e2
        · rename_i sz' ds ck ho' hh
          obtain ⟨l, g1, g2, g3, ents, g4, m, m2⟩ := h2.mps o sz' ds ck ho' hh
          obtain ⟨rfl, rfl, rfl, el, er⟩ := e2
          refine ⟨l, by rw [hloc, rloc_look, e1]; exact g1, g2, g3, ents, g4, ⟨by rw [m.len, el], fun j p hp => ?_⟩, m2⟩
          obtain ⟨q, hq, w0, w1, w2⟩ := er j p hp
          obtain ⟨e, x, x', y, z⟩ := m.rel j q hq
          exact ⟨e, x, x'.trans w0, w1 _ _ y, w2 _ _ z⟩
        · exact e2.elim
    · intro i j sz es clk ho b hi hj hb
      obtain ⟨o, e1, e2⟩ := h.hp i _ hi
      obtain ⟨o', e1', e2'⟩ := h.hp j _ hj
      cases o with
      | none => exact e2.elim
      | some o =>
        simp only [BkR] at e2
        split at e2
        · rename_i sz' ds ck ho' hh
          cases o' with
          | none => cases b with
            | gh S G s => exact e2'.elim
            | maps sz es clk ho => exact e2'.elim
            | _ => cases hb
          | some o' =>
            have : ∃ b', σ.hp o' = some b' ∧ noGh b' = false := by
              cases b with
              | gh S G s => exact ⟨_, e2', rfl⟩
              | maps sz es clk ho =>
                simp only [BkR] at e2'
                split at e2'
                · rename_i hh2; exact ⟨_, hh2, rfl⟩
                · exact e2'.elim
              | _ => cases hb
            obtain ⟨b', k1, k2⟩ := this
            have := h2.mp1 o o' _ _ _ _ b' hh k1 k2
            subst this
            exact h.inj i j o e1 e1'
        · exact e2.elim
  · have hj' : rloc β.loc L j ≠ none := hj
    rw [rloc_look] at hj'
    cases e : lookR L j with
    | none => rw [e] at hj'; exact absurd rfl hj'
    | some o => exact h.b j o e

theorem Weak.rep {L : Ren} {F : Fr} {σ σ' : AS} {a : Act} {w : World} {rd : Bool} (h : Weak L σ σ') (hF : F.ok true rd) (hr : Rep F N σ a w) : Rep F N σ' a w := WeakN.rep (by cases rd <;> simp) h hF hr
theorem HT_weak {L : Ren} {c : Code} {σ σ' : AS} {Q : Exit → AS → Prop} (hcl : E.cl = true) (h : Weak L σ σ') (k : HT E N c σ' Q) : HT E N c σ Q := fun ro F a w hro hF hr => k ro F a w hro hF (Weak.rep h (hcl ▸ hF) hr)

theorem wpIn_loop_ghost {F : Fence} {n : Nat} {P : Program} {Q : Exit → Act → World → Prop} {a : Act} {w : World} {c : Code} (I : Nat → Act → World → Prop) (n₀ : Nat) (h₀ : I n₀ a w)
    (round : ∀ m a w, I m a w → c.wpIn F n P (Exit.then (fun a' w' => ∃ m', m' < m ∧ I m' a' w') Q) a w) : (Code.loop c).wpIn F n P Q a w := by
  refine wpIn_loop_rounds (n₀ + 1) ?_
  have key : ∀ f m a w, m < f → I m a w → Code.roundsIn F n P c Q f a w := by
    intro f
    induction f with
    | zero => intro m a w h; omega
    | succ f ih =>
      intro m a w h hI
      refine wpIn_mono (round m a w hI) fun e a' w' hq => ?_
      cases e with
      | normal => obtain ⟨m', hm, hI'⟩ := hq; exact ih m' a' w' (by omega) hI'
      | _ => exact hq
  exact key _ _ _ _ (Nat.lt_succ_self _) h₀

/-- A loop by what it leaves known. -/
theorem HT_loopW {c : Code} {σ : AS} {Q : Exit → AS → Prop} (hcl : E.cl = true) (I : Nat → AS → Prop) (n : Nat) (h0 : ∃ L σ0, Weak L σ σ0 ∧ I n σ0)
    (round : ∀ n σ, I n σ → HT E N c σ (Then (fun σ' => ∃ m, m < n ∧ ∃ L σ0, Weak L σ' σ0 ∧ I m σ0) Q)) : HT E N (.loop c) σ Q := by
  obtain ⟨L, σ0, hw, hI⟩ := h0
  refine HT_weak hcl hw ?_
  exact fun ro F a w hro hF hr =>
    wpIn_loop_ghost (fun n a w => ∃ σ', I n σ' ∧ Rep F N σ' a w) n ⟨σ0, hI, hr⟩ fun n a w ⟨σ', hI, hr'⟩ =>
    wpIn_mono (round n σ' hI ro F a w hro hF hr') fun e a' w' hq => by
      obtain ⟨σ'', q, r⟩ := hq
      cases e with
      | normal => obtain ⟨m, hm, L', σ3, hw, hI'⟩ := q; exact ⟨m, hm, σ3, hI', Weak.rep hw (hcl ▸ hF) r⟩
      | _ => exact ⟨σ'', q, r⟩

/-- The slots that are named; of the others nothing is known. -/
def ofL (l : List (Nat × AV)) : Nat → AV := fun t => match l with
  | [] => .top
  | (u, a) :: l => bif t == u then a else ofL l t
theorem ofL_wk {L : Ren} {sl : Nat → AV} : ∀ {l : List (Nat × AV)}, (∀ p ∈ l, WkR L (sl p.1) p.2) → ∀ t, WkR L (sl t) (ofL l t)
  | [], _, t => WkR.top L _
  | (u, a) :: l, h, t => by
    unfold ofL
    cases e : t == u with
    | true => simp only [beq_iff_eq] at e; subst e; exact h (t, a) (by simp)
    | false => exact ofL_wk (fun p hp => h p (by simp [hp])) t

end
end Go.Eng
