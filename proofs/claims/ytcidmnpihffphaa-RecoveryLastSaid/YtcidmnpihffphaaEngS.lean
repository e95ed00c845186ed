import Derived.Test.YtcidmnpihffphaaEngR
namespace Go.Eng
universe u v
open Go.RowKit (Below)

/-! What a Go function computes, on plain data. -/
section
variable {α β S R : Type}
def W (o : Option α) (Φ : α → Prop) : Prop := ∃ a, o = some a ∧ Φ a
def bd (x : Option α) (f : α → Option β) : Option β := match x with | some a => f a | none => none
def gd (G : Prop) [Decidable G] (x : Option α) : Option α := if G then x else none
def cn (b : Bool) (x y : Option α) : Option α := bif b then x else y
inductive Ct (S R : Type) where
  | nx (s : S)
  | bk (s : S)
  | rt (r : R)
def ctK (c : Ct S R) (f : S → Option β) (g : S → Option β) (h : R → Option β) : Option β := match c with | .nx s => f s | .bk s => g s | .rt r => h r
def smK (c : S ⊕ R) (f : S → Option β) (g : R → Option β) : Option β := match c with | .inl s => f s | .inr r => g r
def lp (body : S → Option (Ct S R)) : Nat → S → Option (S ⊕ R)
  | 0, _ => none
  | n + 1, s => bd (body s) fun c => ctK c (lp body n) (fun s => some (.inl s)) (fun r => some (.inr r))
/-- Roads that meet. -/
def jn {V : Type} (f : V → Option β) (g : (V → Option β) → Option β) : Option β := g f
def FU : Nat := 18446744073709551616
/-- An element of a list. -/
def ix (l : List α) (d : α) (i : Int) (f : α → Option β) : Option β := gd (0 ≤ i ∧ i < (l.length : Int)) (f (l.getD i.toNat d))
/-- A list one after the other. -/
def ap (l x : List α) (f : List α → Option β) : Option β := gd (l.length + x.length ≤ 1048576) (f (l ++ x))
/-- A list typed out. -/
def lt (l : List α) (f : List α → Option β) : Option β := f l

/-- A part of a list. -/
def sub (l : List α) (lo hi : Int) : List α := (l.take hi.toNat).drop lo.toNat
def slc (l : List α) (lo hi : Int) (f : List α → Option β) : Option β := gd (0 ≤ lo ∧ lo ≤ hi ∧ hi ≤ (l.length : Int)) (f (sub l lo hi))
theorem sub_get {l : List α} {lo hi : Int} (h0 : 0 ≤ lo) (h1 : lo ≤ hi) (h2 : hi ≤ (l.length : Int)) : (sub l lo hi).length = hi.toNat - lo.toNat ∧ ∀ (d : α) j, j < hi.toNat - lo.toNat → (sub l lo hi).getD j d = l.getD (lo.toNat + j) d := by
  unfold sub
  refine ⟨by simp; omega, fun d j hj => ?_⟩
  simp only [List.getD_eq_getElem?_getD, List.getElem?_drop]
  rw [List.getElem?_take_of_lt (by omega)]

theorem W_bd {x : Option α} {f : α → Option β} {Φ : β → Prop} (h : W (bd x f) Φ) : W x fun a => W (f a) Φ := by
  obtain ⟨b, h1, h2⟩ := h
  cases x with
  | none => simp [bd] at h1
  | some a => exact ⟨a, rfl, b, h1, h2⟩
theorem W_some {a : α} {Φ : α → Prop} (h : W (some a) Φ) : Φ a := by obtain ⟨b, h1, h2⟩ := h; cases h1; exact h2
theorem W_jn {V : Type} {f : V → Option β} {g : (V → Option β) → Option β} {Φ : β → Prop} (h : W (jn f g) Φ) : W (g f) Φ := h
theorem W_inv {o : Option α} {Φ : α → Prop} (h : W o Φ) : ∃ a, o = some a ∧ Φ a := h
theorem W_of {o : Option α} {Φ : α → Prop} {a : α} (e : o = some a) (h : Φ a) : W o Φ := ⟨a, e, h⟩
theorem W_none {Φ : α → Prop} (h : W (none : Option α) Φ) : False := by obtain ⟨b, h1, h2⟩ := h; cases h1
theorem ix_nilF {d : α} {i : Int} {f : α → Option β} {Φ : β → Prop} (h : W (ix ([] : List α) d i f) Φ) : False := by
  obtain ⟨b, h1, h2⟩ := h
  unfold ix gd at h1
  split at h1
  · rename_i g; simp at g; omega
  · cases h1
theorem W_gd {G : Prop} [Decidable G] {x : Option α} {Φ : α → Prop} (h : W (gd G x) Φ) : G ∧ W x Φ := by
  obtain ⟨b, h1, h2⟩ := h
  unfold gd at h1
  split at h1
  · rename_i g; exact ⟨g, b, h1, h2⟩
  · cases h1
theorem W_cnT {x y : Option α} {Φ : α → Prop} (h : W (cn true x y) Φ) : W x Φ := h
theorem W_cnF {x y : Option α} {Φ : α → Prop} (h : W (cn false x y) Φ) : W y Φ := h
theorem W_cnE {b : Bool} {x y : Option α} {Φ : α → Prop} (h : W (cn b x y) Φ) : (b = true ∧ W x Φ) ∨ (b = false ∧ W y Φ) := by cases b; exact .inr ⟨rfl, h⟩; exact .inl ⟨rfl, h⟩
theorem W_nx {s : S} {f g : S → Option β} {k : R → Option β} {Φ : β → Prop} (h : W (ctK (.nx s) f g k) Φ) : W (f s) Φ := h
theorem W_bk {s : S} {f g : S → Option β} {k : R → Option β} {Φ : β → Prop} (h : W (ctK (.bk s) f g k) Φ) : W (g s) Φ := h
theorem W_rt {r : R} {f g : S → Option β} {k : R → Option β} {Φ : β → Prop} (h : W (ctK (.rt r) f g k) Φ) : W (k r) Φ := h
theorem W_inl {s : S} {f : S → Option β} {g : R → Option β} {Φ : β → Prop} (h : W (smK (.inl s) f g) Φ) : W (f s) Φ := h
theorem W_inr {s : R} {f : S → Option β} {g : R → Option β} {Φ : β → Prop} (h : W (smK (.inr s) f g) Φ) : W (g s) Φ := h

theorem W_xnx {body : S → Option (Ct S R)} {m : Nat} {s : S} {Ψ : S ⊕ R → Prop} (h : W (some (Ct.nx s)) fun a => W (ctK a (lp body m) (fun s => some (Sum.inl s)) fun r => some (Sum.inr r)) Ψ) : W (lp body m s) Ψ := by have h2 := W_some h; exact W_nx h2
theorem W_xbk {body : S → Option (Ct S R)} {m : Nat} {s : S} {Ψ : S ⊕ R → Prop} (h : W (some (Ct.bk s)) fun a => W (ctK a (lp body m) (fun s => some (Sum.inl s)) fun r => some (Sum.inr r)) Ψ) : Ψ (Sum.inl s) := by have h2 := W_some h; have h3 := W_bk h2; exact W_some h3
theorem W_xrt {body : S → Option (Ct S R)} {m : Nat} {s : R} {Ψ : S ⊕ R → Prop} (h : W (some (Ct.rt s)) fun a => W (ctK a (lp body m) (fun s => some (Sum.inl s)) fun r => some (Sum.inr r)) Ψ) : Ψ (Sum.inr s) := by have h2 := W_some h; have h3 := W_rt h2; exact W_some h3
theorem cond_lk {b : Bool} {x y : Option α} {Φ : α → Prop} {A B : Prop} (h : W (cn b x y) Φ) (h1 : b = true → W x Φ → A) (h2 : b = false → W y Φ → B) : cond b A B := by
  cases b
  · exact h2 rfl h
  · exact h1 rfl h
theorem gd_lk {G : Prop} [Decidable G] {x : Option α} {Φ : α → Prop} {K : Prop} (h : W (gd G x) Φ) (k : G → W x Φ → K) : G ∧ K := ⟨(W_gd h).1, k (W_gd h).1 (W_gd h).2⟩
theorem ix_lk {l : List α} {d : α} {i : Int} {f : α → Option β} {Φ : β → Prop} {K : Prop} (h : W (ix l d i f) Φ) (k : 0 ≤ i ∧ i < (l.length : Int) → W (f (l.getD i.toNat d)) Φ → K) : (0 ≤ i ∧ i < (l.length : Int)) ∧ K := gd_lk h k
end
attribute [irreducible] W bd gd cn ctK smK jn ix ap lt slc FU

/-! Numbers, as Go reckons. -/
abbrev wr (n : Int) : Int := IntKind.i64.wrap n
abbrev imin (x y : Int) : Int := if y < x then y else x
abbrev imax (x y : Int) : Int := if y > x then y else x
abbrev band (k : IntKind) (a b : Int) : Int := k.wrap (BitVec.ofInt k.bits a &&& BitVec.ofInt k.bits b).toNat
abbrev bor (k : IntKind) (a b : Int) : Int := k.wrap (BitVec.ofInt k.bits a ||| BitVec.ofInt k.bits b).toNat
abbrev bxor (k : IntKind) (a b : Int) : Int := k.wrap (BitVec.ofInt k.bits a ^^^ BitVec.ofInt k.bits b).toNat
abbrev bandNot (k : IntKind) (a b : Int) : Int := k.wrap (BitVec.ofInt k.bits a &&& ~~~BitVec.ofInt k.bits b).toNat
abbrev bshl (k : IntKind) (a b : Int) : Int := k.wrap (a * 2 ^ (min b.toNat k.bits))
abbrev bshr (k : IntKind) (a b : Int) : Int := a.fdiv (2 ^ (min b.toNat k.bits))

/-! Values. -/
def eI (n : Int) : AV := .int .i64 n
def eB (b : Bool) : AV := .bool b
/-- A list. -/
def eL {α : Type} (sz : Nat) (enc : α → AV) (d : α) (l : List α) : AV := .lst .free sz l.length fun j => enc (l.getD j d)
def eLm {α : Type} (m : LM) (sz : Nat) (enc : α → AV) (d : α) (l : List α) : AV := .lst m sz l.length fun j => enc (l.getD j d)

theorem loose_eI (n : Int) : (eI n).loose := loose_int _ _
theorem loose_eB (b : Bool) : (eB b).loose := loose_bool _
theorem loose_eL {α : Type} {sz : Nat} {enc : α → AV} {d : α} {l : List α} (h : ∀ x, (enc x).loose) : (eL sz enc d l).loose := loose_lst fun _j => h _

/-! Telling no more. -/
theorem Wk_lst {m : LM} {sz n n' : Nat} {f f' : Nat → AV} (hn : n = n') (h : ∀ j, j < n → Wk (f j) (f' j)) : Wk (.lst m sz n f) (.lst .free sz n' f') := by
  subst hn
  intro β v hv
  simp only [V] at hv ⊢
  obtain ⟨b, cap, h1, h2, h3, h4⟩ := hv
  refine ⟨b, cap, h1, h2, trivial, fun j hj => ?_⟩
  obtain ⟨c, o, u, k1, k2, k3, k4⟩ := h4 j hj
  exact ⟨c, o, u, k1, k2, k3, h j hj _ _ k4⟩
theorem Wk_free {m : LM} {sz n : Nat} {f : Nat → AV} : Wk (.lst m sz n f) (.lst .free sz n f) := Wk_lst rfl fun _ _ => Wk.refl _
theorem Wk_nil {sz : Nat} {f : Nat → AV} : Wk .nils (.lst .free sz 0 f) := fun β v h => by
  simp only [V] at h ⊢
  subst h
  exact ⟨none, 0, rfl, Nat.le_refl _, trivial, fun j hj => by omega⟩
theorem WkL_nil : WkL [] [] := WkL.refl _
theorem WkL_cons {a b : AV} {as bs : List AV} (h : Wk a b) (k : WkL as bs) : WkL (a :: as) (b :: bs) := fun β vs hv => by
  simp only [Vs] at hv ⊢
  obtain ⟨v, vs', e, h1, h2⟩ := hv
  exact ⟨v, vs', e, h _ _ h1, k _ _ h2⟩
theorem Wk_agg {as bs : List AV} (h : WkL as bs) : Wk (.agg as) (.agg bs) := fun β v hv => by
  simp only [V] at hv ⊢; obtain ⟨vs, e, hv⟩ := hv; exact ⟨vs, e, h _ _ hv⟩
theorem Wk_tup {as bs : List AV} (h : WkL as bs) : Wk (.tup as) (.tup bs) := fun β v hv => by
  simp only [V] at hv ⊢; obtain ⟨vs, e, hv⟩ := hv; exact ⟨vs, e, h _ _ hv⟩
theorem Wk_eq {a b : AV} (h : a = b) : Wk a b := h ▸ Wk.refl _

theorem Wk_mode {m : LM} (_hm : m = .free ∨ m = .cap) {sz n n' : Nat} {f f' : Nat → AV} (hn : n = n') (h : ∀ j, j < n → f j = f' j) : Wk (.lst m sz n f) (.lst m sz n' f') := by
  subst hn
  intro β v hv
  simp only [V] at hv ⊢
  obtain ⟨b, cap, h1, h2, h3, h4⟩ := hv
  refine ⟨b, cap, h1, h2, h3, fun j hj => ?_⟩
  obtain ⟨c, o, u, k1, k2, k3, k4⟩ := h4 j hj
  exact ⟨c, o, u, k1, k2, k3, h j hj ▸ k4⟩
def isB (x : Option AV) (n d : Int) : Prop := (x = none ∧ n = d) ∨ ∃ k, x = some (.int k n)
theorem isB_ok {x : Option AV} {n : Int} {d : Nat} (h : isB x n d) (h0 : 0 ≤ n) : boundA x d = some n.toNat := by
  rcases h with ⟨rfl, rfl⟩ | ⟨k, rfl⟩
  · simp [boundA]
  · simp [boundA, h0]
/-- A part of a list. -/
theorem sl_lk {α β : Type} {enc : α → AV} {d : α} {sz : Nat} {l : List α} {lo hi : Int} {lo' hi' : Option AV} {k : AV → Prop} {f : List α → Option β} {Φ : β → Prop} (h : W (slc l lo hi f) Φ) (h1 : isB lo' lo 0) (h2 : isB hi' hi (l.length : Nat))
    (hk : W (f (sub l lo hi)) Φ → k (.lst .free sz (sub l lo hi).length fun j => enc ((sub l lo hi).getD j d))) : lslK sz l.length (fun j => enc (l.getD j d)) lo' hi' none k := by
  unfold slc at h
  obtain ⟨⟨g0, g1, g2⟩, h⟩ := W_gd h
  obtain ⟨e1, e2⟩ := sub_get (l := l) g0 g1 g2
  refine lslK_of ⟨hi.toNat, lo.toNat, _, isB_ok h2 (by omega), isB_ok h1 g0, .inl ⟨rfl, by omega, by omega, ?_⟩, hk h⟩
  exact Wk_mode (.inl rfl) e1.symm fun j hj => by rw [e2 d j hj]
theorem sl_lk3 {α β : Type} {enc : α → AV} {d : α} {sz : Nat} {l : List α} {lo hi : Int} {lo' : Option AV} {k1 k2 : IntKind} {k : AV → Prop} {f : List α → Option β} {Φ : β → Prop} (h : W (slc l lo hi f) Φ) (h1 : isB lo' lo 0)
    (hk : W (f (sub l lo hi)) Φ → k (.lst .cap sz (sub l lo hi).length fun j => enc ((sub l lo hi).getD j d))) : lslK sz l.length (fun j => enc (l.getD j d)) lo' (some (.int k1 hi)) (some (.int k2 hi)) k := by
  unfold slc at h
  obtain ⟨⟨g0, g1, g2⟩, h⟩ := W_gd h
  obtain ⟨e1, e2⟩ := sub_get (l := l) g0 g1 g2
  refine lslK_of ⟨hi.toNat, lo.toNat, _, isB_ok (.inr ⟨_, rfl⟩) (by omega), isB_ok h1 g0, .inr ⟨_, rfl, isB_ok (d := 0) (.inr ⟨_, rfl⟩) (by omega), by omega, by omega, ?_⟩, hk h⟩
  exact Wk_mode (.inr rfl) e1.symm fun j hj => by rw [e2 d j hj]

/-! Calls. -/
theorem callsK_pure {T : Tbl} {f : FuncId} {args args' : List AV} {hp : Heap} {id : Nat} {k : AV → Heap → Prop} {S : List AV → AV → Prop} {r : AV} (hT : T f = pureR S) (hs : S args' r) (hl : r.loose) (hw : WkL args args') (hk : k r hp) : callsK T f args hp id k :=
  callsK_of hw (by rw [hT]; exact ⟨hs, hl, rfl⟩) hk
theorem callpK_pure {T : Tbl} {f : FuncId} {args args' : List AV} {hp : Heap} {id : Nat} {k : AV → Prop} {S : List AV → AV → Prop} {r : AV} (hT : T f = pureR S) (hs : S args' r) (hl : r.loose) (hw : WkL args args') (hk : k r) : callpK T f args hp id k :=
  callpK_of hw (by rw [hT]; exact ⟨hs, hl, rfl⟩) hk

theorem eqv_bool {P : Program} {D : DT} (hD : DOk P D) {t : TypeId} {s b : Nat} {z : List AV} (ht : D t = some ⟨.bool, s, z, b⟩) (x y : Bool) : EqV P t (.bool x) (.bool y) (x == y) := by
  intro β w u v ox oy hu hv
  have k := (hD _ _ ht).k
  simp only [TKok] at k
  cases V_bool hu; cases V_bool hv
  have e := run_equal_bool w t x y k
  constructor <;> simp [eqGuard, binOp, e]

/-! Steps through code. -/
section
variable {E : Env} {N : Nat} {D : DT}
def condQ (a : AV) (A B : Prop) : Prop := match a with | .bool t => cond t A B | _ => False
theorem HT_if {q : Operand} {x y : Code} {σ : AS} {Q : Exit → AS → Prop} (h : ∀ K1 K2 : Prop, (HT E N x σ Q → K1) → (HT E N y σ Q → K2) → condQ (evA σ.sl q) K1 K2) : HT E N (.cond q x y) σ Q := by
  have h := h _ _ (fun h => h) (fun h => h)
  unfold condQ at h
  split at h
  · rename_i t ht
    refine HT_cond ht (fun e => ?_) (fun e => ?_)
    · subst e; exact h
    · subst e; exact h
  · exact h.elim
theorem Then_n {K : AS → Prop} {Q : Exit → AS → Prop} {σ : AS} (h : K σ) : Then K Q .normal σ := h
theorem Then_r {K : AS → Prop} {Q : Exit → AS → Prop} {σ : AS} (h : Q .ret σ) : Then K Q .ret σ := h
theorem Then_e {K : AS → Prop} {Q : Exit → AS → Prop} {σ : AS} {i : Nat} (h : Q (.exit i) σ) : Then K Q (.exit i) σ := h
theorem InBlock_n {i : Nat} {Q : Exit → AS → Prop} {σ : AS} (h : Q .normal σ) : InBlock i Q .normal σ := h
theorem InBlock_r {i : Nat} {Q : Exit → AS → Prop} {σ : AS} (h : Q .ret σ) : InBlock i Q .ret σ := h
theorem InBlock_e {i : Nat} {Q : Exit → AS → Prop} {σ : AS} (h : Q .normal σ) : InBlock i Q (.exit i) σ := by show (if _ then _ else _); rw [if_pos rfl]; exact h
theorem InBlock_o {i j : Nat} {Q : Exit → AS → Prop} {σ : AS} (hj : j ≠ i) (h : Q (.exit j) σ) : InBlock i Q (.exit j) σ := by show (if _ then _ else _); rw [if_neg hj]; exact h
theorem NoGoto_n {Q : Exit → AS → Prop} {σ : AS} (h : Q .normal σ) : NoGoto Q .normal σ := h
theorem NoGoto_r {Q : Exit → AS → Prop} {σ : AS} (h : Q .ret σ) : NoGoto Q .ret σ := h
theorem NoGoto_e {j : Nat} {Q : Exit → AS → Prop} {σ : AS} (h : Q (.exit j) σ) : NoGoto Q (.exit j) σ := h
theorem PostP_r {P : Program} (hD : DOk P D) {rs : Array ResultVar} {r : AV} {σ : AS} (h : ∀ K : AV → Prop, (∀ r0, Wk r0 r → K r0) → resK D σ.b σ.sl σ.hp rs.toList fun l => K (retOf l)) : PostP P rs r .ret σ :=
  resA_end hD (h (fun r0 => Wk r0 r) fun _ h => h)
theorem PostP_n {P : Program} (hD : DOk P D) {rs : Array ResultVar} {r : AV} {σ : AS} (h : ∀ K : AV → Prop, (∀ r0, Wk r0 r → K r0) → resK D σ.b σ.sl σ.hp rs.toList fun l => K (retOf l)) : PostP P rs r .normal σ :=
  resA_end hD (h (fun r0 => Wk r0 r) fun _ h => h)

/-- A loop in step with what it computes. -/
theorem HT_lp {S R : Type} {c : Code} {σ : AS} {Q : Exit → AS → Prop} {body : S → Option (Ct S R)} {n : Nat} {s : S} {Φ : S ⊕ R → Prop} (hcl : E.cl = true) (h : W (lp body n s) Φ) (I : AS → S → AS) (h0 : ∃ L, Weak L σ (I σ s))
    (round : ∀ (s : S) (m : Nat), W (bd (body s) fun c => ctK c (lp body m) (fun s => some (.inl s)) (fun r => some (.inr r))) Φ →
      HT E N c (I σ s) (Then (fun σ' => ∃ s', W (lp body m s') Φ ∧ ∃ L, Weak L σ' (I σ s')) Q)) : HT E N (.loop c) σ Q := by
  obtain ⟨L, hw⟩ := h0
  refine HT_loopW hcl (fun n σ' => ∃ s, σ' = I σ s ∧ W (lp body n s) Φ) n ⟨L, _, hw, s, rfl, h⟩ fun n σ' ⟨s, hI, h⟩ => ?_
  subst hI
  cases n with
  | zero => exact (W_none h).elim
  | succ m =>
    refine (round s m h).mono fun e σ' q => ?_
    cases e with
    | normal => obtain ⟨s', h1, L, h2⟩ := q; exact ⟨m, Nat.lt_succ_self _, L, _, h2, s', rfl, h1⟩
    | _ => exact q

/-- From what a body leaves: blocks that were there, some turned. -/
theorem Fin_write {H hp H' : Heap} {base : Nat} {r0 r : AV} (hw : Wk r0 r) (hl : r.loose) (h : ∀ i b, H' i = some b → hp i = some b)
    (hc : ∀ i b, H' i = some b → H i = some b ∨ ∃ cs cs0, b = .cells cs ∧ H i = some (.cells cs0) ∧ ∀ a ∈ cs, a.loose) : Fin H base r0 hp r H' := by
  intro β0 β B w0 w v h0 hle hb0 hdom hfz hH hv
  have f : ∀ i b, H' i = some b → ∃ b', H i = some b' := fun i b hi => by
    rcases hc i b hi with e | ⟨_, cs0, _, e, _⟩
    · exact ⟨_, e⟩
    · exact ⟨_, e⟩
  refine ⟨β0.keep β, ⟨Beta.le_keep hle, fun j hj => .inl hj, hfz⟩, hl _ _ _ _ (hw β v hv), ⟨hH.fz, fun i cs hi => ?_, fun i es clk hi => ?_, fun i j bi bj li lj hij hi hj => ?_, hH.ys, fun i b l hi hl pi => hH.yo i b l (h i b hi) (hle.loc _ _ hl) pi, fun i S G s hi => ?_, fun i j S G s S' G' s' hi hj => hH.gh1 i j S G s S' G' s' (h _ _ hi) (h _ _ hj), fun i sz es clk ho hi => ?_, fun i j sz es clk ho b hi hj hb => hH.mp1 i j sz es clk ho b (h _ _ hi) (h _ _ hj) hb⟩⟩
  · have hh := h i _ hi
    rcases hc i _ hi with e | ⟨cs1, cs0, e1, e, hlo⟩
    · obtain ⟨l, h1, h2, h3⟩ := h0.own i cs e
      refine ⟨l, h1, h2, fun hk => ?_⟩
      obtain ⟨hB, _, full, t, p, q, r⟩ := h3 hk
      obtain ⟨l', h1', _, h3'⟩ := hH.own i cs hh
      have := same_loc hle h1 h1'; subst this
      obtain ⟨_, hu, full', t', p', q', r'⟩ := h3' hk
      refine ⟨hB, hu, full', t', p', q', fun j a ha => ?_⟩
      obtain ⟨v0, _, y0⟩ := r j a ha
      obtain ⟨v1, x1, y1⟩ := r' j a ha
      exact ⟨v1, x1, V_back hle _ _ _ y0 y1⟩
    · cases e1
      obtain ⟨l, h1, _, _⟩ := h0.own i cs0 e
      obtain ⟨l', h1', h2', h3'⟩ := hH.own i cs hh
      have := same_loc hle h1 h1'; subst this
      refine ⟨l', h1, h2', fun hk => ?_⟩
      obtain ⟨hB, hu, full', t', p', q', r'⟩ := h3' hk
      refine ⟨hB, hu, full', t', p', q', fun j a ha => ?_⟩
      obtain ⟨v1, x1, y1⟩ := r' j a ha
      exact ⟨v1, x1, hlo _ (List.mem_of_getElem? ha) _ _ _ _ y1⟩
  · have hh := h i _ hi
    rcases hc i _ hi with e | ⟨cs1, cs0, e1, _⟩
    · obtain ⟨l, h1, h2, h3, ents, h4, m⟩ := h0.map i es clk e
      obtain ⟨l', h1', _, _, ents', h4', m'⟩ := hH.map i es clk hh
      have := same_loc hle h1 h1'; subst this
      refine ⟨l', h1, h2, h3, ents', h4', m'.len, fun j p hp => ?_⟩
      obtain ⟨e0, _, _, a0, b0⟩ := m.rel j p hp
      obtain ⟨e1, x1, y1, a1, b1⟩ := m'.rel j p hp
      exact ⟨e1, x1, y1, V_back hle _ _ _ a0 a1, V_back hle _ _ _ b0 b1⟩
    · cases e1
  · obtain ⟨bi', hi'⟩ := f i bi hi
    obtain ⟨bj', hj'⟩ := f j bj hj
    exact h0.sep i j bi' bj' li lj hij hi' hj'
  · obtain ⟨b', hb'⟩ := f i _ hi
    obtain ⟨l, h1⟩ := h0.locOf hb'
    obtain ⟨l', h1', h2, h3, h4⟩ := hH.gh i S G s (h _ _ hi)
    have := same_loc hle h1 h1'; subst this
    exact ⟨_, h1, h2, h3, h4⟩
  · have hh := h i _ hi
    rcases hc i _ hi with e | ⟨cs1, cs0, e1, _⟩
    · obtain ⟨l, h1, h2, h3, ents, h4, m, _⟩ := h0.mps i sz es clk ho e
      obtain ⟨l', h1', _, _, ents', h4', m', m2⟩ := hH.mps i sz es clk ho hh
      have := same_loc hle h1 h1'; subst this
      refine ⟨l', h1, h2, h3, ents', h4', ⟨m'.len, fun j p hp => ?_⟩, m2⟩
      obtain ⟨e0, _, _, a0, b0⟩ := m.rel j p hp
      obtain ⟨e1, x1, y1, a1, b1⟩ := m'.rel j p hp
      exact ⟨e1, x1, y1, V_back hle _ _ _ a0 a1, V_back hle _ _ _ b0 b1⟩
    · cases e1
/-- One block turned. -/
theorem Fin_one {H hp : Heap} {base i : Nat} {r0 r : AV} {cs cs0 : List AV} (hw : Wk r0 r) (hl : r.loose) (h0 : H i = some (.cells cs0)) (hhp : ∀ j, hp j = if j = i then some (.cells cs) else H j) (hlo : ∀ a ∈ cs, a.loose) :
    Fin H base r0 hp r (upd H i (some (.cells cs))) := by
  refine Fin_write hw hl (fun j b hj => ?_) fun j b hj => ?_
  · rw [hhp]; exact hj
  · unfold upd at hj
    split at hj
    · rename_i e; subst e; cases hj; exact .inr ⟨_, _, rfl, h0, hlo⟩
    · exact .inl hj

/-- Functions that hold on to something, under new names. -/
def VsR (L : Ren) (as bs : List AV) : Prop := ∀ β vs, Vs β as vs → Vs (β.ren L) bs vs
theorem VsR_nil {L : Ren} : VsR L [] [] := fun β vs h => by cases vs <;> simp_all [Vs]
theorem VsR_cons {L : Ren} {a b : AV} {as bs : List AV} (h : WkR L a b) (k : VsR L as bs) : VsR L (a :: as) (b :: bs) := fun β vs hv => by
  obtain ⟨v, vs', rfl, h1, h2⟩ := hv
  exact ⟨v, vs', rfl, h _ _ h1, k _ _ h2⟩
theorem WkR_fn {L : Ren} {f : FuncId} {fs fs' cs cs' : List AV} (h : VsR L fs fs') (k : VsR L cs cs') : WkR L (.fn f fs cs) (.fn f fs' cs') := fun β v hv => by
  simp only [V] at hv ⊢
  obtain ⟨x, y, e, h1, h2⟩ := hv
  exact ⟨x, y, e, h _ _ h1, k _ _ h2⟩
/-! Less known. -/
def allL {α : Type u} (p : α → Prop) : List α → Prop
  | [] => True
  | a :: l => p a ∧ allL p l
theorem allL_n {α : Type u} {p : α → Prop} : allL p [] := trivial
theorem allL_c {α : Type u} {p : α → Prop} {a : α} {l : List α} (h : p a) (k : allL p l) : allL p (a :: l) := ⟨h, k⟩
theorem allL_mem {α : Type u} {p : α → Prop} : ∀ {l : List α}, allL p l → ∀ a ∈ l, p a
  | _ :: _, h, a, ha => by rcases List.mem_cons.1 ha with rfl | ha; exact h.1; exact allL_mem h.2 a ha
/-- Blocks that are named. -/
def ofH (l : List (Nat × AB)) : Heap := fun i => match l with
  | [] => none
  | (j, b) :: l => if i = j then some b else ofH l i
theorem ofH_mem : ∀ {l : List (Nat × AB)} {i : Nat} {b : AB}, ofH l i = some b → (i, b) ∈ l
  | [], _, _, h => by simp [ofH] at h
  | (j, c) :: l, i, b, h => by
    unfold ofH at h
    split at h
    · rename_i e; subst e; cases h; simp
    · exact List.mem_cons_of_mem _ (ofH_mem h)
def renOkN (n : Nat) (L : Ren) (b : Nat) : Bool := (decide (64 ≤ b) && L.all (fun p => (match p.2 with | some o => decide (64 ≤ o) || o == p.1 | none => true) && (decide (n ≤ p.1) || p.2 == some p.1))) && (L.all (fun p => decide (p.1 < b)) && L.all fun p => L.all fun q => p.2.isNone || p.2 != q.2 || p.1 == q.1)
abbrev renOk := renOkN 64
theorem lookR_mem : ∀ {L : Ren} {i : Nat} {o : Option Nat}, lookR L i = some o → (i, o) ∈ L ∨ (i < 64 ∧ o = some i)
  | [], i, o, h => by
    unfold lookR at h
    cases e : decide (i < 64) with
    | true => rw [e] at h; simp only [cond_true, Option.some.injEq] at h; exact .inr ⟨by simpa using e, h.symm⟩
    | false => rw [e] at h; simp at h
  | (n, p) :: L, i, o, h => by
    unfold lookR at h
    split at h
    · rename_i e; subst e; cases h; simp
    · exact (lookR_mem h).imp (List.mem_cons_of_mem _) id
theorem lookR_anc {m : Nat} (hm : m ≤ 64) : ∀ {L : Ren}, (∀ p ∈ L, p.1 < m → p.2 = some p.1) → ∀ i, i < m → lookR L i = some (some i)
  | [], _, i, hi => by have : i < 64 := by omega
                       simp [lookR, this]
  | (n, p) :: L, h, i, hi => by
    unfold lookR
    split
    · rename_i e; subst e; exact congrArg some (h (i, p) (by simp) hi)
    · exact lookR_anc hm (fun q hq => h q (by simp [hq])) i hi
/-- The new names, read off two states. -/
def renA : AV → AV → Ren
  | .ptr i _, .ptr i' _ => [(i', some i)]
  | .mp i, .mp i' => [(i', some i)]
  | .sl i _ _ _ _, .sl i' _ _ _ _ => [(i', some i)]
  | .so i _ _ _, .so i' _ _ _ => [(i', some i)]
  | .lst (.tok g) _ _ _, .lst (.tok g') _ _ _ => [(g', some g)]
  | _, .lst (.tok g') _ _ _ => [(g', none)]
  | .nils, .so i' _ _ _ => [(i', none)]
  | _, _ => []
def renL (sl : Nat → AV) : List (Nat × AV) → Ren
  | [] => []
  | p :: l => renA (sl p.1) p.2 ++ renL sl l
def renC : List AV → List AV → Ren
  | a :: as, b :: bs => renA a b ++ renC as bs
  | _, _ => []
def renH (L : Ren) (hp : Heap) : List (Nat × AB) → Ren
  | [] => []
  | (i, .cells bs) :: l => (match lookR L i with
    | some (some o) => (match hp o with
      | some (.cells as) => renC as bs
      | _ => [])
    | _ => []) ++ renH L hp l
  | _ :: l => renH L hp l
def renAll (sl : Nat → AV) (hp : Heap) (l : List (Nat × AV)) (hs : List (Nat × AB)) : Ren := renL sl l ++ renH (renL sl l) hp hs
theorem weak_ofN {n : Nat} (hn : n ≤ 64) {sl : Nat → AV} {hp : Heap} {b b' : Nat} {l : List (Nat × AV)} {hs : List (Nat × AB)} (L : Ren) (h1 : allL (fun p => WkR L (sl p.1) p.2) l)
    (h2 : allL (fun p => ∃ o, lookR L p.1 = some o ∧ BkR L hp p.1 o p.2) hs) (h3 : renOkN n L b' = true) : WeakN n L ⟨sl, hp, b⟩ ⟨ofL l, ofH hs, b'⟩ where
  sl := ofL_wk (allL_mem h1)
  hp i c hi := allL_mem h2 _ (ofH_mem hi)
  inj i j o h1 h2 := by
    simp only [renOkN, Bool.and_eq_true, List.all_eq_true] at h3
    have ge : ∀ p ∈ L, ∀ o, p.2 = some o → 64 ≤ o ∨ o = p.1 := fun p hp o ho => by
      have := (h3.1.2 p hp).1
      rw [ho] at this; simpa using this
    rcases lookR_mem h1 with m1 | ⟨m1, e1⟩
    · rcases lookR_mem h2 with m2 | ⟨m2, e2⟩
      · have := h3.2.2 _ m1 _ m2
        simpa using this
      · cases e2
        rcases ge _ m1 _ rfl with h | h
        · omega
        · exact h.symm
    · cases e1
      rcases lookR_mem h2 with m2 | ⟨m2, e2⟩
      · rcases ge _ m2 _ rfl with h | h
        · omega
        · exact h
      · cases e2; rfl
  b i o h1 := by
    simp only [renOkN, Bool.and_eq_true, List.all_eq_true] at h3
    rcases lookR_mem h1 with m1 | ⟨m1, _⟩
    · simpa using h3.2.1 _ m1
    · have : 64 ≤ b' := by simpa using h3.1.1
      show i < b'
      omega
  anc := by
    simp only [renOkN, Bool.and_eq_true, List.all_eq_true] at h3
    refine lookR_anc hn fun p hp hlt => ?_
    have := (h3.1.2 p hp).2
    simp only [Bool.or_eq_true, decide_eq_true_eq, beq_iff_eq] at this
    rcases this with h | h
    · omega
    · exact h
theorem weak_of {sl : Nat → AV} {hp : Heap} {b b' : Nat} {l : List (Nat × AV)} {hs : List (Nat × AB)} (L : Ren) (h1 : allL (fun p => WkR L (sl p.1) p.2) l)
    (h2 : allL (fun p => ∃ o, lookR L p.1 = some o ∧ BkR L hp p.1 o p.2) hs) (h3 : renOk L b' = true) : Weak L ⟨sl, hp, b⟩ ⟨ofL l, ofH hs, b'⟩ := weak_ofN (Nat.le_refl _) L h1 h2 h3
theorem BkR_n {L : Ren} {hp : Heap} {i : Nat} : BkR L hp i none (.cells []) := rfl
theorem BkR_c {L : Ren} {hp : Heap} {i o : Nat} {as bs : List AV} (h : hp o = some (.cells as)) (k : CkR L as bs) : BkR L hp i (some o) (.cells bs) := by simp only [BkR, h]; exact k
theorem BkR_g {L : Ren} {hp : Heap} {i o : Nat} {S : Type} {G : Gh S} {s : S} (h : hp o = some (.gh S G s)) : BkR L hp i (some o) (.gh S G s) := h
theorem CkR_nil {L : Ren} {as : List AV} : CkR L as [] := by cases as <;> trivial
theorem CkR_cons {L : Ren} {a b : AV} {as bs : List AV} (h : WkR L a b) (k : CkR L as bs) : CkR L (a :: as) (b :: bs) := ⟨h, k⟩
/-- Slots and blocks that stay as they are. -/
def keepL (σ : AS) (ts : List Nat) : List (Nat × AV) := ts.map fun t => (t, σ.sl t)
def ptrId : AV → Nat
  | .ptr i _ => i
  | .mp i => i
  | .sl i _ _ _ _ => i
  | .so i _ _ _ => i
  | .lst (.tok g) _ _ _ => g
  | _ => 0
def keepH (σ : AS) (ts : List Nat) : List (Nat × AB) := ts.map fun t => (ptrId (σ.sl t), (σ.hp (ptrId (σ.sl t))).getD (.cells []))

def nthN : List Nat → Nat → Nat
  | [], _ => 0
  | a :: _, 0 => a
  | _ :: l, n + 1 => nthN l n
def forceP : List (Nat × AV) → (List (Nat × AV) → Prop) → Prop
  | [], k => k []
  | (t, a) :: l, k => forceA2 a fun a => forceP l fun l => k ((t, a) :: l)
theorem forceP_eq : ∀ (l : List (Nat × AV)) (k : List (Nat × AV) → Prop), forceP l k = k l
  | [], _ => rfl
  | (t, a) :: l, k => by simp only [forceP, forceA2_eq]; rw [forceP_eq l]
def forceS (sl : Nat → AV) : List (Nat × AV) → (List (AV × AV) → Prop) → Prop
  | [], k => k []
  | (t, a') :: l, k => forceA2 (sl t) fun a => forceA2 a' fun a' => forceS sl l fun ps => k ((a, a') :: ps)
theorem forceS_eq (sl : Nat → AV) : ∀ (l : List (Nat × AV)) (k : List (AV × AV) → Prop), forceS sl l k = k (l.map fun p => (sl p.1, p.2))
  | [], _ => rfl
  | (t, a) :: l, k => by simp only [forceS, forceA2_eq]; rw [forceS_eq sl l]; rfl
def forceHs : List (Nat × AB) → (List (Nat × AB) → Prop) → Prop
  | [], k => k []
  | (n, .cells cs) :: l, k => forceN n fun n => forceHs l fun l => k ((n, .cells cs) :: l)
  | (n, .map es clk) :: l, k => forceN n fun n => forceHs l fun l => k ((n, .map es clk) :: l)
  | (n, .gh S G s) :: l, k => forceN n fun n => forceHs l fun l => k ((n, .gh S G s) :: l)
  | (n, .maps sz es clk ho) :: l, k => forceN n fun n => forceHs l fun l => k ((n, .maps sz es clk ho) :: l)
theorem forceHs_eq : ∀ (l : List (Nat × AB)) (k : List (Nat × AB) → Prop), forceHs l k = k l
  | [], _ => rfl
  | (n, .cells cs) :: l, k => by simp only [forceHs, forceN_eq]; rw [forceHs_eq l]
  | (n, .map es clk) :: l, k => by simp only [forceHs, forceN_eq]; rw [forceHs_eq l]
  | (n, .gh S G s) :: l, k => by simp only [forceHs, forceN_eq]; rw [forceHs_eq l]
  | (n, .maps sz es clk ho) :: l, k => by simp only [forceHs, forceN_eq]; rw [forceHs_eq l]
def forceNs : List Nat → (List Nat → Prop) → Prop
  | [], k => k []
  | n :: l, k => forceN n fun n => forceNs l fun l => k (n :: l)
theorem forceNs_eq : ∀ (l : List Nat) (k : List Nat → Prop), forceNs l k = k l
  | [], _ => rfl
  | n :: l, k => by simp only [forceNs, forceN_eq]; rw [forceNs_eq l]
def forceR : Ren → (Ren → Prop) → Prop
  | [], k => k []
  | (n, none) :: l, k => forceN n fun n => forceR l fun l => k ((n, none) :: l)
  | (n, some o) :: l, k => forceN n fun n => forceN o fun o => forceR l fun l => k ((n, some o) :: l)
theorem forceR_eq : ∀ (l : Ren) (k : Ren → Prop), forceR l k = k l
  | [], _ => rfl
  | (n, none) :: l, k => by simp only [forceR, forceN_eq]; rw [forceR_eq l]
  | (n, some o) :: l, k => by simp only [forceR, forceN_eq]; rw [forceR_eq l]
def renP : List (AV × AV) → Ren
  | [] => []
  | p :: l => renA p.1 p.2 ++ renP l
theorem allL_map {α : Type u} {β : Type v} {f : α → β} {p : β → Prop} : ∀ {l : List α}, allL p (l.map f) → allL (fun a => p (f a)) l
  | [], _ => trivial
  | _ :: _, h => ⟨h.1, allL_map h.2⟩
theorem weak_k {sl : Nat → AV} {hp : Heap} {b b' : Nat} {l : List (Nat × AV)} {hs : List (Nat × AB)}
    (h : forceS sl l fun ps => forceR ((0, some 0) :: (renP ps ++ renH (renP ps) hp hs)) fun L => renOk L b' = true ∧ allL (fun p => WkR L p.1 p.2) ps ∧ allL (fun p => ∃ o, lookR L p.1 = some o ∧ BkR L hp p.1 o p.2) hs) : ∃ L, Weak L ⟨sl, hp, b⟩ ⟨ofL l, ofH hs, b'⟩ := by
  rw [forceS_eq, forceR_eq] at h
  exact ⟨_, weak_of _ (allL_map (β := AV × AV) (p := fun p => WkR _ p.1 p.2) h.2.1) h.2.2 h.1⟩
/-- A loop in step with what it computes; what stays as it is is brought forward. -/
theorem HT_lpK {S R : Type} {c : Code} {σ : AS} {Q : Exit → AS → Prop} {body : S → Option (Ct S R)} {n : Nat} {s : S} {Φ : S ⊕ R → Prop} (hcl : E.cl = true) (h : W (lp body n s) Φ) (ts hsl bsl : List Nat)
    (I : List (Nat × AV) → List (Nat × AB) → List Nat → Nat → S → AS)
    (H : forceP (keepL σ ts) fun kl => forceHs (keepH σ hsl) fun kh => forceNs (bsl.map fun t => ptrId (σ.sl t)) fun ids => forceN σ.b fun b =>
      (∃ L, Weak L σ (I kl kh ids b s)) ∧ ∀ (s : S) (m : Nat), W (bd (body s) fun c => ctK c (lp body m) (fun s => some (.inl s)) (fun r => some (.inr r))) Φ →
        HT E N c (I kl kh ids b s) (Then (fun σ' => ∃ s', W (lp body m s') Φ ∧ ∃ L, Weak L σ' (I kl kh ids b s')) Q)) : HT E N (.loop c) σ Q := by
  rw [forceP_eq, forceHs_eq, forceNs_eq, forceN_eq] at H
  exact HT_lp hcl h (fun _ s => I _ _ _ _ s) H.1 H.2
/-- Two ways that meet: what follows is walked once. -/
theorem HT_jnK {V β : Type} {x y : Code} {σ : AS} {Q : Exit → AS → Prop} {f : V → Option β} {g : (V → Option β) → Option β} {Φ : β → Prop} (hcl : E.cl = true) (h : W (jn f g) Φ) (ts hsl bsl : List Nat)
    (I : List (Nat × AV) → List (Nat × AB) → List Nat → Nat → V → AS)
    (H : forceP (keepL σ ts) fun kl => forceHs (keepH σ hsl) fun kh => forceNs (bsl.map fun t => ptrId (σ.sl t)) fun ids => forceN σ.b fun b =>
      (∀ s : V, W (f s) Φ → HT E N y (I kl kh ids b s) Q) ∧ ∀ k : V → Option β, W (g k) Φ →
        HT E N x σ (Then (fun σ' => ∃ s, W (k s) Φ ∧ ∃ L, Weak L σ' (I kl kh ids b s)) Q)) : HT E N (.seq x y) σ Q := by
  rw [forceP_eq, forceHs_eq, forceNs_eq, forceN_eq] at H
  refine HT_seq ((H.2 f (W_jn h)).mono fun e σ' q => ?_)
  cases e with
  | normal => obtain ⟨s, h1, L, h2⟩ := q; exact HT_weak hcl h2 (H.1 s h1)
  | _ => exact q
theorem HT_st {c : Code} {sl : Nat → AV} {hp : Heap} {b : Nat} {Q : Exit → AS → Prop} (h : HT E N c ⟨sl, hp, b⟩ Q) : HT E N c ⟨sl, hp, b⟩ Q := h

/-- A pointer to a block that is frozen. -/
def frzA (i : Nat) (cs : List AV) : AV → AV
  | .ptr j o => if j = i then .ep cs o else .ptr j o
  | a => a
theorem frzA_V {β β' : Beta} {i : Nat} {cs : List AV} {l : Loc} {vs : List Value} (hle : Beta.le β β') (hl : β i = some l) (hv : Vs β' cs vs) (hf : laid β'.fz l.c l.o vs) : ∀ (a : AV) (v : Value), V β a v → V β' (frzA i cs a) v := fun a v h => by
  unfold frzA
  split
  · rename_i j o
    split
    · rename_i e; subst e
      simp only [V] at h ⊢
      obtain ⟨l', h1, h2⟩ := h
      rw [hl] at h1; cases h1
      exact ⟨_, _, vs, h2, hf, hv⟩
    · exact V_mono hle _ _ h
  · exact V_mono hle _ _ h
/-- A block of ours that nobody will turn again. -/
theorem HT_frz {c : Code} {σ : AS} {Q : Exit → AS → Prop} (i : Nat) {cs : List AV} (hi : σ.hp i = some (.cells cs)) (h : HT E N c ⟨fun t => frzA i cs (σ.sl t), upd σ.hp i none, σ.b + 64⟩ Q) : HT E N c σ Q := fun ro F a w hro hF hr => by
  obtain ⟨β, ds, h0, h1, h2, h3, h4⟩ := hr
  obtain ⟨l, hl, hlen, hblk⟩ := h2.own i cs hi
  have hg : β σ.b = none := by
    cases e : β σ.b with
    | none => rfl
    | some x => exact absurd (h3 σ.b (by rw [e]; simp)) (Nat.lt_irrefl _)
  obtain ⟨β', f1, f2, f3, f4, f5, f6⟩ := h2.freezeRaw (m := cs.length) hi hl hg hlen
  obtain ⟨vs, hvs, hcell⟩ : ∃ vs : List Value, Vs β cs vs ∧ ∀ (j : Nat) (v : Value), vs[j]? = some v → w.cell? ⟨l.c, l.o + j, none⟩ = some v := by
    have key : ∀ (j : Nat) (a : AV), cs[j]? = some a → ∃ v, w.cell? ⟨l.c, l.o + j, none⟩ = some v ∧ V β a v := fun j a ha => h2.cell hi hl ha
    refine ⟨(List.range cs.length).map fun j => (w.cell? ⟨l.c, l.o + j, none⟩).getD undef, Vs_of_get (by simp) fun j a ha => ?_, fun j v hv => ?_⟩
    · obtain ⟨v, x, y⟩ := key j a ha
      have hj : j < cs.length := (List.getElem?_eq_some_iff.1 ha).1
      exact ⟨v, by simp [hj, x], y⟩
    · have hj : j < cs.length := by
        have := (List.getElem?_eq_some_iff.1 hv).1; simpa using this
      obtain ⟨v', x, y⟩ := key j cs[j] (List.getElem?_eq_some_iff.2 ⟨hj, rfl⟩)
      simp [hj, x] at hv; rw [x, hv]
  refine h ro F a w hro hF ⟨β', ds, ⟨Beta.le.trans h0.le f1, fun j hj => ?_, Nat.le_trans h0.b (Nat.le_add_right _ _), fun c o hc => ?_⟩, fun t => ?_, ?_, fun j hj => ?_, h4⟩
  · rcases f2 j hj with e | e
    · exact h0.dom j e
    · exact .inr (e ▸ h0.b)
  · rcases f6 c o hc with e | e
    · exact h0.fz c o e
    · exact .inr e.1
  · refine frzA_V f1 hl (Vs_mono f1 _ _ hvs) (fun j v hv => ?_) _ _ (h1 t)
    have hj : j < cs.length := by
      have := (List.getElem?_eq_some_iff.1 hv).1; rw [← Vs_length hvs] at this; exact this
    rw [f5 j hj]; exact hcell j v hv
  · refine f4.sub fun j b hb => ?_
    have hne : j ≠ σ.b := fun e => by
      subst e
      simp only [upd] at hb
      split at hb
      · cases hb
      · obtain ⟨x, hx⟩ := h2.locOf hb; rw [hg] at hx; cases hx
    rw [upd_other _ _ hne]; exact hb
  · rcases f2 j hj with e | e
    · exact Nat.lt_of_lt_of_le (h3 j e) (Nat.le_add_right _ _)
    · subst e; show σ.b < σ.b + 64; omega
theorem HT_frzK {c : Code} {σ : AS} {Q : Exit → AS → Prop} (t : Nat) (h : forceN (ptrId (σ.sl t)) fun i => ∃ cs, σ.hp i = some (.cells cs) ∧ HT E N c ⟨fun t => frzA i cs (σ.sl t), upd σ.hp i none, σ.b + 64⟩ Q) : HT E N c σ Q := by
  rw [forceN_eq] at h
  obtain ⟨cs, h1, h2⟩ := h
  exact HT_frz _ h1 h2
theorem loose_ep {cs : List AV} {o : Nat} (h : ∀ a ∈ cs, a.loose) : (AV.ep cs o).loose := fun β loc' ys' v hv => by
  simp only [V] at hv ⊢
  obtain ⟨c, q, vs, e, h1, h2⟩ := hv
  refine ⟨c, q, vs, e, h1, Vs_of_get (Vs_length h2) fun j a ha => ?_⟩
  obtain ⟨u, hu, hk⟩ := Vs_get h2 j a ha
  exact ⟨u, hu, h a (List.mem_of_getElem? ha) _ _ _ _ hk⟩
theorem loose_fn {f : FuncId} {fs cs : List AV} (h : ∀ a ∈ fs, a.loose) (k : ∀ a ∈ cs, a.loose) : (AV.fn f fs cs).loose := fun β loc' ys' v hv => by
  simp only [V] at hv ⊢
  obtain ⟨x, y, e, h1, h2⟩ := hv
  refine ⟨x, y, e, Vs_of_get (Vs_length h1) fun j a ha => ?_, Vs_of_get (Vs_length h2) fun j a ha => ?_⟩
  · obtain ⟨u, hu, hk⟩ := Vs_get h1 j a ha
    exact ⟨u, hu, h a (List.mem_of_getElem? ha) _ _ _ _ hk⟩
  · obtain ⟨u, hu, hk⟩ := Vs_get h2 j a ha
    exact ⟨u, hu, k a (List.mem_of_getElem? ha) _ _ _ _ hk⟩

theorem FOk_or {P : Program} {f : FuncId} {S1 S2 : List AV → AV → Prop} (h1 : FOk P f (pureR S1)) (h2 : FOk P f (pureR S2)) : FOk P f (pureR fun a r => S1 a r ∨ S2 a r) :=
  ⟨h1.1, fun args H base r H' e => by
    obtain ⟨h | h, hl, he⟩ := e
    · exact h1.2 args H base r H' ⟨h, hl, he⟩
    · exact h2.2 args H base r H' ⟨h, hl, he⟩⟩

/-! Lists. -/
theorem getD_app {α : Type} (l : List α) (x : List α) (d : α) (j : Nat) : (l ++ x).getD j d = if j < l.length then l.getD j d else x.getD (j - l.length) d := by
  simp only [List.getD_eq_getElem?_getD, List.getElem?_append]
  split <;> rfl
/-- A list that grows. -/
theorem ap_lk {P : Program} {D : DT} (hD : DOk P D) {α β : Type} {enc : α → AV} {d : α} {t u : TypeId} {e e' : TypeId} {de : TD} {s1 s2 b1 b2 : Nat} {z1 z2 : List AV} {m m' : LM} {sz : Nat} {l x : List α} {id : Nat} {hp : Heap} {k : AV → Heap → Prop} {f : List α → Option β} {Φ : β → Prop} {s : AV}
    (h : W (ap l x f) Φ) (hs : s = .lst m sz l.length (fun j => enc (l.getD j d)) ∨ (s = .nils ∧ l = [])) (ht : D t = some ⟨.slice e, s1, z1, b1⟩) (hu : D u = some ⟨.slice e', s2, z2, b2⟩) (he : D e = some de)
    (h0 : de.size = sz ∧ 0 < sz ∧ 0 < de.bytes ∧ de.bytes ≤ 1048576 ∧ de.zero.length = sz) (hfl : ∀ y, flatC (enc y) = true) {H' : Heap}
    (hm : (s = .nils ∧ H' = upd hp id (some (.cells []))) ∨ (s = .lst .cap sz l.length (fun j => enc (l.getD j d)) ∧ H' = upd hp id (some (.cells []))) ∨ (∃ g cs, s = .lst (.tok g) sz l.length (fun j => enc (l.getD j d)) ∧ hp g = some (.cells cs) ∧ H' = upd (upd hp g none) id (some (.cells []))))
    (hk : W (f (l ++ x)) Φ → k (.lst (.tok id) sz (l ++ x).length fun j => enc ((l ++ x).getD j d)) H') :
    appendK P t u s (.lst m' sz x.length fun j => enc (x.getD j d)) id hp k := by
  unfold ap at h
  obtain ⟨hlen, h⟩ := W_gd h
  rw [List.length_append] at hk
  have k1 := (hD _ _ ht).k
  have k2 := (hD _ _ hu).k
  simp only [TKok] at k1 k2
  obtain ⟨rfl, h1, h2, h3, h4⟩ := h0
  refine appendK_tok ⟨e, e', _, _, _, l.length, x.length, (fun j => enc (l.getD j d)), (fun j => enc (x.getD j d)), _, k1, k2, (hD _ _ he).size, (hD _ _ he).bytes, (hD _ _ he).zero, h1, h2, h3, h4, hlen, ?_, .lst _ _ _, fun j _ => hfl _, rfl, fun j hj => ?_, fun j hj => ?_, hm⟩ (hk h)
  · rcases hs with rfl | ⟨rfl, rfl⟩
    · exact .lst _ _ _
    · exact .nil _
  · simp only [getD_app, if_pos hj]
  · simp only [getD_app]
    rw [if_neg (by omega), Nat.add_sub_cancel_left]

/-- A list typed out in the same region that grows. -/
theorem apf_lk {P : Program} {D : DT} (hD : DOk P D) {α β : Type} {enc : α → AV} {d : α} {t u : TypeId} {e e' : TypeId} {de : TD} {s1 s2 b1 b2 : Nat} {z1 z2 : List AV} {m' : LM} {sz : Nat} {l x : List α} {id : Nat} {hp : Heap} {k : AV → Heap → Prop} {f : List α → Option β} {Φ : β → Prop}
    (h : W (ap l x f) Φ) (ht : D t = some ⟨.slice e, s1, z1, b1⟩) (hu : D u = some ⟨.slice e', s2, z2, b2⟩) (he : D e = some de)
    (h0 : de.size = sz ∧ 0 < sz ∧ 0 < de.bytes ∧ de.bytes ≤ 1048576 ∧ de.zero.length = sz) (hfl : ∀ y, flatC (enc y) = true)
    (hk : W (f (l ++ x)) Φ → k (.lst (.tok id) sz (l ++ x).length fun j => enc ((l ++ x).getD j d)) (upd hp id (some (.cells [])))) :
    appendFK P t u (.lst .cap sz l.length fun j => enc (l.getD j d)) (.lst m' sz x.length fun j => enc (x.getD j d)) id hp k := by
  unfold ap at h
  obtain ⟨hlen, h⟩ := W_gd h
  rw [List.length_append] at hk
  have k1 := (hD _ _ ht).k
  have k2 := (hD _ _ hu).k
  simp only [TKok] at k1 k2
  obtain ⟨rfl, h1, h2, h3, h4⟩ := h0
  refine appendFK_of ⟨_, .inr fun H => ⟨e, e', _, _, _, l.length, x.length, (fun j => enc (l.getD j d)), (fun j => enc (x.getD j d)), _, k1, k2, (hD _ _ he).size, (hD _ _ he).bytes, (hD _ _ he).zero, h1, h2, h3, h4, hlen, .lst _ _ _, .lst _ _ _, fun j _ => hfl _, rfl, fun j hj => ?_, fun j hj => ?_, .inr (.inl ⟨rfl, rfl⟩)⟩, Wk.refl _⟩ (hk h)
  · simp only [getD_app, if_pos hj]
  · simp only [getD_app]
    rw [if_neg (by omega), Nat.add_sub_cancel_left]
def allR (p : Nat → Prop) : Nat → Prop
  | 0 => True
  | n + 1 => p n ∧ allR p n
theorem allR_lt {p : Nat → Prop} : ∀ {n : Nat}, allR p n → ∀ j, j < n → p j
  | n + 1, h, j, hj => by
    by_cases e : j = n
    · subst e; exact h.1
    · exact allR_lt h.2 j (by omega)
/-- An element of a row of cells. -/
def elD (de : TD) (cs : List AV) (j : Nat) (a : AV) : Prop :=
  match de.k.agg with
  | true => a = .agg ((cs.drop (j * de.size)).take de.size) ∧ j * de.size + de.size ≤ cs.length
  | false => de.size = 1 ∧ cs[j]? = some a ∧ a.flat = true

/-- A list typed out. -/
theorem lt_lk {P : Program} {D : DT} (hD : DOk P D) {α β : Type} {enc : α → AV} {d : α} {t : TypeId} {parts : List (Nat × AV)} {id : Nat} {e : TypeId} {de : TD} {s1 b1 : Nat} {z1 : List AV} {cs : List AV} {k : AV → AB → Prop} {l : List α} {f : List α → Option β} {Φ : β → Prop} {n : Nat}
    (h : W (lt l f) Φ) (ht : D t = some ⟨.slice e, s1, z1, b1⟩) (he : D e = some de) (hn : n = l.length) (h0 : n * de.size ≤ 2 ^ 24 ∧ 0 < de.size ∧ de.zero.length = de.size)
    (hf : fillA (fun i => some (i * de.size, de.size)) (zerosA de.zero n) parts = some cs) (hc : allR (fun j => elD de cs j (enc (l.getD j d))) n)
    (hk : W (f l) Φ → k (.lst .cap de.size l.length fun j => enc (l.getD j d)) (.cells [])) : bsK P t n parts id k := by
  unfold lt at h
  subst hn
  have k1 := (hD _ _ ht).k
  simp only [TKok] at k1
  have hde := hD _ _ he
  refine bsK_of ⟨e, de.size, cs, ?_, .inr ⟨_, rfl, rfl, fun j hj => ?_⟩⟩ (hk h)
  · simp only [buildCellsA, k1, hde.size, hde.zero, Option.bind_some]
    rw [if_pos h0, hf]; rfl
  · have := allR_lt hc j hj
    unfold elD at this
    unfold partA okE
    rw [hde.agg, hde.size]
    cases ha : de.k.agg with
    | true =>
      simp only [ha] at this
      refine ⟨?_, fun h => by cases h⟩
      simp only [Option.bind_some, this.2, if_true]
      rw [← this.1]
    | false =>
      simp only [ha] at this
      rw [this.1, Nat.mul_one]
      exact ⟨this.2.1, fun _ => ⟨rfl, this.2.2⟩⟩
end
end Go.Eng
