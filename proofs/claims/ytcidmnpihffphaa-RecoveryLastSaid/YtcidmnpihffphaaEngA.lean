import Derived.WalkKit
import Derived.RangeFuncSeq
import Derived.RangeFuncRecord
import Derived.OrdersIn
import Derived.LoopNIn
namespace Go.Eng
open Go.RowKit (Below)

/-- Where an abstract block lies: concrete block, first cell, how many cells there are from there on. -/
structure Loc where
  c : Nat
  o : Nat
  k : Nat

/-- What is told of the world: where the named blocks lie, and which cells never turn again. -/
structure Beta where
  loc : Nat → Option Loc
  fz : Nat → Nat → Option Value
  ys : Nat → Prop
instance : CoeFun Beta (fun _ => Nat → Option Loc) := ⟨Beta.loc⟩

/-- What may be appended to a list: nothing is known; it is full; it may grow into a block of ours. -/
inductive LM where
  | free
  | cap
  | tok (g : Nat)

/-- Abstract values. -/
inductive AV where
  | top
  | und
  | int (k : IntKind) (n : Int)
  | bool (b : Bool)
  | str (s : ByteArray)
  | nilp
  | ptr (i o : Nat)
  | ep (cs : List AV) (o : Nat)
  | nils
  | sl (i o len cap sz : Nat)
  | so (i o len sz : Nat)
  | lst (m : LM) (sz n : Nat) (f : Nat → AV)
  | nilm
  | mp (i : Nat)
  | nilf
  | fn (f : FuncId) (first caps : List AV)
  | agg (cs : List AV)
  | tup (vs : List AV)
  | yld (i : Nat)
  deriving Inhabited

/-- Cells that never turn again. -/
def laid (φ : Nat → Nat → Option Value) (c o : Nat) (vs : List Value) : Prop := ∀ (k : Nat) (v : Value), vs[k]? = some v → φ c (o + k) = some v
theorem laid.mono {φ ψ : Nat → Nat → Option Value} (h : ∀ c o v, φ c o = some v → ψ c o = some v) {c o : Nat} {vs : List Value} (k : laid φ c o vs) : laid ψ c o vs := fun j v hv => h _ _ _ (k j v hv)

def LMok (β : Beta) (m : LM) (sz n : Nat) (base : Option Addr) (cap : Nat) : Prop :=
  match m with
  | .free => True
  | .cap => cap = n
  | .tok g => ∃ l, β g = some l ∧ (cap = n ∨ ∃ o, base = some ⟨l.c, o, none⟩ ∧ l.o = o + n * sz ∧ cap * sz ≤ n * sz + l.k)

mutual
def V (β : Beta) : AV → Value → Prop
  | .top, _ => True
  | .und, v => v = undef
  | .int k n, v => v = .int k n
  | .bool b, v => v = .bool b
  | .str s, v => v = .string s
  | .nilp, v => v = .pointer none
  | .ptr i o, v => ∃ l, β i = some l ∧ v = .pointer (some ⟨l.c, l.o + o, none⟩)
  | .ep cs o, v => ∃ (c q : Nat) (vs : List Value), v = .pointer (some ⟨c, q + o, none⟩) ∧ laid β.fz c q vs ∧ Vs β cs vs
  | .nils, v => v = .slice none 0 0
  | .sl i o n m sz, v => ∃ l, β i = some l ∧ ((n = 0 ∧ m = 0 ∧ ∃ a, v = .slice a 0 0) ∨ (n ≤ m ∧ o + m * sz ≤ l.k ∧ v = .slice (some ⟨l.c, l.o + o, none⟩) n m))
  | .so i o n sz, v => ∃ l, β i = some l ∧ ((n = 0 ∧ ∃ a, v = .slice a 0 0) ∨ ∃ m, n ≤ m ∧ o + m * sz ≤ l.k ∧ v = .slice (some ⟨l.c, l.o + o, none⟩) n m)
  | .lst m sz n f, v => ∃ (base : Option Addr) (cap : Nat), v = .slice base n cap ∧ n ≤ cap ∧ LMok β m sz n base cap ∧
      ∀ j, j < n → ∃ (c o : Nat) (u : Value), base = some ⟨c, o, none⟩ ∧ u.cells.size = sz ∧ laid β.fz c (o + j * sz) u.cells.toList ∧ V β (f j) u
  | .nilm, v => v = .map none
  | .mp i, v => ∃ l, β i = some l ∧ v = .map (some l.c)
  | .nilf, v => v = .nilFunc
  | .fn f first caps, v => ∃ fv cv : List Value, v = .func (.func f) fv.toArray cv.toArray ∧ Vs β first fv ∧ Vs β caps cv
  | .agg cs, v => ∃ vs : List Value, v = .agg vs.toArray ∧ Vs β cs vs
  | .tup cs, v => ∃ vs : List Value, v = .tuple vs.toArray ∧ Vs β cs vs
  | .yld i, v => ∃ l, β i = some l ∧ v = .func (.yield l.c) #[] #[]
def Vs (β : Beta) : List AV → List Value → Prop
  | [], vs => vs = []
  | a :: as, vs => ∃ v vs', vs = v :: vs' ∧ V β a v ∧ Vs β as vs'
end

structure Beta.le (β β' : Beta) : Prop where
  loc : ∀ i l, β i = some l → β' i = some l
  fz : ∀ c o v, β.fz c o = some v → β'.fz c o = some v
theorem Beta.le.refl (β : Beta) : Beta.le β β := ⟨fun _ _ h => h, fun _ _ _ h => h⟩
theorem Beta.le.trans {a b c : Beta} (h : Beta.le a b) (k : Beta.le b c) : Beta.le a c := ⟨fun i l e => k.loc i l (h.loc i l e), fun i l v e => k.fz i l v (h.fz i l v e)⟩

theorem LMok.mono {β β' : Beta} (h : Beta.le β β') {m : LM} {sz n : Nat} {base : Option Addr} {cap : Nat} (k : LMok β m sz n base cap) : LMok β' m sz n base cap := by
  cases m with
  | free => trivial
  | cap => exact k
  | tok g => obtain ⟨l, h1, h2⟩ := k; exact ⟨l, h.loc _ _ h1, h2⟩

mutual
theorem V_mono {β β' : Beta} (h : Beta.le β β') : ∀ (a : AV) (v : Value), V β a v → V β' a v
  | .top, _, _ => by simp [V]
  | .und, _, e => by simpa [V] using e
  | .int _ _, _, e => by simpa [V] using e
  | .bool _, _, e => by simpa [V] using e
  | .str _, _, e => by simpa [V] using e
  | .nilp, _, e => by simpa [V] using e
  | .ptr _ _, _, e => by simp only [V] at e ⊢; obtain ⟨l, h1, h2⟩ := e; exact ⟨l, h.loc _ _ h1, h2⟩
  | .ep cs _, _, e => by simp only [V] at e ⊢; obtain ⟨c, q, vs, h1, h2, h3⟩ := e; exact ⟨c, q, vs, h1, h2.mono h.fz, Vs_mono h cs vs h3⟩
  | .nils, _, e => by simpa [V] using e
  | .sl .., _, e => by simp only [V] at e ⊢; obtain ⟨l, h1, h2⟩ := e; exact ⟨l, h.loc _ _ h1, h2⟩
  | .so .., _, e => by simp only [V] at e ⊢; obtain ⟨l, h1, h2⟩ := e; exact ⟨l, h.loc _ _ h1, h2⟩
  | .lst _ _ _ f, _, e => by
    simp only [V] at e ⊢
    obtain ⟨b, cap, h1, h2, h3, h4⟩ := e
    refine ⟨b, cap, h1, h2, h3.mono h, fun j hj => ?_⟩
    obtain ⟨c, o, u, k1, k2, k3, k4⟩ := h4 j hj
    exact ⟨c, o, u, k1, k2, k3.mono h.fz, V_mono h (f j) u k4⟩
  | .nilm, _, e => by simpa [V] using e
  | .mp _, _, e => by simp only [V] at e ⊢; obtain ⟨l, h1, h2⟩ := e; exact ⟨l, h.loc _ _ h1, h2⟩
  | .yld _, _, e => by simp only [V] at e ⊢; obtain ⟨l, h1, h2⟩ := e; exact ⟨l, h.loc _ _ h1, h2⟩
  | .nilf, _, e => by simpa [V] using e
  | .fn _ first caps, _, e => by simp only [V] at e ⊢; obtain ⟨k, l, h1, h2, h3⟩ := e; exact ⟨k, l, h1, Vs_mono h first k h2, Vs_mono h caps l h3⟩
  | .agg cs, _, e => by simp only [V] at e ⊢; obtain ⟨l, h1, h2⟩ := e; exact ⟨l, h1, Vs_mono h cs l h2⟩
  | .tup cs, _, e => by simp only [V] at e ⊢; obtain ⟨l, h1, h2⟩ := e; exact ⟨l, h1, Vs_mono h cs l h2⟩
theorem Vs_mono {β β' : Beta} (h : Beta.le β β') : ∀ (as : List AV) (vs : List Value), Vs β as vs → Vs β' as vs
  | [], _, e => by simpa [Vs] using e
  | a :: as, _, e => by simp only [Vs] at e ⊢; obtain ⟨v, vs', h0, h1, h2⟩ := e; exact ⟨v, vs', h0, V_mono h a v h1, Vs_mono h as vs' h2⟩
end

/-- What was told before stays told by the smaller map. -/
theorem same_loc {β β' : Beta} (h : Beta.le β β') {i : Nat} {l l' : Loc} (e : β i = some l) (e' : β' i = some l') : l' = l := by
  have := h.loc _ _ e; rw [this] at e'; cases e'; rfl

/-- The old places with the new frozen cells. -/
def Beta.keep (β0 β : Beta) : Beta := ⟨β0.loc, β.fz, β.ys⟩
theorem Beta.le_keep {β0 β : Beta} (h : Beta.le β0 β) : Beta.le β0 (β0.keep β) := ⟨fun _ _ h => h, h.fz⟩
theorem Beta.keep_le {β0 β : Beta} (h : Beta.le β0 β) : Beta.le (β0.keep β) β := ⟨h.loc, fun _ _ _ h => h⟩

theorem LMok.back {β0 β : Beta} (h : Beta.le β0 β) {m : LM} {sz n : Nat} {base base' : Option Addr} {cap cap' : Nat} (k0 : LMok β0 m sz n base cap) (k : LMok β m sz n base' cap') : LMok (β0.keep β) m sz n base' cap' := by
  cases m with
  | free => trivial
  | cap => exact k
  | tok g => obtain ⟨l, h1, h2⟩ := k; obtain ⟨l0, h3, _⟩ := k0; have := same_loc h h3 h1; subst this; exact ⟨l, h3, h2⟩

mutual
theorem V_back {β0 β : Beta} (h : Beta.le β0 β) : ∀ (a : AV) (v0 v : Value), V β0 a v0 → V β a v → V (β0.keep β) a v
  | .top, _, _, _, _ => by simp [V]
  | .und, _, _, _, e => by simpa [V] using e
  | .int _ _, _, _, _, e => by simpa [V] using e
  | .bool _, _, _, _, e => by simpa [V] using e
  | .str _, _, _, _, e => by simpa [V] using e
  | .nilp, _, _, _, e => by simpa [V] using e
  | .ptr _ _, _, _, e0, e => by
    simp only [V] at e0 e ⊢
    obtain ⟨l, h1, _⟩ := e0; obtain ⟨l', h1', h2'⟩ := e
    exact ⟨l, h1, (same_loc h h1 h1') ▸ h2'⟩
  | .ep cs _, _, _, e0, e => by
    simp only [V] at e0 e ⊢
    obtain ⟨_, _, vs0, _, _, h0⟩ := e0; obtain ⟨c, q, vs, h1, h2, h3⟩ := e
    exact ⟨c, q, vs, h1, h2, Vs_back h cs vs0 vs h0 h3⟩
  | .nils, _, _, _, e => by simpa [V] using e
  | .sl .., _, _, e0, e => by
    simp only [V] at e0 e ⊢
    obtain ⟨l, h1, _⟩ := e0; obtain ⟨l', h1', h2'⟩ := e
    exact ⟨l, h1, (same_loc h h1 h1') ▸ h2'⟩
  | .so .., _, _, e0, e => by
    simp only [V] at e0 e ⊢
    obtain ⟨l, h1, _⟩ := e0; obtain ⟨l', h1', h2'⟩ := e
    exact ⟨l, h1, (same_loc h h1 h1') ▸ h2'⟩
  | .lst _ _ _ f, _, _, e0, e => by
    simp only [V] at e0 e ⊢
    obtain ⟨b0, cap0, _, _, g3, g4⟩ := e0
    obtain ⟨b, cap, h1, h2, h3, h4⟩ := e
    refine ⟨b, cap, h1, h2, g3.back h h3, fun j hj => ?_⟩
    obtain ⟨_, _, u0, _, _, _, y⟩ := g4 j hj
    obtain ⟨c, o, u, k1, k2, k3, k4⟩ := h4 j hj
    exact ⟨c, o, u, k1, k2, k3, V_back h (f j) u0 u y k4⟩
  | .nilm, _, _, _, e => by simpa [V] using e
  | .mp _, _, _, e0, e => by
    simp only [V] at e0 e ⊢
    obtain ⟨l, h1, _⟩ := e0; obtain ⟨l', h1', h2'⟩ := e
    exact ⟨l, h1, (same_loc h h1 h1') ▸ h2'⟩
  | .yld _, _, _, e0, e => by
    simp only [V] at e0 e ⊢
    obtain ⟨l, h1, _⟩ := e0; obtain ⟨l', h1', h2'⟩ := e
    exact ⟨l, h1, (same_loc h h1 h1') ▸ h2'⟩
  | .nilf, _, _, _, e => by simpa [V] using e
  | .fn _ first caps, _, _, e0, e => by
    simp only [V] at e0 e ⊢
    obtain ⟨k0, l0, _, p0, q0⟩ := e0; obtain ⟨k, l, h1, h2, h3⟩ := e; exact ⟨k, l, h1, Vs_back h first k0 k p0 h2, Vs_back h caps l0 l q0 h3⟩
  | .agg cs, _, _, e0, e => by
    simp only [V] at e0 e ⊢
    obtain ⟨l0, _, k0⟩ := e0; obtain ⟨l, h1, h2⟩ := e; exact ⟨l, h1, Vs_back h cs l0 l k0 h2⟩
  | .tup cs, _, _, e0, e => by
    simp only [V] at e0 e ⊢
    obtain ⟨l0, _, k0⟩ := e0; obtain ⟨l, h1, h2⟩ := e; exact ⟨l, h1, Vs_back h cs l0 l k0 h2⟩
theorem Vs_back {β0 β : Beta} (h : Beta.le β0 β) : ∀ (as : List AV) (v0 vs : List Value), Vs β0 as v0 → Vs β as vs → Vs (β0.keep β) as vs
  | [], _, _, _, e => by simpa [Vs] using e
  | a :: as, _, _, e0, e => by
    simp only [Vs] at e0 e ⊢
    obtain ⟨x, xs, _, k1, k2⟩ := e0
    obtain ⟨v, vs', h0, h1, h2⟩ := e
    exact ⟨v, vs', h0, V_back h a x v k1 h1, Vs_back h as xs vs' k2 h2⟩
end

theorem Vs_length {β : Beta} : ∀ {as : List AV} {vs : List Value}, Vs β as vs → as.length = vs.length
  | [], vs, e => by simp [Vs] at e; simp [e]
  | a :: as, _, e => by simp only [Vs] at e; obtain ⟨v, vs', rfl, _, h2⟩ := e; simp [Vs_length h2]
theorem Vs_get {β : Beta} : ∀ {as : List AV} {vs : List Value}, Vs β as vs → ∀ (j : Nat) (a : AV), as[j]? = some a → ∃ v : Value, vs[j]? = some v ∧ V β a v
  | [], vs, _, j, a, h => by simp at h
  | x :: as, _, e, 0, a, h => by obtain ⟨v, vs', rfl, h1, _⟩ := e; simp at h; subst h; exact ⟨v, by simp, h1⟩
  | x :: as, _, e, j + 1, a, h => by
    obtain ⟨v, vs', rfl, _, h2⟩ := e
    obtain ⟨u, hu, hv⟩ := Vs_get h2 j a (by simpa using h)
    exact ⟨u, by simpa using hu, hv⟩

theorem Vs_of_get {β : Beta} : ∀ {as : List AV} {vs : List Value}, as.length = vs.length → (∀ (j : Nat) (a : AV), as[j]? = some a → ∃ v : Value, vs[j]? = some v ∧ V β a v) → Vs β as vs
  | [], [], _, _ => by simp [Vs]
  | [], _ :: _, h, _ => by simp at h
  | _ :: _, [], h, _ => by simp at h
  | a :: as, v :: vs, hl, h => by
    refine ⟨v, vs, rfl, ?_, Vs_of_get (by simpa using hl) fun j b hb => ?_⟩
    · obtain ⟨u, hu, hv⟩ := h 0 a rfl; simp at hu; subst hu; exact hv
    · obtain ⟨u, hu, hv⟩ := h (j + 1) b (by simpa using hb); exact ⟨u, by simpa using hu, hv⟩

theorem Vs_append {β : Beta} {as bs : List AV} {vs us : List Value} (h : Vs β as vs) (k : Vs β bs us) : Vs β (as ++ bs) (vs ++ us) := by
  induction as generalizing vs with
  | nil => simp [Vs] at h; subst h; simpa using k
  | cons a as ih => obtain ⟨v, vs', rfl, h1, h2⟩ := h; exact ⟨v, vs' ++ us, by simp, h1, ih h2⟩

theorem Vs_take {β : Beta} {as : List AV} {vs : List Value} (h : Vs β as vs) (n : Nat) : Vs β (as.take n) (vs.take n) := by
  induction as generalizing vs n with
  | nil => simp [Vs] at h; subst h; simp [Vs]
  | cons a as ih =>
    obtain ⟨v, vs', rfl, h1, h2⟩ := h
    cases n with
    | zero => simp [Vs]
    | succ n => exact ⟨v, vs'.take n, by simp, h1, ih h2 n⟩

theorem Vs_drop {β : Beta} {as : List AV} {vs : List Value} (h : Vs β as vs) (n : Nat) : Vs β (as.drop n) (vs.drop n) := by
  induction as generalizing vs n with
  | nil => simp [Vs] at h; subst h; simp [Vs]
  | cons a as ih =>
    obtain ⟨v, vs', rfl, h1, h2⟩ := h
    cases n with
    | zero => exact ⟨v, vs', by simp, h1, h2⟩
    | succ n => simpa using ih h2 n

theorem Vs_set {β : Beta} {as : List AV} {vs : List Value} (h : Vs β as vs) (n : Nat) {a : AV} {v : Value} (hv : V β a v) : Vs β (as.set n a) (vs.set n v) := by
  induction as generalizing vs n with
  | nil => simp [Vs] at h; subst h; simp [Vs]
  | cons b as ih =>
    obtain ⟨u, vs', rfl, h1, h2⟩ := h
    cases n with
    | zero => exact ⟨v, vs', by simp, hv, h2⟩
    | succ n => exact ⟨u, vs'.set n v, by simp, h1, ih h2 n⟩

/-- A constant of the code as an abstract value. -/
def ofVal1 : Value → AV
  | .int k n => .int k n
  | .bool b => .bool b
  | .string s => .str s
  | .pointer none => .nilp
  | .slice none 0 0 => .nils
  | .map none => .nilm
  | .nilFunc => .nilf
  | _ => .top
def ofVal : Value → AV
  | .agg cs => .agg (cs.toList.map ofVal1)
  | v => ofVal1 v

theorem V_ofVal1 (β : Beta) (v : Value) : V β (ofVal1 v) v := by
  unfold ofVal1; split <;> simp [V]
theorem Vs_ofVal1 (β : Beta) : ∀ vs : List Value, Vs β (vs.map ofVal1) vs
  | [] => by simp [Vs]
  | v :: vs => ⟨v, vs, rfl, V_ofVal1 β v, Vs_ofVal1 β vs⟩
theorem V_ofVal (β : Beta) (v : Value) : V β (ofVal v) v := by
  unfold ofVal; split
  · rename_i cs; exact ⟨cs.toList, by simp, Vs_ofVal1 β _⟩
  · exact V_ofVal1 β _

/-- What of the heap may be turned. -/
abbrev Bd := Nat → Prop
def Bd.top (B : Bd) (n : Nat) : Prop := ∀ c, n ≤ c → B c
theorem Bd.top.at {B : Bd} {n : Nat} (h : B.top n) : B n := h _ (Nat.le_refl _)
theorem Bd.top.mono {B : Bd} {n m : Nat} (h : B.top n) (k : n ≤ m) : B.top m := fun c hc => h c (Nat.le_trans k hc)
/-- What may not be turned stays. -/
structure BelowP (B : Bd) (w w' : World) : Prop where
  os : w'.os = w.os
  tape : w'.tape = w.tape
  output : w'.output = w.output
  size : w.heap.size ≤ w'.heap.size
  drawn : w.drawn ≤ w'.drawn
  block : ∀ k, ¬ B k → w'.heap[k]? = w.heap[k]?
theorem BelowP.refl (B : Bd) (w : World) : BelowP B w w := ⟨rfl, rfl, rfl, Nat.le_refl _, Nat.le_refl _, fun _ _ => rfl⟩
theorem BelowP.trans {B : Bd} {a b c : World} (h : BelowP B a b) (k : BelowP B b c) : BelowP B a c :=
  ⟨k.os.trans h.os, k.tape.trans h.tape, k.output.trans h.output, Nat.le_trans h.size k.size, Nat.le_trans h.drawn k.drawn, fun i hi => (k.block i hi).trans (h.block i hi)⟩
theorem BelowP.of {B : Bd} {n : Nat} (hB : B.top n) {w w' : World} (h : BelowP (fun c => n ≤ c) w w') : BelowP B w w' :=
  ⟨h.os, h.tape, h.output, h.size, h.drawn, fun k hk => h.block k fun hn => hk (hB k hn)⟩
theorem BelowP.alloc {n : Nat} (w : World) (h : n ≤ w.heap.size) (o : Obj) : BelowP (fun c => n ≤ c) w (w.alloc o) :=
  have b : Below n w (w.alloc o) := (Below.refl _ _).alloc h o
  ⟨b.os, b.tape, b.output, b.size, Nat.le_refl _, fun k hk => b.block k (Nat.not_le.1 hk)⟩
theorem BelowP.allocDrew {n : Nat} (w : World) (h : n ≤ w.heap.size) (o : Obj) : BelowP (fun c => n ≤ c) w (w.drew.alloc o) :=
  have b : Below n w (w.drew.alloc o) := ((Below.refl _ _).drew).alloc h o
  ⟨b.os, b.tape, b.output, b.size, Nat.le_succ _, fun k hk => b.block k (Nat.not_le.1 hk)⟩
theorem BelowP.to {n : Nat} {w w' : World} (h : BelowP (fun c => n ≤ c) w w') : Below n w w' := ⟨h.os, h.tape, h.output, h.size, fun k hk => h.block k (Nat.not_le.2 hk)⟩
/-- The body of a loop that another function runs, as that function sees it: its state; what holds of the world between two rounds (of the blocks that the body may turn alone); what a round does. -/
structure Gh (S : Type) where
  P : Program
  J : S → (Nat → Prop) → Nat → World → Prop
  Y : List Value → S → Bool → S → Prop
  fz : Nat → Nat → Option Value
  stable : ∀ s Ys l w w', J s Ys l w → BelowP (fun c => ¬ Ys c) w w' → (∀ c o v, fz c o = some v → w'.cell? ⟨c, o, none⟩ = some v) → J s Ys l w'
  cells : ∀ s Ys l w c o v, J s Ys l w → fz c o = some v → w.cell? ⟨c, o, none⟩ = some v
  yield : ∀ s Ys l w args b s', J s Ys l w → (∀ c, Ys c → c < w.heap.size) → Y args s b s' →
    YieldAt Fence.wide 0 P l args.toArray w fun e w' => e = .returned (.bool b) ∧ ∃ Ys', J s' Ys' l w' ∧ (∀ c, Ys' c → Ys c ∨ w.heap.size ≤ c) ∧ (∀ c, Ys' c → c < w'.heap.size) ∧ BelowP (fun c => Ys c ∨ w.heap.size ≤ c) w w'

/-- Abstract blocks: cells, or a map: each entry with its birth, its key, its element; and the clock; or a loop's body. -/
inductive AB where
  | cells (cs : List AV)
  | map (es : List (Nat × AV × AV)) (clk : Nat)
  | gh (S : Type) (G : Gh S) (s : S)
  | maps (sz : Nat) (es : List (Nat × AV × AV)) (clk : Nat) (ho : Option Nat)

/-- No loop's body, no map of lists that grow. -/
def noGh : AB → Bool
  | .gh .. => false
  | .maps .. => false
  | _ => true

/-- The lists of a map that grow in its pool (all but one, at a place). -/
def outE (ho : Option Nat) (ents : Array MapEntry) : Nat → Option Value := fun j => match ents[j]? with
  | some e => bif ho == some j then none else some e.val
  | none => none
/-- Lists whose spare room belongs to nobody else. -/
def Pool (fz : Nat → Nat → Option Value) (ys : Nat → Prop) (sz : Nat) (w : World) (vs : Nat → Option Value) : Prop :=
  ∀ j v, vs j = some v → ∃ (base : Option Addr) (n cap : Nat), v = .slice base n cap ∧ n ≤ cap ∧ (cap = n ∨ ∃ (c o : Nat) (full : Array Value) (ty : TypeId), base = some ⟨c, o, none⟩ ∧ ys c ∧
    (∀ q, o + n * sz ≤ q → q < o + cap * sz → fz c q = none) ∧ w.heap[c]? = some (.cells full ty (0, 0)) ∧ o + cap * sz ≤ full.size ∧
    ∀ j' v', vs j' = some v' → j' ≠ j → ∀ (o2 n2 cap2 : Nat), v' = .slice (some ⟨c, o2, none⟩) n2 cap2 → cap2 = n2)
theorem Pool.mono {fz fz' : Nat → Nat → Option Value} {ys ys' : Nat → Prop} {sz : Nat} {w w' : World} {vs : Nat → Option Value} (h : Pool fz ys sz w vs) (h1 : ∀ c, ys c → ys' c) (h2 : ∀ c q, ys c → fz c q = none → fz' c q = none)
    (h3 : ∀ c, ys c → w'.heap[c]? = w.heap[c]?) : Pool fz' ys' sz w' vs := fun j v hv => by
  obtain ⟨base, n, cap, e1, e2, e3⟩ := h j v hv
  refine ⟨base, n, cap, e1, e2, e3.imp id fun ⟨c, o, full, ty, g1, g2, g3, g4, g5, g6⟩ => ⟨c, o, full, ty, g1, h1 c g2, fun q a b => h2 c q g2 (g3 q a b), (h3 c g2).trans g4, g5, g6⟩⟩

abbrev Heap := Nat → Option AB

universe u v
def upd {α : Type u} (f : Nat → α) (i : Nat) (x : α) : Nat → α := fun j => if j = i then x else f j
@[simp] theorem upd_same {α : Type u} (f : Nat → α) (i : Nat) (x : α) : upd f i x i = x := by simp [upd]
theorem upd_other {α : Type u} (f : Nat → α) {i j : Nat} (x : α) (h : j ≠ i) : upd f i x j = f j := by simp [upd, h]
theorem upd_comm {α : Type u} (f : Nat → α) {i j : Nat} (x y : α) (h : i ≠ j) : upd (upd f i x) j y = upd (upd f j y) i x := by
  funext k; unfold upd; by_cases h1 : k = i <;> by_cases h2 : k = j <;> simp_all

/-- A place more. -/
def Beta.put (β : Beta) (id : Nat) (l : Loc) : Beta := ⟨upd β.loc id (some l), β.fz, β.ys⟩
theorem put_same (β : Beta) (id : Nat) (l : Loc) : (β.put id l) id = some l := by show upd β.loc id (some l) id = _; simp
theorem put_other (β : Beta) {id j : Nat} (l : Loc) (h : j ≠ id) : (β.put id l) j = β j := by show upd β.loc id (some l) j = _; exact upd_other _ _ h

/-- The entries of a map: the same births, keys and elements, in the same sequence. -/
structure MRel (β : Beta) (es : List (Nat × AV × AV)) (ents : Array MapEntry) : Prop where
  len : ents.size = es.length
  rel : ∀ (j : Nat) (p : Nat × AV × AV), es[j]? = some p → ∃ e : MapEntry, ents[j]? = some e ∧ e.born = p.1 ∧ V β p.2.1 e.key ∧ V β p.2.2 e.val

structure HRel (β : Beta) (H : Heap) (w : World) (B : Bd) : Prop where
  fz : ∀ c o v, β.fz c o = some v → w.cell? ⟨c, o, none⟩ = some v
  own : ∀ i cs, H i = some (.cells cs) → ∃ l, β i = some l ∧ cs.length ≤ l.k ∧ (0 < l.k → B l.c ∧ (∀ o, l.o ≤ o → o < l.o + l.k → β.fz l.c o = none) ∧
    ∃ (full : Array Value) (e : TypeId), w.heap[l.c]? = some (.cells full e (0, 0)) ∧ l.o + l.k ≤ full.size ∧ ∀ (j : Nat) (a : AV), cs[j]? = some a → ∃ v : Value, (full[l.o + j]? : Option Value) = some v ∧ V β a v)
  map : ∀ i es clk, H i = some (.map es clk) → ∃ l, β i = some l ∧ 0 < l.k ∧ B l.c ∧ ∃ (ents : Array MapEntry), w.heap[l.c]? = some (.map ents clk) ∧ MRel β es ents
  sep : ∀ i j bi bj li lj, i ≠ j → H i = some bi → H j = some bj → β i = some li → β j = some lj → 0 < li.k → 0 < lj.k → li.c ≠ lj.c
  ys : ∀ c, β.ys c → B c ∧ c < w.heap.size
  yo : ∀ i b l, H i = some b → β i = some l → 0 < l.k → ¬ β.ys l.c
  gh : ∀ i S (G : Gh S) s, H i = some (.gh S G s) → ∃ l, β i = some l ∧ l.k = 0 ∧ G.J s β.ys l.c w ∧ (∀ c o v, β.ys c → β.fz c o = some v → G.fz c o = some v) ∧ ∀ c o v, G.fz c o = some v → β.fz c o = some v
  gh1 : ∀ i j S (G : Gh S) s S' (G' : Gh S') s', H i = some (.gh S G s) → H j = some (.gh S' G' s') → i = j
  mps : ∀ i sz es clk ho, H i = some (.maps sz es clk ho) → ∃ l, β i = some l ∧ 0 < l.k ∧ B l.c ∧ ∃ (ents : Array MapEntry), w.heap[l.c]? = some (.map ents clk) ∧ MRel β es ents ∧ Pool β.fz β.ys sz w (outE ho ents)
  mp1 : ∀ i j sz es clk ho b, H i = some (.maps sz es clk ho) → H j = some b → noGh b = false → i = j

theorem Vs_same_len {β : Beta} {as : List AV} {vs : List Value} (h : Vs β as vs) {j : Nat} {a : AV} {v : Value} (ha : as[j]? = some a) (hv : vs[j]? = some v) : V β a v := by
  obtain ⟨u, hu, k⟩ := Vs_get h j a ha
  rw [hv] at hu; cases hu; exact k

theorem MRel.mono {β β' : Beta} (h : Beta.le β β') {es : List (Nat × AV × AV)} {ents : Array MapEntry} (m : MRel β es ents) : MRel β' es ents :=
  ⟨m.len, fun j p hp => let ⟨e, h1, h2, h3, h4⟩ := m.rel j p hp; ⟨e, h1, h2, V_mono h _ _ h3, V_mono h _ _ h4⟩⟩

theorem HRel.locOf {β : Beta} {H : Heap} {w : World} {B : Bd} (h : HRel β H w B) {i : Nat} {b : AB} (hi : H i = some b) : ∃ l, β i = some l := by
  cases b with
  | cells cs => obtain ⟨l, h1, _⟩ := h.own i cs hi; exact ⟨l, h1⟩
  | map es clk => obtain ⟨l, h1, _⟩ := h.map i es clk hi; exact ⟨l, h1⟩
  | gh S G s => obtain ⟨l, h1, _⟩ := h.gh i S G s hi; exact ⟨l, h1⟩
  | maps sz es clk ho => obtain ⟨l, h1, _⟩ := h.mps i sz es clk ho hi; exact ⟨l, h1⟩

/-- A block that has cells lies in the heap, from B on. -/
theorem HRel.lt_of_own {β : Beta} {H : Heap} {w : World} {B : Bd} (h : HRel β H w B) {i : Nat} {b : AB} {l : Loc} (hi : H i = some b) (hl : β i = some l) (hk : 0 < l.k) :
    l.c < w.heap.size ∧ B l.c := by
  cases b with
  | cells cs =>
    obtain ⟨l', h1, _, h3⟩ := h.own i cs hi
    rw [hl] at h1; cases h1
    obtain ⟨hB, _, full, e, hh, _⟩ := h3 hk
    exact ⟨(Array.getElem?_eq_some_iff.1 hh).1, hB⟩
  | map es clk =>
    obtain ⟨l', h1, _, hB, ents, hh, _⟩ := h.map i es clk hi
    rw [hl] at h1; cases h1
    exact ⟨(Array.getElem?_eq_some_iff.1 hh).1, hB⟩
  | gh S G s =>
    obtain ⟨l', h1, h2, _⟩ := h.gh i S G s hi
    rw [hl] at h1; cases h1; omega
  | maps sz es clk ho =>
    obtain ⟨l', h1, _, hB, ents, hh, _⟩ := h.mps i sz es clk ho hi
    rw [hl] at h1; cases h1
    exact ⟨(Array.getElem?_eq_some_iff.1 hh).1, hB⟩

theorem HRel.mono {β β' : Beta} {H : Heap} {w : World} {B : Bd} (h : HRel β H w B) (k : Beta.le β β') (e : β'.fz = β.fz) (ey : β'.ys = β.ys) : HRel β' H w B where
  fz c o v hv := h.fz c o v (e ▸ hv)
  own i cs hi := by
    obtain ⟨l, h1, h2, h3⟩ := h.own i cs hi
    exact ⟨l, k.loc _ _ h1, h2, fun hk => let ⟨hB, hu, full, e', p, q, r⟩ := h3 hk; ⟨hB, by rw [e]; exact hu, full, e', p, q, fun j a ha => let ⟨v, x, y⟩ := r j a ha; ⟨v, x, V_mono k _ _ y⟩⟩⟩
  map i es clk hi := by
    obtain ⟨l, h1, h2, h3, ents, h4, h5⟩ := h.map i es clk hi
    exact ⟨l, k.loc _ _ h1, h2, h3, ents, h4, h5.mono k⟩
  sep i j bi bj li lj hne hi hj ei ej pi pj := by
    obtain ⟨l1, e1⟩ := h.locOf hi
    obtain ⟨l2, e2⟩ := h.locOf hj
    have := same_loc k e1 ei; subst this
    have := same_loc k e2 ej; subst this
    exact h.sep i j bi bj _ _ hne hi hj e1 e2 pi pj
  ys c hc := h.ys c (ey ▸ hc)
  yo i b l hi ei pi hc := by
    obtain ⟨l1, e1⟩ := h.locOf hi
    have := same_loc k e1 ei; subst this
    exact h.yo i b _ hi e1 pi (ey ▸ hc)
  gh i S G s hi := by
    obtain ⟨l, h1, h2, h3, h4, h5⟩ := h.gh i S G s hi
    exact ⟨l, k.loc _ _ h1, h2, by rw [ey]; exact h3, fun c o v hc hv => h4 c o v (ey ▸ hc) (e ▸ hv), fun c o v hv => by rw [e]; exact h5 c o v hv⟩
  gh1 := h.gh1
  mps i sz es clk ho hi := by
    obtain ⟨l, h1, h2, h3, ents, h4, h5, h6⟩ := h.mps i sz es clk ho hi
    exact ⟨l, k.loc _ _ h1, h2, h3, ents, h4, h5.mono k, by rw [e, ey]; exact h6⟩
  mp1 := h.mp1

theorem HRel.sub {β : Beta} {H H' : Heap} {w : World} {B : Bd} (h : HRel β H w B) (k : ∀ i b, H' i = some b → H i = some b) : HRel β H' w B where
  fz := h.fz
  own i cs hi := h.own i cs (k _ _ hi)
  map i es clk hi := h.map i es clk (k _ _ hi)
  sep i j bi bj li lj hne hi hj := h.sep i j bi bj li lj hne (k _ _ hi) (k _ _ hj)
  ys := h.ys
  yo i b l hi := h.yo i b l (k _ _ hi)
  gh i S G s hi := h.gh i S G s (k _ _ hi)
  gh1 i j S G s S' G' s' hi hj := h.gh1 i j S G s S' G' s' (k _ _ hi) (k _ _ hj)
  mps i sz es clk ho hi := h.mps i sz es clk ho (k _ _ hi)
  mp1 i j sz es clk ho b hi hj := h.mp1 i j sz es clk ho b (k _ _ hi) (k _ _ hj)

theorem HRel.drop {β : Beta} {H : Heap} {w : World} {B : Bd} (h : HRel β H w B) (i : Nat) : HRel β (upd H i none) w B :=
  h.sub fun j b hj => by
    by_cases e : j = i
    · subst e; simp at hj
    · rw [upd_other _ _ e] at hj; exact hj

/-- The world may turn wherever nothing frozen and nothing owned lies. -/
theorem HRel.world {β : Beta} {H : Heap} {w w' : World} {B : Bd} (h : HRel β H w B) (hfz : ∀ c o v, β.fz c o = some v → w'.cell? ⟨c, o, none⟩ = some v)
    (hown : ∀ i b l, H i = some b → β i = some l → 0 < l.k → w'.heap[l.c]? = w.heap[l.c]?) (hys : BelowP (fun c => ¬ β.ys c) w w') : HRel β H w' B where
  fz := hfz
  own i cs hi := by
    obtain ⟨l, h1, h2, h3⟩ := h.own i cs hi
    refine ⟨l, h1, h2, fun hk => ?_⟩
    obtain ⟨hB, hu, full, e, p, q⟩ := h3 hk
    exact ⟨hB, hu, full, e, (hown i _ l hi h1 hk).trans p, q⟩
  map i es clk hi := by
    obtain ⟨l, h1, h2, h3, ents, h4, h5⟩ := h.map i es clk hi
    exact ⟨l, h1, h2, h3, ents, (hown i _ l hi h1 h2).trans h4, h5⟩
  sep := h.sep
  ys c hc := ⟨(h.ys c hc).1, Nat.lt_of_lt_of_le (h.ys c hc).2 hys.size⟩
  yo := h.yo
  gh i S G s hi := by
    obtain ⟨l, h1, h2, h3, h4, h5⟩ := h.gh i S G s hi
    exact ⟨l, h1, h2, G.stable _ _ _ _ _ h3 hys fun c o v hv => hfz c o v (h5 c o v hv), h4, h5⟩
  gh1 := h.gh1
  mps i sz es clk ho hi := by
    obtain ⟨l, h1, h2, h3, ents, h4, h5, h6⟩ := h.mps i sz es clk ho hi
    exact ⟨l, h1, h2, h3, ents, (hown i _ l hi h1 h2).trans h4, h5, h6.mono (fun _ h => h) (fun _ _ _ h => h) fun c hc => hys.block c fun h => h hc⟩
  mp1 := h.mp1

theorem cell_lt {w : World} {c o : Nat} {v : Value} (h : w.cell? ⟨c, o, none⟩ = some v) : c < w.heap.size := by
  unfold World.cell? at h
  cases hh : w.heap[c]? with
  | none => simp [hh] at h
  | some b => exact (Array.getElem?_eq_some_iff.1 hh).1

theorem HRel.fz_none {β : Beta} {H : Heap} {w : World} {B : Bd} (h : HRel β H w B) {c : Nat} (hc : w.heap.size ≤ c) (o : Nat) : β.fz c o = none := by
  cases hh : β.fz c o with
  | none => rfl
  | some v => have := cell_lt (h.fz _ _ _ hh); omega

theorem BelowP.weaken {B B' : Bd} {w w' : World} (h : BelowP B w w') (k : ∀ c, B c → B' c) : BelowP B' w w' := ⟨h.os, h.tape, h.output, h.size, h.drawn, fun c hc => h.block c fun hb => hc (k c hb)⟩

/-- All blocks that were there lie as they lay. -/
theorem HRel.keep {β : Beta} {H : Heap} {w w' : World} {B : Bd} (h : HRel β H w B) (k : BelowP (fun c => w.heap.size ≤ c) w w') : HRel β H w' B :=
  h.world (fun c o v hv => by
    have := h.fz c o v hv
    exact (World.cell?_of_block (w := w) (a := ⟨c, o, none⟩) (k.block _ (Nat.not_le.2 (cell_lt this)))).trans this) (fun i b l hi hl hk => k.block _ (Nat.not_le.2 (h.lt_of_own hi hl hk).1))
    ⟨k.os, k.tape, k.output, k.size, k.drawn, fun c hc => k.block c (Nat.not_le.2 (h.ys c (Classical.not_not.1 hc)).2)⟩

/-- One owned block more. -/
theorem HRel.add {β : Beta} {H : Heap} {w : World} {B : Bd} (h : HRel β H w B) {id : Nat} {l : Loc} {cs : List AV} (hl : β id = some l) (hlen : cs.length ≤ l.k)
    (hb : 0 < l.k → B l.c ∧ (∀ o, l.o ≤ o → o < l.o + l.k → β.fz l.c o = none) ∧ ∃ (full : Array Value) (e : TypeId), w.heap[l.c]? = some (.cells full e (0, 0)) ∧ l.o + l.k ≤ full.size ∧
      ∀ (j : Nat) (a : AV), cs[j]? = some a → ∃ v : Value, (full[l.o + j]? : Option Value) = some v ∧ V β a v)
    (hs : 0 < l.k → ∀ j b lj, j ≠ id → H j = some b → β j = some lj → 0 < lj.k → lj.c ≠ l.c) (hy : 0 < l.k → ¬ β.ys l.c) : HRel β (upd H id (some (.cells cs))) w B where
  fz := h.fz
  own i xs hi := by
    by_cases e : i = id
    · subst e; simp [upd] at hi; subst hi; exact ⟨l, hl, hlen, hb⟩
    · rw [upd_other _ _ e] at hi; exact h.own i xs hi
  map i es clk hi := by
    by_cases e : i = id
    · subst e; simp [upd] at hi
    · rw [upd_other _ _ e] at hi; exact h.map i es clk hi
  sep i j bi bj li lj hne hi hj ei ej pi pj := by
    by_cases e : i = id
    · subst e
      rw [hl] at ei; cases ei
      have e' : j ≠ i := fun e => hne e.symm
      rw [upd_other _ _ e'] at hj
      exact fun hc => hs pi j bj lj e' hj ej pj hc.symm
    · rw [upd_other _ _ e] at hi
      by_cases e' : j = id
      · subst e'
        rw [hl] at ej; cases ej
        exact hs pj i bi li e hi ei pi
      · rw [upd_other _ _ e'] at hj
        exact h.sep i j bi bj li lj hne hi hj ei ej pi pj
  ys := h.ys
  yo i b li hi ei pi := by
    by_cases e : i = id
    · subst e; rw [hl] at ei; cases ei; exact hy pi
    · rw [upd_other _ _ e] at hi; exact h.yo i b li hi ei pi
  gh i S G s hi := by
    by_cases e : i = id
    · subst e; simp [upd] at hi
    · rw [upd_other _ _ e] at hi; exact h.gh i S G s hi
  gh1 i j S G s S' G' s' hi hj := by
    by_cases e : i = id
    · subst e; simp [upd] at hi
    · by_cases e' : j = id
      · subst e'; simp [upd] at hj
      · rw [upd_other _ _ e] at hi; rw [upd_other _ _ e'] at hj; exact h.gh1 i j S G s S' G' s' hi hj
  mps i sz es clk ho hi := by
    by_cases e : i = id
    · subst e; simp [upd] at hi
    · rw [upd_other _ _ e] at hi; exact h.mps i sz es clk ho hi
  mp1 i j sz es clk ho b hi hj hb := by
    by_cases e : i = id
    · subst e; simp [upd] at hi
    · rw [upd_other _ _ e] at hi
      by_cases e' : j = id
      · subst e'; rw [upd_same] at hj; cases hj; cases hb
      · rw [upd_other _ _ e'] at hj; exact h.mp1 i j sz es clk ho b hi hj hb

/-- One map more. -/
theorem HRel.addMap {β : Beta} {H : Heap} {w : World} {B : Bd} (h : HRel β H w B) {id : Nat} {l : Loc} {es : List (Nat × AV × AV)} {clk : Nat} (hl : β id = some l) (hk : 0 < l.k) (hB : B l.c)
    {ents : Array MapEntry} (hw : w.heap[l.c]? = some (.map ents clk)) (hm : MRel β es ents)
    (hs : ∀ j b lj, j ≠ id → H j = some b → β j = some lj → 0 < lj.k → lj.c ≠ l.c) (hy : ¬ β.ys l.c) : HRel β (upd H id (some (.map es clk))) w B where
  fz := h.fz
  own i xs hi := by
    by_cases e : i = id
    · subst e; simp [upd] at hi
    · rw [upd_other _ _ e] at hi; exact h.own i xs hi
  map i xs ck hi := by
    by_cases e : i = id
    · subst e; simp [upd] at hi; obtain ⟨rfl, rfl⟩ := hi; exact ⟨l, hl, hk, hB, ents, hw, hm⟩
    · rw [upd_other _ _ e] at hi; exact h.map i xs ck hi
  sep i j bi bj li lj hne hi hj ei ej pi pj := by
    by_cases e : i = id
    · subst e
      rw [hl] at ei; cases ei
      have e' : j ≠ i := fun e => hne e.symm
      rw [upd_other _ _ e'] at hj
      exact fun hc => hs j bj lj e' hj ej pj hc.symm
    · rw [upd_other _ _ e] at hi
      by_cases e' : j = id
      · subst e'
        rw [hl] at ej; cases ej
        exact hs i bi li e hi ei pi
      · rw [upd_other _ _ e'] at hj
        exact h.sep i j bi bj li lj hne hi hj ei ej pi pj
  ys := h.ys
  yo i b li hi ei pi := by
    by_cases e : i = id
    · subst e; rw [hl] at ei; cases ei; exact hy
    · rw [upd_other _ _ e] at hi; exact h.yo i b li hi ei pi
  gh i S G s hi := by
    by_cases e : i = id
    · subst e; simp [upd] at hi
    · rw [upd_other _ _ e] at hi; exact h.gh i S G s hi
  gh1 i j S G s S' G' s' hi hj := by
    by_cases e : i = id
    · subst e; simp [upd] at hi
    · by_cases e' : j = id
      · subst e'; simp [upd] at hj
      · rw [upd_other _ _ e] at hi; rw [upd_other _ _ e'] at hj; exact h.gh1 i j S G s S' G' s' hi hj
  mps i sz es clk ho hi := by
    by_cases e : i = id
    · subst e; simp [upd] at hi
    · rw [upd_other _ _ e] at hi; exact h.mps i sz es clk ho hi
  mp1 i j sz es clk ho b hi hj hb := by
    by_cases e : i = id
    · subst e; simp [upd] at hi
    · rw [upd_other _ _ e] at hi
      by_cases e' : j = id
      · subst e'; rw [upd_same] at hj; cases hj; cases hb
      · rw [upd_other _ _ e'] at hj; exact h.mp1 i j sz es clk ho b hi hj hb

/-- What a cell of a known block holds. -/
theorem HRel.cell {β : Beta} {H : Heap} {w : World} {B : Bd} (h : HRel β H w B) {i : Nat} {cs : List AV} (hi : H i = some (.cells cs)) {l : Loc} (hl : β i = some l)
    {j : Nat} {a : AV} (ha : cs[j]? = some a) : ∃ v, w.cell? ⟨l.c, l.o + j, none⟩ = some v ∧ V β a v := by
  obtain ⟨l', h1, h2, h3⟩ := h.own i cs hi
  rw [hl] at h1; cases h1
  have hj : j < cs.length := (List.getElem?_eq_some_iff.1 ha).1
  obtain ⟨_, _, full, e, p, _, r⟩ := h3 (by omega)
  obtain ⟨v, x, y⟩ := r j a ha
  exact ⟨v, by simp [World.cell?, p, x], y⟩

/-- The first cells of an owned block frozen; what lies behind them stays ours under another name. -/
theorem HRel.freezeRaw {β : Beta} {H : Heap} {w : World} {B : Bd} (h : HRel β H w B) {i g : Nat} {cs : List AV} {l : Loc} (hi : H i = some (.cells cs)) (hl : β i = some l) (hg : β g = none) {m : Nat} (hm : m ≤ l.k) :
    ∃ β', Beta.le β β' ∧ (∀ j, β' j ≠ none → β j ≠ none ∨ j = g) ∧ β' g = some ⟨l.c, l.o + m, l.k - m⟩ ∧ HRel β' (upd (upd H i none) g (some (.cells []))) w B ∧
      (∀ j, j < m → β'.fz l.c (l.o + j) = w.cell? ⟨l.c, l.o + j, none⟩) ∧ (∀ c o, β'.fz c o ≠ none → β.fz c o ≠ none ∨ B c) := by
  obtain ⟨l', hl', hlen, hblk⟩ := h.own i cs hi
  rw [hl] at hl'; cases hl'
  let φ : Nat → Nat → Option Value := fun c o => if c = l.c ∧ l.o ≤ o ∧ o < l.o + m then w.cell? ⟨c, o, none⟩ else β.fz c o
  let β' : Beta := ⟨upd β.loc g (some ⟨l.c, l.o + m, l.k - m⟩), φ, β.ys⟩
  have hφin : ∀ o, l.o ≤ o → o < l.o + m → φ l.c o = w.cell? ⟨l.c, o, none⟩ := fun o h1 h2 => if_pos ⟨rfl, h1, h2⟩
  have hφout : ∀ c o, ¬ (c = l.c ∧ l.o ≤ o ∧ o < l.o + m) → φ c o = β.fz c o := fun c o h1 => if_neg h1
  have hle : Beta.le β β' := ⟨fun j x hx => by
      have : j ≠ g := fun e => by rw [e, hg] at hx; cases hx
      show upd β.loc g _ j = _
      rw [upd_other _ _ this]; exact hx, fun c o v hv => by
      show φ c o = some v
      by_cases hc : c = l.c ∧ l.o ≤ o ∧ o < l.o + m
      · obtain ⟨rfl, h1, h2⟩ := hc
        have := (hblk (by omega)).2.1 o h1 (by omega)
        rw [hv] at this; cases this
      · rw [hφout _ _ hc]; exact hv⟩
  have hne : i ≠ g := fun e => by rw [e, hg] at hl; cases hl
  refine ⟨β', hle, fun j hj => ?_, by show upd β.loc g _ g = _; simp, ?_, fun j hj => hφin _ (by omega) (by omega), fun c o hc => ?_⟩
  · by_cases e : j = g
    · exact .inr e
    · left; change upd β.loc g _ j ≠ none at hj; rw [upd_other _ _ e] at hj; exact hj
  · have hfz' : ∀ c o v, β'.fz c o = some v → w.cell? ⟨c, o, none⟩ = some v := fun c o v hv => by
      change φ c o = some v at hv
      by_cases hc : c = l.c ∧ l.o ≤ o ∧ o < l.o + m
      · obtain ⟨rfl, h1, h2⟩ := hc
        rw [hφin _ h1 h2] at hv; exact hv
      · rw [hφout _ _ hc] at hv; exact h.fz _ _ _ hv
    have h0 := h.drop i
    have h1 : HRel β' (upd H i none) w B := by
      constructor
      · exact hfz'
      · intro j xs hj
        have hji : j ≠ i := fun e => by subst e; simp at hj
        have hj' := hj
        rw [upd_other _ _ hji] at hj'
        obtain ⟨lj, e1, e2, e3⟩ := h0.own j xs hj
        refine ⟨lj, hle.loc _ _ e1, e2, fun hk => ?_⟩
        obtain ⟨a1, a2, full, e, a3, a4, a5⟩ := e3 hk
        refine ⟨a1, fun o ho1 ho2 => ?_, full, e, a3, a4, fun k a ha => let ⟨v, x, y⟩ := a5 k a ha; ⟨v, x, V_mono hle _ _ y⟩⟩
        show φ lj.c o = none
        by_cases hc : lj.c = l.c ∧ l.o ≤ o ∧ o < l.o + m
        · exact absurd hc.1 (h.sep j i _ _ lj l hji hj' hi e1 hl hk (by omega))
        · rw [hφout _ _ hc]; exact a2 o ho1 ho2
      · intro j es clk hj
        obtain ⟨lj, e1, e2, e3, ents, e4, e5⟩ := h0.map j es clk hj
        exact ⟨lj, hle.loc _ _ e1, e2, e3, ents, e4, e5.mono hle⟩
      · intro a b ba bb la lb hne' ha hb ea eb pa pb
        obtain ⟨l1, f1⟩ := h0.locOf ha
        obtain ⟨l2, f2⟩ := h0.locOf hb
        have := same_loc hle f1 ea; subst this
        have := same_loc hle f2 eb; subst this
        exact h0.sep a b ba bb _ _ hne' ha hb f1 f2 pa pb
      · exact h.ys
      · intro j b lj hj ej pj
        obtain ⟨l1, f1⟩ := h0.locOf hj
        have := same_loc hle f1 ej; subst this
        exact h0.yo j b _ hj f1 pj
      · intro j S G s hj
        obtain ⟨lj, f1, f2, f3, f4, f5⟩ := h0.gh j S G s hj
        refine ⟨lj, hle.loc _ _ f1, f2, f3, fun c o v hc hv => ?_, fun c o v hv => hle.fz c o v (f5 c o v hv)⟩
        change φ c o = some v at hv
        by_cases hh : c = l.c ∧ l.o ≤ o ∧ o < l.o + m
        · obtain ⟨rfl, g1, g2⟩ := hh
          exact absurd hc (h.yo i _ l hi hl (by omega))
        · rw [hφout _ _ hh] at hv; exact f4 c o v hc hv
      · exact h0.gh1
      · intro j sz es clk ho hj
        obtain ⟨lj, e1, e2, e3, ents, e4, e5, e6⟩ := h0.mps j sz es clk ho hj
        refine ⟨lj, hle.loc _ _ e1, e2, e3, ents, e4, e5.mono hle, e6.mono (fun _ h => h) (fun c q hc hq => ?_) fun _ _ => rfl⟩
        show φ c q = none
        by_cases hh : c = l.c ∧ l.o ≤ q ∧ q < l.o + m
        · obtain ⟨rfl, g1, g2⟩ := hh
          exact absurd hc (h.yo i _ l hi hl (by omega))
        · rw [hφout _ _ hh]; exact hq
      · exact h0.mp1
    refine h1.add (l := ⟨l.c, l.o + m, l.k - m⟩) (by show upd β.loc g _ g = _; simp) (by simp) (fun hk => ?_) (fun hk j b lj hj hb hlj hkj => ?_) (fun hk => by simp only at hk ⊢; exact h.yo i _ l hi hl (by omega))
    · simp only at hk
      obtain ⟨a1, a2, full, e, a3, a4, _⟩ := hblk (by omega)
      refine ⟨a1, fun o ho1 ho2 => ?_, full, e, a3, by simp only; omega, fun k a ha => by simp at ha⟩
      show φ l.c o = none
      simp only at ho1 ho2
      rw [hφout _ _ (by omega)]; exact a2 o (by omega) (by omega)
    · simp only at hk ⊢
      have hji : j ≠ i := fun e => by subst e; simp at hb
      rw [upd_other _ _ hji] at hb
      obtain ⟨l1, f1⟩ := h.locOf hb
      have := same_loc hle f1 hlj; subst this
      exact h.sep j i b _ _ l hji hb hi f1 hl hkj (by omega)
  · by_cases hh : c = l.c ∧ l.o ≤ o ∧ o < l.o + m
    · exact .inr (hh.1 ▸ (hblk (by omega)).1)
    · left; change φ c o ≠ none at hc; rwa [hφout _ _ hh] at hc
end Go.Eng
