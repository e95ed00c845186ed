import Derived.Test.YtcidmnpihffphaaEngN
namespace Go.Eng
open Go.RowKit (Below)

/-- What is known of a type. -/
inductive TK where
  | int (k : IntKind)
  | struct (fs : List (Nat × Nat))
  | array (n : Nat) (e : TypeId)
  | slice (e : TypeId)
  | map (q : IntKind) (e : TypeId) (z : AV)
  | str
  | bool
  | other
structure TD where
  k : TK
  size : Nat
  zero : List AV
  bytes : Nat
abbrev DT := TypeId → Option TD
def TK.agg : TK → Bool
  | .struct _ | .array _ _ => true
  | _ => false
def TKok (P : Program) (t : TypeId) : TK → Prop
  | .int k => P.underlying t = some (.int k)
  | .struct fs => ∃ F, P.underlying t = some (.struct F) ∧ F.toList.map (fun f => (f.type, f.offset)) = fs
  | .array n e => P.underlying t = some (.array n e)
  | .slice e => P.underlying t = some (.slice e)
  | .map q e z => mapT P t = some (q, e) ∧ zeroV P e = some z
  | .str => P.underlying t = some .string
  | .bool => P.underlying t = some .bool
  | .other => aggT P t = some false
structure TDok (P : Program) (t : TypeId) (d : TD) : Prop where
  size : szT P t = some d.size
  zero : zeroT P t = some d.zero
  bytes : (P.info? t).map (·.bytes) = some d.bytes
  k : TKok P t d.k
def DOk (P : Program) (D : DT) : Prop := ∀ t d, D t = some d → TDok P t d
/-- A table as a list. -/
def ofTD (l : List (Nat × TD)) : DT := fun t => match l with
  | [] => none
  | (u, d) :: l => if t = u then some d else ofTD l t
theorem DOk_nil (P : Program) : DOk P (ofTD []) := fun t d h => by simp [ofTD] at h
theorem DOk_cons {P : Program} {u : Nat} {d : TD} {l : List (Nat × TD)} (h : TDok P u d) (k : DOk P (ofTD l)) : DOk P (ofTD ((u, d) :: l)) := by
  intro t d' e
  simp only [ofTD] at e
  split at e
  · rename_i e'; cases e; subst e'; exact h
  · exact k t d' e

theorem TDok.agg {P : Program} {t : TypeId} {d : TD} (h : TDok P t d) : aggT P t = some d.k.agg := by
  have hk := h.k
  unfold aggT
  cases hd : d.k with
  | struct fs => rw [hd] at hk; obtain ⟨F, e, _⟩ := hk; rw [e]; rfl
  | other => rw [hd] at hk; exact hk
  | map q e z => rw [hd] at hk; obtain ⟨kt, e1, _⟩ := mapT_ok hk.1; rw [e1]; rfl
  | _ => rw [hd] at hk; simp only [TKok] at hk; rw [hk]; rfl

/-! Values brought to a constructor. -/
def forceA1 (a : AV) (k : AV → Prop) : Prop :=
  match a with
  | .top => k .top
  | .und => k .und
  | .int t n => k (.int t n)
  | .bool b => k (.bool b)
  | .str s => k (.str s)
  | .nilp => k .nilp
  | .ptr i o => k (.ptr i o)
  | .ep cs o => k (.ep cs o)
  | .nils => k .nils
  | .sl i o n m z => k (.sl i o n m z)
  | .so i o n z => k (.so i o n z)
  | .lst m z n f => k (.lst m z n f)
  | .nilm => k .nilm
  | .mp i => k (.mp i)
  | .nilf => k .nilf
  | .fn f a b => k (.fn f a b)
  | .agg cs => k (.agg cs)
  | .tup cs => k (.tup cs)
  | .yld i => k (.yld i)
theorem forceA1_eq (a : AV) (k : AV → Prop) : forceA1 a k = k a := by cases a <;> rfl
def forceL : List AV → (List AV → Prop) → Prop
  | [], k => k []
  | a :: l, k => forceA1 a fun a => forceL l fun l => k (a :: l)
theorem forceL_eq : ∀ (l : List AV) (k : List AV → Prop), forceL l k = k l
  | [], _ => rfl
  | a :: l, k => by simp only [forceL, forceA1_eq]; rw [forceL_eq l]
def forceA2 (a : AV) (k : AV → Prop) : Prop :=
  match a with
  | .agg cs => forceL cs fun cs => k (.agg cs)
  | a => forceA1 a k
theorem forceA2_eq (a : AV) (k : AV → Prop) : forceA2 a k = k a := by cases a <;> first | rfl | simp only [forceA2, forceL_eq]
def forceT : List AV → (List AV → Prop) → Prop
  | [], k => k []
  | a :: l, k => forceA2 a fun a => forceT l fun l => k (a :: l)
theorem forceT_eq : ∀ (l : List AV) (k : List AV → Prop), forceT l k = k l
  | [], _ => rfl
  | a :: l, k => by simp only [forceT, forceA2_eq]; rw [forceT_eq l]
def forceA (a : AV) (k : AV → Prop) : Prop :=
  match a with
  | .agg cs => forceL cs fun cs => k (.agg cs)
  | .tup cs => forceT cs fun cs => k (.tup cs)
  | a => forceA1 a k
theorem forceA_eq (a : AV) (k : AV → Prop) : forceA a k = k a := by cases a <;> first | rfl | simp only [forceA, forceL_eq, forceT_eq]
def forceN (n : Nat) (k : Nat → Prop) : Prop := match n with
  | 0 => k 0
  | m + 1 => k (m + 1)
theorem forceN_eq (n : Nat) (k : Nat → Prop) : forceN n k = k n := by cases n <;> rfl
def partsT : List (Nat × AV) → (List (Nat × AV) → Prop) → Prop
  | [], k => k []
  | (i, a) :: l, k => forceA2 a fun a => partsT l fun l => k ((i, a) :: l)
theorem partsT_eq : ∀ (l : List (Nat × AV)) (k : List (Nat × AV) → Prop), partsT l k = k l
  | [], _ => rfl
  | (i, a) :: l, k => by simp only [partsT, forceA2_eq]; rw [partsT_eq l]
theorem forceL_skip {l : List AV} {k : List AV → Prop} (h : k l) : forceL l k := by rw [forceL_eq]; exact h
theorem forceT_skip {l : List AV} {k : List AV → Prop} (h : k l) : forceT l k := by rw [forceT_eq]; exact h
theorem forceL_of {l l' : List AV} {k : List AV → Prop} (e : l = l') (h : k l') : forceL l k := by rw [forceL_eq, e]; exact h
theorem forceA_skip {a : AV} {k : AV → Prop} (h : k a) : forceA a k := by rw [forceA_eq]; exact h
theorem forceA_of {a a' : AV} {k : AV → Prop} (e : a = a') (h : k a') : forceA a k := by rw [forceA_eq, e]; exact h
theorem condI {x : Bool} {A B : Prop} (h1 : x = true → A) (h2 : x = false → B) : cond x A B := by cases x <;> simp_all

/-! The operations, each with what it asks. -/
section
variable (D : DT)

def getK (cs : List AV) (o : Nat) (k : AV → Prop) : Prop := ∃ a, cs[o]? = some a ∧ forceA1 a k
def partK (t : TypeId) (cs : List AV) (o : Nat) (k : AV → Prop) : Prop :=
  match D t with
  | some d => match d.k.agg with
    | true => o + d.size ≤ cs.length ∧ forceL ((cs.drop o).take d.size) fun l => k (.agg l)
    | false => getK cs o k
  | none => False
def binK (op : BinOp) (x y : AV) (k : AV → Prop) : Prop :=
  match op with
  | .quo => match x, y with
    | .int k1 a, .int k2 b => if k1 = k2 then b ≠ 0 ∧ k (.int k1 (k1.wrap (a.tdiv b))) else False
    | _, _ => False
  | .rem => match x, y with
    | .int k1 a, .int k2 b => if k1 = k2 then b ≠ 0 ∧ k (.int k1 (a.tmod b)) else False
    | _, _ => False
  | .shl => match x, y with
    | .int k1 a, .int _ b => 0 ≤ b ∧ k (.int k1 (k1.wrap (a * 2 ^ (min b.toNat k1.bits))))
    | _, _ => False
  | .shr => match x, y with
    | .int k1 a, .int _ b => 0 ≤ b ∧ k (.int k1 (a.fdiv (2 ^ (min b.toNat k1.bits))))
    | _, _ => False
  | op => match binA op x y with
    | some r => k r
    | none => False
/-- Values that are no integers, compared. -/
def eqK (P : Program) (op : BinOp) (t : TypeId) (x y : AV) (k : AV → Prop) : Prop := ∃ r, EqR P op t x y r ∧ k r
def binKK (P : Program) (op : BinOp) (t : TypeId) (x y : AV) (k : AV → Prop) : Prop :=
  match op with
  | .eql => match x with
    | .int _ _ => binK .eql x y k
    | x => forceA x fun x => forceA y fun y => eqK P .eql t x y k
  | .neq => match x with
    | .int _ _ => binK .neq x y k
    | x => forceA x fun x => forceA y fun y => eqK P .neq t x y k
  | op => binK op x y k
def convK (s d : TypeId) (x : AV) (k : AV → Prop) : Prop :=
  match D s, D d with
  | some ⟨.int _, _, _, _⟩, some ⟨.int kd, _, _, _⟩ => match x with
    | .int _ n => k (.int kd (kd.wrap n))
    | _ => False
  | _, _ => False
def fieldK (t : TypeId) (x : AV) (f : Nat) (k : AV → Prop) : Prop :=
  match D t with
  | some ⟨.struct fs, _, _, _⟩ => match x with
    | .agg cs => match fs[f]? with
      | some (ft, off) => partK D ft cs off k
      | none => False
    | _ => False
  | _ => False
def fieldAddrK (t : TypeId) (x : AV) (f : Nat) (k : AV → Prop) : Prop :=
  match D t with
  | some ⟨.struct fs, _, _, _⟩ => match x with
    | .ptr i o => match fs[f]? with
      | some (ft, off) => match D ft with
        | some d => if d.size = 0 then False else k (.ptr i (o + off))
        | none => False
      | none => False
    | .ep cs o => match fs[f]? with
      | some (ft, off) => match D ft with
        | some d => if d.size = 0 then False else k (.ep cs (o + off))
        | none => False
      | none => False
    | _ => False
  | _ => False
def indexK (t : TypeId) (x i : AV) (k : AV → Prop) : Prop :=
  match D t with
  | some ⟨.array len e, _, _, _⟩ => match D e with
    | some d => match x, i with
      | .agg cs, .int _ n => (0 ≤ n ∧ n < len) ∧ partK D e cs (n.toNat * d.size) k
      | _, _ => False
    | none => False
  | _ => False
def indexAddrK (t : TypeId) (x i : AV) (k : AV → Prop) : Prop :=
  match D t with
  | some ⟨.array len e, _, _, _⟩ => match D e with
    | some d => match x, i with
      | .ptr id o, .int _ n => (0 ≤ n ∧ n < len) ∧ k (.ptr id (o + n.toNat * d.size))
      | .ep cs o, .int _ n => (0 ≤ n ∧ n < len) ∧ k (.ep cs (o + n.toNat * d.size))
      | _, _ => False
    | none => False
  | some ⟨.slice e, _, _, _⟩ => match D e with
    | some d => match x, i with
      | .sl id o len _ s, .int _ n => if d.size = s then (0 ≤ n ∧ n < len) ∧ k (.ptr id (o + n.toNat * d.size)) else False
      | .so id o len s, .int _ n => if d.size = s then (0 ≤ n ∧ n < len) ∧ k (.ptr id (o + n.toNat * d.size)) else False
      | .lst _ s len f, .int _ n => if d.size = s then (0 ≤ n ∧ n < len) ∧ (match (f n.toNat).cells with | some cs => forceL cs fun cs => k (.ep cs 0) | none => False) else False
      | _, _ => False
    | none => False
  | _ => False
def boundK (x : Option AV) (d : Nat) (k : Nat → Prop) : Prop :=
  match x with
  | none => k d
  | some (.int _ n) => 0 ≤ n ∧ k n.toNat
  | _ => False
/-- A part of a list that never turns. -/
def lslK (s len : Nat) (f : Nat → AV) (lo hi mx : Option AV) (k : AV → Prop) : Prop :=
  ∃ h l r, boundA hi len = some h ∧ boundA lo 0 = some l ∧ ((mx = none ∧ l ≤ h ∧ h ≤ len ∧ Wk (.lst .free s (h - l) fun j => f (l + j)) r) ∨ (∃ x, mx = some x ∧ boundA mx 0 = some h ∧ l ≤ h ∧ h ≤ len ∧ Wk (.lst .cap s (h - l) fun j => f (l + j)) r)) ∧ k r
def sliceK (t : TypeId) (x : AV) (lo hi mx : Option AV) (k : AV → Prop) : Prop :=
  match mx, hi with
  | some _, none => False
  | mx, hi =>
  match D t with
  | some ⟨.slice e, _, _, _⟩ => match D e with
    | some d => match x with
      | .sl id o len cap s => if d.size = s then boundK mx cap fun m => boundK hi len fun h => boundK lo 0 fun l =>
          (l ≤ h ∧ h ≤ m ∧ m ≤ cap) ∧ k (.sl id (o + l * d.size) (h - l) (m - l) s) else False
      | .so id o len s => if d.size = s then match mx with
        | none => boundK hi len fun h => boundK lo 0 fun l => (l ≤ h ∧ h ≤ len) ∧ k (.so id (o + l * d.size) (h - l) s)
        | some m => boundK (some m) 0 fun m => boundK hi len fun h => boundK lo 0 fun l => (l ≤ h ∧ h ≤ m ∧ m ≤ len) ∧ k (.sl id (o + l * d.size) (h - l) (m - l) s)
        else False
      | .lst _ s len f => if d.size = s then lslK s len f lo hi mx k else False
      | .nils => boundK mx 0 fun m => boundK hi 0 fun h => boundK lo 0 fun l => (l ≤ h ∧ h ≤ m ∧ m = 0) ∧ k .nils
      | _ => False
    | none => False
  | _ => False
def placesD (fs : List (Nat × Nat)) : Option (List (Nat × Nat)) := fs.mapM fun p => (D p.1).map fun d => (p.2, d.size)
def buildK (t : TypeId) (parts : List (Nat × AV)) (k : AV → Prop) : Prop :=
  match D t with
  | some ⟨.struct fs, _, z, _⟩ => match placesD D fs with
    | some pl => match fillA (fun i => pl[i]?) z parts with
      | some cs => forceL cs fun cs => k (.agg cs)
      | none => False
    | none => False
  | some ⟨.array _ e, _, z, _⟩ => match D e with
    | some d => match fillA (fun i => some (i * d.size, d.size)) z parts with
      | some cs => forceL cs fun cs => k (.agg cs)
      | none => False
    | none => False
  | _ => False
def bsK (P : Program) (t : TypeId) (n : Nat) (parts : List (Nat × AV)) (id : Nat) (k : AV → AB → Prop) : Prop := ∃ r blk, buildSliceR P t n parts id r blk ∧ k r blk
def mksK (P : Program) (t : TypeId) (l c : AV) (id : Nat) (k : AV → AB → Prop) : Prop := ∃ r0 r b, makeSliceA P t l c id = some (r0, b) ∧ Wk r0 r ∧ k r b
def lenK (t : TypeId) (x : AV) (k : AV → Prop) : Prop :=
  match D t with
  | some ⟨.slice _, _, _, _⟩ => match x with
    | .sl _ _ n _ _ => k (.int .i64 n)
    | .so _ _ n _ => k (.int .i64 n)
    | .lst _ _ n _ => k (.int .i64 n)
    | .nils => k (.int .i64 0)
    | _ => False
  | some ⟨.str, _, _, _⟩ => match x with
    | .str s => k (.int .i64 s.size)
    | _ => False
  | some ⟨.array n _, _, _, _⟩ => k (.int .i64 n)
  | _ => False
def blkK (hp : Heap) (i : Nat) (k : List AV → Prop) : Prop := ∃ cs, hp i = some (.cells cs) ∧ k cs
def loadK (lim : Nat) (t : TypeId) (p : AV) (hp : Heap) (k : AV → Prop) : Prop :=
  match p with
  | .ptr i o => i < lim ∧ blkK hp i fun cs => partK D t cs o k
  | .ep cs o => partK D t cs o k
  | _ => False
def storeK (t : TypeId) (p v : AV) (hp : Heap) (k : AV → Heap → Prop) : Prop :=
  match D t with
  | some d => match p with
    | .ptr i o => match v.cells with
      | some xs => blkK hp i fun cs => xs.length = d.size ∧ o + d.size ≤ cs.length ∧ xs.all AV.flat = true ∧ forceL (splice cs o xs) fun cs' => k .und (upd hp i (some (.cells cs')))
      | none => False
    | _ => False
  | none => False
def callsK (T : Tbl) (f : FuncId) (args : List AV) (hp : Heap) (id : Nat) (k : AV → Heap → Prop) : Prop := ∃ args' r H', WkL args args' ∧ T f args' hp id r H' ∧ k r H'
/-- A call that turns nothing. -/
def callpK (T : Tbl) (f : FuncId) (args : List AV) (hp : Heap) (id : Nat) (k : AV → Prop) : Prop := ∃ args' r H', WkL args args' ∧ T f args' hp id r H' ∧ k r
def appendK (P : Program) (t u : TypeId) (s x : AV) (id : Nat) (hp : Heap) (k : AV → Heap → Prop) : Prop :=
  ∃ r0 r H', ((cellsOk s ∧ cellsOk x ∧ appendA P t u s x id hp = some (r0, H')) ∨ appendT P t u s x id hp r0 H') ∧ Wk r0 r ∧ k r H'
def appendFK (P : Program) (t u : TypeId) (s x : AV) (id : Nat) (hp : Heap) (k : AV → Heap → Prop) : Prop := ∃ r blk, appendF P t u s x id r blk ∧ k r (upd hp id (some blk))
def mlookK (P : Program) (lim : Nat) (t : TypeId) (x n : AV) (ok : Bool) (hp : Heap) (k : AV → Prop) : Prop := ∃ r, mlookR P lim t x n ok hp r ∧ k r
def updK (P : Program) (t : TypeId) (m n v : AV) (hp : Heap) (k : AV → Heap → Prop) : Prop := ∃ r H', updR P t m n v hp r H' ∧ k r H'
def entK (P : Program) (t : TypeId) (m n : AV) (hp : Heap) (k : AV → Heap → Prop) : Prop := ∃ r H', entR P t m n hp r H' ∧ k r H'
def estK (m s v : AV) (hp : Heap) (k : AV → Heap → Prop) : Prop := ∃ r H', estR m s v hp r H' ∧ k r H'
def delK (P : Program) (t : TypeId) (m n : AV) (hp : Heap) (k : AV → Heap → Prop) : Prop := ∃ r H', delR P t m n hp r H' ∧ k r H'
def lenmK (P : Program) (lim : Nat) (t : TypeId) (x : AV) (hp : Heap) (k : AV → Prop) : Prop := ∃ r, lenR P lim t x hp r ∧ k r
def lenKK (P : Program) (lim : Nat) (t : TypeId) (x : AV) (hp : Heap) (k : AV → Prop) : Prop :=
  match D t with
  | some ⟨.map _ _ _, _, _, _⟩ => lenmK P lim t x hp k
  | _ => lenK D t x k
def yldK (P : Program) (j : Nat) (args : List AV) (hp : Heap) (k : AV → Heap → Prop) : Prop := ∃ r H', yldR P j args hp r H' ∧ k r H'
def minK (l : List AV) (k : AV → Prop) : Prop := match minA l with
  | some r => forceA r k
  | none => False
def maxK (l : List AV) (k : AV → Prop) : Prop := match maxA l with
  | some r => forceA r k
  | none => False
end

def opK (c : Ctx) (D : DT) (i : Nat) (o : Oper) (sl : Nat → AV) (hp : Heap) (k : AV → Heap → Prop) : Prop :=
  match o.op with
  | .move x | .assign x => forceA (evA sl x) fun v => k v hp
  | .pick q a b => match evA sl q with
    | .bool t => cond t (forceA (evA sl a) fun v => k v hp) (forceA (evA sl b) fun v => k v hp)
    | _ => False
  | .alloc t => match D t with
    | some d => k (.ptr (c.b + i * 64) 0) (upd hp (c.b + i * 64) (some (.cells d.zero)))
    | none => False
  | .box _ x => match (evA sl x).cells with
    | some z => forceL z fun z => k (.ptr (c.b + i * 64) 0) (upd hp (c.b + i * 64) (some (.cells z)))
    | none => False
  | .build t ps => buildK D t (ps.toList.map fun p => (p.1, evA sl p.2)) fun v => k v hp
  | .buildSlice t n ps => partsT (ps.toList.map fun p => (p.1, evA sl p.2)) fun ps => bsK c.P t n ps (c.b + i * 64) fun v b => k v (upd hp (c.b + i * 64) (some b))
  | .load t p => loadK D c.lim t (evA sl p) hp fun v => k v hp
  | .store t p v => storeK D t (evA sl p) (evA sl v) hp k
  | .nilCheck x => match evA sl x with
    | .ptr i o => k (.ptr i o) hp
    | .ep cs o => k (.ep cs o) hp
    | .fn f fs cs => k (.fn f fs cs) hp
    | _ => False
  | .binOp op t x y _ => binKK c.P op t (evA sl x) (evA sl y) fun v => k v hp
  | .unOp op _ x => match unA op (evA sl x) with
    | some v => k v hp
    | none => False
  | .convert s d x => convK D s d (evA sl x) fun v => k v hp
  | .makeFunc fn first caps => match fn with
    | .func f => forceT (first.toList.map (evA sl)) fun a => forceT (caps.toList.map (evA sl)) fun b => k (.fn f a b) hp
    | _ => False
  | .makeSlice t l m => forceA (evA sl l) fun l => forceA (evA sl m) fun m => mksK c.P t l m (c.b + i * 64) fun v b => k v (upd hp (c.b + i * 64) (some b))
  | .slice t x lo hi mx => sliceK D t (evA sl x) (lo.map (evA sl)) (hi.map (evA sl)) (mx.map (evA sl)) fun v => k v hp
  | .fieldAddr t x f => fieldAddrK D t (evA sl x) f fun v => k v hp
  | .field t x f => fieldK D t (evA sl x) f fun v => k v hp
  | .indexAddr t x j => indexAddrK D t (evA sl x) (evA sl j) fun v => k v hp
  | .index t x j => indexK D t (evA sl x) (evA sl j) fun v => k v hp
  | .extract x j => match evA sl x with
    | .tup vs => match vs[j]? with
      | some v => forceA v fun v => k v hp
      | none => False
    | _ => False
  | .makeMap _ none => k (.mp (c.b + i * 64)) (upd hp (c.b + i * 64) (some (.map [] 0)))
  | .lookup t x n ok => forceA (evA sl x) fun x => forceA (evA sl n) fun n => mlookK c.P c.lim t x n ok hp fun v => forceA v fun v => k v hp
  | .mapUpdate t m n v => forceA (evA sl m) fun m => forceA (evA sl n) fun n => forceA (evA sl v) fun v => updK c.P t m n v hp k
  | .mapEntry t m n => forceA (evA sl m) fun m => forceA (evA sl n) fun n => entK c.P t m n hp fun v hp' => forceA v fun v => k v hp'
  | .entryStore _ m s v => forceA (evA sl m) fun m => forceA (evA sl s) fun s => forceA (evA sl v) fun v => estK m s v hp k
  | .call { callee := .builtin .delete, args, argTypes } => match args.toList, argTypes.toList with
    | [m, n], [t, _] => forceA (evA sl m) fun m => forceA (evA sl n) fun n => delK c.P t m n hp fun v hp' => forceA v fun v => k v hp'
    | _, _ => False
  | .call { callee := .builtin .len, args, argTypes } => match args.toList, argTypes.toList with
    | [x], t :: _ => lenKK D c.P c.lim t (evA sl x) hp fun v => k v hp
    | _, _ => False
  | .call { callee := .builtin .min, args, .. } => minK (args.toList.map (evA sl)) fun v => k v hp
  | .call { callee := .builtin .max, args, .. } => maxK (args.toList.map (evA sl)) fun v => k v hp
  | .call { callee := .builtin .append, args, argTypes } =>
    match freshArg c.bt args with
    | true => match args.toList, argTypes.toList with
      | [s, x], [t, u] => forceA (evA sl s) fun s => forceA (evA sl x) fun x => appendFK c.P t u s x (c.b + i * 64) hp k
      | _, _ => False
    | false => match args.toList, argTypes.toList with
      | [s, x], [t, u] => forceA (evA sl s) fun s => forceA (evA sl x) fun x => appendK c.P t u s x (c.b + i * 64) hp k
      | _, _ => False
  | .call { callee := .value (.func f), args, .. } =>
    match c.pf f with
    | true => forceT (args.toList.map (evA sl)) fun as => callpK c.T f as hp (c.b + c.n * 64) fun v => forceA v fun v => k v hp
    | false => forceT (args.toList.map (evA sl)) fun as => callsK c.T f as hp (c.b + i * 64) fun v hp' => forceA v fun v => k v hp'
  | .call { callee := .value f, args, .. } => match evA sl f with
    | .fn g first caps => forceT (first ++ args.toList.map (evA sl) ++ caps) fun as => callsK c.T g as hp (c.b + i * 64) fun v hp' => forceA v fun v => k v hp'
    | .yld j => forceT (args.toList.map (evA sl)) fun as => yldK c.P j as hp fun v hp' => forceA v fun v => k v hp'
    | _ => False
  | _ => False
theorem getK_of {cs : List AV} {o : Nat} {k : AV → Prop} {a : AV} (h : cs[o]? = some a) (hk : forceA1 a k) : getK cs o k := ⟨a, h, hk⟩
theorem blkK_of {hp : Heap} {i : Nat} {k : List AV → Prop} {cs : List AV} (h : hp i = some (.cells cs)) (hk : k cs) : blkK hp i k := ⟨cs, h, hk⟩
theorem callsK_of {T : Tbl} {f : FuncId} {args args' : List AV} {hp : Heap} {id : Nat} {k : AV → Heap → Prop} {r : AV} {H' : Heap} (hw : WkL args args') (h : T f args' hp id r H') (hk : k r H') : callsK T f args hp id k := ⟨args', r, H', hw, h, hk⟩
theorem callpK_of {T : Tbl} {f : FuncId} {args args' : List AV} {hp : Heap} {id : Nat} {k : AV → Prop} {r : AV} {H' : Heap} (hw : WkL args args') (h : T f args' hp id r H') (hk : k r) : callpK T f args hp id k := ⟨args', r, H', hw, h, hk⟩
theorem eqK_inv {P : Program} {op : BinOp} {t : TypeId} {x y : AV} {k : AV → Prop} (h : eqK P op t x y k) : ∃ r, EqR P op t x y r ∧ k r := h
theorem eqK_e {P : Program} {t : TypeId} {x y : AV} {k : AV → Prop} {b : Bool} (h : EqV P t x y b) (hk : k (.bool b)) : eqK P .eql t x y k := ⟨_, ⟨b, h, .inl ⟨rfl, rfl⟩⟩, hk⟩
theorem eqK_n {P : Program} {t : TypeId} {x y : AV} {k : AV → Prop} {b : Bool} (h : EqV P t x y b) (hk : k (.bool !b)) : eqK P .neq t x y k := ⟨_, ⟨b, h, .inr ⟨rfl, rfl⟩⟩, hk⟩
theorem lslK_inv {s len : Nat} {f : Nat → AV} {lo hi mx : Option AV} {k : AV → Prop} (h : lslK s len f lo hi mx k) : ∃ h l r, boundA hi len = some h ∧ boundA lo 0 = some l ∧ ((mx = none ∧ l ≤ h ∧ h ≤ len ∧ Wk (.lst .free s (h - l) fun j => f (l + j)) r) ∨ (∃ x, mx = some x ∧ boundA mx 0 = some h ∧ l ≤ h ∧ h ≤ len ∧ Wk (.lst .cap s (h - l) fun j => f (l + j)) r)) ∧ k r := h
theorem lslK_of {s len : Nat} {f : Nat → AV} {lo hi mx : Option AV} {k : AV → Prop} (h : ∃ h l r, boundA hi len = some h ∧ boundA lo 0 = some l ∧ ((mx = none ∧ l ≤ h ∧ h ≤ len ∧ Wk (.lst .free s (h - l) fun j => f (l + j)) r) ∨ (∃ x, mx = some x ∧ boundA mx 0 = some h ∧ l ≤ h ∧ h ≤ len ∧ Wk (.lst .cap s (h - l) fun j => f (l + j)) r)) ∧ k r) : lslK s len f lo hi mx k := h
theorem getK_inv {cs : List AV} {o : Nat} {k : AV → Prop} (h : getK cs o k) : ∃ a, cs[o]? = some a ∧ forceA1 a k := h
theorem blkK_inv {hp : Heap} {i : Nat} {k : List AV → Prop} (h : blkK hp i k) : ∃ cs, hp i = some (.cells cs) ∧ k cs := h
theorem callsK_inv {T : Tbl} {f : FuncId} {args : List AV} {hp : Heap} {id : Nat} {k : AV → Heap → Prop} (h : callsK T f args hp id k) : ∃ args' r H', WkL args args' ∧ T f args' hp id r H' ∧ k r H' := h
theorem callpK_inv {T : Tbl} {f : FuncId} {args : List AV} {hp : Heap} {id : Nat} {k : AV → Prop} (h : callpK T f args hp id k) : ∃ args' r H', WkL args args' ∧ T f args' hp id r H' ∧ k r := h
theorem appendK_inv {P : Program} {t u : TypeId} {s x : AV} {id : Nat} {hp : Heap} {k : AV → Heap → Prop} (h : appendK P t u s x id hp k) : ∃ r0 r H', ((cellsOk s ∧ cellsOk x ∧ appendA P t u s x id hp = some (r0, H')) ∨ appendT P t u s x id hp r0 H') ∧ Wk r0 r ∧ k r H' := h
theorem appendK_own {P : Program} {t u : TypeId} {s x : AV} {id : Nat} {hp : Heap} {k : AV → Heap → Prop} {r : AV} {H' : Heap} (h1 : cellsOk s) (h2 : cellsOk x) (h : appendA P t u s x id hp = some (r, H')) (hk : k r H') : appendK P t u s x id hp k := ⟨r, r, H', .inl ⟨h1, h2, h⟩, Wk.refl _, hk⟩
theorem appendK_tok {P : Program} {t u : TypeId} {s x : AV} {id : Nat} {hp : Heap} {k : AV → Heap → Prop} {r : AV} {H' : Heap} (h : appendT P t u s x id hp r H') (hk : k r H') : appendK P t u s x id hp k := ⟨r, r, H', .inr h, Wk.refl _, hk⟩
theorem appendK_tokW {P : Program} {t u : TypeId} {s x : AV} {id : Nat} {hp : Heap} {k : AV → Heap → Prop} {r0 r : AV} {H' : Heap} (h : appendT P t u s x id hp r0 H') (hw : Wk r0 r) (hk : k r H') : appendK P t u s x id hp k := ⟨r0, r, H', .inr h, hw, hk⟩
theorem appendFK_inv {P : Program} {t u : TypeId} {s x : AV} {id : Nat} {hp : Heap} {k : AV → Heap → Prop} (h : appendFK P t u s x id hp k) : ∃ r blk, appendF P t u s x id r blk ∧ k r (upd hp id (some blk)) := h
theorem appendFK_of {P : Program} {t u : TypeId} {s x : AV} {id : Nat} {hp : Heap} {k : AV → Heap → Prop} {r : AV} {blk : AB} (h : appendF P t u s x id r blk) (hk : k r (upd hp id (some blk))) : appendFK P t u s x id hp k := ⟨r, blk, h, hk⟩
theorem mksK_inv {P : Program} {t : TypeId} {l c : AV} {id : Nat} {k : AV → AB → Prop} (h : mksK P t l c id k) : ∃ r0 r b, makeSliceA P t l c id = some (r0, b) ∧ Wk r0 r ∧ k r b := h
theorem mksK_of {P : Program} {t : TypeId} {l c : AV} {id : Nat} {k : AV → AB → Prop} {r0 r : AV} {b : AB} (h : makeSliceA P t l c id = some (r0, b)) (hw : Wk r0 r) (hk : k r b) : mksK P t l c id k := ⟨r0, r, b, h, hw, hk⟩
theorem bsK_inv {P : Program} {t : TypeId} {n : Nat} {parts : List (Nat × AV)} {id : Nat} {k : AV → AB → Prop} (h : bsK P t n parts id k) : ∃ r blk, buildSliceR P t n parts id r blk ∧ k r blk := h
theorem bsK_of {P : Program} {t : TypeId} {n : Nat} {parts : List (Nat × AV)} {id : Nat} {k : AV → AB → Prop} {r : AV} {blk : AB} (h : buildSliceR P t n parts id r blk) (hk : k r blk) : bsK P t n parts id k := ⟨r, blk, h, hk⟩
theorem mlookK_of {P : Program} {lim : Nat} {t : TypeId} {x n : AV} {ok : Bool} {hp : Heap} {k : AV → Prop} {r : AV} (h : mlookR P lim t x n ok hp r) (hk : k r) : mlookK P lim t x n ok hp k := ⟨r, h, hk⟩
theorem mlookK_inv {P : Program} {lim : Nat} {t : TypeId} {x n : AV} {ok : Bool} {hp : Heap} {k : AV → Prop} (h : mlookK P lim t x n ok hp k) : ∃ r, mlookR P lim t x n ok hp r ∧ k r := h
theorem updK_of {P : Program} {t : TypeId} {m n v : AV} {hp : Heap} {k : AV → Heap → Prop} {r : AV} {H' : Heap} (h : updR P t m n v hp r H') (hk : k r H') : updK P t m n v hp k := ⟨r, H', h, hk⟩
theorem updK_inv {P : Program} {t : TypeId} {m n v : AV} {hp : Heap} {k : AV → Heap → Prop} (h : updK P t m n v hp k) : ∃ r H', updR P t m n v hp r H' ∧ k r H' := h
theorem entK_of {P : Program} {t : TypeId} {m n : AV} {hp : Heap} {k : AV → Heap → Prop} {r : AV} {H' : Heap} (h : entR P t m n hp r H') (hk : k r H') : entK P t m n hp k := ⟨r, H', h, hk⟩
theorem entK_inv {P : Program} {t : TypeId} {m n : AV} {hp : Heap} {k : AV → Heap → Prop} (h : entK P t m n hp k) : ∃ r H', entR P t m n hp r H' ∧ k r H' := h
theorem estK_of {m s v : AV} {hp : Heap} {k : AV → Heap → Prop} {r : AV} {H' : Heap} (h : estR m s v hp r H') (hk : k r H') : estK m s v hp k := ⟨r, H', h, hk⟩
theorem estK_inv {m s v : AV} {hp : Heap} {k : AV → Heap → Prop} (h : estK m s v hp k) : ∃ r H', estR m s v hp r H' ∧ k r H' := h
theorem delK_of {P : Program} {t : TypeId} {m n : AV} {hp : Heap} {k : AV → Heap → Prop} {r : AV} {H' : Heap} (h : delR P t m n hp r H') (hk : k r H') : delK P t m n hp k := ⟨r, H', h, hk⟩
theorem delK_inv {P : Program} {t : TypeId} {m n : AV} {hp : Heap} {k : AV → Heap → Prop} (h : delK P t m n hp k) : ∃ r H', delR P t m n hp r H' ∧ k r H' := h
theorem lenmK_of {P : Program} {lim : Nat} {t : TypeId} {x : AV} {hp : Heap} {k : AV → Prop} {r : AV} (h : lenR P lim t x hp r) (hk : k r) : lenmK P lim t x hp k := ⟨r, h, hk⟩
theorem lenmK_inv {P : Program} {lim : Nat} {t : TypeId} {x : AV} {hp : Heap} {k : AV → Prop} (h : lenmK P lim t x hp k) : ∃ r, lenR P lim t x hp r ∧ k r := h
theorem yldK_of {P : Program} {j : Nat} {args : List AV} {hp : Heap} {k : AV → Heap → Prop} {r : AV} {H' : Heap} (h : yldR P j args hp r H') (hk : k r H') : yldK P j args hp k := ⟨r, H', h, hk⟩
theorem yldK_inv {P : Program} {j : Nat} {args : List AV} {hp : Heap} {k : AV → Heap → Prop} (h : yldK P j args hp k) : ∃ r H', yldR P j args hp r H' ∧ k r H' := h
attribute [irreducible] lslK eqK blkK getK callsK callpK appendK appendFK mksK bsK mlookK updK entK estK delK lenmK yldK
end Go.Eng
