import Derived.Test.YtcidmnpihffphaaEngA
namespace Go.Eng
open Go.RowKit (Below)

/-- An operand's abstract value. -/
def evA (sl : Nat → AV) : Operand → AV
  | .tmp t => sl t
  | .const v => ofVal v
  | .global _ => .top
  | .func f => .fn f [] []

def AV.cells : AV → Option (List AV)
  | .agg cs => some cs
  | .tup _ => none
  | .und => none
  | .top => none
  | a => some [a]

/-- A value of one cell. -/
def AV.flat : AV → Bool
  | .agg _ | .tup _ | .und | .top => false
  | _ => true

def aggT (P : Program) (t : TypeId) : Option Bool :=
  match P.underlying t with
  | some (.struct _) | some (.array _ _) => some true
  | some _ => some false
  | none => none
def szT (P : Program) (t : TypeId) : Option Nat := (P.info? t).map (·.size)
def zeroT (P : Program) (t : TypeId) : Option (List AV) := (P.info? t).bind fun i => i.zero.map fun v => v.cells.toList.map ofVal1

def splice (cs : List AV) (o : Nat) (vs : List AV) : List AV := cs.take o ++ vs ++ cs.drop (o + vs.length)

def partA (P : Program) (t : TypeId) (cs : List AV) (off : Nat) : Option AV :=
  match aggT P t with
  | some true => (szT P t).bind fun n => if off + n ≤ cs.length then some (.agg ((cs.drop off).take n)) else none
  | some false => cs[off]?
  | none => none

def binA (op : BinOp) (x y : AV) : Option AV :=
  match op, x, y with
  | .add, .int k a, .int k' b => if k = k' then some (.int k (k.wrap (a + b))) else none
  | .sub, .int k a, .int k' b => if k = k' then some (.int k (k.wrap (a - b))) else none
  | .mul, .int k a, .int k' b => if k = k' then some (.int k (k.wrap (a * b))) else none
  | .quo, .int k a, .int k' b => if k = k' ∧ b ≠ 0 then some (.int k (k.wrap (a.tdiv b))) else none
  | .rem, .int k a, .int k' b => if k = k' ∧ b ≠ 0 then some (.int k (a.tmod b)) else none
  | .and, .int k a, .int k' b => if k = k' then some (.int k (k.wrap (BitVec.ofInt k.bits a &&& BitVec.ofInt k.bits b).toNat)) else none
  | .or, .int k a, .int k' b => if k = k' then some (.int k (k.wrap (BitVec.ofInt k.bits a ||| BitVec.ofInt k.bits b).toNat)) else none
  | .xor, .int k a, .int k' b => if k = k' then some (.int k (k.wrap (BitVec.ofInt k.bits a ^^^ BitVec.ofInt k.bits b).toNat)) else none
  | .andNot, .int k a, .int k' b => if k = k' then some (.int k (k.wrap (BitVec.ofInt k.bits a &&& ~~~BitVec.ofInt k.bits b).toNat)) else none
  | .shl, .int k a, .int _ b => if 0 ≤ b then some (.int k (k.wrap (a * 2 ^ (min b.toNat k.bits)))) else none
  | .shr, .int k a, .int _ b => if 0 ≤ b then some (.int k (a.fdiv (2 ^ (min b.toNat k.bits)))) else none
  | .eql, .int k a, .int k' b => if k = k' then some (.bool (a == b)) else none
  | .neq, .int k a, .int k' b => if k = k' then some (.bool (a != b)) else none
  | .lss, .int k a, .int k' b => if k = k' then some (.bool (decide (a < b))) else none
  | .leq, .int k a, .int k' b => if k = k' then some (.bool (decide (a ≤ b))) else none
  | .gtr, .int k a, .int k' b => if k = k' then some (.bool (decide (a > b))) else none
  | .geq, .int k a, .int k' b => if k = k' then some (.bool (decide (a ≥ b))) else none
  | _, _, _ => none

def unA (op : UnOp) (x : AV) : Option AV :=
  match op, x with
  | .neg, .int k n => some (.int k (k.wrap (0 - n)))
  | .xor, .int k n => some (.int k (k.wrap (BitVec.ofInt k.bits (if k.signed then -1 else k.max) ^^^ BitVec.ofInt k.bits n).toNat))
  | .not, .bool b => some (.bool !b)
  | _, _ => none

def convA (P : Program) (src dst : TypeId) (x : AV) : Option AV :=
  match P.underlying src, P.underlying dst, x with
  | some (.int _), some (.int k), .int _ n => some (.int k (k.wrap n))
  | _, _, _ => none

def fieldA (P : Program) (t : TypeId) (x : AV) (f : Nat) : Option AV :=
  match P.underlying t, x with
  | some (.struct fs), .agg cs => (fs[f]?).bind fun fd => partA P fd.type cs fd.offset
  | _, _ => none

def indexA (P : Program) (t : TypeId) (x i : AV) : Option AV :=
  match P.underlying t, x, i with
  | some (.array len e), .agg cs, .int _ n => if 0 ≤ n ∧ n < len then (szT P e).bind fun sz => partA P e cs (n.toNat * sz) else none
  | _, _, _ => none

def fieldAddrA (P : Program) (t : TypeId) (x : AV) (f : Nat) : Option AV :=
  match P.underlying t, x with
  | some (.struct fs), .ptr i o => (fs[f]?).bind fun fd => (szT P fd.type).bind fun n => if n = 0 then none else some (.ptr i (o + fd.offset))
  | some (.struct fs), .ep cs o => (fs[f]?).bind fun fd => (szT P fd.type).bind fun n => if n = 0 then none else some (.ep cs (o + fd.offset))
  | _, _ => none

def indexAddrA (P : Program) (t : TypeId) (x i : AV) : Option AV :=
  match P.underlying t, x, i with
  | some (.array len e), .ptr id o, .int _ n => if 0 ≤ n ∧ n < len then (szT P e).bind fun sz => some (.ptr id (o + n.toNat * sz)) else none
  | some (.array len e), .ep cs o, .int _ n => if 0 ≤ n ∧ n < len then (szT P e).bind fun sz => some (.ep cs (o + n.toNat * sz)) else none
  | some (.slice e), .sl id o len _ s, .int _ n => if 0 ≤ n ∧ n < len then (szT P e).bind fun sz => if sz = s then some (.ptr id (o + n.toNat * sz)) else none else none
  | some (.slice e), .so id o len s, .int _ n => if 0 ≤ n ∧ n < len then (szT P e).bind fun sz => if sz = s then some (.ptr id (o + n.toNat * sz)) else none else none
  | some (.slice e), .lst _ s len f, .int _ n => if 0 ≤ n ∧ n < len then (szT P e).bind fun sz => if sz = s then ((f n.toNat).cells).map fun cs => .ep cs 0 else none else none
  | _, _, _ => none

/-- A bound of a slice expression. -/
def boundA : Option AV → Nat → Option Nat
  | none, d => some d
  | some (.int _ n), _ => if 0 ≤ n then some n.toNat else none
  | _, _ => none

def sliceA (P : Program) (t : TypeId) (x : AV) (lo hi mx : Option AV) : Option AV :=
  if mx.isSome = true ∧ hi.isNone = true then none else
  match P.underlying t, x with
  | some (.slice e), .sl id o len cap s =>
    (boundA mx cap).bind fun m => (boundA hi len).bind fun h => (boundA lo 0).bind fun l => (szT P e).bind fun sz =>
      if l ≤ h ∧ h ≤ m ∧ m ≤ cap ∧ sz = s then some (.sl id (o + l * sz) (h - l) (m - l) s) else none
  | some (.slice e), .so id o len s =>
    (boundA hi len).bind fun h => (boundA lo 0).bind fun l => (szT P e).bind fun sz =>
      match mx with
      | none => if l ≤ h ∧ h ≤ len ∧ sz = s then some (.so id (o + l * sz) (h - l) s) else none
      | some m => (boundA (some m) 0).bind fun m => if l ≤ h ∧ h ≤ m ∧ m ≤ len ∧ sz = s then some (.sl id (o + l * sz) (h - l) (m - l) s) else none
  | some (.slice e), .lst _m' s len f =>
    (boundA hi len).bind fun h => (boundA lo 0).bind fun l => (szT P e).bind fun sz =>
      match mx with
      | none => if l ≤ h ∧ h ≤ len ∧ sz = s then some (.lst .free s (h - l) fun j => f (l + j)) else none
      | some m => (boundA (some m) 0).bind fun m => if l ≤ h ∧ h = m ∧ m ≤ len ∧ sz = s then some (.lst .cap s (h - l) fun j => f (l + j)) else none
  | some (.slice e), .nils =>
    (boundA mx 0).bind fun m => (boundA hi 0).bind fun h => (boundA lo 0).bind fun l => (szT P e).bind fun _ => if l ≤ h ∧ h ≤ m ∧ m = 0 then some .nils else none
  | _, _ => none

def fillA (place : Nat → Option (Nat × Nat)) (cs : List AV) : List (Nat × AV) → Option (List AV)
  | [] => some cs
  | (i, v) :: rest =>
    match place i, v.cells with
    | some (off, size), some xs => if xs.length = size ∧ off + size ≤ cs.length then fillA place (splice cs off xs) rest else none
    | _, _ => none

def zerosA (zs : List AV) (n : Nat) : List AV := (List.replicate n zs).flatten

def buildA (P : Program) (t : TypeId) (parts : List (Nat × AV)) : Option AV :=
  (zeroT P t).bind fun z =>
    match P.underlying t with
    | some (.struct fs) => (fs.toList.mapM fun f => (szT P f.type).map fun s => (f.offset, s)).bind fun pl => (fillA (fun i => pl[i]?) z parts).map .agg
    | some (.array _ e) => (szT P e).bind fun sz => (fillA (fun i => some (i * sz, sz)) z parts).map .agg
    | _ => none

/-- The cells of a slice that is built: the element's type, its size, the cells. -/
def buildCellsA (P : Program) (t : TypeId) (len : Nat) (parts : List (Nat × AV)) : Option (TypeId × Nat × List AV) :=
  match P.underlying t with
  | some (.slice e) => (szT P e).bind fun sz => (zeroT P e).bind fun z =>
      if len * sz ≤ 2 ^ 24 ∧ 0 < sz ∧ z.length = sz then (fillA (fun i => some (i * sz, sz)) (zerosA z len) parts).map fun cs => (e, sz, cs) else none
  | _ => none

/-- An element of one cell is of one cell. -/
def okE (P : Program) (e : TypeId) (sz : Nat) (a : AV) : Prop := aggT P e = some false → sz = 1 ∧ a.flat = true

/-- A slice that is built: ours to write, or a list that never turns. -/
def buildSliceR (P : Program) (t : TypeId) (len : Nat) (parts : List (Nat × AV)) (id : Nat) (r : AV) (blk : AB) : Prop :=
  ∃ e sz cs, buildCellsA P t len parts = some (e, sz, cs) ∧
    ((r = .sl id 0 len len sz ∧ blk = .cells cs) ∨ (∃ f, r = .lst .cap sz len f ∧ blk = .cells [] ∧ ∀ j, j < len → partA P e cs (j * sz) = some (f j) ∧ okE P e sz (f j)))

def makeSliceA (P : Program) (t : TypeId) (l c : AV) (id : Nat) : Option (AV × AB) :=
  match P.underlying t, l, c with
  | some (.slice e), .int _ n, .int _ m => (szT P e).bind fun sz => (zeroT P e).bind fun z => ((P.info? e).map (·.bytes)).bind fun by_ =>
      if 0 ≤ n ∧ n ≤ m ∧ m ≤ 1048576 ∧ by_ ≤ 1048576 ∧ 0 < sz ∧ z.length = sz then some (.sl id 0 n.toNat m.toNat sz, .cells (zerosA z m.toNat)) else none
  | _, _, _ => none

def lenA (P : Program) (t : TypeId) (x : AV) : Option AV :=
  match P.underlying t, x with
  | some (.slice _), .sl _ _ n _ _ => some (.int .i64 n)
  | some (.slice _), .so _ _ n _ => some (.int .i64 n)
  | some (.slice _), .lst _ _ n _ => some (.int .i64 n)
  | some (.slice _), .nils => some (.int .i64 0)
  | some .string, .str s => some (.int .i64 s.size)
  | some (.array n _), _ => some (.int .i64 n)
  | _, _ => none

def minA : List AV → Option AV
  | [] => none
  | x :: rest => rest.foldlM (fun a b => match a, b with | .int k x, .int _ y => some (.int k (if y < x then y else x)) | _, _ => none) x
def maxA : List AV → Option AV
  | [] => none
  | x :: rest => rest.foldlM (fun a b => match a, b with | .int k x, .int _ y => some (.int k (if y > x then y else x)) | _, _ => none) x

def loadA (P : Program) (lim : Nat) (t : TypeId) (p : AV) (H : Heap) : Option AV :=
  match p with
  | .ptr i o => if i < lim then
      match H i with
      | some (.cells cs) => partA P t cs o
      | _ => none
    else none
  | .ep cs o => partA P t cs o
  | _ => none

def storeA (P : Program) (t : TypeId) (p v : AV) (H : Heap) : Option (AV × Heap) :=
  match p, v.cells with
  | .ptr i o, some xs =>
    match H i with
    | some (.cells cs) => (szT P t).bind fun n => if xs.length = n ∧ o + n ≤ cs.length ∧ xs.all AV.flat = true then some (.und, upd H i (some (.cells (splice cs o xs)))) else none
    | _ => none
  | _, _ => none

/-- All cells of a value are of one cell each. -/
def flatC (a : AV) : Bool := match a.cells with | some cs => cs.all AV.flat | none => false
def cellsL (a : AV) : List AV := match a.cells with | some cs => cs | none => []

/-- The cells of a slice. -/
def cellsOf (H : Heap) (sz : Nat) : AV → Option (List AV)
  | .nils => some []
  | .sl i o n _ s => match H i with
    | some (.cells cs) => if s = sz ∧ o + n * sz ≤ cs.length then some ((cs.drop o).take (n * sz)) else none
    | _ => none
  | .so i o n s => match H i with
    | some (.cells cs) => if s = sz ∧ o + n * sz ≤ cs.length then some ((cs.drop o).take (n * sz)) else none
    | _ => none
  | .lst _ s n f => if s = sz then some ((List.range n).flatMap fun j => cellsL (f j)) else none
  | _ => none
/-- The elements of a list are values with cells. -/
def cellsOk : AV → Prop
  | .lst _ _ n f => ∀ j, j < n → (f j).cells ≠ none
  | _ => True

def lenS : AV → Option Nat
  | .nils => some 0
  | .sl _ _ n _ _ => some n
  | .so _ _ n _ => some n
  | .lst _ _ n _ => some n
  | _ => none

/-- append(s, x...) into blocks of ours. What it takes from an open slice it takes over. -/
def appendA (P : Program) (t u : TypeId) (s x : AV) (id : Nat) (H : Heap) : Option (AV × Heap) :=
  match P.underlying t, P.underlying u with
  | some (.slice e), some (.slice _) => (szT P e).bind fun sz => ((P.info? e).map (·.bytes)).bind fun by_ => (lenS x).bind fun k => (cellsOf H sz x).bind fun xs => (zeroT P e).bind fun z =>
    if 0 < sz ∧ 0 < by_ ∧ by_ ≤ 1048576 ∧ xs.all AV.flat = true ∧ z.length = sz then
      match s with
      | .nils => if k ≤ 1048576 then some (.so id 0 k sz, upd H id (some (.cells xs))) else none
      | .so i o n s' => match H i with
        | some (.cells cs) => if s' = sz ∧ o = 0 ∧ n * sz ≤ cs.length ∧ n + k ≤ 1048576 then some (.so id 0 (n + k) sz, upd (upd H i none) id (some (.cells (cs.take (n * sz) ++ xs)))) else none
        | _ => none
      | .sl i o n m s' => match H i with
        | some (.cells cs) => if s' = sz ∧ o + m * sz ≤ cs.length ∧ n ≤ m ∧ n + k ≤ 1048576 then
            (if n + k ≤ m then some (.sl i o (n + k) m sz, upd H i (some (.cells (splice cs (o + n * sz) xs))))
             else some (.so id 0 (n + k) sz, upd H id (some (.cells ((cs.drop o).take (n * sz) ++ xs))))) else none
        | _ => none
      | .lst .cap s' n f => if s' = sz ∧ 0 < k ∧ n + k ≤ 1048576 then some (.so id 0 (n + k) sz, upd H id (some (.cells (((List.range n).flatMap fun j => cellsL (f j)) ++ xs)))) else none
      | _ => none
    else none
  | _, _ => none

/-- The elements of a list that is appended. -/
inductive LstOf (sz : Nat) : AV → Nat → (Nat → AV) → Prop where
  | nil (f : Nat → AV) : LstOf sz .nils 0 f
  | lst (m : LM) (n : Nat) (f : Nat → AV) : LstOf sz (.lst m sz n f) n f

/-- append(s, x...) to a list that never turns. -/
def appendT (P : Program) (t u : TypeId) (s x : AV) (id : Nat) (H : Heap) (r : AV) (H' : Heap) : Prop :=
  ∃ e e' sz by_ z n k f fx fr, P.underlying t = some (.slice e) ∧ P.underlying u = some (.slice e') ∧ szT P e = some sz ∧ (P.info? e).map (·.bytes) = some by_ ∧ zeroT P e = some z ∧
    0 < sz ∧ 0 < by_ ∧ by_ ≤ 1048576 ∧ z.length = sz ∧ n + k ≤ 1048576 ∧ LstOf sz s n f ∧ LstOf sz x k fx ∧ (∀ j, j < k → flatC (fx j) = true) ∧
    r = .lst (.tok id) sz (n + k) fr ∧ (∀ j, j < n → fr j = f j) ∧ (∀ j, j < k → fr (n + j) = fx j) ∧
    ((s = .nils ∧ H' = upd H id (some (.cells []))) ∨ (s = .lst .cap sz n f ∧ H' = upd H id (some (.cells []))) ∨ (∃ g cs, s = .lst (.tok g) sz n f ∧ H g = some (.cells cs) ∧ H' = upd (upd H g none) id (some (.cells []))))

/-- Two values compared. -/
def EqV (P : Program) (t : TypeId) (x y : AV) (b : Bool) : Prop := ∀ (β : Beta) (w : World) (u v : Value) (ox oy : Operand), V β x u → V β y v →
  (do eqGuard .eql t ox oy u v; binOp .eql t u v : Sem Value).run P w = .ok (.bool b) w ∧ (do eqGuard .neq t ox oy u v; binOp .neq t u v : Sem Value).run P w = .ok (.bool !b) w
def EqR (P : Program) (op : BinOp) (t : TypeId) (x y r : AV) : Prop := ∃ b, EqV P t x y b ∧ ((op = .eql ∧ r = .bool b) ∨ (op = .neq ∧ r = .bool !b))

/-- What an operation does: what results are told of it. -/
inductive Eff where
  | pure (r : AV → Prop)
  | look (r : Heap → AV → Prop)
  | alloc (r : AV → AB → Prop)
  | write (r : Heap → AV → Heap → Prop)

abbrev Tbl := FuncId → List AV → Heap → Nat → AV → Heap → Prop

/-- The slots that hold lists typed out in a region. -/
def built (ops : Array Oper) (t : Tmp) : Bool := ops.toList.any fun o => match o.op, o.dst with
  | .buildSlice .., some d => d == t
  | _, _ => false
/-- Is it a list of this region to which is appended? -/
def freshArg (bt : Tmp → Bool) (args : Array Operand) : Bool := match args.toList with
  | .tmp t :: _ => bt t
  | _ => false

structure Ctx where
  P : Program
  T : Tbl
  pf : FuncId → Bool
  b : Nat
  n : Nat
  lim : Nat
  bt : Tmp → Bool

/-- The second tells no more than the first. -/
def Wk (a b : AV) : Prop := ∀ β v, V β a v → V β b v
def WkL (as bs : List AV) : Prop := ∀ β vs, Vs β as vs → Vs β bs vs
theorem Wk.refl (a : AV) : Wk a a := fun _ _ h => h
theorem WkL.refl (as : List AV) : WkL as as := fun _ _ h => h

/-- append to a list that nobody else holds: a new block at the most. -/
def appendF (P : Program) (t u : TypeId) (s x : AV) (id : Nat) (r : AV) (blk : AB) : Prop :=
  ∃ r0, ((cellsOk s ∧ cellsOk x ∧ ∀ H, appendA P t u s x id H = some (r0, upd H id (some blk))) ∨ ∀ H, appendT P t u s x id H r0 (upd H id (some blk))) ∧ Wk r0 r

/-! Maps, their keys integers. -/
def mapT (P : Program) (t : TypeId) : Option (IntKind × TypeId) :=
  match P.underlying t with
  | some (.map k e) => match P.underlying k with
    | some (.int q) => some (q, e)
    | _ => none
  | _ => none
def zeroV (P : Program) (t : TypeId) : Option AV := (P.info? t).bind fun i => i.zero.map ofVal
def encM (q : IntKind) (L : List (Nat × Int × AV)) : List (Nat × AV × AV) := L.map fun p => (p.1, .int q p.2.1, p.2.2)
def mfind {α : Type} (n : Int) (L : List (Nat × Int × α)) : Option (Nat × Int × α) := L.find? fun p => p.2.1 == n
def mput {α : Type} (n : Int) (v : α) (L : List (Nat × Int × α)) (clk : Nat) : List (Nat × Int × α) :=
  match L.findIdx? fun p => p.2.1 == n with
  | some j => L.modify j fun p => (p.1, p.2.1, v)
  | none => L ++ [(clk, n, v)]
def mclk {α : Type} (n : Int) (L : List (Nat × Int × α)) (clk : Nat) : Nat :=
  match L.findIdx? fun p => p.2.1 == n with
  | some _ => clk
  | none => clk + 1
/-- The place of a key's entry; that of a new one. -/
def hidx {α : Type} (n : Int) (L : List (Nat × Int × α)) : Nat := match L.findIdx? fun p => p.2.1 == n with
  | some j => j
  | none => L.length
def mdel {α : Type} (n : Int) (L : List (Nat × Int × α)) : List (Nat × Int × α) :=
  match L.findIdx? fun p => p.2.1 == n with
  | some j => L.eraseIdx j
  | none => L
/-- A map, whether its lists grow in a pool or not. -/
def mapAt (H : Heap) (i : Nat) (es : List (Nat × AV × AV)) (clk : Nat) : Prop := H i = some (.map es clk) ∨ ∃ sz ho, H i = some (.maps sz es clk ho)
def mlookR (P : Program) (lim : Nat) (t : TypeId) (x k : AV) (ok : Bool) (H : Heap) (r : AV) : Prop :=
  ∃ q e z n v b, mapT P t = some (q, e) ∧ zeroV P e = some z ∧ k = .int q n ∧
    ((x = .nilm ∧ v = z ∧ b = false) ∨ ∃ i L clk, x = .mp i ∧ i < lim ∧ mapAt H i (encM q L) clk ∧
      match mfind n L with
      | some p => v = p.2.2 ∧ b = true
      | none => v = z ∧ b = false) ∧ Wk (if ok then .tup [v, .bool b] else v) r
def updR (P : Program) (t : TypeId) (m k v : AV) (H : Heap) (r : AV) (H' : Heap) : Prop :=
  ∃ q e n i L clk, mapT P t = some (q, e) ∧ k = .int q n ∧ m = .mp i ∧ r = .und ∧ ((H i = some (.map (encM q L) clk) ∧ H' = upd H i (some (.map (encM q (mput n v L clk)) (mclk n L clk)))) ∨
    ∃ sz, H i = some (.maps sz (encM q L) clk (some (hidx n L))) ∧ H' = upd H i (some (.maps sz (encM q (mput n v L clk)) (mclk n L clk) (some (hidx n L)))))
def entR (P : Program) (t : TypeId) (m k : AV) (H : Heap) (r : AV) (H' : Heap) : Prop :=
  ∃ q e z n i L clk, mapT P t = some (q, e) ∧ zeroV P e = some z ∧ k = .int q n ∧ m = .mp i ∧ H i = some (.map (encM q L) clk) ∧
    match mfind n L with
    | some p => r = .tup [p.2.2, .int .i64 p.1] ∧ H' = upd H i (some (.map (encM q L) clk))
    | none => r = .tup [z, .int .i64 clk] ∧ H' = upd H i (some (.map (encM q (L ++ [(clk, n, z)])) (clk + 1)))
def estR (m s v : AV) (H : Heap) (r : AV) (H' : Heap) : Prop :=
  ∃ b i es clk j, m = .mp i ∧ s = .int .i64 b ∧ H i = some (.map es clk) ∧ es.findIdx? (fun p => (p.1 : Int) == b) = some j ∧ r = .und ∧ H' = upd H i (some (.map (es.modify j fun p => (p.1, p.2.1, v)) clk))
def delR (P : Program) (t : TypeId) (m k : AV) (H : Heap) (r : AV) (H' : Heap) : Prop :=
  ∃ q e n i L clk, mapT P t = some (q, e) ∧ k = .int q n ∧ m = .mp i ∧ r = .tup [] ∧ ((H i = some (.map (encM q L) clk) ∧ H' = upd H i (some (.map (encM q (mdel n L)) clk))) ∨
    ∃ sz, H i = some (.maps sz (encM q L) clk none) ∧ H' = upd H i (some (.maps sz (encM q (mdel n L)) clk none)))
def lenR (P : Program) (lim : Nat) (t : TypeId) (x : AV) (H : Heap) (r : AV) : Prop :=
  lenA P t x = some r ∨ ((mapT P t).isSome = true ∧ ((x = .nilm ∧ r = .int .i64 0) ∨ ∃ i es clk, x = .mp i ∧ i < lim ∧ mapAt H i es clk ∧ r = .int .i64 es.length))

/-- What a call of the function that runs a loop's body does. -/
def yldR (P : Program) (j : Nat) (args : List AV) (H : Heap) (r : AV) (H' : Heap) : Prop :=
  ∃ (S : Type) (G : Gh S) (s : S) (b : Bool) (s' : S) (av : List Value), H j = some (.gh S G s) ∧ G.P = P ∧ (∀ β vs, Vs β args vs → vs = av) ∧ G.Y av s b s' ∧ r = .bool b ∧ H' = upd H j (some (.gh S G s'))

def callR (c : Ctx) (i : Nat) (f : AV) (args : List AV) (H : Heap) (r : AV) (H' : Heap) : Prop :=
  match f with
  | .fn g first caps => ∃ args', WkL (first ++ args ++ caps) args' ∧ c.T g args' H (c.b + i * 64) r H'
  | .yld j => yldR c.P j args H r H'
  | _ => False

def opA (c : Ctx) (i : Nat) (o : Oper) (sl : Nat → AV) : Eff :=
  match o.op with
  | .move x | .assign x => .pure (fun r => r = evA sl x)
  | .pick q a b => .pure (fun r => match evA sl q with | .bool t => r = if t then evA sl a else evA sl b | _ => False)
  | .alloc t => .alloc (fun r blk => ∃ z, zeroT c.P t = some z ∧ r = .ptr (c.b + i * 64) 0 ∧ blk = .cells z)
  | .box _ x => .alloc (fun r blk => ∃ z, (evA sl x).cells = some z ∧ r = .ptr (c.b + i * 64) 0 ∧ blk = .cells z)
  | .build t ps => .pure (fun r => buildA c.P t (ps.toList.map fun p => (p.1, evA sl p.2)) = some r)
  | .buildSlice t n ps => .alloc (buildSliceR c.P t n (ps.toList.map fun p => (p.1, evA sl p.2)) (c.b + i * 64))
  | .load t p => .look (fun H r => loadA c.P c.lim t (evA sl p) H = some r)
  | .store t p v => .write (fun H r H' => storeA c.P t (evA sl p) (evA sl v) H = some (r, H'))
  | .nilCheck x => .pure (fun r => r = evA sl x ∧ match evA sl x with | .ptr _ _ | .ep _ _ | .fn _ _ _ => True | _ => False)
  | .binOp op t x y _ => .pure (fun r => binA op (evA sl x) (evA sl y) = some r ∨ EqR c.P op t (evA sl x) (evA sl y) r)
  | .unOp op _ x => .pure (fun r => unA op (evA sl x) = some r)
  | .convert s d x => .pure (fun r => convA c.P s d (evA sl x) = some r)
  | .makeFunc fn first caps => .pure (fun r => match fn with | .func f => r = .fn f (first.toList.map (evA sl)) (caps.toList.map (evA sl)) | _ => False)
  | .makeSlice t l k => .alloc (fun r blk => ∃ r0, makeSliceA c.P t (evA sl l) (evA sl k) (c.b + i * 64) = some (r0, blk) ∧ Wk r0 r)
  | .slice t x lo hi mx => .pure (fun r => ∃ r0, sliceA c.P t (evA sl x) (lo.map (evA sl)) (hi.map (evA sl)) (mx.map (evA sl)) = some r0 ∧ Wk r0 r)
  | .fieldAddr t x f => .pure (fun r => fieldAddrA c.P t (evA sl x) f = some r)
  | .field t x f => .pure (fun r => fieldA c.P t (evA sl x) f = some r)
  | .indexAddr t x k => .pure (fun r => indexAddrA c.P t (evA sl x) (evA sl k) = some r)
  | .index t x k => .pure (fun r => indexA c.P t (evA sl x) (evA sl k) = some r)
  | .extract x k => .pure (fun r => match evA sl x with | .tup vs => vs[k]? = some r | _ => False)
  | .makeMap _ none => .alloc (fun r blk => r = .mp (c.b + i * 64) ∧ blk = .map [] 0)
  | .lookup t x k ok => .look (fun H r => mlookR c.P c.lim t (evA sl x) (evA sl k) ok H r)
  | .mapUpdate t m k v => .write (fun H r H' => updR c.P t (evA sl m) (evA sl k) (evA sl v) H r H')
  | .mapEntry t m k => .write (fun H r H' => entR c.P t (evA sl m) (evA sl k) H r H')
  | .entryStore _ m s v => .write (fun H r H' => estR (evA sl m) (evA sl s) (evA sl v) H r H')
  | .call { callee := .builtin .delete, args, argTypes } => .write (fun H r H' => match args.toList, argTypes.toList with
      | [m, k], [t, _] => delR c.P t (evA sl m) (evA sl k) H r H'
      | _, _ => False)
  | .call { callee := .builtin .len, args, argTypes } => .look (fun H r => match args.toList, argTypes.toList with | [x], t :: _ => lenR c.P c.lim t (evA sl x) H r | _, _ => False)
  | .call { callee := .builtin .min, args, .. } => .pure (fun r => minA (args.toList.map (evA sl)) = some r)
  | .call { callee := .builtin .max, args, .. } => .pure (fun r => maxA (args.toList.map (evA sl)) = some r)
  | .call { callee := .builtin .append, args, argTypes } => if freshArg c.bt args = true then .alloc (fun r blk => match args.toList, argTypes.toList with
      | [s, x], [t, u] => appendF c.P t u (evA sl s) (evA sl x) (c.b + i * 64) r blk
      | _, _ => False)
    else .write (fun H r H' => match args.toList, argTypes.toList with
      | [s, x], [t, u] => ∃ r0, ((cellsOk (evA sl s) ∧ cellsOk (evA sl x) ∧ appendA c.P t u (evA sl s) (evA sl x) (c.b + i * 64) H = some (r0, H')) ∨ appendT c.P t u (evA sl s) (evA sl x) (c.b + i * 64) H r0 H') ∧ Wk r0 r
      | _, _ => False)
  | .call { callee := .value (.func f), args, .. } =>
    if c.pf f = true then .look (fun H r => ∃ args' H2, WkL (args.toList.map (evA sl)) args' ∧ c.T f args' H (c.b + c.n * 64) r H2)
    else .write (callR c i (.fn f [] []) (args.toList.map (evA sl)))
  | .call { callee := .value f, args, .. } => .write (callR c i (evA sl f) (args.toList.map (evA sl)))
  | _ => .pure (fun _ => False)

/-- The state inside a region. -/
structure RS where
  sl : Nat → AV
  hp : Heap
  ex : Nat → Bool

/-- A slot written. -/
def supd (f : Nat → AV) (i : Nat) (x : AV) : Nat → AV := upd f i x

def putA (sl : Nat → AV) (d : Option Tmp) (v : AV) : Nat → AV :=
  match d with
  | some t => supd sl t v
  | none => sl

/-- Is an operation carried out? none: not known. -/
def wantA (ops : Array Oper) (o : Oper) (sl : Nat → AV) : Option Bool :=
  match o.guard with
  | none => some true
  | some (j, want) =>
    match (ops[j]?).bind (·.dst) with
    | none => none
    | some t => match sl t with
      | .bool x => some (x == want)
      | .und => some false
      | _ => none

def effR (e : Eff) (H : Heap) (id : Nat) (r : AV) (H' : Heap) : Prop :=
  match e with
  | .pure p => p r ∧ H' = H
  | .look p => p H r ∧ H' = H
  | .alloc p => ∃ blk, p r blk ∧ H' = upd H id (some blk)
  | .write p => p H r H'

def Eff.uses : Eff → Bool
  | .alloc _ | .write _ => true
  | _ => false
def Eff.isWrite : Eff → Bool
  | .write _ => true
  | _ => false

/-- One effect, with the list of those that have made blocks. -/
def effX (c : Ctx) (i : Nat) (e : Eff) (h : Heap × (Nat → Bool)) (r : AV) (h' : Heap × (Nat → Bool)) : Prop :=
  ¬ (e.uses = true ∧ h.2 i = true) ∧ (e.isWrite = true → ∀ k, k < c.n → h.2 k = true → k < i) ∧ effR e h.1 (c.b + i * 64) r h'.1 ∧ h'.2 = if e.uses = true then upd h.2 i true else h.2

def stepR (c : Ctx) (ops : Array Oper) (i : Nat) (s s' : RS) : Prop :=
  match ops[i]? with
  | none => s' = s
  | some o =>
    match wantA ops o s.sl with
    | none => False
    | some false => s' = { s with sl := putA s.sl o.dst .und }
    | some true => ∃ r, effX c i (opA c i o s.sl) (s.hp, s.ex) r (s'.hp, s'.ex) ∧ s'.sl = putA s.sl o.dst r

end Go.Eng
