import Derived.WalkKit
import Derived.RangeFuncSeq
import Derived.RangeFuncRecord
import Derived.OrdersIn
import Derived.LoopNIn
import Derived.MapKept
set_option linter.unusedVariables false
set_option linter.unusedSimpArgs false
set_option linter.unusedSectionVars false
namespace Go.Eng
open Go.RowKit (Below)
structure Loc where
 c:Nat
 o:Nat
 k:Nat
structure cN where
 loc:Nat→Option Loc
 fz:Nat→Nat→Option Value
 ys:Nat→Prop
instance:CoeFun cN (fun _=>Nat→Option Loc):=⟨cN.loc⟩
inductive LM where
 | free
 | cap
 | tok (g:Nat)
inductive AV where
 | top
 | und
 | int (k:IntKind) (n:Int)
 | bool (b:Bool)
 | str (s:ByteArray)
 | nilp
 | ptr (i o:Nat)
 | ep (cs:List AV) (o:Nat)
 | nils
 | sl (i o len cap sz:Nat)
 | so (i o len sz:Nat)
 | lst (m:LM) (sz n:Nat) (f:Nat→AV)
 | nilm
 | mp (i:Nat)
 | nilf
 | fn (f:FuncId) (first caps:List AV)
 | agg (cs:List AV)
 | tup (vs:List AV)
 | yld (i:Nat)
 deriving Inhabited
def laid (φ:Nat→Nat→Option Value) (c o:Nat) (vs:List Value):Prop:=∀ (k:Nat) (v:Value),vs[k]?=some v→φ c (o+k)=some v
theorem laid.mono {φ ψ:Nat→Nat→Option Value} (h:∀ c o v,φ c o=some v→ψ c o=some v) {c o:Nat} {vs:List Value} (k:laid φ c o vs):laid ψ c o vs:=fun j v hv=>h _ _ _ (k j v hv)
def aHk (β:cN) (m:LM) (sz n:Nat) (base:Option Addr) (cap:Nat):Prop:=
 match m with
 | .free=>True
 | .cap=>cap=n
 | .tok g=>∃ l,β g=some l∧(cap=n∨∃ o,base=some ⟨l.c,o,none⟩∧l.o=o+n * sz∧cap * sz≤n * sz+l.k)
mutual
def V (β:cN):AV→Value→Prop
 | .top,_=>True
 | .und,v=>v=undef
 | .int k n,v=>v=.int k n
 | .bool b,v=>v=.bool b
 | .str s,v=>v=.string s
 | .nilp,v=>v=.pointer none
 | .ptr i o,v=>∃ l,β i=some l∧v=.pointer (some ⟨l.c,l.o+o,none⟩)
 | .ep cs o,v=>∃ (c q:Nat) (vs:List Value),v=.pointer (some ⟨c,q+o,none⟩)∧laid β.fz c q vs∧Vs β cs vs
 | .nils,v=>v=.slice none 0 0
 | .sl i o n m sz,v=>∃ l,β i=some l∧((n=0∧m=0∧∃ a,v=.slice a 0 0)∨(n≤m∧o+m * sz≤l.k∧v=.slice (some ⟨l.c,l.o+o,none⟩) n m))
 | .so i o n sz,v=>∃ l,β i=some l∧((n=0∧∃ a,v=.slice a 0 0)∨∃ m,n≤m∧o+m * sz≤l.k∧v=.slice (some ⟨l.c,l.o+o,none⟩) n m)
 | .lst m sz n f,v=>∃ (base:Option Addr) (cap:Nat),v=.slice base n cap∧n≤cap∧aHk β m sz n base cap ∧
   ∀ j,j<n→∃ (c o:Nat) (u:Value),base=some ⟨c,o,none⟩∧u.cells.size=sz∧laid β.fz c (o+j * sz) u.cells.toList∧V β (f j) u
 | .nilm,v=>v=.map none
 | .mp i,v=>∃ l,β i=some l∧v=.map (some l.c)
 | .nilf,v=>v=.nilFunc
 | .fn f first caps,v=>∃ fv cv:List Value,v=.func (.func f) fv.toArray cv.toArray∧Vs β first fv∧Vs β caps cv
 | .agg cs,v=>∃ vs:List Value,v=.agg vs.toArray∧Vs β cs vs
 | .tup cs,v=>∃ vs:List Value,v=.tuple vs.toArray∧Vs β cs vs
 | .yld i,v=>∃ l,β i=some l∧v=.func (.yield l.c) #[] #[]
def Vs (β:cN):List AV→List Value→Prop
 | [],vs=>vs=[]
 | a::as,vs=>∃ v vs',vs=v::vs'∧V β a v∧Vs β as vs'
end
structure cN.le (β β':cN):Prop where
 loc:∀ i l,β i=some l→β' i=some l
 fz:∀ c o v,β.fz c o=some v→β'.fz c o=some v
theorem cN.le.refl (β:cN):cN.le β β:=⟨fun _ _ h=>h,fun _ _ _ h=>h⟩
theorem cN.le.trans {a b c:cN} (h:cN.le a b) (k:cN.le b c):cN.le a c:=⟨fun i l e=>k.loc i l (h.loc i l e),fun i l v e=>k.fz i l v (h.fz i l v e)⟩
theorem aHk.mono {β β':cN} (h:cN.le β β') {m:LM} {sz n:Nat} {base:Option Addr} {cap:Nat} (k:aHk β m sz n base cap):aHk β' m sz n base cap:=by
 cases m with
 | free=>trivial
 | cap=>exact k
 | tok g=>obtain ⟨l,h1,h2⟩:=k;exact ⟨l,h.loc _ _ h1,h2⟩
mutual
theorem kU {β β':cN} (h:cN.le β β'):∀ (a:AV) (v:Value),V β a v→V β' a v
 | .top,_,_=>by simp [V]
 | .und,_,e=>by simpa [V] using e
 | .int _ _,_,e=>by simpa [V] using e
 | .bool _,_,e=>by simpa [V] using e
 | .str _,_,e=>by simpa [V] using e
 | .nilp,_,e=>by simpa [V] using e
 | .ptr _ _,_,e=>by simp only [V] at e ⊢;obtain ⟨l,h1,h2⟩:=e;exact ⟨l,h.loc _ _ h1,h2⟩
 | .ep cs _,_,e=>by simp only [V] at e ⊢;obtain ⟨c,q,vs,h1,h2,h3⟩:=e;exact ⟨c,q,vs,h1,h2.mono h.fz,rK h cs vs h3⟩
 | .nils,_,e=>by simpa [V] using e
 | .sl ..,_,e=>by simp only [V] at e ⊢;obtain ⟨l,h1,h2⟩:=e;exact ⟨l,h.loc _ _ h1,h2⟩
 | .so ..,_,e=>by simp only [V] at e ⊢;obtain ⟨l,h1,h2⟩:=e;exact ⟨l,h.loc _ _ h1,h2⟩
 | .lst _ _ _ f,_,e=>by
  simp only [V] at e ⊢
  obtain ⟨b,cap,h1,h2,h3,h4⟩:=e
  refine ⟨b,cap,h1,h2,h3.mono h,fun j hj=>?_⟩
  obtain ⟨c,o,u,k1,k2,k3,k4⟩:=h4 j hj
  exact ⟨c,o,u,k1,k2,k3.mono h.fz,kU h (f j) u k4⟩
 | .nilm,_,e=>by simpa [V] using e
 | .mp _,_,e=>by simp only [V] at e ⊢;obtain ⟨l,h1,h2⟩:=e;exact ⟨l,h.loc _ _ h1,h2⟩
 | .yld _,_,e=>by simp only [V] at e ⊢;obtain ⟨l,h1,h2⟩:=e;exact ⟨l,h.loc _ _ h1,h2⟩
 | .nilf,_,e=>by simpa [V] using e
 | .fn _ first caps,_,e=>by simp only [V] at e ⊢;obtain ⟨k,l,h1,h2,h3⟩:=e;exact ⟨k,l,h1,rK h first k h2,rK h caps l h3⟩
 | .agg cs,_,e=>by simp only [V] at e ⊢;obtain ⟨l,h1,h2⟩:=e;exact ⟨l,h1,rK h cs l h2⟩
 | .tup cs,_,e=>by simp only [V] at e ⊢;obtain ⟨l,h1,h2⟩:=e;exact ⟨l,h1,rK h cs l h2⟩
theorem rK {β β':cN} (h:cN.le β β'):∀ (as:List AV) (vs:List Value),Vs β as vs→Vs β' as vs
 | [],_,e=>by simpa [Vs] using e
 | a::as,_,e=>by simp only [Vs] at e ⊢;obtain ⟨v,vs',h0,h1,h2⟩:=e;exact ⟨v,vs',h0,kU h a v h1,rK h as vs' h2⟩
end
theorem gD {β β':cN} (h:cN.le β β') {i:Nat} {l l':Loc} (e:β i=some l) (e':β' i=some l'):l'=l:=by
 have:=h.loc _ _ e;rw [this] at e';cases e';rfl
def cN.keep (β0 β:cN):cN:=⟨β0.loc,β.fz,β.ys⟩
theorem cN.le_keep {β0 β:cN} (h:cN.le β0 β):cN.le β0 (β0.keep β):=⟨fun _ _ h=>h,h.fz⟩
theorem aHk.back {β0 β:cN} (h:cN.le β0 β) {m:LM} {sz n:Nat} {base base':Option Addr} {cap cap':Nat} (k0:aHk β0 m sz n base cap) (k:aHk β m sz n base' cap'):aHk (β0.keep β) m sz n base' cap':=by
 cases m with
 | free=>trivial
 | cap=>exact k
 | tok g=>obtain ⟨l,h1,h2⟩:=k;obtain ⟨l0,h3,_⟩:=k0;have:=gD h h3 h1;subst this;exact ⟨l,h3,h2⟩
mutual
theorem aBv {β0 β:cN} (h:cN.le β0 β):∀ (a:AV) (v0 v:Value),V β0 a v0→V β a v→V (β0.keep β) a v
 | .top,_,_,_,_=>by simp [V]
 | .und,_,_,_,e=>by simpa [V] using e
 | .int _ _,_,_,_,e=>by simpa [V] using e
 | .bool _,_,_,_,e=>by simpa [V] using e
 | .str _,_,_,_,e=>by simpa [V] using e
 | .nilp,_,_,_,e=>by simpa [V] using e
 | .ptr _ _,_,_,e0,e=>by
  simp only [V] at e0 e ⊢
  obtain ⟨l,h1,_⟩:=e0;obtain ⟨l',h1',h2'⟩:=e
  exact ⟨l,h1,(gD h h1 h1') ▸ h2'⟩
 | .ep cs _,_,_,e0,e=>by
  simp only [V] at e0 e ⊢
  obtain ⟨_,_,vs0,_,_,h0⟩:=e0;obtain ⟨c,q,vs,h1,h2,h3⟩:=e
  exact ⟨c,q,vs,h1,h2,aAd h cs vs0 vs h0 h3⟩
 | .nils,_,_,_,e=>by simpa [V] using e
 | .sl ..,_,_,e0,e=>by
  simp only [V] at e0 e ⊢
  obtain ⟨l,h1,_⟩:=e0;obtain ⟨l',h1',h2'⟩:=e
  exact ⟨l,h1,(gD h h1 h1') ▸ h2'⟩
 | .so ..,_,_,e0,e=>by
  simp only [V] at e0 e ⊢
  obtain ⟨l,h1,_⟩:=e0;obtain ⟨l',h1',h2'⟩:=e
  exact ⟨l,h1,(gD h h1 h1') ▸ h2'⟩
 | .lst _ _ _ f,_,_,e0,e=>by
  simp only [V] at e0 e ⊢
  obtain ⟨b0,cap0,_,_,g3,g4⟩:=e0
  obtain ⟨b,cap,h1,h2,h3,h4⟩:=e
  refine ⟨b,cap,h1,h2,g3.back h h3,fun j hj=>?_⟩
  obtain ⟨_,_,u0,_,_,_,y⟩:=g4 j hj
  obtain ⟨c,o,u,k1,k2,k3,k4⟩:=h4 j hj
  exact ⟨c,o,u,k1,k2,k3,aBv h (f j) u0 u y k4⟩
 | .nilm,_,_,_,e=>by simpa [V] using e
 | .mp _,_,_,e0,e=>by
  simp only [V] at e0 e ⊢
  obtain ⟨l,h1,_⟩:=e0;obtain ⟨l',h1',h2'⟩:=e
  exact ⟨l,h1,(gD h h1 h1') ▸ h2'⟩
 | .yld _,_,_,e0,e=>by
  simp only [V] at e0 e ⊢
  obtain ⟨l,h1,_⟩:=e0;obtain ⟨l',h1',h2'⟩:=e
  exact ⟨l,h1,(gD h h1 h1') ▸ h2'⟩
 | .nilf,_,_,_,e=>by simpa [V] using e
 | .fn _ first caps,_,_,e0,e=>by
  simp only [V] at e0 e ⊢
  obtain ⟨k0,l0,_,p0,q0⟩:=e0;obtain ⟨k,l,h1,h2,h3⟩:=e;exact ⟨k,l,h1,aAd h first k0 k p0 h2,aAd h caps l0 l q0 h3⟩
 | .agg cs,_,_,e0,e=>by
  simp only [V] at e0 e ⊢
  obtain ⟨l0,_,k0⟩:=e0;obtain ⟨l,h1,h2⟩:=e;exact ⟨l,h1,aAd h cs l0 l k0 h2⟩
 | .tup cs,_,_,e0,e=>by
  simp only [V] at e0 e ⊢
  obtain ⟨l0,_,k0⟩:=e0;obtain ⟨l,h1,h2⟩:=e;exact ⟨l,h1,aAd h cs l0 l k0 h2⟩
theorem aAd {β0 β:cN} (h:cN.le β0 β):∀ (as:List AV) (v0 vs:List Value),Vs β0 as v0→Vs β as vs→Vs (β0.keep β) as vs
 | [],_,_,_,e=>by simpa [Vs] using e
 | a::as,_,_,e0,e=>by
  simp only [Vs] at e0 e ⊢
  obtain ⟨x,xs,_,k1,k2⟩:=e0
  obtain ⟨v,vs',h0,h1,h2⟩:=e
  exact ⟨v,vs',h0,aBv h a x v k1 h1,aAd h as xs vs' k2 h2⟩
end
theorem cO {β:cN}:∀ {as:List AV} {vs:List Value},Vs β as vs→as.length=vs.length
 | [],vs,e=>by simp [Vs] at e;simp [e]
 | a::as,_,e=>by simp only [Vs] at e;obtain ⟨v,vs',rfl,_,h2⟩:=e;simp [cO h2]
theorem tT {β:cN}:∀ {as:List AV} {vs:List Value},Vs β as vs→∀ (j:Nat) (a:AV),as[j]?=some a→∃ v:Value,vs[j]?=some v∧V β a v
 | [],vs,_,j,a,h=>by simp at h
 | x::as,_,e,0,a,h=>by obtain ⟨v,vs',rfl,h1,_⟩:=e;simp at h;subst h;exact ⟨v,by simp,h1⟩
 | x::as,_,e,j+1,a,h=>by
  obtain ⟨v,vs',rfl,_,h2⟩:=e
  obtain ⟨u,hu,hv⟩:=tT h2 j a (by simpa using h)
  exact ⟨u,by simpa using hu,hv⟩
theorem sP {β:cN}:∀ {as:List AV} {vs:List Value},as.length=vs.length→(∀ (j:Nat) (a:AV),as[j]?=some a→∃ v:Value,vs[j]?=some v∧V β a v)→Vs β as vs
 | [],[],_,_=>by simp [Vs]
 | [],_::_,h,_=>by simp at h
 | _::_,[],h,_=>by simp at h
 | a::as,v::vs,hl,h=>by
  refine ⟨v,vs,rfl,?_,sP (by simpa using hl) fun j b hb=>?_⟩
  ·obtain ⟨u,hu,hv⟩:=h 0 a rfl;simp at hu;subst hu;exact hv
  ·obtain ⟨u,hu,hv⟩:=h (j+1) b (by simpa using hb);exact ⟨u,by simpa using hu,hv⟩
theorem qT {β:cN} {as bs:List AV} {vs us:List Value} (h:Vs β as vs) (k:Vs β bs us):Vs β (as++bs) (vs++us):=by
 induction as generalizing vs with
 | nil=>simp [Vs] at h;subst h;simpa using k
 | cons a as ih=>obtain ⟨v,vs',rfl,h1,h2⟩:=h;exact ⟨v,vs'++us,by simp,h1,ih h2⟩
theorem xL {β:cN} {as:List AV} {vs:List Value} (h:Vs β as vs) (n:Nat):Vs β (as.take n) (vs.take n):=by
 induction as generalizing vs n with
 | nil=>simp [Vs] at h;subst h;simp [Vs]
 | cons a as ih=>
  obtain ⟨v,vs',rfl,h1,h2⟩:=h
  cases n with
  | zero=>simp [Vs]
  | succ n=>exact ⟨v,vs'.take n,by simp,h1,ih h2 n⟩
theorem xP {β:cN} {as:List AV} {vs:List Value} (h:Vs β as vs) (n:Nat):Vs β (as.drop n) (vs.drop n):=by
 induction as generalizing vs n with
 | nil=>simp [Vs] at h;subst h;simp [Vs]
 | cons a as ih=>
  obtain ⟨v,vs',rfl,h1,h2⟩:=h
  cases n with
  | zero=>exact ⟨v,vs',by simp,h1,h2⟩
  | succ n=>simpa using ih h2 n
def aCy:Value→AV
 | .int k n=>.int k n
 | .bool b=>.bool b
 | .string s=>.str s
 | .pointer none=>.nilp
 | .slice none 0 0=>.nils
 | .map none=>.nilm
 | .nilFunc=>.nilf
 | _=>.top
def aLG:Value→AV
 | .agg cs=>.agg (cs.toList.map aCy)
 | v=>aCy v
theorem aHA (β:cN) (v:Value):V β (aCy v) v:=by
 unfold aCy;split<;>simp [V]
theorem aBN (β:cN):∀ vs:List Value,Vs β (vs.map aCy) vs
 | []=>by simp [Vs]
 | v::vs=>⟨v,vs,rfl,aHA β v,aBN β vs⟩
theorem aGB (β:cN) (v:Value):V β (aLG v) v:=by
 unfold aLG;split
 ·rename_i cs;exact ⟨cs.toList,by simp,aBN β _⟩
 ·exact aHA β _
abbrev Bd:=Nat→Prop
def Bd.top (B:Bd) (n:Nat):Prop:=∀ c,n≤c→B c
theorem Bd.top.at {B:Bd} {n:Nat} (h:B.top n):B n:=h _ (Nat.le_refl _)
theorem Bd.top.mono {B:Bd} {n m:Nat} (h:B.top n) (k:n≤m):B.top m:=fun c hc=>h c (Nat.le_trans k hc)
structure bJ (B:Bd) (w w':World):Prop where
 os:w'.os=w.os
 tape:w'.tape=w.tape
 output:w'.output=w.output
 size:w.heap.size≤w'.heap.size
 drawn:w.drawn≤w'.drawn
 block:∀ k,¬ B k→w'.heap[k]?=w.heap[k]?
theorem bJ.refl (B:Bd) (w:World):bJ B w w:=⟨rfl,rfl,rfl,Nat.le_refl _,Nat.le_refl _,fun _ _=>rfl⟩
theorem bJ.trans {B:Bd} {a b c:World} (h:bJ B a b) (k:bJ B b c):bJ B a c:=
 ⟨k.os.trans h.os,k.tape.trans h.tape,k.output.trans h.output,Nat.le_trans h.size k.size,Nat.le_trans h.drawn k.drawn,fun i hi=>(k.block i hi).trans (h.block i hi)⟩
theorem bJ.of {B:Bd} {n:Nat} (hB:B.top n) {w w':World} (h:bJ (fun c=>n≤c) w w'):bJ B w w':=
 ⟨h.os,h.tape,h.output,h.size,h.drawn,fun k hk=>h.block k fun hn=>hk (hB k hn)⟩
theorem bJ.alloc {n:Nat} (w:World) (h:n≤w.heap.size) (o:Obj):bJ (fun c=>n≤c) w (w.alloc o):=
 have b:Below n w (w.alloc o):=(Below.refl _ _).alloc h o
 ⟨b.os,b.tape,b.output,b.size,Nat.le_refl _,fun k hk=>b.block k (Nat.not_le.1 hk)⟩
theorem bJ.allocDrew {n:Nat} (w:World) (h:n≤w.heap.size) (o:Obj):bJ (fun c=>n≤c) w (w.drew.alloc o):=
 have b:Below n w (w.drew.alloc o):=((Below.refl _ _).drew).alloc h o
 ⟨b.os,b.tape,b.output,b.size,Nat.le_succ _,fun k hk=>b.block k (Nat.not_le.1 hk)⟩
theorem bJ.to {n:Nat} {w w':World} (h:bJ (fun c=>n≤c) w w'):Below n w w':=⟨h.os,h.tape,h.output,h.size,fun k hk=>h.block k (Nat.not_le.2 hk)⟩
structure Gh (S:Type) where
 P:Program
 J:S→(Nat→Prop)→Nat→World→Prop
 Y:List Value→S→Bool→S→Prop
 fz:Nat→Nat→Option Value
 stable:∀ s Ys l w w',J s Ys l w→bJ (fun c=>¬ Ys c) w w'→(∀ c o v,fz c o=some v→w'.cell? ⟨c,o,none⟩=some v)→J s Ys l w'
 cells:∀ s Ys l w c o v,J s Ys l w→fz c o=some v→w.cell? ⟨c,o,none⟩=some v
 yield:∀ s Ys l w args b s',J s Ys l w→(∀ c,Ys c→c<w.heap.size)→Y args s b s' →
  YieldAt Fence.wide 0 P l args.toArray w fun e w'=>e=.returned (.bool b)∧∃ Ys',J s' Ys' l w'∧(∀ c,Ys' c→Ys c∨w.heap.size≤c)∧(∀ c,Ys' c→c<w'.heap.size)∧bJ (fun c=>Ys c∨w.heap.size≤c) w w'
inductive AB where
 | cells (cs:List AV)
 | map (es:List (Nat×AV×AV)) (clk:Nat)
 | gh (S:Type) (G:Gh S) (s:S)
 | maps (sz:Nat) (es:List (Nat×AV×AV)) (clk:Nat) (ho:Option Nat)
def aAK:AB→Bool
 | .gh ..=>false
 | .maps ..=>false
 | _=>true
def aHX (ho:Option Nat) (ents:Array MapEntry):Nat→Option Value:=fun j=>match ents[j]? with
 | some e=>bif ho==some j then none else some e.val
 | none=>none
def aJ6 (fz:Nat→Nat→Option Value) (ys:Nat→Prop) (sz:Nat) (w:World) (vs:Nat→Option Value):Prop:=
 ∀ j v,vs j=some v→∃ (base:Option Addr) (n cap:Nat),v=.slice base n cap∧n≤cap∧(cap=n∨∃ (c o:Nat) (full:Array Value) (ty:TypeId),base=some ⟨c,o,none⟩∧ys c ∧
  (∀ q,o+n * sz≤q→q<o+cap * sz→fz c q=none)∧w.heap[c]?=some (.cells full ty (0,0))∧o+cap * sz≤full.size ∧
  ∀ j' v',vs j'=some v'→j'≠j→∀ (o2 n2 cap2:Nat),v'=.slice (some ⟨c,o2,none⟩) n2 cap2→cap2=n2)
theorem aJ6.mono {fz fz':Nat→Nat→Option Value} {ys ys':Nat→Prop} {sz:Nat} {w w':World} {vs:Nat→Option Value} (h:aJ6 fz ys sz w vs) (h1:∀ c,ys c→ys' c) (h2:∀ c q,ys c→fz c q=none→fz' c q=none)
  (h3:∀ c,ys c→w'.heap[c]?=w.heap[c]?):aJ6 fz' ys' sz w' vs:=fun j v hv=>by
 obtain ⟨base,n,cap,e1,e2,e3⟩:=h j v hv
 refine ⟨base,n,cap,e1,e2,e3.imp id fun ⟨c,o,full,ty,g1,g2,g3,g4,g5,g6⟩=>⟨c,o,full,ty,g1,h1 c g2,fun q a b=>h2 c q g2 (g3 q a b),(h3 c g2).trans g4,g5,g6⟩⟩
abbrev bH:=Nat→Option AB
universe u v
def upd {α:Type u} (f:Nat→α) (i:Nat) (x:α):Nat→α:=fun j=>if j=i then x else f j
@[simp] theorem mY {α:Type u} (f:Nat→α) (i:Nat) (x:α):upd f i x i=x:=by simp [upd]
theorem aY {α:Type u} (f:Nat→α) {i j:Nat} (x:α) (h:j≠i):upd f i x j=f j:=by simp [upd,h]
theorem aDG {α:Type u} (f:Nat→α) {i j:Nat} (x y:α) (h:i≠j):upd (upd f i x) j y=upd (upd f j y) i x:=by
 funext k;unfold upd;by_cases h1:k=i<;>by_cases h2:k=j<;>simp_all
def cN.put (β:cN) (id:Nat) (l:Loc):cN:=⟨upd β.loc id (some l),β.fz,β.ys⟩
theorem iV (β:cN) (id:Nat) (l:Loc):(β.put id l) id=some l:=by show upd β.loc id (some l) id=_;simp
theorem uF (β:cN) {id j:Nat} (l:Loc) (h:j≠id):(β.put id l) j=β j:=by show upd β.loc id (some l) j=_;exact aY _ _ h
structure aAC (β:cN) (es:List (Nat×AV×AV)) (ents:Array MapEntry):Prop where
 len:ents.size=es.length
 rel:∀ (j:Nat) (p:Nat×AV×AV),es[j]?=some p→∃ e:MapEntry,ents[j]?=some e∧e.born=p.1∧V β p.2.1 e.key∧V β p.2.2 e.val
def aNS:Nat→List Nat
 | 0=>[0,1,28,2,29,14,24,3,30,22,20,15,25,17,4,8,31,27,13,23,21,19,16,7,26,12,18,6,11,5,10,9]
 | 1=>[0,1,56,2,57,49,28,3,61,58,42,50,38,29,17,4,62,47,59,36,45,43,51,22,53,39,33,30,24,18,12,5,63,55,48,27,60,41,37,16,46,35,44,21,52,32,23,11,54,26,40,15,34,20,31,10,25,14,19,9,13,8,7,6]
 | _=>[]
def aOp (g:Nat):List Value:=(aNS g).map fun n:Nat=>.int .u8 (n:Int)
def GB (φ:Nat→Nat→Option Value):Prop:=∀ g,laid φ g 0 (aOp g)
theorem GB.mono {φ ψ:Nat→Nat→Option Value} (k:GB φ) (h:∀ c o v,φ c o=some v→ψ c o=some v):GB ψ:=fun g=>(k g).mono h
structure cL (β:cN) (H:bH) (w:World) (B:Bd):Prop where
 fz:∀ c o v,β.fz c o=some v→w.cell? ⟨c,o,none⟩=some v
 gb:GB β.fz
 own:∀ i cs,H i=some (.cells cs)→∃ l,β i=some l∧cs.length≤l.k∧(0<l.k→B l.c∧(∀ o,l.o≤o→o<l.o+l.k→β.fz l.c o=none) ∧
  ∃ (full:Array Value) (e:TypeId),w.heap[l.c]?=some (.cells full e (0,0))∧l.o+l.k≤full.size∧∀ (j:Nat) (a:AV),cs[j]?=some a→∃ v:Value,(full[l.o+j]?:Option Value)=some v∧V β a v)
 map:∀ i es clk,H i=some (.map es clk)→∃ l,β i=some l∧0<l.k∧B l.c∧∃ (ents:Array MapEntry),w.heap[l.c]?=some (.map ents clk)∧aAC β es ents
 sep:∀ i j bi bj li lj,i≠j→H i=some bi→H j=some bj→β i=some li→β j=some lj→0<li.k→0<lj.k→li.c≠lj.c
 ys:∀ c,β.ys c→B c∧c<w.heap.size
 yo:∀ i b l,H i=some b→β i=some l→0<l.k→¬ β.ys l.c
 gh:∀ i S (G:Gh S) s,H i=some (.gh S G s)→∃ l,β i=some l∧l.k=0∧G.J s β.ys l.c w∧(∀ c o v,β.ys c→β.fz c o=some v→G.fz c o=some v)∧∀ c o v,G.fz c o=some v→β.fz c o=some v
 gh1:∀ i j S (G:Gh S) s S' (G':Gh S') s',H i=some (.gh S G s)→H j=some (.gh S' G' s')→i=j
 mps:∀ i sz es clk ho,H i=some (.maps sz es clk ho)→∃ l,β i=some l∧0<l.k∧B l.c∧∃ (ents:Array MapEntry),w.heap[l.c]?=some (.map ents clk)∧aAC β es ents∧aJ6 β.fz β.ys sz w (aHX ho ents)
 mp1:∀ i j sz es clk ho b,H i=some (.maps sz es clk ho)→H j=some b→aAK b=false→i=j
theorem aAC.mono {β β':cN} (h:cN.le β β') {es:List (Nat×AV×AV)} {ents:Array MapEntry} (m:aAC β es ents):aAC β' es ents:=
 ⟨m.len,fun j p hp=>let ⟨e,h1,h2,h3,h4⟩:=m.rel j p hp;⟨e,h1,h2,kU h _ _ h3,kU h _ _ h4⟩⟩
theorem cL.locOf {β:cN} {H:bH} {w:World} {B:Bd} (h:cL β H w B) {i:Nat} {b:AB} (hi:H i=some b):∃ l,β i=some l:=by
 cases b with
 | cells cs=>obtain ⟨l,h1,_⟩:=h.own i cs hi;exact ⟨l,h1⟩
 | map es clk=>obtain ⟨l,h1,_⟩:=h.map i es clk hi;exact ⟨l,h1⟩
 | gh S G s=>obtain ⟨l,h1,_⟩:=h.gh i S G s hi;exact ⟨l,h1⟩
 | maps sz es clk ho=>obtain ⟨l,h1,_⟩:=h.mps i sz es clk ho hi;exact ⟨l,h1⟩
theorem cL.lt_of_own {β:cN} {H:bH} {w:World} {B:Bd} (h:cL β H w B) {i:Nat} {b:AB} {l:Loc} (hi:H i=some b) (hl:β i=some l) (hk:0<l.k) :
  l.c<w.heap.size∧B l.c:=by
 cases b with
 | cells cs=>
  obtain ⟨l',h1,_,h3⟩:=h.own i cs hi
  rw [hl] at h1;cases h1
  obtain ⟨hB,_,full,e,hh,_⟩:=h3 hk
  exact ⟨(Array.getElem?_eq_some_iff.1 hh).1,hB⟩
 | map es clk=>
  obtain ⟨l',h1,_,hB,ents,hh,_⟩:=h.map i es clk hi
  rw [hl] at h1;cases h1
  exact ⟨(Array.getElem?_eq_some_iff.1 hh).1,hB⟩
 | gh S G s=>
  obtain ⟨l',h1,h2,_⟩:=h.gh i S G s hi
  rw [hl] at h1;cases h1;omega
 | maps sz es clk ho=>
  obtain ⟨l',h1,_,hB,ents,hh,_⟩:=h.mps i sz es clk ho hi
  rw [hl] at h1;cases h1
  exact ⟨(Array.getElem?_eq_some_iff.1 hh).1,hB⟩
theorem cL.mono {β β':cN} {H:bH} {w:World} {B:Bd} (h:cL β H w B) (k:cN.le β β') (e:β'.fz=β.fz) (ey:β'.ys=β.ys):cL β' H w B where
 fz c o v hv:=h.fz c o v (e ▸ hv)
 gb:=e ▸ h.gb
 own i cs hi:=by
  obtain ⟨l,h1,h2,h3⟩:=h.own i cs hi
  exact ⟨l,k.loc _ _ h1,h2,fun hk=>let ⟨hB,hu,full,e',p,q,r⟩:=h3 hk;⟨hB,by rw [e];exact hu,full,e',p,q,fun j a ha=>let ⟨v,x,y⟩:=r j a ha;⟨v,x,kU k _ _ y⟩⟩⟩
 map i es clk hi:=by
  obtain ⟨l,h1,h2,h3,ents,h4,h5⟩:=h.map i es clk hi
  exact ⟨l,k.loc _ _ h1,h2,h3,ents,h4,h5.mono k⟩
 sep i j bi bj li lj hne hi hj ei ej pi pj:=by
  obtain ⟨l1,e1⟩:=h.locOf hi
  obtain ⟨l2,e2⟩:=h.locOf hj
  have:=gD k e1 ei;subst this
  have:=gD k e2 ej;subst this
  exact h.sep i j bi bj _ _ hne hi hj e1 e2 pi pj
 ys c hc:=h.ys c (ey ▸ hc)
 yo i b l hi ei pi hc:=by
  obtain ⟨l1,e1⟩:=h.locOf hi
  have:=gD k e1 ei;subst this
  exact h.yo i b _ hi e1 pi (ey ▸ hc)
 gh i S G s hi:=by
  obtain ⟨l,h1,h2,h3,h4,h5⟩:=h.gh i S G s hi
  exact ⟨l,k.loc _ _ h1,h2,by rw [ey];exact h3,fun c o v hc hv=>h4 c o v (ey ▸ hc) (e ▸ hv),fun c o v hv=>by rw [e];exact h5 c o v hv⟩
 gh1:=h.gh1
 mps i sz es clk ho hi:=by
  obtain ⟨l,h1,h2,h3,ents,h4,h5,h6⟩:=h.mps i sz es clk ho hi
  exact ⟨l,k.loc _ _ h1,h2,h3,ents,h4,h5.mono k,by rw [e,ey];exact h6⟩
 mp1:=h.mp1
theorem cL.sub {β:cN} {H H':bH} {w:World} {B:Bd} (h:cL β H w B) (k:∀ i b,H' i=some b→H i=some b):cL β H' w B where
 fz:=h.fz
 gb:=h.gb
 own i cs hi:=h.own i cs (k _ _ hi)
 map i es clk hi:=h.map i es clk (k _ _ hi)
 sep i j bi bj li lj hne hi hj:=h.sep i j bi bj li lj hne (k _ _ hi) (k _ _ hj)
 ys:=h.ys
 yo i b l hi:=h.yo i b l (k _ _ hi)
 gh i S G s hi:=h.gh i S G s (k _ _ hi)
 gh1 i j S G s S' G' s' hi hj:=h.gh1 i j S G s S' G' s' (k _ _ hi) (k _ _ hj)
 mps i sz es clk ho hi:=h.mps i sz es clk ho (k _ _ hi)
 mp1 i j sz es clk ho b hi hj:=h.mp1 i j sz es clk ho b (k _ _ hi) (k _ _ hj)
theorem cL.drop {β:cN} {H:bH} {w:World} {B:Bd} (h:cL β H w B) (i:Nat):cL β (upd H i none) w B:=
 h.sub fun j b hj=>by
  by_cases e:j=i
  ·subst e;simp at hj
  ·rw [aY _ _ e] at hj;exact hj
theorem cL.world {β:cN} {H:bH} {w w':World} {B:Bd} (h:cL β H w B) (hfz:∀ c o v,β.fz c o=some v→w'.cell? ⟨c,o,none⟩=some v)
  (hown:∀ i b l,H i=some b→β i=some l→0<l.k→w'.heap[l.c]?=w.heap[l.c]?) (hys:bJ (fun c=>¬ β.ys c) w w'):cL β H w' B where
 fz:=hfz
 gb:=h.gb
 own i cs hi:=by
  obtain ⟨l,h1,h2,h3⟩:=h.own i cs hi
  refine ⟨l,h1,h2,fun hk=>?_⟩
  obtain ⟨hB,hu,full,e,p,q⟩:=h3 hk
  exact ⟨hB,hu,full,e,(hown i _ l hi h1 hk).trans p,q⟩
 map i es clk hi:=by
  obtain ⟨l,h1,h2,h3,ents,h4,h5⟩:=h.map i es clk hi
  exact ⟨l,h1,h2,h3,ents,(hown i _ l hi h1 h2).trans h4,h5⟩
 sep:=h.sep
 ys c hc:=⟨(h.ys c hc).1,Nat.lt_of_lt_of_le (h.ys c hc).2 hys.size⟩
 yo:=h.yo
 gh i S G s hi:=by
  obtain ⟨l,h1,h2,h3,h4,h5⟩:=h.gh i S G s hi
  exact ⟨l,h1,h2,G.stable _ _ _ _ _ h3 hys fun c o v hv=>hfz c o v (h5 c o v hv),h4,h5⟩
 gh1:=h.gh1
 mps i sz es clk ho hi:=by
  obtain ⟨l,h1,h2,h3,ents,h4,h5,h6⟩:=h.mps i sz es clk ho hi
  exact ⟨l,h1,h2,h3,ents,(hown i _ l hi h1 h2).trans h4,h5,h6.mono (fun _ h=>h) (fun _ _ _ h=>h) fun c hc=>hys.block c fun h=>h hc⟩
 mp1:=h.mp1
theorem aBr {w:World} {c o:Nat} {v:Value} (h:w.cell? ⟨c,o,none⟩=some v):c<w.heap.size:=by
 unfold World.cell? at h
 cases hh:w.heap[c]? with
 | none=>simp [hh] at h
 | some b=>exact (Array.getElem?_eq_some_iff.1 hh).1
theorem cL.fz_none {β:cN} {H:bH} {w:World} {B:Bd} (h:cL β H w B) {c:Nat} (hc:w.heap.size≤c) (o:Nat):β.fz c o=none:=by
 cases hh:β.fz c o with
 | none=>rfl
 | some v=>have:=aBr (h.fz _ _ _ hh);omega
theorem bJ.weaken {B B':Bd} {w w':World} (h:bJ B w w') (k:∀ c,B c→B' c):bJ B' w w':=⟨h.os,h.tape,h.output,h.size,h.drawn,fun c hc=>h.block c fun hb=>hc (k c hb)⟩
theorem cL.keep {β:cN} {H:bH} {w w':World} {B:Bd} (h:cL β H w B) (k:bJ (fun c=>w.heap.size≤c) w w'):cL β H w' B:=
 h.world (fun c o v hv=>by
  have:=h.fz c o v hv
  exact (World.cell?_of_block (w:=w) (a:=⟨c,o,none⟩) (k.block _ (Nat.not_le.2 (aBr this)))).trans this) (fun i b l hi hl hk=>k.block _ (Nat.not_le.2 (h.lt_of_own hi hl hk).1))
  ⟨k.os,k.tape,k.output,k.size,k.drawn,fun c hc=>k.block c (Nat.not_le.2 (h.ys c (Classical.not_not.1 hc)).2)⟩
theorem cL.add {β:cN} {H:bH} {w:World} {B:Bd} (h:cL β H w B) {id:Nat} {l:Loc} {cs:List AV} (hl:β id=some l) (hlen:cs.length≤l.k)
  (hb:0<l.k→B l.c∧(∀ o,l.o≤o→o<l.o+l.k→β.fz l.c o=none)∧∃ (full:Array Value) (e:TypeId),w.heap[l.c]?=some (.cells full e (0,0))∧l.o+l.k≤full.size ∧
   ∀ (j:Nat) (a:AV),cs[j]?=some a→∃ v:Value,(full[l.o+j]?:Option Value)=some v∧V β a v)
  (hs:0<l.k→∀ j b lj,j≠id→H j=some b→β j=some lj→0<lj.k→lj.c≠l.c) (hy:0<l.k→¬ β.ys l.c):cL β (upd H id (some (.cells cs))) w B where
 fz:=h.fz
 gb:=h.gb
 own i xs hi:=by
  by_cases e:i=id
  ·subst e;simp [upd] at hi;subst hi;exact ⟨l,hl,hlen,hb⟩
  ·rw [aY _ _ e] at hi;exact h.own i xs hi
 map i es clk hi:=by
  by_cases e:i=id
  ·subst e;simp [upd] at hi
  ·rw [aY _ _ e] at hi;exact h.map i es clk hi
 sep i j bi bj li lj hne hi hj ei ej pi pj:=by
  by_cases e:i=id
  ·subst e
   rw [hl] at ei;cases ei
   have e':j≠i:=fun e=>hne e.symm
   rw [aY _ _ e'] at hj
   exact fun hc=>hs pi j bj lj e' hj ej pj hc.symm
  ·rw [aY _ _ e] at hi
   by_cases e':j=id
   ·subst e'
    rw [hl] at ej;cases ej
    exact hs pj i bi li e hi ei pi
   ·rw [aY _ _ e'] at hj
    exact h.sep i j bi bj li lj hne hi hj ei ej pi pj
 ys:=h.ys
 yo i b li hi ei pi:=by
  by_cases e:i=id
  ·subst e;rw [hl] at ei;cases ei;exact hy pi
  ·rw [aY _ _ e] at hi;exact h.yo i b li hi ei pi
 gh i S G s hi:=by
  by_cases e:i=id
  ·subst e;simp [upd] at hi
  ·rw [aY _ _ e] at hi;exact h.gh i S G s hi
 gh1 i j S G s S' G' s' hi hj:=by
  by_cases e:i=id
  ·subst e;simp [upd] at hi
  ·by_cases e':j=id
   ·subst e';simp [upd] at hj
   ·rw [aY _ _ e] at hi;rw [aY _ _ e'] at hj;exact h.gh1 i j S G s S' G' s' hi hj
 mps i sz es clk ho hi:=by
  by_cases e:i=id
  ·subst e;simp [upd] at hi
  ·rw [aY _ _ e] at hi;exact h.mps i sz es clk ho hi
 mp1 i j sz es clk ho b hi hj hb:=by
  by_cases e:i=id
  ·subst e;simp [upd] at hi
  ·rw [aY _ _ e] at hi
   by_cases e':j=id
   ·subst e';rw [mY] at hj;cases hj;cases hb
   ·rw [aY _ _ e'] at hj;exact h.mp1 i j sz es clk ho b hi hj hb
theorem cL.addMap {β:cN} {H:bH} {w:World} {B:Bd} (h:cL β H w B) {id:Nat} {l:Loc} {es:List (Nat×AV×AV)} {clk:Nat} (hl:β id=some l) (hk:0<l.k) (hB:B l.c)
  {ents:Array MapEntry} (hw:w.heap[l.c]?=some (.map ents clk)) (hm:aAC β es ents)
  (hs:∀ j b lj,j≠id→H j=some b→β j=some lj→0<lj.k→lj.c≠l.c) (hy:¬ β.ys l.c):cL β (upd H id (some (.map es clk))) w B where
 fz:=h.fz
 gb:=h.gb
 own i xs hi:=by
  by_cases e:i=id
  ·subst e;simp [upd] at hi
  ·rw [aY _ _ e] at hi;exact h.own i xs hi
 map i xs ck hi:=by
  by_cases e:i=id
  ·subst e;simp [upd] at hi;obtain ⟨rfl,rfl⟩:=hi;exact ⟨l,hl,hk,hB,ents,hw,hm⟩
  ·rw [aY _ _ e] at hi;exact h.map i xs ck hi
 sep i j bi bj li lj hne hi hj ei ej pi pj:=by
  by_cases e:i=id
  ·subst e
   rw [hl] at ei;cases ei
   have e':j≠i:=fun e=>hne e.symm
   rw [aY _ _ e'] at hj
   exact fun hc=>hs j bj lj e' hj ej pj hc.symm
  ·rw [aY _ _ e] at hi
   by_cases e':j=id
   ·subst e'
    rw [hl] at ej;cases ej
    exact hs i bi li e hi ei pi
   ·rw [aY _ _ e'] at hj
    exact h.sep i j bi bj li lj hne hi hj ei ej pi pj
 ys:=h.ys
 yo i b li hi ei pi:=by
  by_cases e:i=id
  ·subst e;rw [hl] at ei;cases ei;exact hy
  ·rw [aY _ _ e] at hi;exact h.yo i b li hi ei pi
 gh i S G s hi:=by
  by_cases e:i=id
  ·subst e;simp [upd] at hi
  ·rw [aY _ _ e] at hi;exact h.gh i S G s hi
 gh1 i j S G s S' G' s' hi hj:=by
  by_cases e:i=id
  ·subst e;simp [upd] at hi
  ·by_cases e':j=id
   ·subst e';simp [upd] at hj
   ·rw [aY _ _ e] at hi;rw [aY _ _ e'] at hj;exact h.gh1 i j S G s S' G' s' hi hj
 mps i sz es clk ho hi:=by
  by_cases e:i=id
  ·subst e;simp [upd] at hi
  ·rw [aY _ _ e] at hi;exact h.mps i sz es clk ho hi
 mp1 i j sz es clk ho b hi hj hb:=by
  by_cases e:i=id
  ·subst e;simp [upd] at hi
  ·rw [aY _ _ e] at hi
   by_cases e':j=id
   ·subst e';rw [mY] at hj;cases hj;cases hb
   ·rw [aY _ _ e'] at hj;exact h.mp1 i j sz es clk ho b hi hj hb
theorem cL.cell {β:cN} {H:bH} {w:World} {B:Bd} (h:cL β H w B) {i:Nat} {cs:List AV} (hi:H i=some (.cells cs)) {l:Loc} (hl:β i=some l)
  {j:Nat} {a:AV} (ha:cs[j]?=some a):∃ v,w.cell? ⟨l.c,l.o+j,none⟩=some v∧V β a v:=by
 obtain ⟨l',h1,h2,h3⟩:=h.own i cs hi
 rw [hl] at h1;cases h1
 have hj:j<cs.length:=(List.getElem?_eq_some_iff.1 ha).1
 obtain ⟨_,_,full,e,p,_,r⟩:=h3 (by omega)
 obtain ⟨v,x,y⟩:=r j a ha
 exact ⟨v,by simp [World.cell?,p,x],y⟩
theorem cL.freezeRaw {β:cN} {H:bH} {w:World} {B:Bd} (h:cL β H w B) {i g:Nat} {cs:List AV} {l:Loc} (hi:H i=some (.cells cs)) (hl:β i=some l) (hg:β g=none) {m:Nat} (hm:m≤l.k) :
  ∃ β',cN.le β β'∧(∀ j,β' j≠none→β j≠none∨j=g)∧β' g=some ⟨l.c,l.o+m,l.k-m⟩∧cL β' (upd (upd H i none) g (some (.cells []))) w B ∧
   (∀ j,j<m→β'.fz l.c (l.o+j)=w.cell? ⟨l.c,l.o+j,none⟩)∧(∀ c o,β'.fz c o≠none→β.fz c o≠none∨B c):=by
 obtain ⟨l',hl',hlen,hblk⟩:=h.own i cs hi
 rw [hl] at hl';cases hl'
 let φ:Nat→Nat→Option Value:=fun c o=>if c=l.c∧l.o≤o∧o<l.o+m then w.cell? ⟨c,o,none⟩ else β.fz c o
 let β':cN:=⟨upd β.loc g (some ⟨l.c,l.o+m,l.k-m⟩),φ,β.ys⟩
 have hφin:∀ o,l.o≤o→o<l.o+m→φ l.c o=w.cell? ⟨l.c,o,none⟩:=fun o h1 h2=>if_pos ⟨rfl,h1,h2⟩
 have hφout:∀ c o,¬ (c=l.c∧l.o≤o∧o<l.o+m)→φ c o=β.fz c o:=fun c o h1=>if_neg h1
 have hle:cN.le β β':=⟨fun j x hx=>by
   have:j≠g:=fun e=>by rw [e,hg] at hx;cases hx
   show upd β.loc g _ j=_
   rw [aY _ _ this];exact hx,fun c o v hv=>by
   show φ c o=some v
   by_cases hc:c=l.c∧l.o≤o∧o<l.o+m
   ·obtain ⟨rfl,h1,h2⟩:=hc
    have:=(hblk (by omega)).2.1 o h1 (by omega)
    rw [hv] at this;cases this
   ·rw [hφout _ _ hc];exact hv⟩
 have hne:i≠g:=fun e=>by rw [e,hg] at hl;cases hl
 refine ⟨β',hle,fun j hj=>?_,by show upd β.loc g _ g=_;simp,?_,fun j hj=>hφin _ (by omega) (by omega),fun c o hc=>?_⟩
 ·by_cases e:j=g
  ·exact .inr e
  ·left;change upd β.loc g _ j≠none at hj;rw [aY _ _ e] at hj;exact hj
 ·have hfz':∀ c o v,β'.fz c o=some v→w.cell? ⟨c,o,none⟩=some v:=fun c o v hv=>by
   change φ c o=some v at hv
   by_cases hc:c=l.c∧l.o≤o∧o<l.o+m
   ·obtain ⟨rfl,h1,h2⟩:=hc
    rw [hφin _ h1 h2] at hv;exact hv
   ·rw [hφout _ _ hc] at hv;exact h.fz _ _ _ hv
  have h0:=h.drop i
  have h1:cL β' (upd H i none) w B:=by
   constructor
   ·exact hfz'
   ·exact h.gb.mono hle.fz
   ·intro j xs hj
    have hji:j≠i:=fun e=>by subst e;simp at hj
    have hj':=hj
    rw [aY _ _ hji] at hj'
    obtain ⟨lj,e1,e2,e3⟩:=h0.own j xs hj
    refine ⟨lj,hle.loc _ _ e1,e2,fun hk=>?_⟩
    obtain ⟨a1,a2,full,e,a3,a4,a5⟩:=e3 hk
    refine ⟨a1,fun o ho1 ho2=>?_,full,e,a3,a4,fun k a ha=>let ⟨v,x,y⟩:=a5 k a ha;⟨v,x,kU hle _ _ y⟩⟩
    show φ lj.c o=none
    by_cases hc:lj.c=l.c∧l.o≤o∧o<l.o+m
    ·exact absurd hc.1 (h.sep j i _ _ lj l hji hj' hi e1 hl hk (by omega))
    ·rw [hφout _ _ hc];exact a2 o ho1 ho2
   ·intro j es clk hj
    obtain ⟨lj,e1,e2,e3,ents,e4,e5⟩:=h0.map j es clk hj
    exact ⟨lj,hle.loc _ _ e1,e2,e3,ents,e4,e5.mono hle⟩
   ·intro a b ba bb la lb hne' ha hb ea eb pa pb
    obtain ⟨l1,f1⟩:=h0.locOf ha
    obtain ⟨l2,f2⟩:=h0.locOf hb
    have:=gD hle f1 ea;subst this
    have:=gD hle f2 eb;subst this
    exact h0.sep a b ba bb _ _ hne' ha hb f1 f2 pa pb
   ·exact h.ys
   ·intro j b lj hj ej pj
    obtain ⟨l1,f1⟩:=h0.locOf hj
    have:=gD hle f1 ej;subst this
    exact h0.yo j b _ hj f1 pj
   ·intro j S G s hj
    obtain ⟨lj,f1,f2,f3,f4,f5⟩:=h0.gh j S G s hj
    refine ⟨lj,hle.loc _ _ f1,f2,f3,fun c o v hc hv=>?_,fun c o v hv=>hle.fz c o v (f5 c o v hv)⟩
    change φ c o=some v at hv
    by_cases hh:c=l.c∧l.o≤o∧o<l.o+m
    ·obtain ⟨rfl,g1,g2⟩:=hh
     exact absurd hc (h.yo i _ l hi hl (by omega))
    ·rw [hφout _ _ hh] at hv;exact f4 c o v hc hv
   ·exact h0.gh1
   ·intro j sz es clk ho hj
    obtain ⟨lj,e1,e2,e3,ents,e4,e5,e6⟩:=h0.mps j sz es clk ho hj
    refine ⟨lj,hle.loc _ _ e1,e2,e3,ents,e4,e5.mono hle,e6.mono (fun _ h=>h) (fun c q hc hq=>?_) fun _ _=>rfl⟩
    show φ c q=none
    by_cases hh:c=l.c∧l.o≤q∧q<l.o+m
    ·obtain ⟨rfl,g1,g2⟩:=hh
     exact absurd hc (h.yo i _ l hi hl (by omega))
    ·rw [hφout _ _ hh];exact hq
   ·exact h0.mp1
  refine h1.add (l:=⟨l.c,l.o+m,l.k-m⟩) (by show upd β.loc g _ g=_;simp) (by simp) (fun hk=>?_) (fun hk j b lj hj hb hlj hkj=>?_) (fun hk=>by simp only at hk ⊢;exact h.yo i _ l hi hl (by omega))
  ·simp only at hk
   obtain ⟨a1,a2,full,e,a3,a4,_⟩:=hblk (by omega)
   refine ⟨a1,fun o ho1 ho2=>?_,full,e,a3,by simp only;omega,fun k a ha=>by simp at ha⟩
   show φ l.c o=none
   simp only at ho1 ho2
   rw [hφout _ _ (by omega)];exact a2 o (by omega) (by omega)
  ·simp only at hk ⊢
   have hji:j≠i:=fun e=>by subst e;simp at hb
   rw [aY _ _ hji] at hb
   obtain ⟨l1,f1⟩:=h.locOf hb
   have:=gD hle f1 hlj;subst this
   exact h.sep j i b _ _ l hji hb hi f1 hl hkj (by omega)
 ·by_cases hh:c=l.c∧l.o≤o∧o<l.o+m
  ·exact .inr (hh.1 ▸ (hblk (by omega)).1)
  ·left;change φ c o≠none at hc;rwa [hφout _ _ hh] at hc
end Go.Eng
namespace Go.Eng
open Go.RowKit (Below)
def evA (sl:Nat→AV):Operand→AV
 | .tmp t=>sl t
 | .const v=>aLG v
 | .global _=>.top
 | .func f=>.fn f [] []
def AV.cells:AV→Option (List AV)
 | .agg cs=>some cs
 | .tup _=>none
 | .und=>none
 | .top=>none
 | a=>some [a]
def AV.flat:AV→Bool
 | .agg _ | .tup _ | .und | .top=>false
 | _=>true
def aGb (P:Program) (t:TypeId):Option Bool:=
 match P.underlying t with
 | some (.struct _) | some (.array _ _)=>some true
 | some _=>some false
 | none=>none
def szT (P:Program) (t:TypeId):Option Nat:=(P.info? t).map (·.size)
def aAH (P:Program) (t:TypeId):Option (List AV):=(P.info? t).bind fun i=>i.zero.map fun v=>v.cells.toList.map aCy
def dZ (cs:List AV) (o:Nat) (vs:List AV):List AV:=cs.take o++vs++cs.drop (o+vs.length)
def vD (P:Program) (t:TypeId) (cs:List AV) (off:Nat):Option AV:=
 match aGb P t with
 | some true=>(szT P t).bind fun n=>if off+n≤cs.length then some (.agg ((cs.drop off).take n)) else none
 | some false=>cs[off]?
 | none=>none
def aIA (op:BinOp) (x y:AV):Option AV:=
 match op,x,y with
 | .add,.int k a,.int k' b=>if k=k' then some (.int k (k.wrap (a+b))) else none
 | .sub,.int k a,.int k' b=>if k=k' then some (.int k (k.wrap (a-b))) else none
 | .mul,.int k a,.int k' b=>if k=k' then some (.int k (k.wrap (a * b))) else none
 | .quo,.int k a,.int k' b=>if k=k'∧b≠0 then some (.int k (k.wrap (a.tdiv b))) else none
 | .rem,.int k a,.int k' b=>if k=k'∧b≠0 then some (.int k (a.tmod b)) else none
 | .and,.int k a,.int k' b=>if k=k' then some (.int k (k.wrap (BitVec.ofInt k.bits a&&&BitVec.ofInt k.bits b).toNat)) else none
 | .or,.int k a,.int k' b=>if k=k' then some (.int k (k.wrap (BitVec.ofInt k.bits a|||BitVec.ofInt k.bits b).toNat)) else none
 | .xor,.int k a,.int k' b=>if k=k' then some (.int k (k.wrap (BitVec.ofInt k.bits a ^^^ BitVec.ofInt k.bits b).toNat)) else none
 | .andNot,.int k a,.int k' b=>if k=k' then some (.int k (k.wrap (BitVec.ofInt k.bits a&&&~~~BitVec.ofInt k.bits b).toNat)) else none
 | .shl,.int k a,.int _ b=>if 0≤b then some (.int k (k.wrap (a * 2 ^ (min b.toNat k.bits)))) else none
 | .shr,.int k a,.int _ b=>if 0≤b then some (.int k (a.fdiv (2 ^ (min b.toNat k.bits)))) else none
 | .eql,.int k a,.int k' b=>if k=k' then some (.bool (a==b)) else none
 | .neq,.int k a,.int k' b=>if k=k' then some (.bool (a != b)) else none
 | .lss,.int k a,.int k' b=>if k=k' then some (.bool (decide (a<b))) else none
 | .leq,.int k a,.int k' b=>if k=k' then some (.bool (decide (a≤b))) else none
 | .gtr,.int k a,.int k' b=>if k=k' then some (.bool (decide (a>b))) else none
 | .geq,.int k a,.int k' b=>if k=k' then some (.bool (decide (a≥b))) else none
 | _,_,_=>none
def unA (op:UnOp) (x:AV):Option AV:=
 match op,x with
 | .neg,.int k n=>some (.int k (k.wrap (0-n)))
 | .xor,.int k n=>some (.int k (k.wrap (BitVec.ofInt k.bits (if k.signed then -1 else k.max) ^^^ BitVec.ofInt k.bits n).toNat))
 | .not,.bool b=>some (.bool !b)
 | _,_=>none
def aJ7 (P:Program) (src dst:TypeId) (x:AV):Option AV:=
 match P.underlying src,P.underlying dst,x with
 | some (.int _),some (.int k),.int _ n=>some (.int k (k.wrap n))
 | _,_,_=>none
def aFC (P:Program) (t:TypeId) (x:AV) (f:Nat):Option AV:=
 match P.underlying t,x with
 | some (.struct fs),.agg cs=>(fs[f]?).bind fun fd=>vD P fd.type cs fd.offset
 | _,_=>none
def aFo (P:Program) (t:TypeId) (x i:AV):Option AV:=
 match P.underlying t,x,i with
 | some (.array len e),.agg cs,.int _ n=>if 0≤n∧n<len then (szT P e).bind fun sz=>vD P e cs (n.toNat * sz) else none
 | _,_,_=>none
def tS (P:Program) (t:TypeId) (x:AV) (f:Nat):Option AV:=
 match P.underlying t,x with
 | some (.struct fs),.ptr i o=>(fs[f]?).bind fun fd=>(szT P fd.type).bind fun n=>if n=0 then none else some (.ptr i (o+fd.offset))
 | some (.struct fs),.ep cs o=>(fs[f]?).bind fun fd=>(szT P fd.type).bind fun n=>if n=0 then none else some (.ep cs (o+fd.offset))
 | _,_=>none
def oN (P:Program) (t:TypeId) (x i:AV):Option AV:=
 match P.underlying t,x,i with
 | some (.array len e),.ptr id o,.int _ n=>if 0≤n∧n<len then (szT P e).bind fun sz=>some (.ptr id (o+n.toNat * sz)) else none
 | some (.array len e),.ep cs o,.int _ n=>if 0≤n∧n<len then (szT P e).bind fun sz=>some (.ep cs (o+n.toNat * sz)) else none
 | some (.slice e),.sl id o len _ s,.int _ n=>if 0≤n∧n<len then (szT P e).bind fun sz=>if sz=s then some (.ptr id (o+n.toNat * sz)) else none else none
 | some (.slice e),.so id o len s,.int _ n=>if 0≤n∧n<len then (szT P e).bind fun sz=>if sz=s then some (.ptr id (o+n.toNat * sz)) else none else none
 | some (.slice e),.lst _ s len f,.int _ n=>if 0≤n∧n<len then (szT P e).bind fun sz=>if sz=s then ((f n.toNat).cells).map fun cs=>.ep cs 0 else none else none
 | _,_,_=>none
def fA:Option AV→Nat→Option Nat
 | none,d=>some d
 | some (.int _ n),_=>if 0≤n then some n.toNat else none
 | _,_=>none
def slM (hi:Option AV) (m:LM):LM:=match hi with
 | none=>m
 | some _=>.free
def aFL (P:Program) (t:TypeId) (x:AV) (lo hi mx:Option AV):Option AV:=
 if mx.isSome=true∧hi.isNone=true then none else
 match P.underlying t,x with
 | some (.slice e),.sl id o len cap s=>
  (fA mx cap).bind fun m=>(fA hi len).bind fun h=>(fA lo 0).bind fun l=>(szT P e).bind fun sz=>
   if l≤h∧h≤m∧m≤cap∧sz=s then some (.sl id (o+l * sz) (h-l) (m-l) s) else none
 | some (.slice e),.so id o len s=>
  (fA hi len).bind fun h=>(fA lo 0).bind fun l=>(szT P e).bind fun sz=>
   match mx with
   | none=>if l≤h∧h≤len∧sz=s then some (.so id (o+l * sz) (h-l) s) else none
   | some m=>(fA (some m) 0).bind fun m=>if l≤h∧h≤m∧m≤len∧sz=s then some (.sl id (o+l * sz) (h-l) (m-l) s) else none
 | some (.slice e),.lst m' s len f=>
  (fA hi len).bind fun h=>(fA lo 0).bind fun l=>(szT P e).bind fun sz=>
   match mx with
   | none=>if l≤h∧h≤len∧sz=s then some (.lst (slM hi m') s (h-l) fun j=>f (l+j)) else none
   | some m=>(fA (some m) 0).bind fun m=>if l≤h∧h=m∧m≤len∧sz=s then some (.lst .cap s (h-l) fun j=>f (l+j)) else none
 | some (.slice e),.nils=>
  (fA mx 0).bind fun m=>(fA hi 0).bind fun h=>(fA lo 0).bind fun l=>(szT P e).bind fun _=>if l≤h∧h≤m∧m=0 then some .nils else none
 | _,_=>none
def xR (place:Nat→Option (Nat×Nat)) (cs:List AV):List (Nat×AV)→Option (List AV)
 | []=>some cs
 | (i,v)::rest=>
  match place i,v.cells with
  | some (off,size),some xs=>if xs.length=size∧off+size≤cs.length then xR place (dZ cs off xs) rest else none
  | _,_=>none
def wB (zs:List AV) (n:Nat):List AV:=(List.replicate n zs).flatten
def aCC (P:Program) (t:TypeId) (parts:List (Nat×AV)):Option AV:=
 (aAH P t).bind fun z=>
  match P.underlying t with
  | some (.struct fs)=>(fs.toList.mapM fun f=>(szT P f.type).map fun s=>(f.offset,s)).bind fun pl=>(xR (fun i=>pl[i]?) z parts).map .agg
  | some (.array _ e)=>(szT P e).bind fun sz=>(xR (fun i=>some (i * sz,sz)) z parts).map .agg
  | _=>none
def sG (P:Program) (t:TypeId) (len:Nat) (parts:List (Nat×AV)):Option (TypeId×Nat×List AV):=
 match P.underlying t with
 | some (.slice e)=>(szT P e).bind fun sz=>(aAH P e).bind fun z=>
   if len * sz≤2 ^ 24∧0<sz∧z.length=sz then (xR (fun i=>some (i * sz,sz)) (wB z len) parts).map fun cs=>(e,sz,cs) else none
 | _=>none
def okE (P:Program) (e:TypeId) (sz:Nat) (a:AV):Prop:=aGb P e=some false→sz=1∧a.flat=true
def Wk (a b:AV):Prop:=∀ β v,V β a v→V β b v
def WkL (as bs:List AV):Prop:=∀ β vs,Vs β as vs→Vs β bs vs
def sR (P:Program) (t:TypeId) (len:Nat) (parts:List (Nat×AV)) (id:Nat) (r:AV) (blk:AB):Prop:=
 ∃ e sz cs,sG P t len parts=some (e,sz,cs) ∧
  ((∃ cs',Wk (.sl id 0 len len sz) r∧WkL cs cs'∧blk=.cells cs')∨(∃ f,r=.lst .cap sz len f∧blk=.cells []∧∀ j,j<len→∃ a,vD P e cs (j * sz)=some a∧okE P e sz a∧Wk a (f j)))
def qG (P:Program) (t:TypeId) (l c:AV) (id:Nat):Option (AV×AB):=
 match P.underlying t,l,c with
 | some (.slice e),.int _ n,.int _ m=>(szT P e).bind fun sz=>(aAH P e).bind fun z=>((P.info? e).map (·.bytes)).bind fun by_=>
   if 0≤n∧n≤m∧m≤1048576∧by_≤1048576∧0<sz∧z.length=sz then some (.sl id 0 n.toNat m.toNat sz,.cells (wB z m.toNat)) else none
 | _,_,_=>none
def aNo (P:Program) (t:TypeId) (x:AV):Option AV:=
 match P.underlying t,x with
 | some (.slice _),.sl _ _ n _ _=>some (.int .i64 n)
 | some (.slice _),.so _ _ n _=>some (.int .i64 n)
 | some (.slice _),.lst _ _ n _=>some (.int .i64 n)
 | some (.slice _),.nils=>some (.int .i64 0)
 | some .string,.str s=>some (.int .i64 s.size)
 | some (.array n _),_=>some (.int .i64 n)
 | _,_=>none
def aOv:List AV→Option AV
 | []=>none
 | x::rest=>rest.foldlM (fun a b=>match a,b with | .int k x,.int _ y=>some (.int k (if y<x then y else x)) | _,_=>none) x
def aOs:List AV→Option AV
 | []=>none
 | x::rest=>rest.foldlM (fun a b=>match a,b with | .int k x,.int _ y=>some (.int k (if y>x then y else x)) | _,_=>none) x
def tJ (P:Program) (lim:Nat) (t:TypeId) (p:AV) (H:bH):Option AV:=
 match p with
 | .ptr i o=>if i<lim then
   match H i with
   | some (.cells cs)=>vD P t cs o
   | _=>none
  else none
 | .ep cs o=>vD P t cs o
 | _=>none
def aFp (P:Program) (t:TypeId) (p v:AV) (H:bH):Option (AV×bH):=
 match p,v.cells with
 | .ptr i o,some xs=>
  match H i with
  | some (.cells cs)=>(szT P t).bind fun n=>if xs.length=n∧o+n≤cs.length∧xs.all AV.flat=true then some (.und,upd H i (some (.cells (dZ cs o xs)))) else none
  | _=>none
 | _,_=>none
def aIo (a:AV):Bool:=match a.cells with | some cs=>cs.all AV.flat | none=>false
def lL (a:AV):List AV:=match a.cells with | some cs=>cs | none=>[]
def cellsOf (H:bH) (sz:Nat):AV→Option (List AV)
 | .nils=>some []
 | .sl i o n _ s=>match H i with
  | some (.cells cs)=>if s=sz∧o+n * sz≤cs.length then some ((cs.drop o).take (n * sz)) else none
  | _=>none
 | .so i o n s=>match H i with
  | some (.cells cs)=>if s=sz∧o+n * sz≤cs.length then some ((cs.drop o).take (n * sz)) else none
  | _=>none
 | .lst _ s n f=>if s=sz then some ((List.range n).flatMap fun j=>lL (f j)) else none
 | _=>none
def qJ:AV→Prop
 | .lst _ _ n f=>∀ j,j<n→(f j).cells≠none
 | _=>True
def aL6:AV→Option Nat
 | .nils=>some 0
 | .sl _ _ n _ _=>some n
 | .so _ _ n _=>some n
 | .lst _ _ n _=>some n
 | _=>none
def pH (P:Program) (t u:TypeId) (s x:AV) (id:Nat) (H:bH):Option (AV×bH):=
 match P.underlying t,P.underlying u with
 | some (.slice e),some (.slice _)=>(szT P e).bind fun sz=>((P.info? e).map (·.bytes)).bind fun by_=>(aL6 x).bind fun k=>(cellsOf H sz x).bind fun xs=>(aAH P e).bind fun z=>
  if 0<sz∧0<by_∧by_≤1048576∧xs.all AV.flat=true∧z.length=sz then
   match s with
   | .nils=>if k≤1048576 then some (.so id 0 k sz,upd H id (some (.cells xs))) else none
   | .so i o n s'=>match H i with
    | some (.cells cs)=>if s'=sz∧o=0∧n * sz≤cs.length∧n+k≤1048576 then some (.so id 0 (n+k) sz,upd (upd H i none) id (some (.cells (cs.take (n * sz)++xs)))) else none
    | _=>none
   | .sl i o n m s'=>match H i with
    | some (.cells cs)=>if s'=sz∧o+n * sz≤cs.length∧n≤m∧n+k≤1048576 then
      (if n+k≤m then some (.sl i o (n+k) m sz,upd H i (some (.cells (dZ cs (o+n * sz) xs))))
      else some (.so id 0 (n+k) sz,upd H id (some (.cells ((cs.drop o).take (n * sz)++xs))))) else none
    | _=>none
   | .lst .cap s' n f=>if s'=sz∧0<k∧n+k≤1048576 then some (.so id 0 (n+k) sz,upd H id (some (.cells (((List.range n).flatMap fun j=>lL (f j))++xs)))) else none
   | _=>none
  else none
 | _,_=>none
inductive aIv (sz:Nat):AV→Nat→(Nat→AV)→Prop where
 | nil (f:Nat→AV):aIv sz .nils 0 f
 | lst (m:LM) (n:Nat) (f:Nat→AV):aIv sz (.lst m sz n f) n f
def aAm (P:Program) (t u:TypeId) (s x:AV) (id:Nat) (H:bH) (r:AV) (H':bH):Prop:=
 ∃ e e' sz by_ z n k f fx fr,P.underlying t=some (.slice e)∧P.underlying u=some (.slice e')∧szT P e=some sz∧(P.info? e).map (·.bytes)=some by_∧aAH P e=some z ∧
  0<sz∧0<by_∧by_≤1048576∧z.length=sz∧n+k≤1048576∧aIv sz s n f∧aIv sz x k fx∧(∀ j,j<k→aIo (fx j)=true) ∧
  r=.lst (.tok id) sz (n+k) fr∧(∀ j,j<n→fr j=f j)∧(∀ j,j<k→fr (n+j)=fx j) ∧
  ((s=.nils∧H'=upd H id (some (.cells [])))∨(s=.lst .cap sz n f∧H'=upd H id (some (.cells [])))∨(∃ g cs,s=.lst (.tok g) sz n f∧H g=some (.cells cs)∧H'=upd (upd H g none) id (some (.cells []))))
def EqV (P:Program) (t:TypeId) (x y:AV) (b:Bool):Prop:=∀ (β:cN) (w:World) (u v:Value) (ox oy:Operand),V β x u→V β y v →
 (do eqGuard .eql t ox oy u v;binOp .eql t u v:Sem Value).run P w=.ok (.bool b) w∧(do eqGuard .neq t ox oy u v;binOp .neq t u v:Sem Value).run P w=.ok (.bool !b) w
def EqR (P:Program) (op:BinOp) (t:TypeId) (x y r:AV):Prop:=∃ b,EqV P t x y b∧((op=.eql∧r=.bool b)∨(op=.neq∧r=.bool !b))
inductive Eff where
 | pure (r:AV→Prop)
 | look (r:bH→AV→Prop)
 | alloc (r:AV→AB→Prop)
 | write (r:bH→AV→bH→Prop)
 | put (r:bH→AV→bH→Prop)
abbrev Tbl:=FuncId→List AV→bH→Nat→AV→bH→Prop
def tH (ops:Array Oper) (t:Tmp):Bool:=ops.toList.any fun o=>match o.op,o.dst with
 | .buildSlice ..,some d=>d==t
 | _,_=>false
def aAZ (bt:Tmp→Bool) (args:Array Operand):Bool:=match args.toList with
 | .tmp t::_=>bt t
 | _=>false
structure Ctx where
 P:Program
 T:Tbl
 pf:FuncId→Bool
 b:Nat
 n:Nat
 lim:Nat
 bt:Tmp→Bool
theorem Wk.refl (a:AV):Wk a a:=fun _ _ h=>h
theorem WkL.refl (as:List AV):WkL as as:=fun _ _ h=>h
def aDO (P:Program) (t u:TypeId) (s x:AV) (id:Nat) (r:AV) (blk:AB):Prop:=
 ∃ r0,((qJ s∧qJ x∧∀ H,pH P t u s x id H=some (r0,upd H id (some blk)))∨∀ H,aAm P t u s x id H r0 (upd H id (some blk)))∧Wk r0 r
def aMO (P:Program) (t:TypeId):Option (IntKind×TypeId):=
 match P.underlying t with
 | some (.map k e)=>match P.underlying k with
  | some (.int q)=>some (q,e)
  | _=>none
 | _=>none
def aJI (P:Program) (t:TypeId):Option AV:=(P.info? t).bind fun i=>i.zero.map aLG
def wZ (q:IntKind) (L:List (Nat×Int×AV)):List (Nat×AV×AV):=L.map fun p=>(p.1,.int q p.2.1,p.2.2)
def jI {α:Type} (n:Int) (L:List (Nat×Int×α)):Option (Nat×Int×α):=L.find? fun p=>p.2.1==n
def xX {α:Type} (n:Int) (v:α) (L:List (Nat×Int×α)) (clk:Nat):List (Nat×Int×α):=
 match L.findIdx? fun p=>p.2.1==n with
 | some j=>L.modify j fun p=>(p.1,p.2.1,v)
 | none=>L++[(clk,n,v)]
def aCA {α:Type} (n:Int) (L:List (Nat×Int×α)) (clk:Nat):Nat:=
 match L.findIdx? fun p=>p.2.1==n with
 | some _=>clk
 | none=>clk+1
def aCR {α:Type} (n:Int) (L:List (Nat×Int×α)):Nat:=match L.findIdx? fun p=>p.2.1==n with
 | some j=>j
 | none=>L.length
def aOB {α:Type} (n:Int) (L:List (Nat×Int×α)):List (Nat×Int×α):=
 match L.findIdx? fun p=>p.2.1==n with
 | some j=>L.eraseIdx j
 | none=>L
def mapAt (H:bH) (i:Nat) (es:List (Nat×AV×AV)) (clk:Nat):Prop:=H i=some (.map es clk)∨∃ sz ho,H i=some (.maps sz es clk ho)
def aBi (P:Program) (lim:Nat) (t:TypeId) (x k:AV) (ok:Bool) (H:bH) (r:AV):Prop:=
 ∃ q e z n v b,aMO P t=some (q,e)∧aJI P e=some z∧k=.int q n ∧
  ((x=.nilm∧v=z∧b=false)∨∃ i L clk,x=.mp i∧i<lim∧mapAt H i (wZ q L) clk ∧
   match jI n L with
   | some p=>v=p.2.2∧b=true
   | none=>v=z∧b=false)∧Wk (if ok then .tup [v,.bool b] else v) r
def aOV (P:Program) (t:TypeId) (m k v:AV) (H:bH) (r:AV) (H':bH):Prop:=
 ∃ q e n i L clk,aMO P t=some (q,e)∧k=.int q n∧m=.mp i∧r=.und∧((H i=some (.map (wZ q L) clk)∧H'=upd H i (some (.map (wZ q (xX n v L clk)) (aCA n L clk)))) ∨
  ∃ sz,H i=some (.maps sz (wZ q L) clk (some (aCR n L)))∧H'=upd H i (some (.maps sz (wZ q (xX n v L clk)) (aCA n L clk) (some (aCR n L)))))
def aRq (P:Program) (t:TypeId) (m k:AV) (H:bH) (r:AV) (H':bH):Prop:=
 ∃ q e z n i L clk,aMO P t=some (q,e)∧aJI P e=some z∧k=.int q n∧m=.mp i∧H i=some (.map (wZ q L) clk) ∧
  match jI n L with
  | some p=>r=.tup [p.2.2,.int .i64 p.1]∧H'=upd H i (some (.map (wZ q L) clk))
  | none=>r=.tup [z,.int .i64 clk]∧H'=upd H i (some (.map (wZ q (L++[(clk,n,z)])) (clk+1)))
def aRl (m s v:AV) (H:bH) (r:AV) (H':bH):Prop:=
 ∃ b i es clk j,m=.mp i∧s=.int .i64 b∧H i=some (.map es clk)∧es.findIdx? (fun p=>(p.1:Int)==b)=some j∧r=.und∧H'=upd H i (some (.map (es.modify j fun p=>(p.1,p.2.1,v)) clk))
def aRm (P:Program) (t:TypeId) (m k:AV) (H:bH) (r:AV) (H':bH):Prop:=
 ∃ q e n i L clk,aMO P t=some (q,e)∧k=.int q n∧m=.mp i∧r=.tup []∧((H i=some (.map (wZ q L) clk)∧H'=upd H i (some (.map (wZ q (aOB n L)) clk))) ∨
  ∃ sz,H i=some (.maps sz (wZ q L) clk none)∧H'=upd H i (some (.maps sz (wZ q (aOB n L)) clk none)))
def aNg (P:Program) (lim:Nat) (t:TypeId) (x:AV) (H:bH) (r:AV):Prop:=
 aNo P t x=some r∨((aMO P t).isSome=true∧((x=.nilm∧r=.int .i64 0)∨∃ i es clk,x=.mp i∧i<lim∧mapAt H i es clk∧r=.int .i64 es.length))
def aRn (P:Program) (j:Nat) (args:List AV) (H:bH) (r:AV) (H':bH):Prop:=
 ∃ (S:Type) (G:Gh S) (s:S) (b:Bool) (s':S) (av:List Value),H j=some (.gh S G s)∧G.P=P∧(∀ β vs,Vs β args vs→vs=av)∧G.Y av s b s'∧r=.bool b∧H'=upd H j (some (.gh S G s'))
def AV.loose (r:AV):Prop:=∀ (β:cN) (loc':Nat→Option Loc) (ys':Nat→Prop) (v:Value),V β r v→V ⟨loc',β.fz,ys'⟩ r v
def afR (T:Tbl) (f:FuncId) (args:List AV) (id:Nat) (r:AV) (blk:AB):Prop:=
 ∃ args' sz n cs,WkL args args'∧r=.so id 0 n sz∧blk=.cells cs∧(∀ a∈cs,a.loose)∧∀ b H,T f args' H b (.so b 0 n sz) (upd H b (some (.cells cs)))
def aFs (c:Ctx) (i:Nat) (f:AV) (args:List AV) (H:bH) (r:AV) (H':bH):Prop:=
 match f with
 | .fn g first caps=>∃ args',WkL (first++args++caps) args'∧c.T g args' H (c.b+i * 64) r H'
 | .yld j=>aRn c.P j args H r H'
 | _=>False
def evG (sl:Nat→AV):Operand→AV
 | .global g=>.ep ((aNS g).map fun n:Nat=>.int .u8 (n:Int)) 0
 | x=>evA sl x
def opA (c:Ctx) (i:Nat) (o:Oper) (sl:Nat→AV):Eff:=
 match o.op with
 | .move x | .assign x=>.pure (fun r=>r=evA sl x)
 | .pick q a b=>.pure (fun r=>match evA sl q with | .bool t=>r=if t then evA sl a else evA sl b | _=>False)
 | .alloc t=>.alloc (fun r blk=>∃ z,aAH c.P t=some z∧r=.ptr (c.b+i * 64) 0∧blk=.cells z)
 | .box _ x=>.alloc (fun r blk=>∃ z,(evA sl x).cells=some z∧r=.ptr (c.b+i * 64) 0∧blk=.cells z)
 | .build t ps=>.pure (fun r=>aCC c.P t (ps.toList.map fun p=>(p.1,evA sl p.2))=some r)
 | .buildSlice t n ps=>.alloc (sR c.P t n (ps.toList.map fun p=>(p.1,evA sl p.2)) (c.b+i * 64))
 | .load t p=>.look (fun H r=>tJ c.P c.lim t (evA sl p) H=some r)
 | .store t p v=>.write (fun H r H'=>aFp c.P t (evA sl p) (evA sl v) H=some (r,H'))
 | .nilCheck x=>.pure (fun r=>r=evA sl x∧match evA sl x with | .ptr _ _ | .ep _ _ | .fn _ _ _=>True | _=>False)
 | .binOp op t x y _=>.pure (fun r=>aIA op (evA sl x) (evA sl y)=some r∨EqR c.P op t (evA sl x) (evA sl y) r)
 | .unOp op _ x=>.pure (fun r=>unA op (evA sl x)=some r)
 | .convert s d x=>.pure (fun r=>aJ7 c.P s d (evA sl x)=some r)
 | .makeFunc fn first caps=>.pure (fun r=>match fn with | .func f=>r=.fn f (first.toList.map (evA sl)) (caps.toList.map (evA sl)) | _=>False)
 | .makeSlice t l k=>.alloc (fun r blk=>∃ r0,qG c.P t (evA sl l) (evA sl k) (c.b+i * 64)=some (r0,blk)∧Wk r0 r)
 | .slice t x lo hi mx=>.pure (fun r=>∃ r0,aFL c.P t (evA sl x) (lo.map (evA sl)) (hi.map (evA sl)) (mx.map (evA sl))=some r0∧Wk r0 r)
 | .fieldAddr t x f=>.pure (fun r=>tS c.P t (evA sl x) f=some r)
 | .field t x f=>.pure (fun r=>aFC c.P t (evA sl x) f=some r)
 | .indexAddr t x k=>.pure (fun r=>oN c.P t (evG sl x) (evA sl k)=some r)
 | .index t x k=>.pure (fun r=>aFo c.P t (evA sl x) (evA sl k)=some r)
 | .extract x k=>.pure (fun r=>match evA sl x with | .tup vs=>vs[k]?=some r | _=>False)
 | .makeMap _ none=>.alloc (fun r blk=>r=.mp (c.b+i * 64)∧blk=.map [] 0)
 | .lookup t x k ok=>.look (fun H r=>aBi c.P c.lim t (evA sl x) (evA sl k) ok H r)
 | .mapUpdate t m k v | .insert t m k v=>.write (fun H r H'=>aOV c.P t (evA sl m) (evA sl k) (evA sl v) H r H')
 | .mapEntry t m k=>.write (fun H r H'=>aRq c.P t (evA sl m) (evA sl k) H r H')
 | .entryStore _ m s v=>.write (fun H r H'=>aRl (evA sl m) (evA sl s) (evA sl v) H r H')
 | .call { callee:=.builtin .delete,args,argTypes }=>.write (fun H r H'=>match args.toList,argTypes.toList with
   | [m,k],[t,_]=>aRm c.P t (evA sl m) (evA sl k) H r H'
   | _,_=>False)
 | .call { callee:=.builtin .len,args,argTypes }=>.look (fun H r=>match args.toList,argTypes.toList with | [x],t::_=>aNg c.P c.lim t (evA sl x) H r | _,_=>False)
 | .call { callee:=.builtin .min,args,.. }=>.pure (fun r=>aOv (args.toList.map (evA sl))=some r)
 | .call { callee:=.builtin .max,args,.. }=>.pure (fun r=>aOs (args.toList.map (evA sl))=some r)
 | .call { callee:=.builtin .append,args,argTypes }=>if aAZ c.bt args=true then .alloc (fun r blk=>match args.toList,argTypes.toList with
   | [s,x],[t,u]=>aDO c.P t u (evA sl s) (evA sl x) (c.b+i * 64) r blk
   | _,_=>False)
  else .put (fun H r H'=>match args.toList,argTypes.toList with
   | [s,x],[t,u]=>∃ r0,((qJ (evA sl s)∧qJ (evA sl x)∧pH c.P t u (evA sl s) (evA sl x) (c.b+i * 64) H=some (r0,H'))∨aAm c.P t u (evA sl s) (evA sl x) (c.b+i * 64) H r0 H')∧Wk r0 r
   | _,_=>False)
 | .call { callee:=.value (.func f),args,.. }=>
  if c.pf f=true then .look (fun H r=>∃ args' H2,WkL (args.toList.map (evA sl)) args'∧c.T f args' H (c.b+c.n * 64) r H2)
  else if c.pf (f+100000)=true then .alloc (fun r blk=>afR c.T f (args.toList.map (evA sl)) (c.b+i * 64) r blk)
  else .write (aFs c i (.fn f [] []) (args.toList.map (evA sl)))
 | .call { callee:=.value f,args,.. }=>.write (aFs c i (evA sl f) (args.toList.map (evA sl)))
 | _=>.pure (fun _=>False)
structure RS where
 sl:Nat→AV
 hp:bH
 ex:Nat→Bool
def wY (f:Nat→AV) (i:Nat) (x:AV):Nat→AV:=upd f i x
def tA (sl:Nat→AV) (d:Option Tmp) (v:AV):Nat→AV:=
 match d with
 | some t=>wY sl t v
 | none=>sl
def wV (ops:Array Oper) (o:Oper) (sl:Nat→AV):Option Bool:=
 match o.guard with
 | none=>some true
 | some (j,want)=>
  match (ops[j]?).bind (·.dst) with
  | none=>none
  | some t=>match sl t with
   | .bool x=>some (x==want)
   | .und=>some false
   | _=>none
def aCl (e:Eff) (H:bH) (id:Nat) (r:AV) (H':bH):Prop:=
 match e with
 | .pure p=>p r∧H'=H
 | .look p=>p H r∧H'=H
 | .alloc p=>∃ blk,p r blk∧H'=upd H id (some blk)
 | .write p=>p H r H'
 | .put p=>p H r H'
def Eff.uses:Eff→Bool
 | .alloc _ | .write _ | .put _=>true
 | _=>false
def Eff.isWrite:Eff→Bool
 | .write _=>true
 | _=>false
def aLE (c:Ctx) (i:Nat) (e:Eff) (h:bH×(Nat→Bool)) (r:AV) (h':bH×(Nat→Bool)):Prop:=
 ¬ (e.uses=true∧h.2 i=true)∧(e.isWrite=true→∀ k,k<c.n→h.2 k=true→k<i)∧aCl e h.1 (c.b+i * 64) r h'.1∧h'.2=if e.uses=true then upd h.2 i true else h.2
def xU (c:Ctx) (ops:Array Oper) (i:Nat) (s s':RS):Prop:=
 match ops[i]? with
 | none=>s'=s
 | some o=>
  match wV ops o s.sl with
  | none=>False
  | some false=>s'={ s with sl:=tA s.sl o.dst .und }
  | some true=>∃ r,aLE c i (opA c i o s.sl) (s.hp,s.ex) r (s'.hp,s'.ex)∧s'.sl=tA s.sl o.dst r
end Go.Eng
namespace Go.Eng
open Go.RowKit (Below)
section
variable {P:Program} {β:cN} {w:World}
theorem fM {sl:Nat→AV} {a:Act} (hs:∀ t,V β (sl t) (a.tmps.getD t undef)) (x:Operand):V β (evA sl x) (a.eval x):=by
 cases x with
 | tmp t=>exact hs t
 | const v=>exact aGB β v
 | global g=>simp [evA,V]
 | func f=>exact ⟨[],[],rfl,by simp [Vs],by simp [Vs]⟩
theorem aJp:∀ l:List Nat,Vs β (l.map fun n:Nat=>AV.int .u8 (n:Int)) (l.map fun n:Nat=>Value.int .u8 (n:Int))
 | []=>by simp [Vs]
 | _::l=>⟨_,_,rfl,by simp [V],aJp l⟩
theorem aRN {sl:Nat→AV} {a:Act} (hs:∀ t,V β (sl t) (a.tmps.getD t undef)) (hg:GB β.fz) (x:Operand):V β (evG sl x) (a.eval x):=by
 cases x with
 | tmp t=>exact hs t
 | const v=>exact aGB β v
 | global g=>exact ⟨g,0,aOp g,rfl,hg g,aJp _⟩
 | func f=>exact ⟨[],[],rfl,by simp [Vs],by simp [Vs]⟩
theorem aHz {sl:Nat→AV} {a:Act} (hs:∀ t,V β (sl t) (a.tmps.getD t undef)):∀ xs:List Operand,Vs β (xs.map (evA sl)) (xs.map a.eval)
 | []=>by simp [Vs]
 | x::xs=>⟨_,_,rfl,fM hs x,aHz hs xs⟩
theorem cS {t:TypeId} {d:TypeDesc} (h:P.underlying t=some d):(underlying t).run P w=.ok d w:=run_underlying h w
theorem cX {t:TypeId} {n:Nat} (h:szT P t=some n):(sizeOf t).run P w=.ok n w:=by
 unfold szT at h
 cases hi:P.info? t with
 | none=>simp [hi] at h
 | some i=>simp [hi] at h;simp [sizeOf,typeInfo,hi,h]
theorem wO {t:TypeId} {b:Bool} (h:aGb P t=some b):(isAgg t).run P w=.ok b w:=by
 unfold aGb at h
 split at h<;>simp at h<;>subst h
 ·rename_i hu;simp [isAgg,cS hu]
 ·rename_i hu;simp [isAgg,cS hu]
 ·rename_i d h1 h2 hu
  simp only [isAgg,Sem.run_bind,cS hu,Result.andThen_ok]
  cases d<;>simp_all
theorem aKv {t:TypeId} {cs:List AV} {vs:List Value} {off:Nat} {r:AV} (h:vD P t cs off=some r) (hv:Vs β cs vs) :
  ∃ v,(part t vs.toArray off).run P w=.ok v w∧V β r v:=by
 unfold vD at h
 split at h
 ·rename_i ha
  cases hn:szT P t with
  | none=>simp [hn] at h
  | some n=>
   simp only [hn,Option.bind_some] at h
   split at h
   ·rename_i hle
    cases h
    refine ⟨.agg (vs.toArray.extract off (off+n)),by simp [part,wO ha,cX hn],(vs.drop off).take n,?_,xL (xP hv off) n⟩
    simp
   ·simp at h
 ·rename_i ha
  obtain ⟨v,h1,h2⟩:=tT hv off r h
  exact ⟨v,by simp [part,wO ha,h1],h2⟩
 ·simp at h
theorem rZ {k:IntKind} {n:Int} {v:Value} (h:V β (.int k n) v):v=.int k n:=by simpa [V] using h
theorem aCv {b:Bool} {v:Value} (h:V β (.bool b) v):v=.bool b:=by simpa [V] using h
theorem aOS {op:BinOp} {x y r:AV} {u v:Value} (t _yt:TypeId) (ox oy:Operand) (h:aIA op x y=some r) (hx:V β x u) (hy:V β y v) :
  ∃ z,(do eqGuard op t ox oy u v;binOp op t u v:Sem Value).run P w=.ok z w∧V β r z:=by
 unfold aIA at h
 split at h<;>(try (simp at h;done))
 all_goals
  have hu:=rZ hx;have hv:=rZ hy;subst hu;subst hv
 all_goals
  split at h<;>(try (simp at h;done))
  rename_i hk
 all_goals first
  | (subst hk;cases h;exact ⟨_,by simp [eqGuard,binOp,Op.intArith,Op.intBits,Op.intCmp];rfl,by simp [V]⟩)
  | (have hlt:=Int.not_lt.2 hk;cases h;exact ⟨_,by simp [eqGuard,binOp,Op.shift,hlt];rfl,by simp [V]⟩)
  | (have hb:=hk.2;have hk:=hk.1;subst hk;cases h;exact ⟨_,by simp [eqGuard,binOp,Op.intDiv,hb];rfl,by simp [V]⟩)
theorem aRI {op:UnOp} {x r:AV} {u:Value} (h:unA op x=some r) (hx:V β x u):∃ z,(Op.unary op u).run P w=.ok z w∧V β r z:=by
 unfold unA at h
 split at h<;>(try (simp at h;done))
 ·cases rZ hx;cases h;exact ⟨_,by simp [Op.unary,Op.intArith];rfl,by simp [V]⟩
 ·cases rZ hx;cases h;exact ⟨_,by simp [Op.unary,Op.intBits];rfl,by simp [V]⟩
 ·cases aCv hx;cases h;exact ⟨_,by simp [Op.unary];rfl,by simp [V]⟩
theorem aMV {s d:TypeId} {x r:AV} {u:Value} (h:aJ7 P s d x=some r) (hx:V β x u):∃ z,(convert s d u).run P w=.ok z w∧V β r z:=by
 unfold aJ7 at h
 split at h<;>(try (simp at h;done))
 rename_i k hs hd
 cases rZ hx;cases h
 exact ⟨_,by simp [convert,cS hs,cS hd,Conv.intToInt];rfl,by simp [V]⟩
theorem aPy {cs:List AV} {v:Value} (h:V β (.agg cs) v):∃ vs:List Value,v=.agg vs.toArray∧Vs β cs vs:=h
theorem aLS {t:TypeId} {x r:AV} {u:Value} {f:Nat} (h:aFC P t x f=some r) (hx:V β x u):∃ z,(Instr.field t u f).run P w=.ok z w∧V β r z:=by
 unfold aFC at h
 split at h<;>(try (simp at h;done))
 rename_i fs cs hu
 obtain ⟨vs,rfl,hv⟩:=aPy hx
 cases hf:fs[f]? with
 | none=>simp [hf] at h
 | some fd=>
  simp only [hf,Option.bind_some] at h
  obtain ⟨v,h1,h2⟩:=aKv (w:=w) h hv
  exact ⟨v,by simp [Instr.field,cS hu,hf,asAgg,h1],h2⟩
theorem aDy {t:TypeId} {x i r:AV} {u v:Value} (h:aFo P t x i=some r) (hx:V β x u) (hi:V β i v):∃ z,(Instr.index t u v).run P w=.ok z w∧V β r z:=by
 unfold aFo at h
 split at h<;>(try (simp at h;done))
 rename_i len e cs k n hu
 obtain ⟨vs,rfl,hv⟩:=aPy hx
 cases rZ hi
 split at h<;>(try (simp at h;done))
 rename_i hn
 cases hz:szT P e with
 | none=>simp [hz] at h
 | some sz=>
  simp only [hz,Option.bind_some] at h
  obtain ⟨z,h1,h2⟩:=aKv (w:=w) h hv
  exact ⟨z,by simp [Instr.index,asIntOf,cS hu,hn,cX hz,h1],h2⟩
theorem aId {i o:Nat} {v:Value} (h:V β (.ptr i o) v):∃ l,β i=some l∧v=.pointer (some ⟨l.c,l.o+o,none⟩):=h
theorem gC (c o n:Nat):(⟨c,o,none⟩:Addr).add n=⟨c,o+n,none⟩:=by
 unfold Addr.add;split<;>simp_all
theorem aO4 {cs:List AV} {o:Nat} {v:Value} (h:V β (.ep cs o) v):∃ (c q:Nat) (vs:List Value),v=.pointer (some ⟨c,q+o,none⟩)∧laid β.fz c q vs∧Vs β cs vs:=by simpa only [V] using h
theorem aMh {m : LM} {sz n : Nat} {f : Nat → AV} {v : Value} (h : V β (.lst m sz n f) v) : ∃ (base : Option Addr) (cap : Nat), v = .slice base n cap ∧ n ≤ cap ∧ aHk β m sz n base cap ∧
      ∀ j,j<n→∃ (c o:Nat) (u:Value),base=some ⟨c,o,none⟩∧u.cells.size=sz∧laid β.fz c (o+j * sz) u.cells.toList∧V β (f j) u:=by simpa only [V] using h
theorem rX {x:AV} {v:Value} {xs:List AV} (h:x.cells=some xs) (hv:V β x v):Vs β xs v.cells.toList:=by
 cases x<;>simp only [AV.cells,Option.some.injEq,reduceCtorEq] at h<;>subst h
 case agg cs=>simp only [V] at hv;obtain ⟨vs,rfl,h⟩:=hv;simpa [Value.cells] using h
 all_goals
  have hh:=hv
  simp only [V] at hh
  refine ⟨v,[],?_,hv,by simp [Vs]⟩
 case lst=>obtain ⟨_,_,rfl,_⟩:=hh;rfl
 case fn=>obtain ⟨_,_,rfl,_⟩:=hh;rfl
 case ep=>obtain ⟨_,_,_,rfl,_⟩:=hh;rfl
 case ptr=>obtain ⟨_,_,rfl⟩:=hh;rfl
 case mp=>obtain ⟨_,_,rfl⟩:=hh;rfl
 case yld=>obtain ⟨_,_,rfl⟩:=hh;rfl
 case sl=>obtain ⟨_,_,h | h⟩:=hh;(obtain ⟨_,_,_,rfl⟩:=h;rfl);(obtain ⟨_,_,rfl⟩:=h;rfl)
 case so=>obtain ⟨_,_,h | h⟩:=hh;(obtain ⟨_,_,rfl⟩:=h;rfl);(obtain ⟨_,_,_,rfl⟩:=h;rfl)
 all_goals subst hh;rfl
theorem aFZ {t:TypeId} {x r:AV} {u:Value} {f:Nat} (h:tS P t x f=some r) (hx:V β x u):∃ z,(Instr.fieldAt t u f).run P w=.ok z w∧V β r z:=by
 unfold tS at h
 split at h<;>(try (simp at h;done))
 ·rename_i fs i o hu
  obtain ⟨l,hl,rfl⟩:=aId hx
  cases hf:fs[f]? with
  | none=>simp [hf] at h
  | some fd=>
   simp only [hf,Option.bind_some] at h
   cases hz:szT P fd.type with
   | none=>simp [hz] at h
   | some n=>
    simp only [hz,Option.bind_some] at h
    split at h<;>(try (simp at h;done))
    rename_i hn
    cases h
    exact ⟨_,by simp [Instr.fieldAt,cS hu,hf,Instr.sureAddr,fieldPlace,cX hz,hn,gC];rfl,by simp only [V];exact ⟨l,hl,by simp [Nat.add_assoc]⟩⟩
 ·rename_i fs cs o hu
  obtain ⟨c,q,vs,rfl,h1,h2⟩:=aO4 hx
  cases hf:fs[f]? with
  | none=>simp [hf] at h
  | some fd=>
   simp only [hf,Option.bind_some] at h
   cases hz:szT P fd.type with
   | none=>simp [hz] at h
   | some n=>
    simp only [hz,Option.bind_some] at h
    split at h<;>(try (simp at h;done))
    rename_i hn
    cases h
    exact ⟨_,by simp [Instr.fieldAt,cS hu,hf,Instr.sureAddr,fieldPlace,cX hz,hn,gC];rfl,by simp only [V];exact ⟨c,q,vs,by simp [Nat.add_assoc],h1,h2⟩⟩
theorem aF8 {t:TypeId} {x i r:AV} {u v:Value} (h:oN P t x i=some r) (hx:V β x u) (hi:V β i v):∃ z,(Instr.indexAt t u v).run P w=.ok z w∧V β r z:=by
 unfold oN at h
 split at h<;>(try (simp at h;done))
 ·rename_i len e id o k n hu
  obtain ⟨l,hl,rfl⟩:=aId hx
  cases rZ hi
  split at h<;>(try (simp at h;done))
  rename_i hn
  cases hz:szT P e with
  | none=>simp [hz] at h
  | some sz=>
   simp only [hz,Option.bind_some] at h
   cases h
   exact ⟨_,by simp [Instr.indexAt,asIntOf,cS hu,Instr.sureAddr,hn,cX hz,gC];rfl,by simp only [V];exact ⟨l,hl,by simp [Nat.add_assoc]⟩⟩
 ·rename_i len e cs o k n hu
  obtain ⟨c,q,vs,rfl,h1,h2⟩:=aO4 hx
  cases rZ hi
  split at h<;>(try (simp at h;done))
  rename_i hn
  cases hz:szT P e with
  | none=>simp [hz] at h
  | some sz=>
   simp only [hz,Option.bind_some] at h
   cases h
   exact ⟨_,by simp [Instr.indexAt,asIntOf,cS hu,Instr.sureAddr,hn,cX hz,gC];rfl,by simp only [V];exact ⟨c,q,vs,by simp [Nat.add_assoc],h1,h2⟩⟩
 ·rename_i e id o len cap s k n hu
  simp only [V] at hx
  obtain ⟨l,hl,hx⟩:=hx
  cases rZ hi
  split at h<;>(try (simp at h;done))
  rename_i hn
  cases hz:szT P e with
  | none=>simp [hz] at h
  | some sz=>
   simp only [hz,Option.bind_some] at h
   split at h<;>(try (simp at h;done))
   cases h
   rcases hx with ⟨h0,_,_⟩ | ⟨_,_,rfl⟩
   ·omega
   ·exact ⟨_,by simp [Instr.indexAt,asIntOf,cS hu,hn,cX hz,gC];rfl,by simp only [V];exact ⟨l,hl,by simp [Nat.add_assoc]⟩⟩
 ·rename_i e id o len s k n hu
  simp only [V] at hx
  obtain ⟨l,hl,hx⟩:=hx
  cases rZ hi
  split at h<;>(try (simp at h;done))
  rename_i hn
  cases hz:szT P e with
  | none=>simp [hz] at h
  | some sz=>
   simp only [hz,Option.bind_some] at h
   split at h<;>(try (simp at h;done))
   cases h
   rcases hx with ⟨h0,_⟩ | ⟨m,_,_,rfl⟩
   ·omega
   ·exact ⟨_,by simp [Instr.indexAt,asIntOf,cS hu,hn,cX hz,gC];rfl,by simp only [V];exact ⟨l,hl,by simp [Nat.add_assoc]⟩⟩
 ·rename_i e m s len f k n hu
  obtain ⟨base,cap,rfl,hcap,_,hel⟩:=aMh hx
  cases rZ hi
  split at h<;>(try (simp at h;done))
  rename_i hn
  cases hz:szT P e with
  | none=>simp [hz] at h
  | some sz=>
   simp only [hz,Option.bind_some] at h
   split at h<;>(try (simp at h;done))
   rename_i hs
   subst hs
   obtain ⟨cs,hcs,rfl⟩:=Option.map_eq_some_iff.1 h
   obtain ⟨c,o,u,rfl,h1,h2,h3⟩:=hel n.toNat (by omega)
   exact ⟨_,by simp [Instr.indexAt,asIntOf,cS hu,hn,cX hz,gC];rfl,by simp only [V];exact ⟨c,_,u.cells.toList,by simp,h2,rX hcs h3⟩⟩
theorem aPh {t ty:TypeId} {x r:AV} {u:Value} (at_:Array TypeId) (h0:at_[0]?=some t) (h:aNo P t x=some r) (hx:V β x u):∃ z,(Builtin.len_ at_ ty #[u]).run P w=.ok z w∧V β r z:=by
 unfold aNo at h
 split at h<;>(try (simp at h;done))<;>cases h
 ·rename_i id o n m s hu
  obtain ⟨l,hl,hx⟩:=hx
  rcases hx with ⟨rfl,rfl,a,rfl⟩ | ⟨_,_,rfl⟩
  ·exact ⟨_,by simp [Builtin.len_,h0,cS hu];rfl,by simp [V,goInt]⟩
  ·exact ⟨_,by simp [Builtin.len_,h0,cS hu];rfl,by simp [V,goInt]⟩
 ·rename_i id o n s hu
  obtain ⟨l,hl,hx⟩:=hx
  rcases hx with ⟨rfl,a,rfl⟩ | ⟨m,_,_,rfl⟩
  ·exact ⟨_,by simp [Builtin.len_,h0,cS hu];rfl,by simp [V,goInt]⟩
  ·exact ⟨_,by simp [Builtin.len_,h0,cS hu];rfl,by simp [V,goInt]⟩
 ·rename_i m s n f hu
  obtain ⟨base,cap,rfl,_⟩:=aMh hx
  exact ⟨_,by simp [Builtin.len_,h0,cS hu];rfl,by simp [V,goInt]⟩
 ·rename_i hu
  simp only [V] at hx;subst hx
  exact ⟨_,by simp [Builtin.len_,h0,cS hu];rfl,by simp [V,goInt]⟩
 ·rename_i s hu
  simp only [V] at hx;subst hx
  exact ⟨_,by simp [Builtin.len_,h0,cS hu];rfl,by simp [V,goInt]⟩
 ·rename_i n e hu
  exact ⟨_,by simp [Builtin.len_,h0,cS hu];rfl,by simp [V,goInt]⟩
end
end Go.Eng
namespace Go.Eng
universe u v
open Go.RowKit (Below)
section
variable {P:Program} {β:cN} {w:World}
inductive OV (β:cN):Option AV→Option Value→Prop where
 | none:OV β none none
 | some {a:AV} {v:Value} (h:V β a v):OV β (some a) (some v)
theorem aOm {sl:Nat→AV} {a:Act} (hs:∀ t,V β (sl t) (a.tmps.getD t undef)) (x:Option Operand):OV β (x.map (evA sl)) (x.map a.eval):=by
 cases x with
 | none=>exact .none
 | some x=>exact .some (fM hs x)
theorem sA {x:AV} {v:Value} {d n y:Nat} (code:BoundsCode) (h:fA (some x) d=some n) (hv:V β x v) (hy:n≤y):(Instr.sliceBound v y code).run P w=.ok n w:=by
 unfold fA at h
 split at h<;>(try (simp at h;done))
 ·rename_i e;simp at e
 ·rename_i k m e
  cases e
  split at h<;>(try (simp at h;done))
  rename_i h0
  cases h
  cases rZ hv
  have:m≤(y:Int):=by omega
  simp [Instr.sliceBound,asIntOf,h0,this]
theorem aBx (x:AV) (d d':Nat):fA (some x) d=fA (some x) d':=by cases x<;>rfl
theorem pP {lo hi mx:Option AV} {lo' hi' mx':Option Value} {b:Bool} {len cap l h m:Nat} (hl:OV β lo lo') (hh:OV β hi hi') (hm:OV β mx mx')
  (em:fA mx cap=some m) (eh:fA hi len=some h) (el:fA lo 0=some l) (h1:l≤h) (h2:h≤m) (h3:m≤cap) (hn:¬ (mx.isSome=true∧hi.isNone=true)) :
  (Instr.sliceBounds b len cap lo' hi' mx').run P w=.ok (l,h,m) w:=by
 cases hm with
 | none=>
  simp [fA] at em
  cases hh with
  | none=>
   simp [fA] at eh
   cases hl with
   | none=>simp [fA] at el;simp [Instr.sliceBounds,em,eh,el]
   | some hv=>simp [Instr.sliceBounds,em,eh,sA _ el hv h1]
  | some hu=>
   cases hl with
   | none=>simp [fA] at el;simp [Instr.sliceBounds,em,sA _ eh hu h2,el]
   | some hv=>simp [Instr.sliceBounds,em,sA _ eh hu h2,sA _ el hv h1]
 | some hx=>
  cases hh with
  | none=>simp at hn
  | some hu=>
   cases hl with
   | none=>simp [fA] at el;simp [Instr.sliceBounds,sA _ em hx h3,sA _ eh hu h2,el]
   | some hv=>simp [Instr.sliceBounds,sA _ em hx h3,sA _ eh hu h2,sA _ el hv h1]
theorem bQ {α:Type u} {β:Type v} {x:Option α} {f:α→Option β} {r:β} (h:x.bind f=some r):∃ y,x=some y∧f y=some r:=by
 cases x with
 | none=>simp at h
 | some y=>exact ⟨y,rfl,by simpa using h⟩
theorem aLt {t:TypeId} {x r:AV} {u:Value} {lo hi mx:Option AV} {lo' hi' mx':Option Value} (h:aFL P t x lo hi mx=some r) (hx:V β x u) (hl:OV β lo lo') (hh:OV β hi hi') (hm:OV β mx mx') :
  ∃ z,(Instr.sliceAt t u lo' hi' mx').run P w=.ok z w∧V β r z:=by
 unfold aFL at h
 split at h<;>(try (simp at h;done))
 rename_i hn
 split at h<;>(try (simp at h;done))
 ·rename_i e id o len cap s hu
  obtain ⟨m,em,h⟩:=bQ h
  obtain ⟨h',eh,h⟩:=bQ h
  obtain ⟨l,el,h⟩:=bQ h
  obtain ⟨sz,es,h⟩:=bQ h
  split at h<;>(try (simp at h;done))
  rename_i hc
  obtain ⟨h1,h2,h3,rfl⟩:=hc
  cases h
  obtain ⟨lc,hlc,hx⟩:=hx
  rcases hx with ⟨rfl,rfl,a,rfl⟩ | ⟨hle,hk,rfl⟩
  ·have hm0:m=0:=by omega
   have hh0:h'=0:=by omega
   have hl0:l=0:=by omega
   subst hm0 hh0 hl0
   have hb:=pP (P:=P) (w:=w) (b:=true) (len:=0) (cap:=0) hl hh hm em eh el h1 h2 h3 hn
   exact ⟨_,by simp [Instr.sliceAt,Instr.slice,cS hu,hb,cX es];rfl,lc,hlc,by simp⟩
  ·have hb:=pP (P:=P) (w:=w) (b:=true) (len:=len) (cap:=cap) hl hh hm em eh el h1 h2 h3 hn
   by_cases hml:m=l
   ·subst hml
    exact ⟨_,by simp [Instr.sliceAt,Instr.slice,cS hu,hb,cX es];rfl,lc,hlc,by left;constructor;omega;simp;omega⟩
   ·refine ⟨_,by simp [Instr.sliceAt,Instr.slice,cS hu,hb,cX es,hml,gC];rfl,lc,hlc,?_⟩
    right
    refine ⟨by omega,?_,by simp [Nat.add_assoc]⟩
    have:=Nat.mul_le_mul_right sz h3
    rw [Nat.sub_mul]
    have:=Nat.mul_le_mul_right sz (show l≤m by omega)
    omega
 ·rename_i e id o len s hu
  obtain ⟨h',eh,h⟩:=bQ h
  obtain ⟨l,el,h⟩:=bQ h
  obtain ⟨sz,es,h⟩:=bQ h
  obtain ⟨lc,hlc,hx⟩:=hx
  cases hm with
  | none=>
   simp only at h
   split at h<;>(try (simp at h;done))
   rename_i hc
   obtain ⟨h1,h2,rfl⟩:=hc
   cases h
   rcases hx with ⟨rfl,a,rfl⟩ | ⟨c,hle,hk,rfl⟩
   ·have hh0:h'=0:=by omega
    have hl0:l=0:=by omega
    subst hh0 hl0
    have hb:=pP (P:=P) (w:=w) (b:=true) (len:=0) (cap:=0) hl hh (.none) rfl eh el h1 h2 (Nat.le_refl _) hn
    exact ⟨_,by simp [Instr.sliceAt,Instr.slice,cS hu,hb,cX es];rfl,lc,hlc,by simp⟩
   ·have hb:=pP (P:=P) (w:=w) (b:=true) (len:=len) (cap:=c) hl hh (.none) rfl eh el h1 (by omega) (Nat.le_refl _) hn
    by_cases hml:c=l
    ·subst hml
     exact ⟨_,by simp [Instr.sliceAt,Instr.slice,cS hu,hb,cX es];rfl,lc,hlc,by left;constructor;omega;simp;omega⟩
    ·refine ⟨_,by simp [Instr.sliceAt,Instr.slice,cS hu,hb,cX es,hml,gC];rfl,lc,hlc,?_⟩
     right
     refine ⟨c-l,by omega,?_,by simp [Nat.add_assoc]⟩
     rw [Nat.sub_mul]
     have:=Nat.mul_le_mul_right sz (show l≤c by omega)
     omega
  | @some am vm hxm=>
   simp only at h
   obtain ⟨m,em,h⟩:=bQ h
   split at h<;>(try (simp at h;done))
   rename_i hc
   obtain ⟨h1,h2,h3,rfl⟩:=hc
   cases h
   have em':∀ d,fA (some am) d=some m:=fun d=>(aBx am d 0).trans em
   rcases hx with ⟨rfl,a,rfl⟩ | ⟨c,hle,hk,rfl⟩
   ·have hm0:m=0:=by omega
    have hh0:h'=0:=by omega
    have hl0:l=0:=by omega
    subst hm0 hh0 hl0
    have hb:=pP (P:=P) (w:=w) (b:=true) (len:=0) (cap:=0) hl hh (.some hxm) (em' 0) eh el h1 h2 h3 hn
    exact ⟨_,by simp [Instr.sliceAt,Instr.slice,cS hu,hb,cX es];rfl,lc,hlc,by simp⟩
   ·have hb:=pP (P:=P) (w:=w) (b:=true) (len:=len) (cap:=c) hl hh (.some hxm) (em' c) eh el h1 h2 (by omega) hn
    by_cases hml:m=l
    ·subst hml
     exact ⟨_,by simp [Instr.sliceAt,Instr.slice,cS hu,hb,cX es];rfl,lc,hlc,by left;constructor;omega;simp;omega⟩
    ·refine ⟨_,by simp [Instr.sliceAt,Instr.slice,cS hu,hb,cX es,hml,gC];rfl,lc,hlc,?_⟩
     right
     refine ⟨by omega,?_,by simp [Nat.add_assoc]⟩
     have:=Nat.mul_le_mul_right sz (show m≤c by omega)
     rw [Nat.sub_mul]
     have:=Nat.mul_le_mul_right sz (show l≤m by omega)
     omega
 ·rename_i e m0 s len f hu
  obtain ⟨h',eh,h⟩:=bQ h
  obtain ⟨l,el,h⟩:=bQ h
  obtain ⟨sz,es,h⟩:=bQ h
  obtain ⟨base,cap,rfl,hcap,hlm,hel⟩:=aMh hx
  have fin:∀ (M:Nat) (mode:LM) (hb:(Instr.sliceBounds true len cap lo' hi' mx').run P w=.ok (l,h',M) w),l≤h'→h'≤M→h'≤len→sz=s→(mode=.free∨(mode=.cap∧h'=M)∨(mode=m0∧h'=len∧M=cap))→r=.lst mode s (h'-l) (fun j=>f (l+j))→∃ z,(Instr.sliceAt t (.slice base len cap) lo' hi' mx').run P w=.ok z w∧V β r z:=by
   rintro M mode hb h1 h2 h3 rfl hmode rfl
   by_cases hml:M=l
   ·subst hml
    refine ⟨_,by simp [Instr.sliceAt,Instr.slice,cS hu,hb,cX es];rfl,?_⟩
    simp only [V]
    refine ⟨_,_,rfl,by omega,?_,fun j hj=>by omega⟩
    rcases hmode with rfl | ⟨rfl,_⟩ | ⟨rfl,rfl,rfl⟩
    ·trivial
    ·show _=_;omega
    ·cases mode with
     | free=>trivial
     | cap=>show _=_;have:M=h':=hlm;omega
     | tok g=>obtain ⟨lo,k1,_⟩:=hlm;exact ⟨lo,k1,.inl (by omega)⟩
   ·refine ⟨_,by simp [Instr.sliceAt,Instr.slice,cS hu,hb,cX es,hml];rfl,?_⟩
    simp only [V]
    refine ⟨_,_,rfl,by omega,?_,fun j hj=>?_⟩
    ·rcases hmode with rfl | ⟨rfl,_⟩ | ⟨rfl,rfl,rfl⟩
     ·trivial
     ·show _=_;omega
     ·cases mode with
      | free=>trivial
      | cap=>show _=_;have:M=h':=hlm;omega
      | tok g=>
       obtain ⟨lo,k1,k2⟩:=hlm
       refine ⟨lo,k1,?_⟩
       rcases k2 with k2 | ⟨o,rfl,k3,k4⟩
       ·exact .inl (by omega)
       ·refine .inr ⟨o+l * sz,by simp [gC],?_,?_⟩
        ·have:=Nat.mul_le_mul_right sz h1
         rw [Nat.sub_mul];omega
        ·have:=Nat.mul_le_mul_right sz h1
         have:=Nat.mul_le_mul_right sz h2
         rw [Nat.sub_mul,Nat.sub_mul];omega
    ·obtain ⟨c,o,u,rfl,k1,k2,k3⟩:=hel (l+j) (by omega)
     exact ⟨c,o+l * sz,u,by simp [gC],k1,by rw [Nat.add_assoc,← Nat.add_mul];exact k2,k3⟩
  cases hm with
  | none=>
   simp only at h
   split at h<;>(try (simp at h;done))
   rename_i hc
   obtain ⟨h1,h2,rfl⟩:=hc
   cases h
   refine fin cap _ (pP (P:=P) (w:=w) (b:=true) (len:=len) (cap:=cap) hl hh (.none) rfl eh el h1 (by omega) (Nat.le_refl _) hn) h1 (by omega) h2 rfl ?_ rfl
   cases hh with
   | none=>simp only [fA,Option.some.injEq] at eh;exact .inr (.inr ⟨rfl,eh.symm,rfl⟩)
   | some _=>exact .inl rfl
  | @some am vm hxm=>
   simp only at h
   obtain ⟨m,em,h⟩:=bQ h
   split at h<;>(try (simp at h;done))
   rename_i hc
   obtain ⟨h1,rfl,h3,rfl⟩:=hc
   cases h
   have em':∀ d,fA (some am) d=some h':=fun d=>(aBx am d 0).trans em
   exact fin h' .cap (pP (P:=P) (w:=w) (b:=true) (len:=len) (cap:=cap) hl hh (.some hxm) (em' cap) eh el h1 (Nat.le_refl _) (by omega) hn) h1 (Nat.le_refl _) h3 rfl (.inr (.inl ⟨rfl,rfl⟩)) rfl
 ·rename_i e hu
  obtain ⟨m,em,h⟩:=bQ h
  obtain ⟨h',eh,h⟩:=bQ h
  obtain ⟨l,el,h⟩:=bQ h
  obtain ⟨sz,es,h⟩:=bQ h
  by_cases hc:l≤h'∧h'≤m∧m=0
  case neg=>simp [hc] at h
  rw [if_pos hc] at h
  injection h with h
  subst h
  obtain ⟨h1,h2,rfl⟩:=hc
  have hh0:h'=0:=by omega
  have hl0:l=0:=by omega
  subst hh0 hl0
  simp only [V] at hx;subst hx
  have hb:=pP (P:=P) (w:=w) (b:=true) (len:=0) (cap:=0) hl hh hm em eh el h1 h2 (Nat.le_refl _) hn
  exact ⟨_,by simp [Instr.sliceAt,Instr.slice,cS hu,hb,cX es];rfl,by simp [V]⟩
theorem aCH {cs vs:List AV} {o:Nat} (h:o+vs.length≤cs.length):(dZ cs o vs).length=cs.length:=by
 simp [dZ];omega
theorem aJZ {x:AV} {v:Value} (h:x.flat=true) (hv:V β x v):v.oneCell'=true:=by
 cases x<;>simp only [AV.flat] at h<;>(try (cases h))
 all_goals simp only [V] at hv
 case ptr=>obtain ⟨l,_,rfl⟩:=hv;rfl
 case ep=>obtain ⟨_,_,_,rfl,_⟩:=hv;rfl
 case sl=>obtain ⟨l,_,h⟩:=hv;rcases h with ⟨_,_,a,rfl⟩ | ⟨_,_,rfl⟩<;>rfl
 case so=>obtain ⟨l,_,h⟩:=hv;rcases h with ⟨_,a,rfl⟩ | ⟨_,_,_,rfl⟩<;>rfl
 case lst=>obtain ⟨_,_,rfl,_⟩:=hv;rfl
 case mp=>obtain ⟨l,_,rfl⟩:=hv;rfl
 case yld=>obtain ⟨l,_,rfl⟩:=hv;rfl
 case fn=>obtain ⟨l,m,rfl,_⟩:=hv;rfl
 all_goals subst hv;rfl
end
end Go.Eng
namespace Go.Eng
open Go.RowKit (Below)
section
variable {P:Program} {β:cN} {w:World}
theorem aFj (off:Nat):∀ (l:List Value) (k:Nat) (cs:Array Value),off+k+l.length≤cs.size →
  ((l.zipIdx k).foldl (fun (cs:Array Value) p=>cs.setIfInBounds (off+p.2) p.1) cs).toList=cs.toList.take (off+k)++l++cs.toList.drop (off+k+l.length)
 | [],k,cs,_=>by simp
 | x::l,k,cs,h=>by
  simp only [List.length_cons] at h
  rw [List.zipIdx_cons,List.foldl_cons,aFj off l (k+1) _ (by simp;omega)]
  simp only [Array.toList_setIfInBounds,List.length_cons]
  have hlt:off+k<cs.toList.length:=by simp;omega
  have hA:(List.take (off+k) cs.toList++[x]).length=off+(k+1):=by simp;omega
  rw [List.set_eq_take_append_cons_drop,if_pos hlt,List.append_cons,List.take_left' hA]
  rw [show off+(k+1)+l.length=(List.take (off+k) cs.toList++[x]).length+l.length by rw [hA],List.drop_append]
  rw [List.drop_of_length_le (by omega)]
  simp [List.drop_drop]
  congr 1
  omega
theorem aE2 {pA pl:Nat→Option (Nat×Nat)} (hp:∀ i p,pA i=some p→pl i=some p):∀ (parts:List (Nat×AV)) (ps:List (Nat×Value)) {cs cs':List AV} {vs:List Value},
  xR pA cs parts=some cs'→Vs β cs vs→(parts.map (·.1)=ps.map (·.1))→Vs β (parts.map (·.2)) (ps.map (·.2)) →
  ∃ vs':List Value,Instr.fill pl vs.toArray ps=some vs'.toArray∧Vs β cs' vs'
 | [],[],cs,cs',vs,h,hv,_,_=>by simp only [xR,Option.some.injEq] at h;subst h;exact ⟨vs,rfl,hv⟩
 | [],_::_,_,_,_,_,_,he,_=>by simp at he
 | _::_,[],_,_,_,_,_,he,_=>by simp at he
 | (i,x)::parts,(j,v)::ps,cs,cs',vs,h,hv,he,hx=>by
  simp only [List.map_cons,List.cons.injEq] at he
  obtain ⟨rfl,he⟩:=he
  obtain ⟨v',vs',hcons,hxv,hxs⟩:=hx
  simp only [List.map_cons,List.cons.injEq] at hcons
  obtain ⟨rfl,rfl⟩:=hcons
  simp only [xR] at h
  split at h<;>(try (simp at h;done))
  rename_i off size xs e1 e2
  split at h<;>(try (simp at h;done))
  rename_i hc
  obtain ⟨rfl,hle⟩:=hc
  have hc:=rX e2 hxv
  have hl1:=cO hc
  have hl2:=cO hv
  have hsp:Vs β (dZ cs off xs) (vs.take off++v.cells.toList++vs.drop (off+xs.length)):=qT (qT (xL hv off) hc) (xP hv _)
  obtain ⟨r,h1,h2⟩:=aE2 hp parts ps h hsp he hxs
  refine ⟨r,?_,h2⟩
  simp only [Instr.fill,hp _ _ e1]
  have hsz:v.cells.size=xs.length:=by rw [hl1];simp
  have hcond:(decide (v.cells.size≠xs.length)||decide (off+v.cells.size>vs.toArray.size))=false:=by
   simp [hsz];omega
  simp only [hcond,Bool.false_eq_true,if_false]
  have hf:=aFj off v.cells.toList 0 vs.toArray (by simp only [Array.length_toList,hsz];simp;omega)
  have:(v.cells.zipIdx.foldl (fun (cs:Array Value) (x:Value×Nat)=>cs.setIfInBounds (off+x.2) x.1) vs.toArray)=(vs.take off++v.cells.toList++vs.drop (off+xs.length)).toArray:=by
   apply Array.toList_inj.1
   rw [← Array.foldl_toList,Array.toList_zipIdx]
   rw [hf]
   simp [hsz]
  exact (congrArg (fun a=>Instr.fill pl a ps) this).trans h1
theorem aHe (zero:Array Value) (_hz:0<zero.size):∀ n:Nat,
  ((Array.range (n * zero.size)).map fun i=>zero[i % zero.size]!).toList=(List.replicate n zero.toList).flatten:=by
 intro n
 have base:(List.range zero.size).map (fun i=>zero[i]!)=zero.toList:=by
  apply List.ext_getElem
  ·simp
  ·intro i h1 h2
   simp at h1
   simp [getElem!_pos,h1]
 simp only [Array.toList_map,Array.toList_range]
 induction n with
 | zero=>simp
 | succ n ih=>
  rw [Nat.succ_mul,List.range_add,List.map_append,ih,List.replicate_succ',List.flatten_append,List.map_map]
  congr 1
  simp only [List.flatten_cons,List.flatten_nil,List.append_nil]
  rw [← base]
  apply List.map_congr_left
  intro i hi
  have hi:=List.mem_range.1 hi
  have:(n * zero.size+i) % zero.size=i:=by rw [Nat.mul_comm,Nat.mul_add_mod];exact Nat.mod_eq_of_lt hi
  simp [Function.comp,this]
theorem uQ {t:TypeId} {z:List AV} (h:aAH P t=some z):∃ v:Value,(zeroValue t).run P w=.ok v w∧Vs β z v.cells.toList:=by
 unfold aAH at h
 obtain ⟨i,hi,h⟩:=bQ h
 cases hz:i.zero with
 | none=>simp [hz] at h
 | some v=>
  simp [hz] at h
  subst h
  exact ⟨v,by simp [zeroValue,typeInfo,hi,hz],aBN β _⟩
theorem xS {α γ:Type} (f:α→Sem γ) (g:α→Option γ) (hf:∀ x y,g x=some y→(f x).run P w=.ok y w):∀ (l:List α) (r:List γ),l.mapM g=some r→(l.mapM f).run P w=.ok r w
 | [],r,h=>by simp at h;subst h;simp
 | x::l,r,h=>by
  simp only [List.mapM_cons] at h
  obtain ⟨y,hy,h⟩:=bQ h
  obtain ⟨ys,hys,h⟩:=bQ h
  simp at h;subst h
  simp [hf x y hy,xS f g hf l ys hys]
theorem aGZ {sl:Nat→AV} {a:Act} (hs:∀ t,V β (sl t) (a.tmps.getD t undef)):∀ ps:List (Nat×Operand),
  (ps.map fun p=>(p.1,evA sl p.2)).map (·.1)=(ps.map fun p=>(p.1,a.eval p.2)).map (·.1) ∧
  Vs β ((ps.map fun p=>(p.1,evA sl p.2)).map (·.2)) ((ps.map fun p=>(p.1,a.eval p.2)).map (·.2))
 | []=>by simp [Vs]
 | p::ps=>by
  obtain ⟨h1,h2⟩:=aGZ hs ps
  exact ⟨by simp,⟨_,_,rfl,fM hs _,h2⟩⟩
theorem aLv {t:TypeId} {parts:List (Nat×AV)} {ps:Array (Nat×Value)} {r:AV} (h:aCC P t parts=some r) (h1:parts.map (·.1)=ps.toList.map (·.1)) (h2:Vs β (parts.map (·.2)) (ps.toList.map (·.2))) :
  ∃ z,(Instr.build t ps).run P w=.ok z w∧V β r z:=by
 unfold aCC at h
 obtain ⟨z,hz,h⟩:=bQ h
 obtain ⟨zv,hzv,hzz⟩:=uQ (β:=β) (w:=w) hz
 split at h<;>(try (simp at h;done))
 ·rename_i fs hu
  obtain ⟨pl,hpl,h⟩:=bQ h
  obtain ⟨cs,hcs,rfl⟩:=Option.map_eq_some_iff.1 h
  obtain ⟨vs',hf,hv'⟩:=aE2 (pl:=fun i=>pl[i]?) (fun i p e=>e) parts ps.toList hcs hzz h1 h2
  have hm:(fs.mapM fun f=>(do pure (f.offset,← sizeOf f.type):Sem (Nat×Nat))).run P w=.ok pl.toArray w:=by
   rw [Array.mapM_eq_mapM_toList]
   simp only [Sem.run_map]
   rw [xS (P:=P) (w:=w) _ (fun f=>(szT P f.type).map fun s=>(f.offset,s)) ?_ _ _ hpl]
   ·rfl
   ·intro f y hy
    obtain ⟨s,hs,rfl⟩:=Option.map_eq_some_iff.1 hy
    simp [cX hs]
  refine ⟨.agg vs'.toArray,?_,vs',rfl,hv'⟩
  simp only [Instr.build,Sem.run_bind,hzv,Result.andThen_ok,cS hu,hm]
  simp only [Array.toArray_toList] at hf
  simp [hf]
 ·rename_i len e hu
  obtain ⟨sz,hsz,h⟩:=bQ h
  obtain ⟨cs,hcs,rfl⟩:=Option.map_eq_some_iff.1 h
  obtain ⟨vs',hf,hv'⟩:=aE2 (pl:=fun i=>some (i * sz,sz)) (fun i p e=>e) parts ps.toList hcs hzz h1 h2
  refine ⟨.agg vs'.toArray,?_,vs',rfl,hv'⟩
  simp only [Instr.build,Sem.run_bind,hzv,Result.andThen_ok,cS hu,cX hsz]
  simp only [Array.toArray_toList] at hf
  simp [hf]
end
end Go.Eng
namespace Go.Eng
open Go.RowKit (Below)
section
variable {P:Program} {β:cN} {w:World}
theorem aBp {p:Nat→Value→Prop}:∀ {cs:List AV} {off:Nat},(∀ (j:Nat) (a:AV),cs[j]?=some a→∃ v:Value,p (off+j) v∧V β a v) →
  ∃ vs:List Value,Vs β cs vs∧∀ (j:Nat) (v:Value),vs[j]?=some v→p (off+j) v
 | [],off,_=>⟨[],by simp [Vs],by simp⟩
 | a::cs,off,h=>by
  obtain ⟨v,h1,h2⟩:=h 0 a rfl
  obtain ⟨vs,h3,h4⟩:=aBp (cs:=cs) (off:=off+1) fun j b hb=>by
   obtain ⟨u,hu,hv⟩:=h (j+1) b (by simpa using hb)
   exact ⟨u,by rw [show off+1+j=off+(j+1) by omega];exact hu,hv⟩
  refine ⟨v::vs,⟨v,vs,rfl,h2,h3⟩,fun j u hu=>?_⟩
  cases j with
  | zero=>simp at hu;subst hu;exact h1
  | succ j=>rw [show off+(j+1)=off+1+j by omega];exact h4 j u (by simpa using hu)
theorem cL.cellsList {H:bH} {B:Bd} (h:cL β H w B) {i:Nat} {cs:List AV} (hi:H i=some (.cells cs)) :
  ∃ (l:Loc) (vs:List Value),β i=some l∧Vs β cs vs∧∀ (j:Nat) (v:Value),vs[j]?=some v→w.cell? ⟨l.c,l.o+j,none⟩=some v:=by
 obtain ⟨l,hl⟩:=h.locOf hi
 obtain ⟨vs,h1,h2⟩:=aBp (β:=β) (cs:=cs) (off:=0) (p:=fun j v=>w.cell? ⟨l.c,l.o+j,none⟩=some v) fun j a ha=>by
  obtain ⟨v,x,y⟩:=h.cell hi hl ha
  exact ⟨v,by simpa using x,y⟩
 exact ⟨l,vs,hl,h1,fun j v hv=>by simpa using h2 j v hv⟩
theorem tN (c o:Nat):∀ (vs:List Value) (i:Nat) (acc:Array Value),(∀ (j:Nat) (v:Value),vs[j]?=some v→w.cell? ⟨c,o+(i+j),none⟩=some v) →
  (loadCellsFrom ⟨c,o,none⟩ i vs.length acc).run P w=.ok (acc++vs.toArray) w
 | [],i,acc,_=>by simp [loadCellsFrom]
 | v::vs,i,acc,h=>by
  have h0:=h 0 v rfl
  simp only [Nat.add_zero] at h0
  simp only [List.length_cons,loadCellsFrom,Sem.run_bind,gC,run_load,h0,Result.andThen_ok]
  rw [tN c o vs (i+1) _ fun j u hu=>by
   have:=h (j+1) u (by simpa using hu)
   rw [show o+(i+1+j)=o+(i+(j+1)) by omega];exact this]
  simp
theorem mV {c o:Nat} {vs:List Value} (h:∀ (j:Nat) (v:Value),vs[j]?=some v→w.cell? ⟨c,o+j,none⟩=some v) {n:Nat} (hn:n=vs.length) :
  (loadCells ⟨c,o,none⟩ n).run P w=.ok vs.toArray w:=by
 subst hn
 unfold loadCells
 rw [tN c o vs 0 #[] (by simpa using h)]
 simp
theorem eO {α:Type} (l:List α) (o n j:Nat) (x:α) (h:((l.drop o).take n)[j]?=some x):l[o+j]?=some x:=by
 rw [List.getElem?_take] at h
 split at h
 ·simpa using h
 ·simp at h
theorem aFX {β:cN} {H:bH} {B:Bd} (hH:cL β H w B) {c o:Nat} {vs:List Value} (h:laid β.fz c o vs):∀ (j:Nat) (v:Value),vs[j]?=some v→w.cell? ⟨c,o+j,none⟩=some v:=
 fun j v hj=>hH.fz _ _ _ (h j v hj)
theorem aHs {c o off:Nat} {vs:List Value} {cs:List AV} (hvs:Vs β cs vs) (hcell:∀ (j:Nat) (v:Value),vs[j]?=some v→w.cell? ⟨c,o+j,none⟩=some v) {t:TypeId} {r:AV} (h:vD P t cs off=some r) :
  ∃ z,(Instr.loadAt t (.pointer (some ⟨c,o+off,none⟩))).run P w=.ok z w∧V β r z:=by
 unfold vD at h
 split at h
 ·rename_i ha
  obtain ⟨n,hn,h⟩:=bQ h
  split at h<;>(try (simp at h;done))
  rename_i hle
  cases h
  have hlen:=cO hvs
  have hrun:=mV (P:=P) (w:=w) (c:=c) (o:=o+off) (vs:=(vs.drop off).take n) (n:=n)
   (fun j v hj=>by have:=hcell _ _ (eO _ _ _ _ _ hj);rw [Nat.add_assoc];exact this)
   (by simp;omega)
  exact ⟨_,by simp [Instr.loadAt,Instr.sureAddr,loadVar,wO ha,cX hn,hrun];rfl,by simp only [V];exact ⟨(vs.drop off).take n,by simp,xL (xP hvs off) n⟩⟩
 ·rename_i ha
  obtain ⟨v,h1,h2⟩:=tT hvs off r h
  have:=hcell _ _ h1
  exact ⟨v,by simp [Instr.loadAt,Instr.sureAddr,loadVar,wO ha,this],h2⟩
 ·simp at h
theorem aJ8 {H:bH} {B:Bd} {lim:Nat} (hH:cL β H w B) {t:TypeId} {p r:AV} {u:Value} (h:tJ P lim t p H=some r) (hp:V β p u) :
  ∃ z,(Instr.loadAt t u).run P w=.ok z w∧V β r z:=by
 unfold tJ at h
 split at h<;>(try (simp at h;done))
 ·rename_i i o
  split at h<;>(try (simp at h;done))
  split at h<;>(try (simp at h;done))
  rename_i cs hi
  obtain ⟨l,hl,rfl⟩:=aId hp
  obtain ⟨l',vs,hl',hvs,hcell⟩:=hH.cellsList hi
  rw [hl] at hl';cases hl'
  exact aHs hvs hcell h
 ·rename_i cs o
  obtain ⟨c,q,vs,rfl,h1,h2⟩:=aO4 hp
  exact aHs h2 (aFX hH h1) h
theorem vK {id:Nat} {l:Loc} (h:β id=none):cN.le β (β.put id l):=
 ⟨fun i x hx=>by
  have:i≠id:=fun e=>by rw [e,h] at hx;cases hx
  rw [uF _ _ this];exact hx,fun _ _ _ h=>h⟩
theorem xK {id:Nat} {l:Loc} (j:Nat) (hj:(β.put id l) j≠none):β j≠none∨j=id:=by
 by_cases e:j=id
 ·exact .inr e
 ·rw [uF _ _ e] at hj;exact .inl hj
theorem cL.put {H:bH} {B:Bd} (h:cL β H w B) {id:Nat} (l:Loc) (hid:β id=none):cL (β.put id l) H w B:=h.mono (vK hid) rfl rfl
theorem cL.new {H:bH} {B:Bd} (hH:cL β H w B) (hB:B.top w.heap.size) {id:Nat} (hid:β id=none) {cs:List AV} {vs sp:List Value} (hv:Vs β cs vs) (e:TypeId) :
  cL (β.put id ⟨w.heap.size,0,vs.length+sp.length⟩) (upd H id (some (.cells cs))) (w.alloc (.cells (vs++sp).toArray e)) B:=by
 have hle:=vK (l:=⟨w.heap.size,0,vs.length+sp.length⟩) hid
 have h1:cL β H (w.alloc (.cells (vs++sp).toArray e)) B:=hH.keep (bJ.alloc w (Nat.le_refl _) _)
 have hlen:=cO hv
 refine (h1.put _ hid).add (l:=⟨w.heap.size,0,vs.length+sp.length⟩) (iV _ _ _) (by simp;omega) (fun _=>⟨hB.at,fun o _ _=>hH.fz_none (Nat.le_refl _) o,(vs++sp).toArray,e,?_,by simp,fun j a ha=>?_⟩) ?_ (fun _ hy=>absurd (hH.ys _ hy).2 (by simp))
 ·show (w.heap.push _)[w.heap.size]?=_
  simp
 ·obtain ⟨v,x,y⟩:=tT hv j a ha
  have hj:j<vs.length:=(List.getElem?_eq_some_iff.1 x).1
  exact ⟨v,by simp [List.getElem?_append_left hj,x],kU hle _ _ y⟩
 ·intro _ j b lj hj hb hlj hk
  rw [uF _ _ hj] at hlj
  have:=(hH.lt_of_own hb hlj hk).1
  simp;omega
theorem cL.newF {H:bH} {B:Bd} (hH:cL β H w B) (hB:B.top w.heap.size) {id:Nat} (hid:β id=none) (vs sp:List Value) (e:TypeId) :
  ∃ β',cN.le β β'∧(∀ j,β' j≠none→β j≠none∨j=id)∧β' id=some ⟨w.heap.size,vs.length,sp.length⟩∧laid β'.fz w.heap.size 0 vs ∧
   cL β' (upd H id (some (.cells []))) (w.alloc (.cells (vs++sp).toArray e)) B∧(∀ c o,β'.fz c o≠none→β.fz c o≠none∨B c):=by
 let φ:Nat→Nat→Option Value:=fun c o=>if c=w.heap.size then vs[o]? else β.fz c o
 let β':cN:=⟨upd β.loc id (some ⟨w.heap.size,vs.length,sp.length⟩),φ,β.ys⟩
 have hle:cN.le β β':=⟨fun j x hx=>by
   have:j≠id:=fun e=>by rw [e,hid] at hx;cases hx
   show upd β.loc id _ j=_
   rw [aY _ _ this];exact hx,fun c o v hv=>by
   show φ c o=some v
   have:c≠w.heap.size:=fun e=>by rw [e,hH.fz_none (Nat.le_refl _)] at hv;cases hv
   simp only [φ,if_neg this];exact hv⟩
 have hnew:(w.alloc (.cells (vs++sp).toArray e)).heap[w.heap.size]?=some (.cells (vs++sp).toArray e (0,0)):=by
  show (w.heap.push _)[w.heap.size]?=_
  simp
 refine ⟨β',hle,fun j hj=>?_,by show upd β.loc id _ id=_;simp,fun k v hk=>?_,?_,fun c o hc=>?_⟩
 ·by_cases e:j=id
  ·exact .inr e
  ·left;change upd β.loc id _ j≠none at hj;rw [aY _ _ e] at hj;exact hj
 ·show φ w.heap.size (0+k)=some v
  simp only [φ,if_true,Nat.zero_add];exact hk
 ·have h0:cL β H (w.alloc (.cells (vs++sp).toArray e)) B:=hH.keep (bJ.alloc w (Nat.le_refl _) _)
  have h1:cL β' H (w.alloc (.cells (vs++sp).toArray e)) B:=by
   constructor
   ·intro c o v hv
    change φ c o=some v at hv
    by_cases hc:c=w.heap.size
    ·subst hc
     simp only [φ,if_true] at hv
     have ho:o<vs.length:=(List.getElem?_eq_some_iff.1 hv).1
     simp only [World.cell?,hnew]
     simp [List.getElem?_append_left ho,hv]
    ·simp only [φ,if_neg hc] at hv
     exact h0.fz _ _ _ hv
   ·exact hH.gb.mono hle.fz
   ·intro j xs hj
    obtain ⟨lj,e1,e2,e3⟩:=h0.own j xs hj
    refine ⟨lj,hle.loc _ _ e1,e2,fun hk=>?_⟩
    obtain ⟨a1,a2,full,e,a3,a4,a5⟩:=e3 hk
    refine ⟨a1,fun o ho1 ho2=>?_,full,e,a3,a4,fun k a ha=>let ⟨v,x,y⟩:=a5 k a ha;⟨v,x,kU hle _ _ y⟩⟩
    show φ lj.c o=none
    have:lj.c≠w.heap.size:=by have:=(hH.lt_of_own hj e1 hk).1;omega
    simp only [φ,if_neg this];exact a2 o ho1 ho2
   ·intro j es clk hj
    obtain ⟨lj,e1,e2,e3,ents,e4,e5⟩:=h0.map j es clk hj
    exact ⟨lj,hle.loc _ _ e1,e2,e3,ents,e4,e5.mono hle⟩
   ·intro a b ba bb la lb hne' ha hb ea eb pa pb
    obtain ⟨l1,f1⟩:=h0.locOf ha
    obtain ⟨l2,f2⟩:=h0.locOf hb
    have:=gD hle f1 ea;subst this
    have:=gD hle f2 eb;subst this
    exact h0.sep a b ba bb _ _ hne' ha hb f1 f2 pa pb
   ·exact h0.ys
   ·intro j b lj hj ej pj
    obtain ⟨l1,f1⟩:=h0.locOf hj
    have:=gD hle f1 ej;subst this
    exact h0.yo j b _ hj f1 pj
   ·intro j S G s hj
    obtain ⟨lj,f1,f2,f3,f4,f5⟩:=h0.gh j S G s hj
    refine ⟨lj,hle.loc _ _ f1,f2,f3,fun c o v hc hv=>?_,fun c o v hv=>hle.fz c o v (f5 c o v hv)⟩
    change φ c o=some v at hv
    have:c≠w.heap.size:=by have:=(hH.ys c hc).2;omega
    simp only [φ,if_neg this] at hv
    exact f4 c o v hc hv
   ·exact h0.gh1
   ·intro j sz es clk ho hj
    obtain ⟨lj,e1,e2,e3,ents,e4,e5,e6⟩:=h0.mps j sz es clk ho hj
    refine ⟨lj,hle.loc _ _ e1,e2,e3,ents,e4,e5.mono hle,e6.mono (fun _ h=>h) (fun c q hc hq=>?_) fun _ _=>rfl⟩
    show φ c q=none
    have:c≠w.heap.size:=by have:=(hH.ys c hc).2;omega
    simp only [φ,if_neg this];exact hq
   ·exact h0.mp1
  refine h1.add (l:=⟨w.heap.size,vs.length,sp.length⟩) (by show upd β.loc id _ id=_;simp) (by simp) (fun hk=>⟨hB.at,fun o ho1 ho2=>?_,_,e,hnew,by simp,fun k a ha=>by simp at ha⟩) (fun hk j b lj hj hb hlj hkj=>?_) (fun _ hy=>absurd (hH.ys _ hy).2 (by simp))
  ·show φ w.heap.size o=none
   simp only at ho1
   simp only [φ,if_true]
   exact List.getElem?_eq_none ho1
  ·obtain ⟨l1,f1⟩:=hH.locOf hb
   have:=gD hle f1 hlj;subst this
   have:=(hH.lt_of_own hb f1 hkj).1
   simp only;omega
 ·by_cases hh:c=w.heap.size
  ·exact .inr (hh ▸ hB.at)
  ·left;change φ c o≠none at hc;simp only [φ,if_neg hh] at hc;exact hc
theorem aRg {H:bH} {B:Bd} (hH:cL β H w B) (hB:B.top w.heap.size) {id:Nat} (hid:β id=none) {t:TypeId} {x:AV} {u:Value} {z:List AV} (h:x.cells=some z) (hx:V β x u) :
  ∃ β' w',(Instr.box t u).run P w=.ok (.pointer (some ⟨w.heap.size,0,none⟩)) w'∧cN.le β β'∧(∀ j,β' j≠none→β j≠none∨j=id)∧V β' (.ptr id 0) (.pointer (some ⟨w.heap.size,0,none⟩)) ∧
   cL β' (upd H id (some (.cells z))) w' B∧bJ (fun c=>w.heap.size≤c) w w'∧β'.fz=β.fz:=by
 have hv:=rX h hx
 have hn:=hH.new hB hid (sp:=[]) hv t
 refine ⟨_,w.alloc (.cells (u.cells.toList++[]).toArray t),?_,vK hid,xK,by simp only [V];exact ⟨_,iV _ _ _,by simp⟩,hn,bJ.alloc _ (Nat.le_refl _) _,rfl⟩
 simp [Instr.box,newVar,newRow]
theorem aKX {H:bH} {B:Bd} (hH:cL β H w B) (hB:B.top w.heap.size) {id:Nat} (hid:β id=none) {t:TypeId} {z:List AV} (h:aAH P t=some z) :
  ∃ β' w',(Instr.alloc t true (.tuple #[])).run P w=.ok (.pointer (some ⟨w.heap.size,0,none⟩)) w'∧cN.le β β'∧(∀ j,β' j≠none→β j≠none∨j=id)∧V β' (.ptr id 0) (.pointer (some ⟨w.heap.size,0,none⟩)) ∧
   cL β' (upd H id (some (.cells z))) w' B∧bJ (fun c=>w.heap.size≤c) w w'∧β'.fz=β.fz:=by
 obtain ⟨v,hz,hv⟩:=uQ (β:=β) (w:=w) h
 have hn:=hH.new hB hid (sp:=[]) hv t
 refine ⟨_,w.alloc (.cells (v.cells.toList++[]).toArray t),?_,vK hid,xK,by simp only [V];exact ⟨_,iV _ _ _,by simp⟩,hn,bJ.alloc _ (Nat.le_refl _) _,rfl⟩
 simp [Instr.alloc,hz,newVar,newRow]
theorem vJ {zs:List AV} {vs:List Value} (h:Vs β zs vs):∀ n:Nat,Vs β (wB zs n) (List.replicate n vs).flatten
 | 0=>by simp [wB,Vs]
 | n+1=>by
  have:=qT h (vJ h n)
  simpa [wB,List.replicate_succ] using this
theorem aLT (sz:Nat):∀ (parts:List (Nat×AV)) (cs cs':List AV),xR (fun i=>some (i * sz,sz)) cs parts=some cs'→cs'.length=cs.length:=by
 intro parts
 induction parts with
 | nil=>intro cs cs' h;simp [xR] at h;rw [h]
 | cons p parts ih=>
  intro cs cs' h
  obtain ⟨i,x⟩:=p
  simp only [xR] at h
  split at h<;>(try (simp at h;done))
  split at h<;>(try (simp at h;done))
  rename_i hh;rename_i e3 _
  rw [ih _ _ h,aCH]
  obtain ⟨rfl,hle⟩:=hh
  simp only [Option.some.injEq,Prod.mk.injEq] at e3
  obtain ⟨rfl,_⟩:=e3
  exact hle
theorem aEr {t:TypeId} {len:Nat} {parts:List (Nat×AV)} {ps:Array (Nat×Value)} {e:TypeId} {sz:Nat} {cs:List AV}
  (h:sG P t len parts=some (e,sz,cs)) (h1:parts.map (·.1)=ps.toList.map (·.1)) (h2:Vs β (parts.map (·.2)) (ps.toList.map (·.2))) :
  szT P e=some sz∧0<sz∧cs.length=len * sz∧∃ vs:List Value,Vs β cs vs∧(Instr.buildSlice t len ps).run P w=.ok (.slice (some ⟨w.heap.size,0,none⟩) len len) (w.alloc (.cells (vs++[]).toArray e)):=by
 unfold sG at h
 split at h<;>(try (simp at h;done))
 rename_i e hu
 obtain ⟨sz,hsz,h⟩:=bQ h
 obtain ⟨z,hz,h⟩:=bQ h
 split at h<;>(try (simp at h;done))
 rename_i hc
 obtain ⟨hbig,hpos,hzl⟩:=hc
 obtain ⟨cs,hcs,he⟩:=Option.map_eq_some_iff.1 h
 cases he
 obtain ⟨v,hzv,hv⟩:=uQ (β:=β) (w:=w) hz
 have hvl:=cO hv
 have hcsz:v.cells.size=sz:=by rw [← hzl,hvl];simp
 obtain ⟨vs',hf,hv'⟩:=aE2 (pl:=fun i=>some (i * sz,sz)) (fun i p e=>e) parts ps.toList hcs (vJ hv len) h1 h2
 refine ⟨hsz,hpos,?_,vs',hv',?_⟩
 ·rw [aLT _ _ _ _ hcs];simp [wB,hzl]
 have hzero:((Array.range (len * sz)).map fun i=>v.cells[i % v.cells.size]!)=((List.replicate len v.cells.toList).flatten).toArray:=by
  apply Array.toList_inj.1
  have:=aHe v.cells (by omega) len
  rw [hcsz] at this ⊢
  simpa using this
 have hnb:¬ (2 ^ 24<len * sz):=by omega
 by_cases h0:len * sz=0
 ·have hl0:len=0:=by
   rcases Nat.mul_eq_zero.1 h0 with h | h
   ·exact h
   ·omega
  subst hl0
  simp at hf
  have hr0:Array.range 0=#[]:=rfl
  simp [Instr.buildSlice,cS hu,cX hsz,hf,newRow,hr0]
 ·simp only [Instr.buildSlice,Sem.run_bind,cS hu,cX hsz,Result.andThen_ok]
  simp only [gt_iff_lt,hnb,if_false,h0,Sem.run_bind,hzv,Result.andThen_ok,Sem.run_pure]
  rw [hzero,hf]
  simp [newRow]
theorem aBF {e:TypeId} {sz:Nat} (hsz:szT P e=some sz) {cs:List AV} {vs:List Value} (hv:Vs β cs vs) {off:Nat} {r:AV} (h:vD P e cs off=some r) (hok:okE P e sz r) :
  ∃ u:Value,u.cells.size=sz∧u.cells.toList=(vs.drop off).take sz∧V β r u:=by
 have hl:=cO hv
 unfold vD at h
 split at h
 ·rw [hsz] at h
  simp only [Option.bind_some] at h
  split at h<;>(try (simp at h;done))
  cases h
  refine ⟨.agg ((vs.drop off).take sz).toArray,by simp [Value.cells];omega,by simp [Value.cells],by simp only [V];exact ⟨_,rfl,xL (xP hv off) sz⟩⟩
 ·rename_i ha
  obtain ⟨rfl,hflat⟩:=hok ha
  obtain ⟨u,h1,h2⟩:=tT hv off r h
  have hlt:off<vs.length:=(List.getElem?_eq_some_iff.1 h1).1
  have htk:(vs.drop off).take 1=[u]:=by
   rw [List.drop_eq_getElem_cons hlt,List.take_succ_cons,List.take_zero]
   rw [List.getElem?_eq_some_iff] at h1;obtain ⟨_,h1⟩:=h1;rw [h1]
  have hc:r.cells=some [r]:=by cases r<;>first | rfl | simp [AV.flat] at hflat
  obtain ⟨u',us,e1,e2,e3⟩:=rX hc h2
  simp only [Vs] at e3
  subst e3
  have hu:u.cells=#[u]:=by
   have hone:=aJZ hflat h2
   cases r<;>simp only [AV.flat,Bool.false_eq_true] at hflat
   all_goals
    have h3:=h2
    simp only [V] at h3
   case ptr=>obtain ⟨l,_,rfl⟩:=h3;rfl
   case ep=>obtain ⟨_,_,_,rfl,_⟩:=h3;rfl
   case sl=>obtain ⟨l,_,h⟩:=h3;rcases h with ⟨_,_,a,rfl⟩ | ⟨_,_,rfl⟩<;>rfl
   case so=>obtain ⟨l,_,h⟩:=h3;rcases h with ⟨_,a,rfl⟩ | ⟨_,_,_,rfl⟩<;>rfl
   case lst=>obtain ⟨_,_,rfl,_⟩:=h3;rfl
   case mp=>obtain ⟨l,_,rfl⟩:=h3;rfl
   case yld=>obtain ⟨l,_,rfl⟩:=h3;rfl
   case fn=>obtain ⟨l,m,rfl,_⟩:=h3;rfl
   all_goals subst h3;rfl
  exact ⟨u,by simp [hu],by rw [htk,hu],h2⟩
 ·simp at h
theorem aEE {H:bH} {B:Bd} (hH:cL β H w B) (hB:B.top w.heap.size) {id:Nat} (hid:β id=none) {t:TypeId} {len:Nat} {parts:List (Nat×AV)} {ps:Array (Nat×Value)} {r:AV} {blk:AB}
  (h:sR P t len parts id r blk) (h1:parts.map (·.1)=ps.toList.map (·.1)) (h2:Vs β (parts.map (·.2)) (ps.toList.map (·.2))) :
  ∃ β' w' v,(Instr.buildSlice t len ps).run P w=.ok v w'∧cN.le β β'∧(∀ j,β' j≠none→β j≠none∨j=id)∧V β' r v∧cL β' (upd H id (some blk)) w' B∧bJ (fun c=>w.heap.size≤c) w w'∧(∀ c o,β'.fz c o≠none→β.fz c o≠none∨B c):=by
 obtain ⟨e,sz,cs,hb,hr⟩:=h
 obtain ⟨hsz,hpos,hlen,vs,hv,hrun⟩:=aEr (P:=P) (w:=w) hb h1 h2
 have hvl:=cO hv
 rcases hr with ⟨cs',hwr,hwl,rfl⟩ | ⟨f,rfl,rfl,hf⟩
 ·have hn:=hH.new hB hid (sp:=[]) (hwl _ _ hv) e
  refine ⟨_,_,_,hrun,vK hid,xK,hwr _ _ ?_,hn,bJ.alloc _ (Nat.le_refl _) _,fun c o h=>.inl h⟩
  simp only [V]
  exact ⟨_,iV _ _ _,.inr ⟨Nat.le_refl _,by simp;omega,by simp⟩⟩
 ·obtain ⟨β',g1,g2,g3,g4,g5,g6⟩:=hH.newF hB hid vs [] e
  refine ⟨β',_,_,hrun,g1,g2,?_,g5,bJ.alloc _ (Nat.le_refl _) _,g6⟩
  simp only [V]
  refine ⟨_,_,rfl,Nat.le_refl _,rfl,fun j hj=>?_⟩
  obtain ⟨a,hp,hok,hwk⟩:=hf j hj
  obtain ⟨u,u1,u2,u3⟩:=aBF hsz hv hp hok
  refine ⟨_,_,u,rfl,u1,fun k v hk=>?_,kU g1 _ _ (hwk _ _ u3)⟩
  rw [u2] at hk
  have:=g4 _ _ (eO _ _ _ _ _ hk)
  rw [Nat.zero_add] at this
  rw [Nat.zero_add];exact this
end
end Go.Eng
namespace Go.Eng
open Go.RowKit (Below)
section
variable {P:Program} {β:cN} {w:World}
def aLI (w:World) (c:Nat) (full:Array Value) (e:TypeId):World:={ w with heap:=w.heap.setIfInBounds c (.cells full e (0,0)) }
theorem aNG {c:Nat} {full:Array Value} {e:TypeId} (h:c<w.heap.size):(aLI w c full e).heap[c]?=some (.cells full e (0,0)):=by
 simp [aLI,h]
theorem aCT {c k:Nat} {full:Array Value} {e:TypeId} (h:k≠c):(aLI w c full e).heap[k]?=w.heap[k]?:=by
 simp [aLI,Array.getElem?_setIfInBounds_ne (Ne.symm h)]
theorem aIl {c:Nat} {B:Bd} {full:Array Value} {e:TypeId} (h:B c):bJ B w (aLI w c full e):=
 ⟨rfl,rfl,rfl,by simp [aLI],Nat.le_refl _,fun k hk=>aCT (fun e=>hk (e ▸ h))⟩
theorem aGY {c k:Nat} {full:Array Value} {e:TypeId} (h:w.heap[c]?=some (.cells full e (0,0))) (v:Value) :
  w.setCell ⟨c,k,none⟩ v=aLI w c (full.setIfInBounds k v) e:=by
 obtain ⟨hlt,hh⟩:=Array.getElem?_eq_some_iff.1 h
 have hE:w.heap.modify c (fun | .cells c elem frozen=>.cells (if (none:Option Nat).isSome then c else c.setIfInBounds k v) elem frozen | o=>o)=w.heap.setIfInBounds c (.cells (full.setIfInBounds k v) e (0,0)):=by
  apply Array.ext_getElem?
  intro i
  rw [Array.getElem?_modify]
  by_cases e:c=i
  ·subst e
   rw [if_pos rfl,h,Array.getElem?_setIfInBounds_self_of_lt hlt];rfl
  ·rw [if_neg e,Array.getElem?_setIfInBounds_ne e]
 unfold World.setCell aLI
 exact congrArg (fun hp=>{ w with heap:=hp }) hE
def aNV (full:Array Value) (k:Nat):List Value→Array Value
 | []=>full
 | v::vs=>aNV (full.setIfInBounds k v) (k+1) vs
theorem vN:∀ (vs:List Value) (full:Array Value) (k:Nat),(aNV full k vs).size=full.size
 | [],_,_=>rfl
 | v::vs,full,k=>by rw [aNV,vN vs];simp
theorem rV:∀ (vs:List Value) (full:Array Value) (k j:Nat),k+vs.length≤full.size →
  (aNV full k vs)[j]?=if k≤j∧j<k+vs.length then vs[j-k]? else full[j]?
 | [],full,k,j,_=>by
  have:¬ (k≤j∧j<k+0):=by omega
  simp only [aNV,List.length_nil];rw [if_neg this]
 | v::vs,full,k,j,h=>by
  simp only [List.length_cons] at h
  rw [aNV,rV vs _ _ _ (by simp;omega)]
  by_cases h1:k+1≤j∧j<k+1+vs.length
  ·rw [if_pos h1,if_pos (by simp;omega)]
   rw [show j-k=(j-(k+1))+1 by omega]
   simp
  ·rw [if_neg h1]
   by_cases h2:j=k
   ·subst h2
    rw [if_pos (by simp)]
    have:j<full.size:=by omega
    simp [this]
   ·rw [if_neg (by simp;omega),Array.getElem?_setIfInBounds_ne (by omega)]
theorem oG {c o:Nat} {e:TypeId}:∀ (vs:List Value) (i:Nat) (w:World) (full:Array Value),w.heap[c]?=some (.cells full e (0,0))→o+i+vs.length≤full.size→(∀ v∈vs,v.oneCell'=true) →
  ∃ w',(storeCells ⟨c,o,none⟩ vs i).run P w=.ok () w'∧w'.heap[c]?=some (.cells (aNV full (o+i) vs) e (0,0))∧(∀ k,k≠c→w'.heap[k]?=w.heap[k]?)∧∀ B:Bd,B c→bJ B w w'
 | [],i,w,full,h,_,_=>⟨w,by simp [storeCells],h,fun _ _=>rfl,fun B _=>bJ.refl _ _⟩
 | v::vs,i,w,full,h,hl,h1=>by
  simp only [List.length_cons] at hl
  obtain ⟨hlt,_⟩:=Array.getElem?_eq_some_iff.1 h
  have hcell:w.cell? ⟨c,o+i,none⟩=some (full[o+i]'(by omega)):=by
   simp only [World.cell?,h];simp
  have hfr:w.frozen? ⟨c,o+i,none⟩=false:=by simp [World.frozen?,h]
  obtain ⟨w',r1,r2,r3,r4⟩:=oG (c:=c) (o:=o) (e:=e) vs (i+1) (aLI w c (full.setIfInBounds (o+i) v) e) (full.setIfInBounds (o+i) v) (aNG hlt) (by simp;omega) fun u hu=>h1 u (by simp [hu])
  refine ⟨w',?_,?_,fun k hk=>(r3 k hk).trans (aCT hk),fun B hB=>(aIl hB).trans (r4 B hB)⟩
  ·simp only [storeCells,Sem.run_bind,gC,run_store P w _ _ _ (h1 v (by simp)),hcell,hfr,Bool.false_eq_true,if_false,Result.andThen_ok,aGY h]
   exact r1
  ·rw [r2];rfl
theorem cL.write {H:bH} {w':World} {B:Bd} (hH:cL β H w B) {i:Nat} {cs cs':List AV} {l:Loc} (hi:H i=some (.cells cs)) (hl:β i=some l) (hk:0<l.k) {full0 full:Array Value} {e0 e:TypeId}
  (hw0:w.heap[l.c]?=some (.cells full0 e0 (0,0))) (hw:w'.heap[l.c]?=some (.cells full e (0,0))) (hs:l.o+l.k≤full.size) (hlen:cs'.length≤l.k) (hout:∀ o,o<l.o∨l.o+l.k≤o→full[o]?=full0[o]?)
  (hc:∀ (j:Nat) (a:AV),cs'[j]?=some a→∃ v:Value,(full[l.o+j]?:Option Value)=some v∧V β a v) (ho:∀ k,k≠l.c→w'.heap[k]?=w.heap[k]?) (hy:bJ (fun c=>¬ β.ys c) w w') :
  cL β (upd H i (some (.cells cs'))) w' B:=by
 have hB:=(hH.lt_of_own hi hl hk).2
 obtain ⟨l',hl',_,hblk⟩:=hH.own i cs hi
 rw [hl] at hl';cases hl'
 obtain ⟨_,hun,_⟩:=hblk hk
 have hfz:∀ c o v,β.fz c o=some v→w'.cell? ⟨c,o,none⟩=some v:=fun c o v hv=>by
  have h0:=hH.fz c o v hv
  by_cases hc:c=l.c
  ·subst hc
   have:o<l.o∨l.o+l.k≤o:=by
    rcases Nat.lt_or_ge o l.o with h | h
    ·exact .inl h
    ·rcases Nat.lt_or_ge o (l.o+l.k) with h' | h'
     ·rw [hun o h h'] at hv;cases hv
     ·exact .inr h'
   simp only [World.cell?,hw0] at h0
   simp only [World.cell?,hw]
   rw [hout o this];exact h0
  ·exact (World.cell?_of_block (w:=w) (a:=⟨c,o,none⟩) (ho c hc)).trans h0
 have h1:cL β (upd H i none) w' B:=by
  refine (hH.drop i).world hfz (fun j b lj hj hlj hkj=>?_) hy
  by_cases e:j=i
  ·subst e;simp at hj
  ·rw [aY _ _ e] at hj
   exact ho _ (hH.sep j i b _ lj l e hj hi hlj hl hkj hk)
 have h2:=h1.add (id:=i) (l:=l) (cs:=cs') hl hlen (fun _=>⟨hB,hun,full,e,hw,hs,hc⟩) (fun _ j b lj hj hb hlj hkj=>by
  rw [aY _ _ hj] at hb
  exact hH.sep j i b _ lj l hj hb hi hlj hl hkj hk) fun _=>hH.yo i _ l hi hl hk
 have e:upd (upd H i none) i (some (AB.cells cs'))=upd H i (some (.cells cs')):=by
  funext j;unfold upd;split<;>rfl
 rw [e] at h2;exact h2
theorem cL.trim {H:bH} {B:Bd} (hH:cL β H w B) {i:Nat} {cs:List AV} (hi:H i=some (.cells cs)) (m:Nat):cL β (upd H i (some (.cells (cs.take m)))) w B:=by
 obtain ⟨l,hl,hlen,hblk⟩:=hH.own i cs hi
 have h2:=(hH.drop i).add (id:=i) (l:=l) (cs:=cs.take m) hl (by rw [List.length_take];omega) (fun hk=>let ⟨hB,hu,full,e,p,q,r⟩:=hblk hk;⟨hB,hu,full,e,p,q,fun j a ha=>r j a (by
   rw [List.getElem?_take] at ha;split at ha
   ·exact ha
   ·cases ha)⟩) (fun hk j b lj hj hb hlj hkj=>by
   rw [aY _ _ hj] at hb
   exact hH.sep j i b _ lj l hj hb hi hlj hl hkj hk) (fun hk=>hH.yo i _ l hi hl hk)
 have e:upd (upd H i none) i (some (AB.cells (cs.take m)))=upd H i (some (.cells (cs.take m))):=by
  funext j;unfold upd;split<;>rfl
 rw [e] at h2;exact h2
theorem cL.recell {H:bH} {B:Bd} (hH:cL β H w B) {i:Nat} {cs cs':List AV} (hi:H i=some (.cells cs)) (hle:cs'.length≤cs.length) (hr:∀ (j:Nat) (a':AV),cs'[j]?=some a'→∃ a,cs[j]?=some a∧∀ v,V β a v→V β a' v):cL β (upd H i (some (.cells cs'))) w B:=by
 obtain ⟨l,hl,hlen,hblk⟩:=hH.own i cs hi
 have h2:=(hH.drop i).add (id:=i) (l:=l) (cs:=cs') hl (by omega) (fun hk=>let ⟨hB,hu,full,e,p,q,r⟩:=hblk hk;⟨hB,hu,full,e,p,q,fun j a ha=>by
   obtain ⟨a0,h1,h2⟩:=hr j a ha
   obtain ⟨v,h3,h4⟩:=r j a0 h1
   exact ⟨v,h3,h2 v h4⟩⟩) (fun hk j b lj hj hb hlj hkj=>by
   rw [aY _ _ hj] at hb
   exact hH.sep j i b _ lj l hj hb hi hlj hl hkj hk) (fun hk=>hH.yo i _ l hi hl hk)
 have e:upd (upd H i none) i (some (AB.cells cs'))=upd H i (some (.cells cs')):=by
  funext j;unfold upd;split<;>rfl
 rw [e] at h2;exact h2
theorem aEm {xs:List AV} {vs:List Value} (h:xs.all AV.flat=true) (hv:Vs β xs vs):∀ v∈vs,v.oneCell'=true:=by
 induction xs generalizing vs with
 | nil=>simp [Vs] at hv;subst hv;simp
 | cons x xs ih=>
  obtain ⟨v,vs',rfl,h1,h2⟩:=hv
  simp only [List.all_cons,Bool.and_eq_true] at h
  intro u hu
  rcases List.mem_cons.1 hu with rfl | hu
  ·exact aJZ h.1 h1
  ·exact ih h.2 h2 u hu
theorem wK {cs xs:List AV} {o:Nat} (h:o+xs.length≤cs.length) (j:Nat):(dZ cs o xs)[j]?=if o≤j∧j<o+xs.length then xs[j-o]? else cs[j]?:=by
 unfold dZ
 rw [List.append_assoc,List.getElem?_append]
 have e1:(cs.take o).length=o:=by simp;omega
 rw [e1]
 by_cases h1:j<o
 ·rw [if_pos h1,if_neg (by omega),List.getElem?_take_of_lt h1]
 ·rw [if_neg h1,List.getElem?_append]
  by_cases h2:j-o<xs.length
  ·rw [if_pos h2,if_pos (by omega)]
  ·rw [if_neg h2,if_neg (by omega),List.getElem?_drop]
   congr 1;omega
theorem aIK {H:bH} {B:Bd} (hH:cL β H w B) {i:Nat} {cs xs:List AV} {vs:List Value} (hi:H i=some (.cells cs))  {l:Loc} (hl:β i=some l) {o:Nat} (hle:o+xs.length≤cs.length) (hpos:0<l.k)
  (hf:xs.all AV.flat=true) (hv:Vs β xs vs) :
  ∃ w',(storeCells ⟨l.c,l.o+o,none⟩ vs 0).run P w=.ok () w'∧cL β (upd H i (some (.cells (dZ cs o xs))) ) w' B∧bJ B w w':=by
 obtain ⟨l',hl',hlen,hblk⟩:=hH.own i cs hi
 rw [hl] at hl';cases hl'
 obtain ⟨hB,_,full,e,hw,hs,hc⟩:=hblk hpos
 have hvl:=cO hv
 obtain ⟨w',r1,r2,r3,r4⟩:=oG (P:=P) (o:=l.o+o) vs 0 w full hw (by omega) (aEm hf hv)
 refine ⟨w',r1,hH.write hi hl hpos hw r2 (by rw [vN];exact hs) (by rw [aCH hle];exact hlen) (fun q hq=>by rw [rV _ _ _ _ (by omega),if_neg (by omega)]) (fun j a ha=>?_) r3 (r4 _ (hH.yo i _ l hi hl hpos)),r4 B hB⟩
 rw [wK hle] at ha
 rw [rV _ _ _ _ (by omega)]
 by_cases h1:o≤j∧j<o+xs.length
 ·rw [if_pos h1] at ha
  rw [if_pos (by omega)]
  obtain ⟨v,x,y⟩:=tT hv _ _ ha
  exact ⟨v,by rw [show l.o+j-(l.o+o+0)=j-o by omega];exact x,y⟩
 ·rw [if_neg h1] at ha
  rw [if_neg (by omega)]
  exact hc j a ha
theorem aGN {cs vs:List AV} {o:Nat} (h:o≤cs.length) (j:Nat):(dZ cs o vs)[j]?=if o≤j∧j<o+vs.length then vs[j-o]? else cs[j]?:=by
 unfold dZ
 by_cases h1:j<o
 ·rw [List.append_assoc,List.getElem?_append_left (by rw [List.length_take];omega),List.getElem?_take_of_lt h1,if_neg (by omega)]
 ·by_cases h2:j<o+vs.length
  ·rw [List.append_assoc,List.getElem?_append_right (by rw [List.length_take];omega),List.length_take,Nat.min_eq_left h,List.getElem?_append_left (by omega),if_pos ⟨by omega,h2⟩]
  ·rw [List.getElem?_append_right (by rw [List.length_append,List.length_take];omega),List.length_append,List.length_take,Nat.min_eq_left h,List.getElem?_drop,if_neg (by omega)]
   congr 1;omega
theorem aH0 {H:bH} {B:Bd} (hH:cL β H w B) {i:Nat} {cs xs:List AV} {vs:List Value} (hi:H i=some (.cells cs))  {l:Loc} (hl:β i=some l) {o:Nat} (ho:o≤cs.length) (hle:o+xs.length≤l.k) (hpos:0<l.k)
  (hf:xs.all AV.flat=true) (hv:Vs β xs vs) :
  ∃ w',(storeCells ⟨l.c,l.o+o,none⟩ vs 0).run P w=.ok () w'∧cL β (upd H i (some (.cells (dZ cs o xs))) ) w' B∧bJ B w w':=by
 obtain ⟨l',hl',hlen,hblk⟩:=hH.own i cs hi
 rw [hl] at hl';cases hl'
 obtain ⟨hB,_,full,e,hw,hs,hc⟩:=hblk hpos
 have hvl:=cO hv
 obtain ⟨w',r1,r2,r3,r4⟩:=oG (P:=P) (o:=l.o+o) vs 0 w full hw (by omega) (aEm hf hv)
 refine ⟨w',r1,hH.write hi hl hpos hw r2 (by rw [vN];exact hs) (by unfold dZ;rw [List.length_append,List.length_append,List.length_take,List.length_drop];omega) (fun q hq=>by rw [rV _ _ _ _ (by omega),if_neg (by omega)]) (fun j a ha=>?_) r3 (r4 _ (hH.yo i _ l hi hl hpos)),r4 B hB⟩
 rw [aGN ho] at ha
 rw [rV _ _ _ _ (by omega)]
 by_cases h1:o≤j∧j<o+xs.length
 ·rw [if_pos h1] at ha
  rw [if_pos (by omega)]
  obtain ⟨v,x,y⟩:=tT hv _ _ ha
  exact ⟨v,by rw [show l.o+j-(l.o+o+0)=j-o by omega];exact x,y⟩
 ·rw [if_neg h1] at ha
  rw [if_neg (by omega)]
  exact hc j a ha
theorem aLi {H H':bH} {B:Bd} (hH:cL β H w B) {t:TypeId} {p x r:AV} {u v:Value} (h:aFp P t p x H=some (r,H')) (hp:V β p u) (hx:V β x v) :
  ∃ w',(Instr.storeAt t u v).run P w=.ok () w'∧r=.und∧cL β H' w' B∧bJ B w w':=by
 unfold aFp at h
 split at h<;>(try (simp at h;done))
 rename_i i o xs e1
 split at h<;>(try (simp at h;done))
 rename_i cs hi
 obtain ⟨n,hn,h⟩:=bQ h
 split at h<;>(try (simp at h;done))
 rename_i hc
 obtain ⟨hxl,hle,hf⟩:=hc
 cases h
 obtain ⟨l,hl,rfl⟩:=aId hp
 have hv:=rX e1 hx
 have hvl:=cO hv
 have hsz:v.cells.size=n:=by rw [← hxl,hvl];simp
 by_cases hpos:0<l.k
 ·obtain ⟨w',r1,r2,r3⟩:=aIK (P:=P) hH hi hl (o:=o) (xs:=xs) (by omega) hpos hf hv
  exact ⟨w',by simp [Instr.storeAt,Instr.sureAddr,storeVar,cX hn,hsz,r1],rfl,r2,r3⟩
 ·obtain ⟨l',hl',hlen,_⟩:=hH.own i cs hi
  rw [hl] at hl';cases hl'
  have hx0:xs=[]:=List.eq_nil_of_length_eq_zero (by omega)
  subst hx0
  have hv0:v.cells.toList=[]:=by cases hh:v.cells.toList with | nil=>rfl | cons a b=>rw [hh] at hvl;simp at hvl
  refine ⟨w,by simp [Instr.storeAt,Instr.sureAddr,storeVar,cX hn,hsz,hv0,storeCells],rfl,?_,bJ.refl _ _⟩
  have e:upd H i (some (AB.cells (dZ cs o [])))  = H:=by
   funext j;unfold upd
   split
   ·rename_i e;subst e;rw [hi];simp [dZ,List.take_append_drop]
   ·rfl
  rw [e];exact hH
end
end Go.Eng
namespace Go.Eng
open Go.RowKit (Below)
section
variable {P:Program} {β:cN} {w:World}
theorem aFB (n:Nat):∀ (r c:Nat),Builtin.growBy n r c≤max c (2 * n+192)
 | 0,c=>by simp [Builtin.growBy];omega
 | r+1,c=>by
  unfold Builtin.growBy
  split
  ·omega
  ·have:=aFB n r (c+(c+768) / 4)
   omega
theorem aIa (n c:Nat) (h:c<n):Builtin.nextslicecap n c≤2 * n+192:=by
 unfold Builtin.nextslicecap
 split
 ·omega
 ·split
  ·omega
  ·have:=aFB n 4 c;omega
theorem aBC {φ:Nat→Nat→Option Value} {c o:Nat} {a b:List Value}:laid φ c o (a++b)↔laid φ c o a∧laid φ c (o+a.length) b:=by
 constructor
 ·intro h
  refine ⟨fun k v hk=>h k v ?_,fun k v hk=>?_⟩
  ·have:k<a.length:=(List.getElem?_eq_some_iff.1 hk).1
   rw [List.getElem?_append_left this];exact hk
  ·rw [Nat.add_assoc];refine h _ v ?_
   rw [List.getElem?_append_right (by omega)];simpa using hk
 ·rintro ⟨h1,h2⟩ k v hk
  rw [List.getElem?_append] at hk
  split at hk
  ·exact h1 k v hk
  ·have:=h2 _ v hk
   rwa [show o+a.length+(k-a.length)=o+k by omega] at this
theorem aKi {φ:Nat→Nat→Option Value} {c o:Nat} {vs:List Value} (h:laid φ c o vs) (d n:Nat):laid φ c (o+d) ((vs.drop d).take n):=fun k v hk=>by
 have:=h _ v (eO _ _ _ _ _ hk)
 rwa [← Nat.add_assoc] at this
theorem rT {α:Type} {sz:Nat} {g:Nat→List α}:∀ n:Nat,(∀ j,j<n→(g j).length=sz)→((List.range n).flatMap g).length=n * sz
 | 0,_=>by simp
 | n+1,h1=>by
  rw [List.range_succ,List.flatMap_append,List.flatMap_singleton,List.length_append,rT n (fun j hj=>h1 j (by omega)),h1 n (by omega),Nat.succ_mul]
theorem aF2 {φ:Nat→Nat→Option Value} {c o sz:Nat} {g:Nat→List Value}:∀ n:Nat,(∀ j,j<n→(g j).length=sz)→(∀ j,j<n→laid φ c (o+j * sz) (g j))→laid φ c o ((List.range n).flatMap g)
 | 0,_,_=>by simp [laid]
 | n+1,h1,h2=>by
  rw [List.range_succ,List.flatMap_append,List.flatMap_singleton]
  refine aBC.2 ⟨aF2 n (fun j hj=>h1 j (by omega)) (fun j hj=>h2 j (by omega)),?_⟩
  rw [rT n (fun j hj=>h1 j (by omega))];exact h2 n (by omega)
theorem aFl {α:Type} {sz:Nat} {g:Nat→List α}:∀ n:Nat,(∀ j,j<n→(g j).length=sz)→∀ j,j<n→(((List.range n).flatMap g).drop (j * sz)).take sz=g j
 | 0,_,j,hj=>by omega
 | n+1,h1,j,hj=>by
  have hl:=rT n (g:=g) (fun j hj=>h1 j (by omega))
  rw [List.range_succ,List.flatMap_append,List.flatMap_singleton]
  by_cases hjn:j<n
  ·have h2:j * sz+sz≤n * sz:=by rw [← Nat.succ_mul];exact Nat.mul_le_mul_right _ hjn
   rw [List.drop_append_of_le_length (by rw [hl];omega),List.take_append_of_le_length (by rw [List.length_drop,hl];omega)]
   exact aFl n (fun j hj=>h1 j (by omega)) j hjn
  ·have:j=n:=by omega
   subst this
   rw [← hl,List.drop_left,List.take_of_length_le (by rw [h1 j (by omega)];exact Nat.le_refl _)]
theorem aGn {sz:Nat} {f:Nat→AV} {us:Nat→Value}:∀ n:Nat,(∀ j,j<n→(f j).cells≠none)→(∀ j,j<n→V β (f j) (us j))→Vs β ((List.range n).flatMap fun j=>lL (f j)) ((List.range n).flatMap fun j=>(us j).cells.toList)
 | 0,_,_=>by simp [Vs]
 | n+1,h1,h2=>by
  rw [List.range_succ,List.flatMap_append,List.flatMap_singleton,List.flatMap_append,List.flatMap_singleton]
  refine qT (aGn (sz:=sz) n (fun j hj=>h1 j (by omega)) (fun j hj=>h2 j (by omega))) ?_
  have h3:=h1 n (by omega)
  unfold lL
  cases hc:(f n).cells with
  | none=>exact absurd hc h3
  | some cs=>exact rX hc (h2 n (by omega))
theorem aDd {m:LM} {sz n:Nat} {f:Nat→AV} {v:Value} (hx:V β (.lst m sz n f) v) :
  ∃ (base:Option Addr) (cap:Nat) (us:Nat→Value),v=.slice base n cap∧n≤cap∧aHk β m sz n base cap∧(∀ j,j<n→(us j).cells.toList.length=sz∧V β (f j) (us j)) ∧
   (0<n→∃ c o,base=some ⟨c,o,none⟩∧laid β.fz c o ((List.range n).flatMap fun j=>(us j).cells.toList)):=by
 obtain ⟨base,cap,h1,h2,h3,h4⟩:=aMh hx
 have h5:∀ j,∃ u:Value,j<n→∃ c o,base=some ⟨c,o,none⟩∧u.cells.size=sz∧laid β.fz c (o+j * sz) u.cells.toList∧V β (f j) u:=fun j=>by
  by_cases hj:j<n
  ·obtain ⟨c,o,u,k⟩:=h4 j hj;exact ⟨u,fun _=>⟨c,o,k⟩⟩
  ·exact ⟨undef,fun h=>absurd h hj⟩
 obtain ⟨us,hus⟩:=Classical.axiomOfChoice h5
 refine ⟨base,cap,us,h1,h2,h3,fun j hj=>?_,fun hn=>?_⟩
 ·obtain ⟨c,o,_,k1,_,k3⟩:=hus j hj;exact ⟨by simpa using k1,k3⟩
 ·obtain ⟨c,o,k0,_⟩:=hus 0 hn
  refine ⟨c,o,k0,aF2 (sz:=sz) n (fun j hj=>?_) (fun j hj=>?_)⟩
  ·obtain ⟨_,_,_,k1,_⟩:=hus j hj;simpa using k1
  ·obtain ⟨c',o',k0',_,k2,_⟩:=hus j hj
   rw [k0] at k0';cases k0';exact k2
theorem aJY {m:LM} {sz n cap:Nat} {f:Nat→AV} {base:Option Addr} {us:Nat→Value} (hcap:n≤cap) (hm:aHk β m sz n base cap) (hu:∀ j,j<n→(us j).cells.toList.length=sz∧V β (f j) (us j))
  (hl:0<n→∃ c o,base=some ⟨c,o,none⟩∧laid β.fz c o ((List.range n).flatMap fun j=>(us j).cells.toList)):V β (.lst m sz n f) (.slice base n cap):=by
 simp only [V]
 refine ⟨base,cap,rfl,hcap,hm,fun j hj=>?_⟩
 obtain ⟨c,o,h1,h2⟩:=hl (by omega)
 refine ⟨c,o,us j,h1,by simpa using (hu j hj).1,?_,(hu j hj).2⟩
 have:=aKi h2 (j * sz) sz
 rwa [aFl n (fun j hj=>(hu j hj).1) j hj] at this
theorem sT {H:bH} {B:Bd} (hH:cL β H w B) {_m:LM} {sz n cap:Nat} {base:Option Addr} {us:Nat→Value} (hu:∀ j,j<n→(us j).cells.toList.length=sz)
  (hl:0<n→∃ c o,base=some ⟨c,o,none⟩∧laid β.fz c o ((List.range n).flatMap fun j=>(us j).cells.toList)) :
  (Builtin.firstCells sz n (.slice base n cap)).run P w=.ok ((List.range n).flatMap fun j=>(us j).cells.toList).toArray w:=by
 rcases Nat.eq_zero_or_pos n with rfl | hn
 ·cases base<;>simp [Builtin.firstCells,loadCells,loadCellsFrom]
 ·obtain ⟨c,o,rfl,h2⟩:=hl hn
  exact mV (P:=P) (aFX hH h2) (rT n hu).symm
theorem zP {H:bH} {B:Bd} (hH:cL β H w B) {sz k:Nat} {x:AV} {v:Value} {xs:List AV} (h:cellsOf H sz x=some xs) (hk:aL6 x=some k) (hok:qJ x) (hx:V β x v) :
  ∃ vs:List Value,Vs β xs vs∧xs.length=k * sz∧(Builtin.lenOf v).run P w=.ok k w∧(∀ n,n=k→(Builtin.firstCells sz n v).run P w=.ok vs.toArray w):=by
 cases x<;>simp only [aL6,Option.some.injEq] at hk<;>(try (cases hk;done))<;>(try (simp at hk;done))
 case nils=>
  subst hk
  simp only [cellsOf,Option.some.injEq] at h;subst h
  simp only [V] at hx;subst hx
  exact ⟨[],by simp [Vs],by simp,by simp [Builtin.lenOf],fun n _=>by simp [Builtin.firstCells]⟩
 case sl i o n m s=>
  subst hk
  simp only [cellsOf] at h
  split at h<;>(try (simp at h;done))
  rename_i cs hi
  split at h<;>(try (simp at h;done))
  rename_i hc
  obtain ⟨rfl,hle⟩:=hc
  cases h
  simp only [V] at hx
  obtain ⟨l,hl,hx⟩:=hx
  obtain ⟨l',vs,hl',hvs,hcell⟩:=hH.cellsList hi
  rw [hl] at hl';cases hl'
  have hvl:=cO hvs
  refine ⟨(vs.drop o).take (n * s),xL (xP hvs o) _,by simp;omega,?_,?_⟩
  ·rcases hx with ⟨rfl,_,a,rfl⟩ | ⟨_,_,rfl⟩<;>simp [Builtin.lenOf]
  ·rintro n' rfl
   rcases hx with ⟨rfl,_,a,rfl⟩ | ⟨_,_,rfl⟩
   ·cases a with
    | none=>simp [Builtin.firstCells]
    | some a=>simp [Builtin.firstCells,loadCells,loadCellsFrom]
   ·exact mV (P:=P) (w:=w) (c:=l.c) (o:=l.o+o) (vs:=(vs.drop o).take (n' * s)) (n:=n' * s)
     (fun j v hj=>by have:=hcell _ _ (eO _ _ _ _ _ hj);rw [Nat.add_assoc];exact this) (by simp;omega)
 case so i o n s=>
  subst hk
  simp only [cellsOf] at h
  split at h<;>(try (simp at h;done))
  rename_i cs hi
  split at h<;>(try (simp at h;done))
  rename_i hc
  obtain ⟨rfl,hle⟩:=hc
  cases h
  simp only [V] at hx
  obtain ⟨l,hl,hx⟩:=hx
  obtain ⟨l',vs,hl',hvs,hcell⟩:=hH.cellsList hi
  rw [hl] at hl';cases hl'
  have hvl:=cO hvs
  refine ⟨(vs.drop o).take (n * s),xL (xP hvs o) _,by simp;omega,?_,?_⟩
  ·rcases hx with ⟨rfl,a,rfl⟩ | ⟨_,_,_,rfl⟩<;>simp [Builtin.lenOf]
  ·rintro n' rfl
   rcases hx with ⟨rfl,a,rfl⟩ | ⟨_,_,_,rfl⟩
   ·cases a with
    | none=>simp [Builtin.firstCells]
    | some a=>simp [Builtin.firstCells,loadCells,loadCellsFrom]
   ·exact mV (P:=P) (w:=w) (c:=l.c) (o:=l.o+o) (vs:=(vs.drop o).take (n' * s)) (n:=n' * s)
     (fun j v hj=>by have:=hcell _ _ (eO _ _ _ _ _ hj);rw [Nat.add_assoc];exact this) (by simp;omega)
 case lst m s n f=>
  subst hk
  simp only [cellsOf] at h
  split at h<;>(try (simp at h;done))
  rename_i hs
  subst hs
  cases h
  obtain ⟨base,cap,us,rfl,hcap,_,hu,hlaid⟩:=aDd hx
  refine ⟨_,aGn (sz:=s) n hok (fun j hj=>(hu j hj).2),?_,by simp [Builtin.lenOf],?_⟩
  ·refine rT n fun j hj=>?_
   have h1:=hok j hj
   unfold lL
   cases hc:(f j).cells with
   | none=>exact absurd hc h1
   | some cs=>have:=cO (rX hc (hu j hj).2);rw [(hu j hj).1] at this;exact this
  ·rintro n' rfl
   exact sT (_m:=m) hH (fun j hj=>(hu j hj).1) hlaid
theorem wX (z:Array Value) (n:Nat):(Builtin.zeroCells z n).size=n * z.size:=by simp [Builtin.zeroCells]
theorem aHy {t:TypeId} {b:Nat} (h:(P.info? t).map (·.bytes)=some b):∃ i,P.info? t=some i∧i.bytes=b:=by
 cases hi:P.info? t with
 | none=>simp [hi] at h
 | some i=>simp [hi] at h;exact ⟨i,rfl,h⟩
theorem aCP {t u ty e:TypeId} {sz by_ n m k:Nat} {base:Option Addr} {x:Value} (ht:P.underlying t=some (.slice e)) {d:TypeId} (hu:P.underlying u=some (.slice d)) (hsz:szT P e=some sz) (hby:(P.info? e).map (·.bytes)=some by_)
  (hb0:0<by_) (hb:by_≤1048576) (hnk:n+k≤1048576) (hm:m<n+k) {zv:Value} (hz:∀ w,(zeroValue e).run P w=.ok zv w) {olds news:List Value}
  (hlen:∀ w',(w'=w∨w'=w.drew)→(Builtin.lenOf x).run P w'=.ok k w') (hold:∀ w',(w'=w∨w'=w.drew)→(Builtin.firstCells sz n (.slice base n m)).run P w'=.ok olds.toArray w')
  (hnew:∀ w',(w'=w∨w'=w.drew)→(Builtin.firstCells sz k x).run P w'=.ok news.toArray w') :
  ∃ cap,n+k≤cap∧(Builtin.append_ #[t,u] ty #[.slice base n m,x]).run P w =
   .ok (.slice (some ⟨w.heap.size,0,none⟩) (n+k) cap) (w.drew.alloc (.cells ((olds++news)++(Builtin.zeroCells zv.cells (cap-(n+k))).toList).toArray e)):=by
 obtain ⟨i,hi,hib⟩:=aHy hby
 let q:Question:=.appendCap (n+k) m e
 refine ⟨q.cut (w.tape w.drawn q),?_,?_⟩
 ·simp only [q,Question.cut];omega
 ·have h1:¬ (n+k≤m):=by omega
  have h2:¬ (((n+k:Nat):Int)>IntKind.i64.max∧(false=true∨i.bytes=0)):=by
   intro hh;rcases hh.2 with hh | hh
   ·simp at hh
   ·omega
  have h3:¬ (Builtin.nextslicecap (n+k) m * i.bytes>2 ^ 48):=by
   have:=aIa (n+k) m hm
   have:Builtin.nextslicecap (n+k) m * i.bytes≤2097600 * 1048576:=Nat.mul_le_mul (by omega) (by omega)
   omega
  have hun:∀ w',(underlying t).run P w'=.ok (.slice e) w':=fun w'=>cS ht
  have hun2:∀ w',(underlying u).run P w'=.ok (.slice d) w':=fun w'=>cS hu
  have hs:∀ w',(sizeOf e).run P w'=.ok sz w':=fun w'=>cX hsz
  have hti:∀ w',(typeInfo e).run P w'=.ok i w':=fun w'=>by simp [typeInfo,hi]
  have hforced:q.forced=false:=rfl
  have hd:({ w with drawn:=w.drawn+1 }:World)=w.drew:=rfl
  unfold Builtin.append_
  simp only [List.getElem?_toArray,List.getElem?_cons_zero,List.getElem?_cons_succ]
  simp only [Sem.run_bind,hun,hs,hun2,Result.andThen_ok,Sem.run_pure,Bool.false_eq_true,if_false,hlen w (.inl rfl),h1,hti,Bool.not_false,if_true]
  have hq:(Question.appendCap (n+k) m e).forced=false:=rfl
  simp only [newRow]
  have h4:¬ (9223372036854775807<(n:Int)+(k:Int)∧i.bytes=0):=by omega
  have h5:¬ (281474976710656<Builtin.nextslicecap (n+k) m * i.bytes):=by omega
  simp [q,h4,h5,hti,hq,hold _ (.inr rfl),hnew _ (.inr rfl),hz]
  congr 2
  apply Array.toList_inj.1
  simp
theorem aH6 (a:Addr):w.drew.cell? a=w.cell? a:=rfl
theorem cL.drew {H:bH} {B:Bd} (h:cL β H w B):cL β H w.drew B:=
 h.world (fun c o v hv=>h.fz c o v hv) (fun _ _ _ _ _ _=>rfl) ⟨rfl,rfl,rfl,Nat.le_refl _,Nat.le_succ _,fun _ _=>rfl⟩
theorem cL.loc0 {H:bH} {B:Bd} (hH:cL β H w B) {id:Nat} (hid:β id=none):cL (β.put id ⟨0,0,0⟩) (upd H id (some (.cells []))) w B:=
 (hH.put ⟨0,0,0⟩ hid).add (l:=⟨0,0,0⟩) (iV _ _ _) (by simp) (fun h=>by simp at h) (fun h=>by simp at h) (fun h=>by simp at h)
theorem cL.rename {H:bH} {B:Bd} (hH:cL β H w B) {i id:Nat} {cs:List AV} {l:Loc} (hi:H i=some (.cells cs)) (hl:β i=some l) (hid:β id=none):cL (β.put id l) (upd (upd H i none) id (some (.cells cs))) w B:=by
 obtain ⟨l',hl',hlen,hblk⟩:=hH.own i cs hi
 rw [hl] at hl';cases hl'
 have hle:=vK (β:=β) (l:=l) hid
 refine ((hH.drop i).put l hid).add (l:=l) (iV _ _ _) hlen (fun hk=>?_) (fun hk j b lj hj hb hlj hkj=>?_) fun hk=>hH.yo i _ l hi hl hk
 ·obtain ⟨hB,hu,full,e,p,q,r⟩:=hblk hk
  exact ⟨hB,hu,full,e,p,q,fun j a ha=>let ⟨v,x,y⟩:=r j a ha;⟨v,x,kU hle _ _ y⟩⟩
 ·rw [uF _ _ hj] at hlj
  have hji:j≠i:=fun e=>by subst e;simp at hb
  rw [aY _ _ hji] at hb
  exact hH.sep j i b _ lj l hji hb hi hlj hl hkj hk
theorem qW {t u ty e:TypeId} {sz n m k:Nat} {base:Option Addr} {x:Value} (ht:P.underlying t=some (.slice e)) {d:TypeId} (hu:P.underlying u=some (.slice d)) (hsz:szT P e=some sz) (hm:n+k≤m) {news:List Value}
  (hlen:(Builtin.lenOf x).run P w=.ok k w) (hnew:(Builtin.firstCells sz k x).run P w=.ok news.toArray w) {w':World}
  (hst:∀ a,base=some a→(storeCells (a.add (n * sz)) news 0).run P w=.ok () w') (hno:base=none→w'=w) :
  (Builtin.append_ #[t,u] ty #[.slice base n m,x]).run P w=.ok (.slice base (n+k) m) w':=by
 unfold Builtin.append_
 simp only [List.getElem?_toArray,List.getElem?_cons_zero,List.getElem?_cons_succ]
 simp only [Sem.run_bind,cS ht,cS hu,cX hsz,Result.andThen_ok,Sem.run_pure,Bool.false_eq_true,if_false,hlen,hm,if_true,Bool.not_false,hnew]
 cases base with
 | none=>rw [hno rfl];simp
 | some a=>simp [hst a rfl]
theorem aIw {sz:Nat}:∀ (y:Value) (n:Nat) (a b:Array Value),(Builtin.firstCells sz n y).run P w=.ok a w→(Builtin.firstCells sz n y).run P w.drew=.ok b w.drew→a=b:=by
 intro y n a b ha hb
 have key:∀ (m i:Nat) (ad:Addr) (acc a b:Array Value),(loadCellsFrom ad i m acc).run P w=.ok a w→(loadCellsFrom ad i m acc).run P w.drew=.ok b w.drew→a=b:=by
  intro m
  induction m with
  | zero=>intro i ad acc a b ha hb;simp [loadCellsFrom] at ha hb;rw [← ha,← hb]
  | succ m ih=>
   intro i ad acc a b ha hb
   simp only [loadCellsFrom,Sem.run_bind,run_load,aH6] at ha hb
   cases hcell:w.cell? (ad.add i) with
   | some v=>simp only [hcell,Result.andThen_ok] at ha hb;exact ih _ _ _ _ _ ha hb
   | none=>
    simp only [hcell] at ha hb
    have hfar:w.drew.farLoad P (ad.add i) (Mode.plain==Mode.atomic)=w.farLoad P (ad.add i) (Mode.plain==Mode.atomic):=rfl
    rw [hfar] at hb
    cases hf:w.farLoad P (ad.add i) (Mode.plain==Mode.atomic) with
    | ok v=>obtain ⟨v,_⟩:=v;simp only [hf,Result.andThen_ok] at ha hb;exact ih _ _ _ _ _ ha hb
    | error x=>simp only [hf,Result.andThen_halt] at ha;cases ha
 cases y<;>simp only [Builtin.firstCells] at ha hb<;>(try (simp at ha;done))
 case slice ad l c=>
  cases ad with
  | none=>simp at ha hb;rw [ha,hb]
  | some ad=>exact key _ _ _ _ _ _ ha hb
 case string=>simp at ha hb;rw [← ha,← hb]
theorem aHp {e:TypeId} {z:List AV} {zv:Value} (hz:aAH P e=some z) (hzv:(zeroValue e).run P w=.ok zv w):∀ w,(zeroValue e).run P w=.ok zv w:=by
 intro w2
 obtain ⟨zv2,h1,_⟩:=uQ (β:=⟨fun _=>none,fun _ _=>none,fun _=>False⟩) (w:=w2) hz
 unfold aAH at hz
 obtain ⟨i,hi,_⟩:=bQ hz
 cases hzz:i.zero with
 | none=>simp [zeroValue,typeInfo,hi,hzz] at hzv
 | some zz=>simp [zeroValue,typeInfo,hi,hzz] at hzv h1 ⊢;rw [hzv]
end
end Go.Eng
namespace Go.Eng
open Go.RowKit (Below)
section
variable {P:Program} {β:cN} {w:World}
structure Ext (β β':cN) (B:Bd) (id:Nat):Prop where
 le:cN.le β β'
 dom:∀ j,β' j≠none→β j≠none∨j=id
 fz:∀ c o,β'.fz c o≠none→β.fz c o≠none∨B c
theorem Ext.refl (β:cN) (B:Bd) (id:Nat):Ext β β B id:=⟨cN.le.refl _,fun _ h=>.inl h,fun _ _ h=>.inl h⟩
theorem Ext.put {id:Nat} {l:Loc} (hid:β id=none) (B:Bd):Ext β (β.put id l) B id:=⟨vK hid,xK,fun _ _ h=>.inl h⟩
theorem aDz {H:bH} {B:Bd} (hH:cL β H w B) (hB:B.top w.heap.size) {id:Nat} (hid:β id=none) {cs:List AV} {vs:List Value} {e:TypeId} {zv:Value} {n sz cap:Nat} (hv:Vs β cs vs) (hl:cs.length=n * sz) (hz:zv.cells.size=sz) (hcap:n≤cap) :
  ∃ β',Ext β β' B id∧V β' (.so id 0 n sz) (.slice (some ⟨w.heap.size,0,none⟩) n cap) ∧
   cL β' (upd H id (some (.cells cs))) (w.drew.alloc (.cells (vs++(Builtin.zeroCells zv.cells (cap-n)).toList).toArray e)) B ∧
   bJ B w (w.drew.alloc (.cells (vs++(Builtin.zeroCells zv.cells (cap-n)).toList).toArray e)):=by
 have hn:=hH.drew.new hB hid (sp:=(Builtin.zeroCells zv.cells (cap-n)).toList) hv e
 refine ⟨_,Ext.put hid B,?_,hn,bJ.of hB (bJ.allocDrew w (Nat.le_refl w.heap.size) _)⟩
 simp only [V]
 refine ⟨_,iV _ _ _,.inr ⟨cap,hcap,?_,by simp⟩⟩
 have:=cO hv
 simp only [Array.length_toList,wX,hz]
 have h1:=Nat.mul_le_mul_right sz hcap
 rw [Nat.sub_mul]
 omega
theorem aB4 {H:bH} {B:Bd} (hH:cL β H w B) (hB:B.top w.heap.size) {id:Nat} (hid:β id=none) {us:Nat→Value} {fr:Nat→AV} {e:TypeId} {zv:Value} {n sz cap:Nat} (hu:∀ j,j<n→(us j).cells.toList.length=sz∧V β (fr j) (us j)) (hz:zv.cells.size=sz) (hcap:n≤cap)
  {vs:List Value} (hvs:vs=(List.range n).flatMap fun j=>(us j).cells.toList) :
  ∃ β',Ext β β' B id∧V β' (.lst (.tok id) sz n fr) (.slice (some ⟨w.heap.size,0,none⟩) n cap) ∧
   cL β' (upd H id (some (.cells []))) (w.drew.alloc (.cells (vs++(Builtin.zeroCells zv.cells (cap-n)).toList).toArray e)) B ∧
   bJ B w (w.drew.alloc (.cells (vs++(Builtin.zeroCells zv.cells (cap-n)).toList).toArray e)):=by
 obtain ⟨β',g1,g2,g3,g4,g5,g6⟩:=hH.drew.newF hB hid vs (Builtin.zeroCells zv.cells (cap-n)).toList e
 have hlen:vs.length=n * sz:=by rw [hvs];exact rT n fun j hj=>(hu j hj).1
 refine ⟨β',⟨g1,g2,g6⟩,?_,g5,bJ.of hB (bJ.allocDrew w (Nat.le_refl w.heap.size) _)⟩
 refine aJY (us:=us) hcap ⟨_,g3,.inr ⟨0,rfl,by rw [hlen,Nat.zero_add],?_⟩⟩ (fun j hj=>⟨(hu j hj).1,kU g1 _ _ (hu j hj).2⟩) fun _=>⟨_,_,rfl,by rw [← hvs];exact g4⟩
 simp only [Array.length_toList,wX,hz]
 have h1:=Nat.mul_le_mul_right sz hcap
 rw [Nat.sub_mul]
 omega
theorem aFe {H H':bH} {B:Bd} (hH:cL β H w B) (hB:B.top w.heap.size) {id:Nat} (hid:β id=none) {t u ty:TypeId} {s x r:AV} {sv xv:Value} (hoks:qJ s) (hok:qJ x) (h:pH P t u s x id H=some (r,H')) (hs:V β s sv) (hx:V β x xv) :
  ∃ β' w' v,(Builtin.append_ #[t,u] ty #[sv,xv]).run P w=.ok v w'∧Ext β β' B id∧V β' r v∧cL β' H' w' B∧bJ B w w':=by
 unfold pH at h
 split at h<;>(try (simp at h;done))
 rename_i e d ht hu
 obtain ⟨sz,hsz,h1⟩:=bQ h
 obtain ⟨by_,hby,h2⟩:=bQ h1
 obtain ⟨k,hk,h3⟩:=bQ h2
 obtain ⟨xs,hxs,h4⟩:=bQ h3
 obtain ⟨z,hz,h5⟩:=bQ h4
 clear h h1 h2 h3 h4
 rename _=>h
 split at h<;>(try (simp at h;done))
 rename_i hc
 obtain ⟨hpos,hb0,hb,hflat,hzl⟩:=hc
 obtain ⟨zv,hzv,hzV⟩:=uQ (β:=β) (w:=w) hz
 have hzall:=aHp (P:=P) hz hzv
 have hzsz:zv.cells.size=sz:=by rw [← hzl,cO hzV];simp
 obtain ⟨news,hnv,hnl,hlenx,hfirst⟩:=zP (P:=P) hH hxs hk hok hx
 have hnewsl:news.length=k * sz:=by rw [← cO hnv,hnl]
 have hlenAll:∀ w',(w'=w∨w'=w.drew)→(Builtin.lenOf xv).run P w'=.ok k w':=fun w' h=>by
  rcases h with rfl | rfl
  ·exact hlenx
  ·obtain ⟨_,_,_,h1,_⟩:=zP (P:=P) hH.drew hxs hk hok hx;exact h1
 have hnewAll:∀ w',(w'=w∨w'=w.drew)→(Builtin.firstCells sz k xv).run P w'=.ok news.toArray w':=fun w' h=>by
  rcases h with rfl | rfl
  ·exact hfirst k rfl
  ·obtain ⟨news2,hv2,_,_,h2⟩:=zP (P:=P) hH.drew hxs hk hok hx
   rw [h2 k rfl,aIw xv k _ _ (hfirst k rfl) (h2 k rfl)]
 have realloc:∀ {H0:bH} {n m:Nat} {base:Option Addr} {ocs:List AV} {olds:List Value},cL β H0 w B→Vs β ocs olds→ocs.length=n * sz→m<n+k→n+k≤1048576 →
   (∀ w',(w'=w∨w'=w.drew)→(Builtin.firstCells sz n (.slice base n m)).run P w'=.ok olds.toArray w') →
   ∃ β' w' v,(Builtin.append_ #[t,u] ty #[.slice base n m,xv]).run P w=.ok v w'∧Ext β β' B id∧V β' (.so id 0 (n+k) sz) v∧cL β' (upd H0 id (some (.cells (ocs++xs)))) w' B∧bJ B w w':=by
  intro H0 n m base ocs olds hH0 hov hol hmk hnk hold
  obtain ⟨cap,hcap,hrun⟩:=aCP (P:=P) (w:=w) (ty:=ty) (base:=base) (n:=n) (m:=m) (k:=k) (x:=xv) (olds:=olds) (news:=news) ht hu hsz hby hb0 hb hnk hmk hzall hlenAll hold hnewAll
  obtain ⟨β',b1,b2,b3,b4⟩:=aDz hH0 hB hid (e:=e) (qT hov hnv) (by rw [List.length_append,hol,hnl,Nat.add_mul]) hzsz hcap
  exact ⟨β',_,_,hrun,b1,b2,b3,b4⟩
 have nonews:k=0→xs=[]∧news=[]:=fun hk0=>by
  subst hk0
  exact ⟨List.eq_nil_of_length_eq_zero (by rw [hnl];simp),List.eq_nil_of_length_eq_zero (by rw [hnewsl];simp)⟩
 split at h<;>(try (simp at h;done))
 ·-- a nil slice
  split at h<;>(try (simp at h;done))
  rename_i hk'
  cases h
  simp only [V] at hs;subst hs
  by_cases hk0:k=0
  ·obtain ⟨rfl,rfl⟩:=nonews hk0
   subst hk0
   exact ⟨_,w,.slice none 0 0,qW ht hu hsz (Nat.le_refl _) hlenx (hfirst 0 rfl) (fun a h=>by cases h) (fun _=>rfl),Ext.put hid B,by unfold V;exact ⟨_,iV _ _ _,.inl ⟨rfl,none,rfl⟩⟩,hH.loc0 hid,bJ.refl _ _⟩
  ·have:=realloc (H0:=H) (n:=0) (m:=0) (base:=none) (ocs:=[]) (olds:=[]) hH (by simp [Vs]) (by simp) (by omega) (by omega) (fun w' _=>by simp [Builtin.firstCells])
   simpa using this
 ·-- an open slice
  rename_i i o n s'
  split at h<;>(try (simp at h;done))
  rename_i cs hi
  split at h<;>(try (simp at h;done))
  rename_i hc
  obtain ⟨rfl,rfl,htop,hnk⟩:=hc
  cases h
  have hHt:=hH.trim hi (n * s')
  have hit:upd H i (some (AB.cells (cs.take (n * s')))) i=some (.cells (cs.take (n * s'))):=by simp
  have eH:upd H i none=upd (upd H i (some (AB.cells (cs.take (n * s'))))) i none:=by funext j;unfold upd;split<;>rfl
  rw [eH]
  have htop':n * s'=(cs.take (n * s')).length:=by rw [List.length_take];omega
  generalize upd H i (some (AB.cells (cs.take (n * s'))))=H1 at hHt hit ⊢
  generalize cs.take (n * s')=cs at hHt hit htop' ⊢
  simp only [V] at hs
  obtain ⟨l,hl,hs⟩:=hs
  obtain ⟨l',vs,hl',hvs,hcell⟩:=hHt.cellsList hit
  rw [hl] at hl';cases hl'
  have hvl:=cO hvs
  have hHd:cL β (upd H1 i none) w B:=hHt.drop i
  rcases hs with ⟨rfl,a,rfl⟩ | ⟨m,hle,hext,rfl⟩
  ·have hc0:cs=[]:=List.eq_nil_of_length_eq_zero (by omega)
   subst hc0
   by_cases hk0:k=0
   ·obtain ⟨rfl,rfl⟩:=nonews hk0
    subst hk0
    exact ⟨_,w,.slice a 0 0,qW ht hu hsz (Nat.le_refl _) hlenx (hfirst 0 rfl) (fun a h=>by simp [storeCells]) (fun _=>rfl),Ext.put hid B,by unfold V;exact ⟨_,iV _ _ _,.inl ⟨rfl,a,rfl⟩⟩,hHd.loc0 hid,bJ.refl _ _⟩
   ·have:=realloc (n:=0) (m:=0) (base:=a) (ocs:=[]) (olds:=[]) hHd (by simp [Vs]) (by simp) (by omega) (by omega) (fun w' _=>by cases a<;>simp [Builtin.firstCells,loadCells,loadCellsFrom])
    simpa using this
  ·by_cases hfit:n+k≤m
   ·have hk1:=Nat.mul_le_mul_right s' hfit
    rw [Nat.add_mul] at hk1
    by_cases hposl:0<l.k
    ·obtain ⟨l',hl',hclen,hblk⟩:=hHt.own i cs hit
     rw [hl] at hl';cases hl'
     obtain ⟨hBl,hun,full,e',hw,hsz',hc⟩:=hblk hposl
     obtain ⟨w',r1,r2,r3,r4⟩:=oG (P:=P) (c:=l.c) (o:=l.o+0+n * s') (e:=e') news 0 w full hw (by omega) (aEm hflat hnv)
     have hrun:=qW (P:=P) (w:=w) (ty:=ty) (base:=some ⟨l.c,l.o+0,none⟩) ht hu hsz hfit hlenx (hfirst k rfl) (w':=w') (fun a h=>by cases h;rw [gC];exact r1) (fun h=>by cases h)
     have hH2:=hHt.write (cs':=cs++xs) hit hl hposl hw r2 (by rw [vN];exact hsz') (by rw [List.length_append];omega) (fun q hq=>by rw [rV _ _ _ _ (by omega),if_neg (by omega)]) (fun j a ha=>by
       rw [rV _ _ _ _ (by omega)]
       rw [List.getElem?_append] at ha
       by_cases hj:j<cs.length
       ·rw [if_pos hj] at ha
        rw [if_neg (by omega)]
        exact hc j a ha
       ·rw [if_neg hj] at ha
        obtain ⟨v,x,y⟩:=tT hnv _ _ ha
        have hjl:j-cs.length<news.length:=(List.getElem?_eq_some_iff.1 x).1
        exact ⟨v,by rw [if_pos (by omega),show l.o+j-(l.o+0+n * s'+0)=j-cs.length by omega];exact x,y⟩) r3 (r4 _ (hHt.yo i _ l hit hl hposl))
     have hH3:=hH2.rename (i:=i) (id:=id) (cs:=cs++xs) (l:=l) (by simp) hl hid
     have e1:upd (upd H1 i (some (AB.cells (cs++xs)))) i none=upd H1 i none:=by funext j;unfold upd;split<;>rfl
     rw [e1] at hH3
     refine ⟨_,w',_,hrun,Ext.put hid B,?_,hH3,r4 B hBl⟩
     simp only [V]
     exact ⟨_,iV _ _ _,.inr ⟨m,hfit,hext,rfl⟩⟩
    ·have hm0:m=0:=by
      rcases Nat.eq_zero_or_pos m with h | h
      ·exact h
      ·have:=Nat.mul_le_mul h (Nat.le_refl s');omega
     subst hm0
     have hk0:k=0:=by omega
     have hn0:n=0:=by omega
     obtain ⟨rfl,rfl⟩:=nonews hk0
     subst hk0 hn0
     have hc0:cs=[]:=List.eq_nil_of_length_eq_zero (by omega)
     subst hc0
     exact ⟨_,w,_,qW ht hu hsz (Nat.le_refl _) hlenx (hfirst 0 rfl) (w':=w) (fun a h=>by simp [storeCells]) (fun h=>by cases h),Ext.put hid B,by unfold V;exact ⟨_,iV _ _ _,.inl ⟨rfl,_,rfl⟩⟩,hHd.loc0 hid,bJ.refl _ _⟩
   ·refine realloc hHd hvs htop'.symm (by omega) hnk fun w' hw'=>?_
    have hcell':∀ (j:Nat) (v:Value),vs[j]?=some v→w'.cell? ⟨l.c,l.o+j,none⟩=some v:=by rcases hw' with rfl | rfl;exact hcell;exact hcell
    exact mV (P:=P) (w:=w') (c:=l.c) (o:=l.o+0) (vs:=vs) (n:=n * s') (fun j v hj=>by rw [Nat.add_zero];exact hcell' _ _ hj) (by omega)
 ·-- a slice of known capacity
  rename_i i o n m s'
  split at h<;>(try (simp at h;done))
  rename_i cs hi
  split at h<;>(try (simp at h;done))
  rename_i hc
  obtain ⟨rfl,hext,hnm,hnk⟩:=hc
  simp only [V] at hs
  obtain ⟨l,hl,hs⟩:=hs
  obtain ⟨l',vs,hl',hvs,hcell⟩:=hH.cellsList hi
  rw [hl] at hl';cases hl'
  have hvl:=cO hvs
  split at h
  ·rename_i hfit
   cases h
   have hk1:=Nat.mul_le_mul_right s' hfit
   rw [Nat.add_mul] at hk1
   have same:k=0→∀ sv',sv'=sv→(∃ b,sv'=.slice b n m)→V β (.sl i o n m s') sv'→∃ β' w' v,(Builtin.append_ #[t,u] ty #[sv,xv]).run P w=.ok v w'∧Ext β β' B id∧V β' (.sl i o (n+k) m s') v∧cL β' (upd H i (some (AB.cells (dZ cs (o+n * s') xs)))) w' B∧bJ B w w':=by
    rintro hk0 _ rfl ⟨b,rfl⟩ hV
    obtain ⟨rfl,rfl⟩:=nonews hk0
    subst hk0
    refine ⟨β,w,_,qW ht hu hsz (by omega) hlenx (hfirst 0 rfl) (fun a h=>by simp [storeCells]) (fun _=>rfl),Ext.refl _ _ _,hV,?_,bJ.refl _ _⟩
    have e:upd H i (some (AB.cells (dZ cs (o+n * s') [])))=H:=by
     funext j;unfold upd
     split
     ·rename_i e;subst e;rw [hi];simp [dZ,List.take_append_drop]
     ·rfl
    rw [e];exact hH
   by_cases hk0:k=0
   ·refine same hk0 sv rfl ?_ (by simp only [V];exact ⟨l,hl,hs⟩)
    rcases hs with ⟨rfl,rfl,a,rfl⟩ | ⟨_,_,rfl⟩
    ·exact ⟨_,rfl⟩
    ·exact ⟨_,rfl⟩
   ·rcases hs with ⟨rfl,rfl,a,rfl⟩ | ⟨_,hext',rfl⟩
    ·omega
    ·have hposl:0<l.k:=by
      have:1 * s'≤m * s':=Nat.mul_le_mul_right _ (by omega)
      omega
     obtain ⟨w',r1,r2,r3⟩:=aH0 (P:=P) hH hi hl (o:=o+n * s') (xs:=xs) hext (by rw [hnl];omega) hposl hflat hnv
     have hrun:=qW (P:=P) (w:=w) (ty:=ty) (base:=some ⟨l.c,l.o+o,none⟩) ht hu hsz hfit hlenx (hfirst k rfl) (w':=w') (fun a h=>by cases h;rw [gC,Nat.add_assoc];exact r1) (fun h=>by cases h)
     exact ⟨β,w',_,hrun,Ext.refl _ _ _,by simp only [V];exact ⟨l,hl,.inr ⟨hfit,hext',rfl⟩⟩,r2,r3⟩
  ·rename_i hfit
   cases h
   have hnm':=Nat.mul_le_mul_right s' hnm
   have hsv:∃ b,sv=.slice b n m:=by
    rcases hs with ⟨rfl,rfl,a,rfl⟩ | ⟨_,_,rfl⟩
    ·exact ⟨a,rfl⟩
    ·exact ⟨_,rfl⟩
   have hold:∀ w',(w'=w∨w'=w.drew)→(Builtin.firstCells s' n sv).run P w'=.ok ((vs.drop o).take (n * s')).toArray w':=by
    intro w' hw'
    have hcell':∀ (j:Nat) (v:Value),vs[j]?=some v→w'.cell? ⟨l.c,l.o+j,none⟩=some v:=by rcases hw' with rfl | rfl;exact hcell;exact hcell
    rcases hs with ⟨rfl,_,a,rfl⟩ | ⟨_,_,rfl⟩
    ·cases a<;>simp [Builtin.firstCells,loadCells,loadCellsFrom]
    ·exact mV (P:=P) (w:=w') (c:=l.c) (o:=l.o+o) (vs:=(vs.drop o).take (n * s')) (n:=n * s') (fun j v hj=>by rw [Nat.add_assoc];exact hcell' _ _ (eO _ _ _ _ _ hj)) (by simp;omega)
   obtain ⟨b,rfl⟩:=hsv
   exact realloc hH (xL (xP hvs o) _) (by rw [List.length_take,List.length_drop];omega) (by omega) hnk hold
 ·-- a full list
  rename_i s' n f
  split at h<;>(try (simp at h;done))
  rename_i hc
  obtain ⟨rfl,hk0,hnk⟩:=hc
  cases h
  obtain ⟨base,cap,us,rfl,hcap,hm,hus,hlaid⟩:=aDd hs
  simp only [aHk] at hm
  have hm:=hm.symm
  subst hm
  have hoc:((List.range n).flatMap fun j=>lL (f j)).length=n * s':=rT n fun j hj=>by
   have h1:=hoks j hj
   unfold lL
   cases hc:(f j).cells with
   | none=>exact absurd hc h1
   | some cs=>have:=cO (rX hc (hus j hj).2);rw [(hus j hj).1] at this;exact this
  have hov:=aGn (sz:=s') n hoks (fun j hj=>(hus j hj).2)
  exact realloc hH hov hoc (by omega) hnk fun w' hw'=>by
   rcases hw' with rfl | rfl
   ·exact sT (_m:=.cap) hH (fun j hj=>(hus j hj).1) hlaid
   ·exact sT (_m:=.cap) hH.drew (fun j hj=>(hus j hj).1) hlaid
theorem aIv.vals {H:bH} {B:Bd} (_hH:cL β H w B) {sz n:Nat} {f:Nat→AV} {s:AV} {sv:Value} (hl:aIv sz s n f) (hs:V β s sv) :
  ∃ (base:Option Addr) (cap:Nat) (us:Nat→Value),sv=.slice base n cap∧n≤cap∧(∀ j,j<n→(us j).cells.toList.length=sz∧V β (f j) (us j)) ∧
   (0<n→∃ c o,base=some ⟨c,o,none⟩∧laid β.fz c o ((List.range n).flatMap fun j=>(us j).cells.toList))∧(∀ m,s=.lst m sz n f→aHk β m sz n base cap)∧(s=.nils→base=none∧cap=0):=by
 cases hl with
 | nil f=>
  simp only [V] at hs
  subst hs
  exact ⟨none,0,fun _=>undef,rfl,Nat.le_refl _,fun j hj=>by omega,fun h=>by omega,fun m h=>(by cases h),fun _=>⟨rfl,rfl⟩⟩
 | lst m n f=>
  obtain ⟨base,cap,us,h1,h2,h3,h4,h5⟩:=aDd hs
  exact ⟨base,cap,us,h1,h2,h4,h5,fun m' h=>(by cases h;exact h3),fun h=>(by cases h)⟩
theorem aIr {a:AV} {u:Value} (h:aIo a=true) (hv:V β a u):∀ v∈u.cells.toList,v.oneCell'=true:=by
 unfold aIo at h
 split at h
 ·rename_i cs hc
  exact aEm h (rX hc hv)
 ·cases h
theorem aCI {H H':bH} {B:Bd} (hH:cL β H w B) (hB:B.top w.heap.size) {id:Nat} (hid:β id=none) {t u ty:TypeId} {s x r:AV} {sv xv:Value} (h:aAm P t u s x id H r H') (hs:V β s sv) (hx:V β x xv) :
  ∃ β' w' v,(Builtin.append_ #[t,u] ty #[sv,xv]).run P w=.ok v w'∧Ext β β' B id∧V β' r v∧cL β' H' w' B∧bJ B w w':=by
 obtain ⟨e,e',sz,by_,z,n,k,f,fx,fr,ht,hu,hsz,hby,hz,hpos,hb0,hb,hzl,hnk,hls,hlx,hflat,rfl,hr1,hr2,hcase⟩:=h
 obtain ⟨zv,hzv,hzV⟩:=uQ (β:=β) (w:=w) hz
 have hzall:=aHp (P:=P) hz hzv
 have hzsz:zv.cells.size=sz:=by rw [← hzl,cO hzV];simp
 obtain ⟨bx,cx,ux,rfl,hcx,hux,hlaidx,_,_⟩:=hlx.vals hH hx
 obtain ⟨bs,cap,us,rfl,hcap,hus,hlaids,hms,hnil⟩:=hls.vals hH hs
 have hlenAll:∀ w',(w'=w∨w'=w.drew)→(Builtin.lenOf (.slice bx k cx)).run P w'=.ok k w':=fun w' _=>by simp [Builtin.lenOf]
 have hnewAll:∀ w',(w'=w∨w'=w.drew)→(Builtin.firstCells sz k (.slice bx k cx)).run P w'=.ok ((List.range k).flatMap fun j=>(ux j).cells.toList).toArray w':=fun w' h=>by
  rcases h with rfl | rfl
  ·exact sT (_m:=.free) hH (fun j hj=>(hux j hj).1) hlaidx
  ·exact sT (_m:=.free) hH.drew (fun j hj=>(hux j hj).1) hlaidx
 have holdAll:∀ w',(w'=w∨w'=w.drew)→(Builtin.firstCells sz n (.slice bs n cap)).run P w'=.ok ((List.range n).flatMap fun j=>(us j).cells.toList).toArray w':=fun w' h=>by
  rcases h with rfl | rfl
  ·exact sT (_m:=.free) hH (fun j hj=>(hus j hj).1) hlaids
  ·exact sT (_m:=.free) hH.drew (fun j hj=>(hus j hj).1) hlaids
 let ur:Nat→Value:=fun j=>if j<n then us j else ux (j-n)
 have hur:∀ j,j<n+k→(ur j).cells.toList.length=sz∧V β (fr j) (ur j):=fun j hj=>by
  by_cases h:j<n
  ·simp only [ur,if_pos h];rw [hr1 j h];exact hus j h
  ·simp only [ur,if_neg h]
   have:=hr2 (j-n) (by omega)
   rw [show n+(j-n)=j by omega] at this
   rw [this];exact hux _ (by omega)
 have hurv:((List.range n).flatMap fun j=>(us j).cells.toList)++((List.range k).flatMap fun j=>(ux j).cells.toList)=(List.range (n+k)).flatMap fun j=>(ur j).cells.toList:=by
  rw [List.range_add,List.flatMap_append]
  congr 1
  ·rw [List.flatMap_def,List.flatMap_def]
   congr 1
   refine List.map_congr_left fun j hj=>?_
   have:j<n:=by simpa using hj
   simp only [ur,if_pos this]
  ·rw [List.flatMap_map,List.flatMap_def,List.flatMap_def]
   congr 1
   refine List.map_congr_left fun j hj=>?_
   simp only [ur]
   rw [if_neg (by omega),show n+j-n=j by omega]
 have realloc:∀ {H0:bH},cL β H0 w B→cap<n+k→∃ β' w' v,(Builtin.append_ #[t,u] ty #[.slice bs n cap,.slice bx k cx]).run P w=.ok v w'∧Ext β β' B id∧V β' (.lst (.tok id) sz (n+k) fr) v∧cL β' (upd H0 id (some (.cells []))) w' B∧bJ B w w':=by
  intro H0 hH0 hc
  obtain ⟨cap',hcap',hrun⟩:=aCP (P:=P) (w:=w) (ty:=ty) (base:=bs) (n:=n) (m:=cap) (k:=k) ht hu hsz hby hb0 hb hnk hc hzall hlenAll holdAll hnewAll
  obtain ⟨β',b1,b2,b3,b4⟩:=aB4 hH0 hB hid (e:=e) hur hzsz hcap' hurv
  exact ⟨β',_,_,hrun,b1,b2,b3,b4⟩
 have same:∀ {H0:bH},cL β H0 w B→k=0→cap=n→∃ β' w' v,(Builtin.append_ #[t,u] ty #[.slice bs n cap,.slice bx k cx]).run P w=.ok v w'∧Ext β β' B id∧V β' (.lst (.tok id) sz (n+k) fr) v∧cL β' (upd H0 id (some (.cells []))) w' B∧bJ B w w':=by
  rintro H0 hH0 rfl rfl
  refine ⟨_,w,_,qW ht hu hsz (Nat.le_refl _) (hlenAll w (.inl rfl)) (hnewAll w (.inl rfl)) (fun a h=>by simp [storeCells]) (fun _=>rfl),Ext.put hid B,?_,hH0.loc0 hid,bJ.refl _ _⟩
  exact aJY (us:=us) (Nat.le_refl _) ⟨_,iV _ _ _,.inl rfl⟩ (fun j hj=>⟨(hus j hj).1,by rw [hr1 j hj];exact kU (vK hid) _ _ (hus j hj).2⟩) hlaids
 rcases hcase with ⟨rfl,rfl⟩ | ⟨rfl,rfl⟩ | ⟨g,cs,rfl,hg,rfl⟩
 ·obtain ⟨rfl,rfl⟩:=hnil rfl
  cases hls
  by_cases hk:k=0
  ·exact same hH hk rfl
  ·exact realloc hH (by omega)
 ·have:=hms .cap rfl
  simp only [aHk] at this
  by_cases hk:k=0
  ·exact same hH hk this
  ·exact realloc hH (by omega)
 ·obtain ⟨l,hl,hm⟩:=hms (.tok g) rfl
  by_cases hfit:n+k≤cap
  ·rcases hm with hm | ⟨o,rfl,ho,hcapk⟩
   ·exact same (hH.drop g) (by omega) hm
   ·have hk1:=Nat.mul_le_mul_right sz hfit
    rw [Nat.add_mul] at hk1
    have hnewl:((List.range k).flatMap fun j=>(ux j).cells.toList).length=k * sz:=rT k fun j hj=>(hux j hj).1
    by_cases hposl:0<l.k
    ·obtain ⟨l',hl',hclen,hblk⟩:=hH.own g cs hg
     rw [hl] at hl';cases hl'
     obtain ⟨hBl,hun,full,e0,hw,hsz',hc⟩:=hblk hposl
     have hone:∀ v∈((List.range k).flatMap fun j=>(ux j).cells.toList),v.oneCell'=true:=fun v hv=>by
      obtain ⟨j,hj,hv⟩:=List.mem_flatMap.1 hv
      have hj:j<k:=by simpa using hj
      exact aIr (hflat j hj) (hux j hj).2 v hv
     obtain ⟨w',r1,r2,r3,r4⟩:=oG (P:=P) (c:=l.c) (o:=l.o) (e:=e0) _ 0 w full hw (by rw [hnewl];omega) hone
     have hrun:=qW (P:=P) (w:=w) (ty:=ty) (base:=some ⟨l.c,o,none⟩) ht hu hsz hfit (hlenAll w (.inl rfl)) (hnewAll w (.inl rfl)) (w':=w') (fun a h=>by cases h;rw [gC,← ho];exact r1) (fun h=>by cases h)
     have hH2:=hH.write (cs':=[]) hg hl hposl hw r2 (by rw [vN];exact hsz') (by simp) (fun q hq=>by rw [rV _ _ _ _ (by rw [hnewl];omega),if_neg (by rw [hnewl];omega)]) (fun j a ha=>by simp at ha) r3 (r4 _ (hH.yo g _ l hg hl hposl))
     obtain ⟨β',f1,f2,f3,f4,f5,f6⟩:=hH2.freezeRaw (i:=g) (cs:=[]) (l:=l) (by simp) hl hid (m:=k * sz) (by omega)
     have e1:upd (upd H g (some (AB.cells []))) g none=upd H g none:=by funext j;unfold upd;split<;>rfl
     rw [e1] at f4
     refine ⟨β',w',_,hrun,⟨f1,f2,f6⟩,?_,f4,r4 B hBl⟩
     refine aJY (us:=ur) hfit ⟨_,f3,.inr ⟨o,rfl,by simp only;rw [ho,Nat.add_mul];omega,by simp only;rw [Nat.add_mul];omega⟩⟩ (fun j hj=>⟨(hur j hj).1,kU f1 _ _ (hur j hj).2⟩) fun _=>⟨_,_,rfl,?_⟩
     rw [← hurv]
     refine aBC.2 ⟨?_,?_⟩
     ·rcases Nat.eq_zero_or_pos n with rfl | hn
      ·simp [laid]
      ·obtain ⟨c,o',e2,h2⟩:=hlaids hn
       cases e2
       exact h2.mono f1.fz
     ·rw [rT n (fun j hj=>(hus j hj).1),← ho]
      intro q v hq
      have hql:q<k * sz:=by have:=(List.getElem?_eq_some_iff.1 hq).1;rwa [hnewl] at this
      rw [f5 q hql]
      simp only [World.cell?,r2]
      have h5:=rV ((List.range k).flatMap fun j=>(ux j).cells.toList) full l.o (l.o+q) (by rw [hnewl];omega)
      rw [if_pos (by rw [hnewl];omega),show l.o+q-l.o=q by omega,hq] at h5
      simpa using h5
    ·have hcn:cap * sz≤n * sz:=by omega
     have:cap≤n:=Nat.le_of_mul_le_mul_right hcn hpos
     exact same (hH.drop g) (by omega) (by omega)
  ·exact realloc (hH.drop g) (by omega)
theorem aCW {n:Int} (h0:0≤n) (h1:n≤1048576):IntKind.i64.wrap n=n:=by
 rw [IntKind.wrap_i64];omega
theorem aFu {H:bH} {B:Bd} (hH:cL β H w B) (hB:B.top w.heap.size) {id:Nat} (hid:β id=none) {t:TypeId} {x y r:AV} {u v:Value} {blk:AB}
  (h:qG P t x y id=some (r,blk)) (hx:V β x u) (hy:V β y v) :
  ∃ β' w' z,(Instr.makeSlice t u v).run P w=.ok z w'∧cN.le β β'∧(∀ j,β' j≠none→β j≠none∨j=id)∧V β' r z∧cL β' (upd H id (some blk)) w' B∧bJ (fun c=>w.heap.size≤c) w w'∧β'.fz=β.fz:=by
 unfold qG at h
 split at h<;>(try (simp at h;done))
 rename_i e _ n _ m hu
 cases rZ hx
 cases rZ hy
 obtain ⟨sz,hsz,h1⟩:=bQ h
 obtain ⟨z,hz,h2⟩:=bQ h1
 obtain ⟨by_,hby,h3⟩:=bQ h2
 clear h h1 h2
 split at h3<;>(try (simp at h3;done))
 rename_i hc
 obtain ⟨hn,hnm,hm,hb,hpos,hzl⟩:=hc
 cases h3
 obtain ⟨zv,hzv,hzV⟩:=uQ (β:=β) (w:=w) hz
 have hzsz:zv.cells.size=sz:=by rw [← hzl,cO hzV];simp
 obtain ⟨i,hi,rfl⟩:=aHy hby
 obtain ⟨N,rfl⟩:=Int.eq_ofNat_of_zero_le hn
 obtain ⟨M,rfl⟩:=Int.eq_ofNat_of_zero_le (show 0≤m by omega)
 have hv:=vJ hzV M
 have hnew:=hH.new hB hid (sp:=[]) hv e
 have hzero:((Array.range (M * sz)).map fun i=>zv.cells[i % zv.cells.size]!)=((List.replicate M zv.cells.toList).flatten).toArray:=by
  apply Array.toList_inj.1
  have:=aHe zv.cells (by omega) M
  rw [hzsz] at this ⊢
  simpa using this
 refine ⟨_,w.alloc (.cells (((List.replicate M zv.cells.toList).flatten)++[]).toArray e),.slice (some ⟨w.heap.size,0,none⟩) N M,?_,vK hid,xK,?_,hnew,bJ.alloc _ (Nat.le_refl _) _,rfl⟩
 ·have w1:IntKind.i64.wrap (N:Int)=N:=aCW (by omega) (by omega)
  have w2:IntKind.i64.wrap (M:Int)=M:=aCW (by omega) (by omega)
  have hbm:(i.bytes:Int) * (M:Int)≤1099511627776:=by
   have h1:i.bytes * M≤1099511627776:=Nat.le_trans (Nat.mul_le_mul hb (show M≤1048576 by omega)) (by decide)
   have h2:((i.bytes * M:Nat):Int)≤((1099511627776:Nat):Int):=Int.ofNat_le.2 h1
   rw [Int.natCast_mul] at h2
   omega
  have hc1:¬ (2 ^ 48<(i.bytes:Int) * (M:Int)):=by omega
  have hc2:¬ ((M:Int)<N):=by omega
  have hti:(typeInfo e).run P w=.ok i w:=by simp [typeInfo,hi]
  by_cases h0:M * sz=0
  ·have hM:M=0:=by
    rcases Nat.mul_eq_zero.1 h0 with h | h
    ·exact h
    ·omega
   subst hM
   have hN:N=0:=by omega
   subst hN
   have hr0:Array.range 0=#[]:=rfl
   have hw0:IntKind.i64.wrap 0=0:=by decide
   simp [Instr.makeSlice,cS hu,asInt,asIntOf,hti,hw0,cX hsz,newRow,hr0]
  ·have e1:(decide ((M:Int)<0)||decide ((i.bytes:Int) * (M:Int)>2 ^ 48))=false:=by simp;omega
   have e2:(decide ((N:Int)<0))=false:=by simp
   have e3:(decide ((N:Int)>(M:Int)))=false:=by simp;omega
   simp only [Instr.makeSlice,Sem.run_bind,cS hu,Result.andThen_ok,asInt,asIntOf,Sem.run_pure,hti,w1,w2,e1,e2,e3,Bool.or_false,Bool.false_eq_true,if_false,run_askRoom,cX hsz,Int.toNat_natCast,h0,hzv]
   rw [hzero]
   simp [newRow]
 ·simp only [V]
  refine ⟨_,iV _ _ _,.inr ⟨by omega,?_,by simp⟩⟩
  have:zv.cells.toList.length=sz:=by simpa using hzsz
  simp [hzsz]
theorem aBy (f:AV→AV→Option AV) (g:Value→Value→Sem Value) (hfg:∀ (a b r:AV) (u v:Value),f a b=some r→V β a u→V β b v→∃ z,(g u v).run P w=.ok z w∧V β r z) :
  ∀ (xs:List AV) (vs:List Value) (a r:AV) (u:Value),xs.foldlM f a=some r→Vs β xs vs→V β a u→∃ z,(vs.foldlM g u).run P w=.ok z w∧V β r z
 | [],vs,a,r,u,h,hv,hu=>by simp [Vs] at hv;subst hv;simp at h;subst h;exact ⟨u,by simp,hu⟩
 | x::xs,_,a,r,u,h,hv,hu=>by
  obtain ⟨v,vs',rfl,h1,h2⟩:=hv
  simp only [List.foldlM_cons] at h
  obtain ⟨b,hb,h⟩:=bQ h
  obtain ⟨z,hz,hzv⟩:=hfg _ _ _ _ _ hb hu h1
  obtain ⟨z2,hz2,hzv2⟩:=aBy f g hfg xs vs' b r z h h2 hzv
  exact ⟨z2,by simp [List.foldlM_cons,hz,hz2],hzv2⟩
theorem aQZ {xs:List AV} {vs:Array Value} {r:AV} (tys:Array TypeId) (ty:TypeId) (h:aOv xs=some r) (hv:Vs β xs vs.toList):∃ z,(Builtin.min_ tys ty vs).run P w=.ok z w∧V β r z:=by
 cases xs with
 | nil=>simp [aOv] at h
 | cons x xs=>
  obtain ⟨v,vs',hcons,h1,h2⟩:=hv
  simp only [aOv] at h
  obtain ⟨z,hz,hzv⟩:=aBy (P:=P) (w:=w) (β:=β) _ Builtin.min2 (fun a b r u v hab ha hb=>by
   split at hab<;>(try (simp at hab;done))
   cases hab;cases rZ ha;cases rZ hb
   exact ⟨_,by simp [Builtin.min2];rfl,by simp [V]⟩) xs vs' x r v h h2 h1
  exact ⟨z,by simp only [Builtin.min_,hcons];exact hz,hzv⟩
theorem aPj {xs:List AV} {vs:Array Value} {r:AV} (tys:Array TypeId) (ty:TypeId) (h:aOs xs=some r) (hv:Vs β xs vs.toList):∃ z,(Builtin.max_ tys ty vs).run P w=.ok z w∧V β r z:=by
 cases xs with
 | nil=>simp [aOs] at h
 | cons x xs=>
  obtain ⟨v,vs',hcons,h1,h2⟩:=hv
  simp only [aOs] at h
  obtain ⟨z,hz,hzv⟩:=aBy (P:=P) (w:=w) (β:=β) _ Builtin.max2 (fun a b r u v hab ha hb=>by
   split at hab<;>(try (simp at hab;done))
   cases hab;cases rZ ha;cases rZ hb
   exact ⟨_,by simp [Builtin.max2];rfl,by simp [V]⟩) xs vs' x r v h h2 h1
  exact ⟨z,by simp only [Builtin.max_,hcons];exact hz,hzv⟩
end
end Go.Eng
namespace Go.Eng
open Go.RowKit (Below)
open Go.MapKept
universe u v
variable {P:Program} {β:cN} {w:World}
theorem aAk {t:TypeId} {q:IntKind} {e:TypeId} (h:aMO P t=some (q,e)):∃ k,P.underlying t=some (.map k e)∧P.underlying k=some (.int q):=by
 unfold aMO at h
 split at h<;>(try (simp at h;done))
 rename_i k e' h1
 split at h<;>(try (simp at h;done))
 rename_i q' h2
 simp only [Option.some.injEq,Prod.mk.injEq] at h
 obtain ⟨rfl,rfl⟩:=h
 exact ⟨k,h1,h2⟩
def KR (β:cN) (q:IntKind):List (Nat×Int×AV)→List MapEntry→Prop
 | [],es=>es=[]
 | p::L,es=>∃ e es',es=e::es'∧e.born=p.1∧e.key=.int q p.2.1∧V β p.2.2 e.val∧KR β q L es'
theorem aQu {q:IntKind}:∀ {L:List (Nat×Int×AV)} {es:List MapEntry},es.length=L.length→(∀ (j:Nat) (p:Nat×AV×AV),(wZ q L)[j]?=some p→∃ e:MapEntry,es[j]?=some e∧e.born=p.1∧V β p.2.1 e.key∧V β p.2.2 e.val)→KR β q L es
 | [],[],_,_=>rfl
 | [],_::_,h,_=>by simp at h
 | _::_,[],h,_=>by simp at h
 | p::L,e::es,h,k=>by
  obtain ⟨e',h1,h2,h3,h4⟩:=k 0 (p.1,.int q p.2.1,p.2.2) (by simp [wZ])
  simp only [List.getElem?_cons_zero,Option.some.injEq] at h1
  subst h1
  exact ⟨e,es,rfl,h2,rZ h3,h4,aQu (by simpa using h) fun j p hj=>by
   obtain ⟨e',g1,g2⟩:=k (j+1) p (by simpa [wZ] using hj)
   exact ⟨e',by simpa using g1,g2⟩⟩
theorem aFz {q:IntKind}:∀ {L:List (Nat×Int×AV)} {es:List MapEntry},KR β q L es→es.length=L.length∧∀ (j:Nat) (p:Nat×Int×AV),L[j]?=some p→∃ e:MapEntry,es[j]?=some e∧e.born=p.1∧e.key=.int q p.2.1∧V β p.2.2 e.val
 | [],es,h=>by cases (show es=[] from h);exact ⟨rfl,fun j p hj=>by simp at hj⟩
 | p::L,es,h=>by
  obtain ⟨e,es',rfl,h1,h2,h3,h4⟩:=h
  obtain ⟨g1,g2⟩:=aFz h4
  refine ⟨by simp [g1],fun j p' hj=>?_⟩
  cases j with
  | zero=>simp only [List.getElem?_cons_zero,Option.some.injEq] at hj;subst hj;exact ⟨e,by simp,h1,h2,h3⟩
  | succ j=>obtain ⟨e',k1,k2⟩:=g2 j p' (by simpa using hj);exact ⟨e',by simpa using k1,k2⟩
theorem aL8 {q:IntKind}:∀ {L:List (Nat×Int×AV)} {es:List MapEntry},es.length=L.length→(∀ (j:Nat) (p:Nat×Int×AV),L[j]?=some p→∃ e:MapEntry,es[j]?=some e∧e.born=p.1∧e.key=.int q p.2.1∧V β p.2.2 e.val)→KR β q L es
 | [],[],_,_=>rfl
 | [],_::_,h,_=>by simp at h
 | _::_,[],h,_=>by simp at h
 | p::L,e::es,h,k=>by
  obtain ⟨e',h1,h2,h3,h4⟩:=k 0 p (by simp)
  simp only [List.getElem?_cons_zero,Option.some.injEq] at h1
  subst h1
  exact ⟨e,es,rfl,h2,h3,h4,aL8 (by simpa using h) fun j p hj=>by
   obtain ⟨e',g1,g2⟩:=k (j+1) p (by simpa using hj)
   exact ⟨e',by simpa using g1,g2⟩⟩
theorem aAC.kr {q:IntKind} {L:List (Nat×Int×AV)} {ents:Array MapEntry} (m:aAC β (wZ q L) ents):KR β q L ents.toList:=
 aQu (by have:=m.len;simpa [wZ] using this) fun j p hj=>by
  obtain ⟨e,h1,h2⟩:=m.rel j p hj
  exact ⟨e,by simpa using h1,h2⟩
theorem KR.mrel {q:IntKind} {L:List (Nat×Int×AV)} {ents:Array MapEntry} (h:KR β q L ents.toList):aAC β (wZ q L) ents:=by
 obtain ⟨h1,h2⟩:=aFz h
 refine ⟨by simpa [wZ] using h1,fun j p hj=>?_⟩
 unfold wZ at hj
 rw [List.getElem?_map] at hj
 obtain ⟨p',g1,rfl⟩:=Option.map_eq_some_iff.1 hj
 obtain ⟨e,k1,k2,k3,k4⟩:=h2 j p' g1
 exact ⟨e,by simpa using k1,k2,by rw [k3];simp [V],k4⟩
theorem tQ {q:IntKind} {n:Int}:∀ {L:List (Nat×Int×AV)} {es:List MapEntry} (i:Nat),KR β q L es →
  (L.findIdx? (fun p=>p.2.1==n)=none∧jI n L=none∧Instr.findNow (.int q) (.int q n) es i=some none) ∨
  ∃ j p e,L.findIdx? (fun p=>p.2.1==n)=some j∧jI n L=some p∧L[j]?=some p∧es[j]?=some e∧e.born=p.1∧p.2.1=n∧e.key=.int q n∧V β p.2.2 e.val∧Instr.findNow (.int q) (.int q n) es i=some (some (i+j,e.val))
 | [],es,i,h=>by cases (show es=[] from h);exact .inl ⟨rfl,rfl,rfl⟩
 | p::L,es,i,h=>by
  obtain ⟨e,es',rfl,h1,h2,h3,h4⟩:=h
  have hs:Instr.sameNow (.int q) (.int q n) e.key=some (n==p.2.1):=by rw [h2];simp [Instr.sameNow]
  by_cases hp:p.2.1=n
  ·refine .inr ⟨0,p,e,?_,?_,by simp,by simp,h1,hp,by rw [h2,hp],h3,?_⟩
   ·simp [List.findIdx?_cons,hp]
   ·simp [jI,hp]
   ·simp [Instr.findNow,hs,hp]
  ·have hs':Instr.findNow (.int q) (.int q n) (e::es') i=Instr.findNow (.int q) (.int q n) es' (i+1):=by
    have:(n==p.2.1)=false:=by simp;exact fun h=>hp h.symm
    simp [Instr.findNow,hs,this]
   have hb:(p.2.1==n)=false:=by simpa using hp
   rcases tQ (i+1) h4 with ⟨k1,k2,k3⟩ | ⟨j,p',e',k1,k2,k3,k4,k5,k6,k7,k8,k9⟩
   ·refine .inl ⟨?_,?_,hs'.trans k3⟩
    ·simp [List.findIdx?_cons,hb,k1]
    ·unfold jI at k2 ⊢;rw [List.find?_cons,hb];exact k2
   ·refine .inr ⟨j+1,p',e',?_,?_,by simpa using k3,by simpa using k4,k5,k6,k7,k8,?_⟩
    ·simp [List.findIdx?_cons,hb,k1]
    ·unfold jI at k2 ⊢;rw [List.find?_cons,hb];exact k2
    ·rw [hs',k9];congr 2;simp only [Prod.mk.injEq,and_true];omega
theorem tY (q:IntKind) (n:Int):IsKey (.int q) (.int q n):=by simp [IsKey]
theorem aHM {e:TypeId} {z:AV} (h:aJI P e=some z) (w:World):∃ v,(zeroValue e).run P w=.ok v w∧∀ β,V β z v:=by
 unfold aJI at h
 obtain ⟨i,hi,h⟩:=bQ h
 obtain ⟨v,hv,rfl⟩:=Option.map_eq_some_iff.1 h
 refine ⟨v,?_,fun β=>aGB β v⟩
 simp [zeroValue,typeInfo,hi,hv]
theorem aOA {i:Nat} {v:Value} (h:V β (.mp i) v):∃ l,β i=some l∧v=.map (some l.c):=by simpa only [V] using h
theorem cL.mapAt {H:bH} {B:Bd} (hH:cL β H w B) {i:Nat} {es:List (Nat×AV×AV)} {clk:Nat} (h:mapAt H i es clk):∃ l,β i=some l∧∃ ents:Array MapEntry,w.heap[l.c]?=some (.map ents clk)∧aAC β es ents:=by
 rcases h with h | ⟨sz,ho,h⟩
 ·obtain ⟨l,h1,_,_,ents,h2,h3⟩:=hH.map i _ _ h;exact ⟨l,h1,ents,h2,h3⟩
 ·obtain ⟨l,h1,_,_,ents,h2,h3,_⟩:=hH.mps i _ _ _ _ h;exact ⟨l,h1,ents,h2,h3⟩
theorem aM6 {H:bH} {B:Bd} {lim:Nat} (hH:cL β H w B) {t:TypeId} {x k r:AV} {ok:Bool} {xv kv:Value} (h:aBi P lim t x k ok H r) (hx:V β x xv) (hk:V β k kv) :
  ∃ z,(Instr.lookup t xv kv ok).run P w=.ok z w∧V β r z:=by
 obtain ⟨q,e,z,n,v,b,ht,hz,rfl,h,hwk⟩:=h
 obtain ⟨kt,t1,t2⟩:=aAk ht
 obtain ⟨zv,z1,z2⟩:=aHM hz w
 cases rZ hk
 have fin0:∀ (u:Value),V β v u→V β (if ok=true then AV.tup [v,.bool b] else v) (if ok=true then .tuple #[u,.bool b] else u):=fun u hu=>by
  cases ok
  ·simpa using hu
  ·simp only [if_true,V,Vs];exact ⟨[u,.bool b],rfl,u,[.bool b],rfl,hu,_,[],rfl,rfl,rfl⟩
 have fin:∀ (u:Value),V β v u→V β r (if ok=true then .tuple #[u,.bool b] else u):=fun u hu=>hwk _ _ (fin0 u hu)
 clear fin0
 have ck:∀ em:Bool,(Instr.checkKey em 10000 kt (.int q n)).run P w=.ok () w:=fun em=>run_checkKey t2 (tY q n) em 9999
 rcases h with ⟨rfl,rfl,rfl⟩ | ⟨i,L,clk,rfl,_,hi,h⟩
 ·cases (show xv=.map none by simpa only [V] using hx)
  refine ⟨_,?_,fin zv (z2 β)⟩
  have:(Instr.findKey kt (.int q n) []).run P w=.ok none w:=run_findKey t2 rfl
  cases ok<;>simp [Instr.lookup,Sem.run_bind,run_underlying t1,Result.andThen,ck,this,z1]
 ·obtain ⟨l,hl,rfl⟩:=aOA hx
  obtain ⟨l',hl',ents,hw,hm⟩:=hH.mapAt hi
  rw [hl] at hl';cases hl'
  rcases tQ (n:=n) 0 hm.kr with ⟨_,k2,k3⟩ | ⟨j,p,e',_,k2,_,_,_,_,_,k8,k9⟩
  ·rw [k2] at h
   obtain ⟨rfl,rfl⟩:=h
   refine ⟨_,?_,fin zv (z2 β)⟩
   have:=run_findKey (w:=w) t2 k3
   cases ok<;>simp [Instr.lookup,Sem.run_bind,run_underlying t1,Result.andThen,MapKept.run_getObj_map hw,ck,this,z1]
  ·rw [k2] at h
   obtain ⟨rfl,rfl⟩:=h
   refine ⟨_,?_,fin e'.val k8⟩
   have:=run_findKey (w:=w) t2 k9
   cases ok<;>simp [Instr.lookup,Sem.run_bind,run_underlying t1,Result.andThen,MapKept.run_getObj_map hw,ck,this]
theorem cL.putMap {H:bH} {B:Bd} (hH:cL β H w B) {i:Nat} {es es':List (Nat×AV×AV)} {clk clk':Nat} {l:Loc} (hi:H i=some (.map es clk)) (hl:β i=some l) {ents':Array MapEntry} (hm:aAC β es' ents') :
  cL β (upd H i (some (.map es' clk'))) (w.putObj l.c (.map ents' clk')) B∧bJ B w (w.putObj l.c (.map ents' clk')):=by
 obtain ⟨l',hl',hk,hB,ents,hw,_⟩:=hH.map i es clk hi
 rw [hl] at hl';cases hl'
 have hlt:l.c<w.heap.size:=(Array.getElem?_eq_some_iff.1 hw).1
 have hbel:∀ {B:Bd},B l.c→bJ B w (w.putObj l.c (.map ents' clk')):=fun {B} hB=>⟨rfl,rfl,rfl,by simp,Nat.le_refl _,fun k hk=>World.putObj_heap_other fun e=>hk (e ▸ hB)⟩
 refine ⟨?_,hbel hB⟩
 have h1:cL β (upd H i none) (w.putObj l.c (.map ents' clk')) B:=by
  refine (hH.drop i).world (fun c o v hv=>?_) (fun j b lj hj hlj hkj=>?_) (hbel (hH.yo i _ l hi hl hk))
  ·have h0:=hH.fz c o v hv
   have hne:c≠l.c:=fun e=>by subst e;simp [World.cell?,hw] at h0
   exact (World.cell?_of_block (w:=w) (a:=⟨c,o,none⟩) (World.putObj_heap_other hne)).trans h0
  ·by_cases e:j=i
   ·subst e;simp at hj
   ·rw [aY _ _ e] at hj
    exact World.putObj_heap_other (hH.sep j i b _ lj l e hj hi hlj hl hkj hk)
 have h2:=h1.addMap (id:=i) (l:=l) (es:=es') (clk:=clk') hl hk hB (ents:=ents') (World.putObj_heap_same hlt) hm (fun j b lj hj hb hlj hkj=>by
  rw [aY _ _ hj] at hb
  exact hH.sep j i b _ lj l hj hb hi hlj hl hkj hk) (hH.yo i _ l hi hl hk)
 have e:upd (upd H i none) i (some (AB.map es' clk'))=upd H i (some (.map es' clk')):=by
  funext j;unfold upd;split<;>rfl
 rw [e] at h2;exact h2
theorem cL.addMaps {H:bH} {B:Bd} (h:cL β H w B) {id:Nat} {l:Loc} {sz:Nat} {es:List (Nat×AV×AV)} {clk:Nat} {ho:Option Nat} (hl:β id=some l) (hk:0<l.k) (hB:B l.c)
  {ents:Array MapEntry} (hw:w.heap[l.c]?=some (.map ents clk)) (hm:aAC β es ents) (hp:aJ6 β.fz β.ys sz w (aHX ho ents))
  (hs:∀ j b lj,j≠id→H j=some b→β j=some lj→0<lj.k→lj.c≠l.c) (hy:¬ β.ys l.c) (hx:∀ j b,j≠id→H j=some b→aAK b=true):cL β (upd H id (some (.maps sz es clk ho))) w B where
 fz:=h.fz
 gb:=h.gb
 own i xs hi:=by
  by_cases e:i=id
  ·subst e;simp [upd] at hi
  ·rw [aY _ _ e] at hi;exact h.own i xs hi
 map i xs ck hi:=by
  by_cases e:i=id
  ·subst e;simp [upd] at hi
  ·rw [aY _ _ e] at hi;exact h.map i xs ck hi
 sep i j bi bj li lj hne hi hj ei ej pi pj:=by
  by_cases e:i=id
  ·subst e
   rw [hl] at ei;cases ei
   have e':j≠i:=fun e=>hne e.symm
   rw [aY _ _ e'] at hj
   exact fun hc=>hs j bj lj e' hj ej pj hc.symm
  ·rw [aY _ _ e] at hi
   by_cases e':j=id
   ·subst e'
    rw [hl] at ej;cases ej
    exact hs i bi li e hi ei pi
   ·rw [aY _ _ e'] at hj
    exact h.sep i j bi bj li lj hne hi hj ei ej pi pj
 ys:=h.ys
 yo i b li hi ei pi:=by
  by_cases e:i=id
  ·subst e;rw [hl] at ei;cases ei;exact hy
  ·rw [aY _ _ e] at hi;exact h.yo i b li hi ei pi
 gh i S G s hi:=by
  by_cases e:i=id
  ·subst e;simp [upd] at hi
  ·rw [aY _ _ e] at hi;exact h.gh i S G s hi
 gh1 i j S G s S' G' s' hi hj:=by
  by_cases e:i=id
  ·subst e;simp [upd] at hi
  ·by_cases e':j=id
   ·subst e';simp [upd] at hj
   ·rw [aY _ _ e] at hi;rw [aY _ _ e'] at hj;exact h.gh1 i j S G s S' G' s' hi hj
 mps i sz' es' clk' ho' hi:=by
  by_cases e:i=id
  ·subst e;rw [mY] at hi;cases hi;exact ⟨l,hl,hk,hB,ents,hw,hm,hp⟩
  ·rw [aY _ _ e] at hi;have:=hx i _ e hi;cases this
 mp1 i j sz' es' clk' ho' b hi hj hb:=by
  by_cases e:i=id
  ·by_cases e':j=id
   ·rw [e,e']
   ·rw [aY _ _ e'] at hj;have:=hx j _ e' hj;rw [hb] at this;cases this
  ·rw [aY _ _ e] at hi;have:=hx i _ e hi;cases this
theorem aJ6.inj {fz:Nat→Nat→Option Value} {ys:Nat→Prop} {sz:Nat} {w:World} {vs vs':Nat→Option Value} (h:aJ6 fz ys sz w vs) (f:Nat→Nat) (hf:∀ j v,vs' j=some v→vs (f j)=some v) (hi:∀ i j,f i=f j→i=j):aJ6 fz ys sz w vs':=fun j v hv=>by
 obtain ⟨base,n,cap,e1,e2,e3⟩:=h (f j) v (hf j v hv)
 refine ⟨base,n,cap,e1,e2,e3.imp id fun ⟨c,o,full,ty,g1,g2,g3,g4,g5,g6⟩=>⟨c,o,full,ty,g1,g2,g3,g4,g5,fun j' v' hv' hne=>g6 (f j') v' (hf j' v' hv') fun e=>hne (hi _ _ e)⟩⟩
theorem cL.putMaps {H:bH} {B:Bd} (hH:cL β H w B) {i sz:Nat} {es es':List (Nat×AV×AV)} {clk clk':Nat} {ho ho':Option Nat} {l:Loc} (hi:H i=some (.maps sz es clk ho)) (hl:β i=some l) {ents ents':Array MapEntry} (hw:w.heap[l.c]?=some (.map ents clk)) (hm:aAC β es' ents')
  (hp:aJ6 β.fz β.ys sz w (aHX ho ents)→aJ6 β.fz β.ys sz w (aHX ho' ents')) :
  cL β (upd H i (some (.maps sz es' clk' ho'))) (w.putObj l.c (.map ents' clk')) B∧bJ B w (w.putObj l.c (.map ents' clk')):=by
 obtain ⟨l',hl',hk,hB,ents0,hw0,_,hp0⟩:=hH.mps i sz es clk ho hi
 rw [hl] at hl';cases hl'
 rw [hw] at hw0;cases hw0
 have hlt:l.c<w.heap.size:=(Array.getElem?_eq_some_iff.1 hw).1
 have hbel:∀ {B:Bd},B l.c→bJ B w (w.putObj l.c (.map ents' clk')):=fun {B} hB=>⟨rfl,rfl,rfl,by simp,Nat.le_refl _,fun k hk=>World.putObj_heap_other fun e=>hk (e ▸ hB)⟩
 refine ⟨?_,hbel hB⟩
 have hy:=hH.yo i _ l hi hl hk
 have h1:cL β (upd H i none) (w.putObj l.c (.map ents' clk')) B:=by
  refine (hH.drop i).world (fun c o v hv=>?_) (fun j b lj hj hlj hkj=>?_) (hbel hy)
  ·have h0:=hH.fz c o v hv
   have hne:c≠l.c:=fun e=>by subst e;simp [World.cell?,hw] at h0
   exact (World.cell?_of_block (w:=w) (a:=⟨c,o,none⟩) (World.putObj_heap_other hne)).trans h0
  ·by_cases e:j=i
   ·subst e;simp at hj
   ·rw [aY _ _ e] at hj
    exact World.putObj_heap_other (hH.sep j i b _ lj l e hj hi hlj hl hkj hk)
 have h2:=h1.addMaps (id:=i) (l:=l) (sz:=sz) (es:=es') (clk:=clk') (ho:=ho') hl hk hB (ents:=ents') (World.putObj_heap_same hlt) hm ((hp hp0).mono (fun _ h=>h) (fun _ _ _ h=>h) fun c hc=>World.putObj_heap_other fun e=>hy (e ▸ hc)) (fun j b lj hj hb hlj hkj=>by
  rw [aY _ _ hj] at hb
  exact hH.sep j i b _ lj l hj hb hi hlj hl hkj hk) hy (fun j b hj hb=>by
  rw [aY _ _ hj] at hb
  cases e:aAK b with
  | true=>rfl
  | false=>exact absurd (hH.mp1 i j _ _ _ _ b hi hb e).symm hj)
 have e:upd (upd H i none) i (some (AB.maps sz es' clk' ho'))=upd H i (some (.maps sz es' clk' ho')):=by
  funext j;unfold upd;split<;>rfl
 rw [e] at h2;exact h2
theorem aJv {ents:Array MapEntry} {e0:MapEntry} {m:Nat} (hm:m=ents.size) (j:Nat) (u:Value) (h:aHX (some m) (ents.push e0) j=some u):aHX (some m) ents j=some u:=by
 unfold aHX at h ⊢
 rw [Array.getElem?_push] at h
 split at h
 ·rename_i e he
  split at he
  ·rename_i ej;cases he;simp [hm,ej] at h
  ·rw [he];exact h
 ·cases h
theorem aGF {ents:Array MapEntry} {g:MapEntry→MapEntry} {i:Nat} (j:Nat) (u:Value) (h:aHX (some i) (ents.modify i g) j=some u):aHX (some i) ents j=some u:=by
 unfold aHX at h ⊢
 rw [Array.getElem?_modify] at h
 split at h
 ·rename_i e he
  split at he
  ·rename_i ej;simp [ej] at h
  ·rw [he];exact h
 ·cases h
theorem aHY {ents:Array MapEntry} {i:Nat} (j:Nat) (u:Value) (h:aHX none (ents.eraseIdxIfInBounds i) j=some u):aHX none ents (if i≤j then j+1 else j)=some u:=by
 unfold aHX at h ⊢
 by_cases hi:i<ents.size
 ·simp only [Array.eraseIdxIfInBounds,hi,dif_pos] at h
  rw [Array.getElem?_eraseIdx] at h
  by_cases hj:j<i
  ·rw [if_pos hj] at h;rw [if_neg (by omega)];exact h
  ·rw [if_neg hj] at h;rw [if_pos (by omega)];exact h
 ·simp only [Array.eraseIdxIfInBounds,hi,dif_neg,not_false_eq_true] at h
  split at h
  ·rename_i e he
   have hj:j<ents.size:=(Array.getElem?_eq_some_iff.1 he).1
   rw [if_neg (by omega),he];exact h
  ·cases h
theorem rF {α:Type} (es:List α) (i:Nat) (f:α→α) (j:Nat):(es.modify i f)[j]?=if i=j then (es[j]?).map f else es[j]?:=by
 rw [List.getElem?_modify];by_cases h:i=j<;>simp [h]
theorem aKE {q:IntKind} {L:List (Nat×Int×AV)} {es:List MapEntry} (h:KR β q L es) {j:Nat} {f:Nat×Int×AV→Nat×Int×AV} {g:MapEntry→MapEntry}
  (hfg:∀ p e,L[j]?=some p→es[j]?=some e→e.born=p.1→e.key=.int q p.2.1→V β p.2.2 e.val→(g e).born=(f p).1∧(g e).key=.int q (f p).2.1∧V β (f p).2.2 (g e).val):KR β q (L.modify j f) (es.modify j g):=by
 obtain ⟨h1,h2⟩:=aFz h
 refine aL8 (by simpa using h1) fun k p hk=>?_
 rw [rF] at hk ⊢
 by_cases e:j=k
 ·subst e
  simp only [if_true] at hk ⊢
  obtain ⟨p0,g1,rfl⟩:=Option.map_eq_some_iff.1 hk
  obtain ⟨e0,k1,k2,k3,k4⟩:=h2 _ p0 g1
  obtain ⟨m1,m2,m3⟩:=hfg p0 e0 g1 k1 k2 k3 k4
  exact ⟨g e0,by simp [k1],m1,m2,m3⟩
 ·simp only [if_neg e] at hk ⊢
  exact h2 k p hk
theorem aIL {q:IntKind} {L:List (Nat×Int×AV)} {es:List MapEntry} (h:KR β q L es) {b:Nat} {n:Int} {a:AV} {v:Value} (hv:V β a v):KR β q (L++[(b,n,a)]) (es++[{ key:=.int q n,val:=v,born:=b }]):=by
 obtain ⟨h1,h2⟩:=aFz h
 refine aL8 (by simpa using h1) fun k p hk=>?_
 rw [List.getElem?_append] at hk ⊢
 rw [h1]
 split
 ·rename_i hlt
  rw [if_pos hlt] at hk
  exact h2 k p hk
 ·rename_i hlt
  rw [if_neg hlt] at hk
  by_cases e:k-L.length=0
  ·rw [e] at hk ⊢
   simp only [List.getElem?_cons_zero,Option.some.injEq] at hk
   subst hk
   exact ⟨{ key:=.int q n,val:=v,born:=b },by simp,rfl,rfl,hv⟩
  ·obtain ⟨m,hm⟩:∃ m,k-L.length=m+1:=⟨k-L.length-1,by omega⟩
   rw [hm] at hk;simp at hk
theorem aMg {q:IntKind} {L:List (Nat×Int×AV)} {es:List MapEntry} (h:KR β q L es) (j:Nat):KR β q (L.eraseIdx j) (es.eraseIdx j):=by
 obtain ⟨h1,h2⟩:=aFz h
 refine aL8 (by simp [List.length_eraseIdx,h1]) fun k p hk=>?_
 rw [List.getElem?_eraseIdx] at hk ⊢
 split
 ·rename_i hlt;rw [if_pos hlt] at hk;exact h2 k p hk
 ·rename_i hlt;rw [if_neg hlt] at hk;exact h2 (k+1) p hk
theorem aMR {H H':bH} {B:Bd} (hH:cL β H w B) {t:TypeId} {m k x r:AV} {mv kv xv:Value} (h:aOV P t m k x H r H') (hm:V β m mv) (hk:V β k kv) (hx:V β x xv) :
  ∃ w',(Instr.mapUpdate t mv kv xv).run P w=.ok () w'∧r=.und∧cL β H' w' B∧bJ B w w':=by
 obtain ⟨q,e,n,i,L,clk,ht,rfl,rfl,rfl,hcase⟩:=h
 obtain ⟨kt,t1,t2⟩:=aAk ht
 cases rZ hk
 obtain ⟨l,hl,rfl⟩:=aOA hm
 have hat:mapAt H i (wZ q L) clk:=hcase.imp (fun h=>h.1) fun ⟨sz,h,_⟩=>⟨sz,_,h⟩
 obtain ⟨l',hl',ents,hw,hmr⟩:=hH.mapAt hat
 rw [hl] at hl';cases hl'
 have ck:∀ em:Bool,(Instr.checkKey em 10000 kt (.int q n)).run P w=.ok () w:=fun em=>run_checkKey t2 (tY q n) em 9999
 rcases tQ (n:=n) 0 hmr.kr with ⟨k1,k2,k3⟩ | ⟨j,p,e',k1,k2,k3,k4,k5,k6,k7,k8,k9⟩
 ·have hf:=run_findKey (w:=w) t2 k3
  have hkr:=aIL hmr.kr (b:=clk) (n:=n) hx
  have hmr':aAC β (wZ q (xX n x L clk)) (ents.push { key:=.int q n,val:=xv,born:=clk }):=by
   refine KR.mrel ?_
   simp only [xX,k1,Array.toList_push];exact hkr
  have:cL β H' (w.putObj l.c (.map (ents.push { key:=.int q n,val:=xv,born:=clk }) (aCA n L clk))) B∧bJ B w (w.putObj l.c (.map (ents.push { key:=.int q n,val:=xv,born:=clk }) (aCA n L clk))):=by
   rcases hcase with ⟨hi,rfl⟩ | ⟨sz,hi,rfl⟩
   ·exact hH.putMap hi hl hmr'
   ·have hx:aCR n L=ents.size:=by simp only [aCR,k1];have:=hmr.len;simp [wZ] at this;exact this.symm
    exact hH.putMaps hi hl hw hmr' fun hp=>hp.inj id (aJv hx) fun _ _ h=>h
  obtain ⟨g1,g2⟩:=this
  refine ⟨_,?_,rfl,g1,g2⟩
  have:aCA n L clk=clk+1:=by simp [aCA,k1]
  rw [this]
  simp only [Instr.mapUpdate,Sem.run_bind,run_underlying t1,Result.andThen,MapKept.run_getObj_map hw,ck,hf,MapKept.run_setObj_map _ hw,World.putObj]
 ·have hf:=run_findKey (w:=w) t2 k9
  have hmr':aAC β (wZ q (xX n x L clk)) (ents.modify j fun e=>{ e with key:=.int q n,val:=xv }):=by
   refine KR.mrel ?_
   simp only [xX,k1,Array.toList_modify]
   exact aKE hmr.kr fun p' e'' h1 h2 h3 h4 h5=>by
    rw [k3] at h1;cases h1
    exact ⟨h3,by rw [← k6],hx⟩
  have:cL β H' (w.putObj l.c (.map (ents.modify j fun e=>{ e with key:=.int q n,val:=xv }) (aCA n L clk))) B∧bJ B w (w.putObj l.c (.map (ents.modify j fun e=>{ e with key:=.int q n,val:=xv }) (aCA n L clk))):=by
   rcases hcase with ⟨hi,rfl⟩ | ⟨sz,hi,rfl⟩
   ·exact hH.putMap hi hl hmr'
   ·have hx:aCR n L=j:=by simp only [aCR,k1]
    rw [hx] at hi ⊢
    exact hH.putMaps hi hl hw hmr' fun hp=>hp.inj id aGF fun _ _ h=>h
  obtain ⟨g1,g2⟩:=this
  refine ⟨_,?_,rfl,g1,g2⟩
  have:aCA n L clk=clk:=by simp [aCA,k1]
  rw [this]
  have hent:ents[j]?=some e':=by simpa using k4
  simp only [Nat.zero_add] at hf
  simp only [Instr.mapUpdate,Sem.run_bind,run_underlying t1,Result.andThen,MapKept.run_getObj_map hw,ck,hf,hent,Option.map_some,Option.getD_some,k7,Instr.keyThatStays,sameBits_self (tY q n),if_true,Sem.run_pure,MapKept.run_setObj_map _ hw,World.putObj]
theorem aPd {H H':bH} {B:Bd} (hH:cL β H w B) {t:TypeId} {m k r:AV} {mv kv:Value} (h:aRq P t m k H r H') (hm:V β m mv) (hk:V β k kv) :
  ∃ w' z,(Instr.mapEntry t mv kv).run P w=.ok z w'∧V β r z∧cL β H' w' B∧bJ B w w':=by
 obtain ⟨q,e,z,n,i,L,clk,ht,hz,rfl,rfl,hi,h⟩:=h
 obtain ⟨kt,t1,t2⟩:=aAk ht
 cases rZ hk
 obtain ⟨l,hl,rfl⟩:=aOA hm
 obtain ⟨l',hl',_,_,ents,hw,hmr⟩:=hH.map i _ clk hi
 rw [hl] at hl';cases hl'
 obtain ⟨zv,z1,z2⟩:=aHM hz w
 have ck:∀ em:Bool,(Instr.checkKey em 10000 kt (.int q n)).run P w=.ok () w:=fun em=>run_checkKey t2 (tY q n) em 9999
 rcases tQ (n:=n) 0 hmr.kr with ⟨k1,k2,k3⟩ | ⟨j,p,e',k1,k2,k3,k4,k5,k6,k7,k8,k9⟩
 ·rw [k2] at h
  obtain ⟨rfl,rfl⟩:=h
  have hf:=run_findKey (w:=w) t2 k3
  obtain ⟨g1,g2⟩:=hH.putMap (es':=wZ q (L++[(clk,n,z)])) (clk':=clk+1) hi hl (ents':=ents.push { key:=.int q n,val:=zv,born:=clk }) (by
   refine KR.mrel ?_
   rw [Array.toList_push];exact aIL hmr.kr (z2 β))
  refine ⟨_,.tuple #[zv,goInt clk],?_,?_,g1,g2⟩
  ·simp only [Instr.mapEntry,Sem.run_bind,run_underlying t1,Result.andThen,MapKept.run_getObj_map hw,ck,hf,z1,MapKept.run_setObj_map _ hw,World.putObj,Sem.run_pure]
  ·simp only [V,Vs];exact ⟨[zv,goInt clk],rfl,_,_,rfl,z2 β,_,_,rfl,rfl,rfl⟩
 ·rw [k2] at h
  obtain ⟨rfl,rfl⟩:=h
  have hf:=run_findKey (w:=w) t2 k9
  have hent:ents[j]?=some e':=by simpa using k4
  have hmod:(ents.modify j fun e=>{ e with key:=.int q n }).toList=ents.toList:=by
   rw [Array.toList_modify]
   refine List.ext_getElem? fun a=>?_
   rw [rF]
   split
   ·rename_i e;subst e;rw [k4];simp only [Option.map_some,Option.some.injEq];rw [← k7]
   ·rfl
  obtain ⟨g1,g2⟩:=hH.putMap (es':=wZ q L) (clk':=clk) hi hl (ents':=ents.modify j fun e=>{ e with key:=.int q n }) (by
   refine KR.mrel ?_
   rw [hmod];exact hmr.kr)
  refine ⟨_,.tuple #[e'.val,goInt e'.born],?_,?_,g1,g2⟩
  ·simp only [Nat.zero_add] at hf
   simp only [Instr.mapEntry,Sem.run_bind,run_underlying t1,Result.andThen,MapKept.run_getObj_map hw,ck,hf,hent,Option.map_some,Option.getD_some,k7,Instr.keyThatStays,sameBits_self (tY q n),if_true,Sem.run_pure,MapKept.run_setObj_map _ hw,World.putObj]
  ·simp only [V,Vs];exact ⟨[e'.val,goInt e'.born],rfl,_,_,rfl,k8,_,_,rfl,by rw [k5];rfl,rfl⟩
theorem aQb {t:TypeId} {H H':bH} {B:Bd} (hH:cL β H w B) {m s x r:AV} {mv sv xv:Value} (h:aRl m s x H r H') (hm:V β m mv) (hs:V β s sv) (hx:V β x xv) :
  ∃ w',(Instr.entryStore t mv sv xv).run P w=.ok () w'∧r=.und∧cL β H' w' B∧bJ B w w':=by
 obtain ⟨b,i,es,clk,j,rfl,rfl,hi,hj,rfl,rfl⟩:=h
 cases rZ hs
 obtain ⟨l,hl,rfl⟩:=aOA hm
 obtain ⟨l',hl',_,_,ents,hw,hmr⟩:=hH.map i _ clk hi
 rw [hl] at hl';cases hl'
 have aCR:ents.findIdx? (fun e=>(e.born:Int)==b)=some j:=by
  have e0:ents=ents.toList.toArray:=by simp
  rw [e0,List.findIdx?_toArray]
  rw [List.findIdx?_eq_some_iff_getElem] at hj ⊢
  obtain ⟨h1,h2,h3⟩:=hj
  have hget:∀ a (ha:a<es.length),∃ e,ents[a]?=some e∧e.born=(es[a]).1:=fun a ha=>by
   obtain ⟨e,g1,g2,_⟩:=hmr.rel a es[a] (by simp)
   exact ⟨e,g1,g2⟩
  have hlen:ents.toList.length=es.length:=by simpa using hmr.len
  refine ⟨by omega,?_,fun a ha=>?_⟩
  ·obtain ⟨e,g1,g2⟩:=hget j h1
   have:ents.toList[j]?=some e:=by simpa using g1
   obtain ⟨_,h'⟩:=List.getElem?_eq_some_iff.1 this
   rw [h',g2];exact h2
  ·obtain ⟨e,g1,g2⟩:=hget a (by omega)
   have:ents.toList[a]?=some e:=by simpa using g1
   obtain ⟨_,h'⟩:=List.getElem?_eq_some_iff.1 this
   rw [h',g2];exact h3 a ha
 obtain ⟨g1,g2⟩:=hH.putMap (es':=es.modify j fun p=>(p.1,p.2.1,x)) (clk':=clk) hi hl (ents':=ents.modify j fun e=>{ e with val:=xv }) (by
  refine ⟨by simpa using hmr.len,fun a p ha=>?_⟩
  rw [rF] at ha
  rw [Array.getElem?_modify]
  by_cases e:j=a
  ·subst e
   simp only [if_true] at ha
   obtain ⟨p0,k1,rfl⟩:=Option.map_eq_some_iff.1 ha
   obtain ⟨e0,m1,m2,m3,m4⟩:=hmr.rel _ p0 k1
   exact ⟨{ e0 with val:=xv },by simp [m1],m2,m3,hx⟩
  ·simp only [if_neg e] at ha
   obtain ⟨e0,m1,m2⟩:=hmr.rel _ p ha
   exact ⟨e0,by simp [e,m1],m2⟩)
 refine ⟨_,?_,rfl,g1,g2⟩
 simp [Instr.entryStore,Sem.run_bind,Result.andThen,MapKept.run_getObj_map hw,asInt,asIntOf,aCR,MapKept.run_setObj_map _ hw,World.putObj]
theorem aQY {t kt' ty:TypeId} {H H':bH} {B:Bd} (hH:cL β H w B) {m k r:AV} {mv kv:Value} (h:aRm P t m k H r H') (hm:V β m mv) (hk:V β k kv) :
  ∃ w' z,(Builtin.delete_ #[t,kt'] ty #[mv,kv]).run P w=.ok z w'∧V β r z∧cL β H' w' B∧bJ B w w':=by
 obtain ⟨q,e,n,i,L,clk,ht,rfl,rfl,rfl,hcase⟩:=h
 obtain ⟨kt,t1,t2⟩:=aAk ht
 cases rZ hk
 obtain ⟨l,hl,rfl⟩:=aOA hm
 have hat:mapAt H i (wZ q L) clk:=hcase.imp (fun h=>h.1) fun ⟨sz,h,_⟩=>⟨sz,_,h⟩
 obtain ⟨l',hl',ents,hw,hmr⟩:=hH.mapAt hat
 rw [hl] at hl';cases hl'
 have ck:∀ em:Bool,(Instr.checkKey em 10000 kt (.int q n)).run P w=.ok () w:=fun em=>run_checkKey t2 (tY q n) em 9999
 rcases tQ (n:=n) 0 hmr.kr with ⟨k1,k2,k3⟩ | ⟨j,p,e',k1,k2,k3,k4,k5,k6,k7,k8,k9⟩
 ·have hf:=run_findKey (w:=w) t2 k3
  have hmr':aAC β (wZ q (aOB n L)) ents:=by simp only [aOB,k1];exact hmr
  have:cL β H' (w.putObj l.c (.map ents clk)) B∧bJ B w (w.putObj l.c (.map ents clk)):=by
   rcases hcase with ⟨hi,rfl⟩ | ⟨sz,hi,rfl⟩
   ·exact hH.putMap hi hl hmr'
   ·exact hH.putMaps hi hl hw hmr' fun hp=>hp
  obtain ⟨g1,g2⟩:=this
  refine ⟨_,.tuple #[],?_,?_,g1,g2⟩
  ·simp [Builtin.delete_,Sem.run_bind,run_underlying t1,Result.andThen,MapKept.run_getObj_map hw,ck,hf,MapKept.run_setObj_map _ hw,World.putObj]
  ·simp only [V,Vs];exact ⟨[],rfl,rfl⟩
 ·have hf:=run_findKey (w:=w) t2 k9
  have hlt:j<ents.size:=by have:=(List.getElem?_eq_some_iff.1 k4).1;simpa using this
  have hmr':aAC β (wZ q (aOB n L)) (ents.eraseIdxIfInBounds j):=by
   refine KR.mrel ?_
   simp only [aOB,k1,Array.eraseIdxIfInBounds,hlt,dif_pos,Array.toList_eraseIdx]
   exact aMg hmr.kr j
  have:cL β H' (w.putObj l.c (.map (ents.eraseIdxIfInBounds j) clk)) B∧bJ B w (w.putObj l.c (.map (ents.eraseIdxIfInBounds j) clk)):=by
   rcases hcase with ⟨hi,rfl⟩ | ⟨sz,hi,rfl⟩
   ·exact hH.putMap hi hl hmr'
   ·exact hH.putMaps hi hl hw hmr' fun hp=>hp.inj _ aHY fun a b h=>by split at h<;>split at h<;>omega
  obtain ⟨g1,g2⟩:=this
  refine ⟨_,.tuple #[],?_,?_,g1,g2⟩
  ·simp only [Nat.zero_add] at hf
   simp [Builtin.delete_,Sem.run_bind,run_underlying t1,Result.andThen,MapKept.run_getObj_map hw,ck,hf,MapKept.run_setObj_map _ hw,World.putObj]
  ·simp only [V,Vs];exact ⟨[],rfl,rfl⟩
theorem aNL {t ty:TypeId} {H:bH} {B:Bd} {lim:Nat} (hH:cL β H w B) {x r:AV} {u:Value} (at_:Array TypeId) (h0:at_[0]?=some t) (h:aNg P lim t x H r) (hx:V β x u):∃ z,(Builtin.len_ at_ ty #[u]).run P w=.ok z w∧V β r z:=by
 rcases h with h | ⟨ht,h⟩
 ·exact aPh at_ h0 h hx
 ·obtain ⟨⟨q,e⟩,ht⟩:=Option.isSome_iff_exists.1 ht
  obtain ⟨kt,t1,t2⟩:=aAk ht
  rcases h with ⟨rfl,rfl⟩ | ⟨i,es,clk,rfl,_,hi,rfl⟩
  ·cases (show u=.map none by simpa only [V] using hx)
   exact ⟨goInt 0,by simp [Builtin.len_,h0,Sem.run_bind,run_underlying t1,Result.andThen],rfl⟩
  ·obtain ⟨l,hl,rfl⟩:=aOA hx
   obtain ⟨l',hl',ents,hw,hm⟩:=hH.mapAt hi
   rw [hl] at hl';cases hl'
   refine ⟨goInt es.length,?_,rfl⟩
   simp [Builtin.len_,h0,Sem.run_bind,run_underlying t1,Result.andThen,MapKept.run_getObj_map hw,hm.len]
theorem aOP {H:bH} {B:Bd} (hH:cL β H w B) (hB:B.top w.heap.size) {id:Nat} (hid:β id=none) (t:TypeId) :
  ∃ β' w' v,(Instr.makeMap t none).run P w=.ok v w'∧cN.le β β'∧(∀ j,β' j≠none→β j≠none∨j=id)∧V β' (.mp id) v∧cL β' (upd H id (some (.map [] 0))) w' B∧bJ (fun c=>w.heap.size≤c) w w'∧β'.fz=β.fz:=by
 refine ⟨β.put id ⟨w.heap.size,0,1⟩,w.alloc (.map #[] 0),.map (some w.heap.size),?_,vK hid,fun j hj=>xK j hj,?_,?_,bJ.alloc w (Nat.le_refl _) _,rfl⟩
 ·simp [Instr.makeMap,Result.andThen]
 ·simp only [V];exact ⟨_,iV _ _ _,rfl⟩
 ·have h1:cL β H (w.alloc (.map #[] 0)) B:=hH.keep (bJ.alloc w (Nat.le_refl _) _)
  refine (h1.put _ hid).addMap (l:=⟨w.heap.size,0,1⟩) (iV _ _ _) (by simp) hB.at (ents:=#[]) (World.alloc_heap_new w _) ⟨rfl,fun j p hp=>by simp at hp⟩ (fun j b lj hj hb hlj hk=>?_) (fun hy=>absurd (hH.ys _ hy).2 (by simp))
  rw [uF _ _ hj] at hlj
  have:=(hH.lt_of_own hb hlj hk).1
  simp;omega
end Go.Eng
namespace Go.Eng
open Go.RowKit (Below)
structure aTG (β β':cN) (B:Bd) (base:Nat):Prop where
 le:cN.le β β'
 dom:∀ j,β' j≠none→β j≠none∨(base≤j∧j<base+64)
 fz:∀ c o,β'.fz c o≠none→β.fz c o≠none∨B c
def zO (_P:Program) (β:cN) (B:Bd) (base:Nat) (w:World) (r:AV) (H':bH):Ending→World→Prop:=fun e w'=>
 ∃ v β',e=.returned v∧aTG β β' B base∧V β' r v∧cL β' H' w' B∧bJ B w w'
def TOk (P:Program) (T:Tbl):Prop:=
 ∀ f args H base r H',T f args H base r H' →
  (∀ av w,(callFunc f av).run P w=.ok (.enter f av) w) ∧
  ∀ (B:Bd) (w:World) (β:cN) (av:List Value),(∀ j,β j≠none→j<base)→cL β H w B→B.top w.heap.size→Vs β args av →
   Calls P f av.toArray w (zO P β B base w r H')
def cP (T:Tbl) (pf:FuncId→Bool):Prop:=
 ∀ f,pf f=true→∀ args H base r H',T f args H base r H'→H'=H∧r.loose∧∀ base' H1,T f args H1 base' r H1
section
variable {P:Program} {β:cN} {w:World}
def fen (ro:Option Nat):Fence:={ Fence.wide with round:=ro }
theorem xH {ro:Option Nat} {n:Nat} {f:FuncId} {args:Array Value} {R:Ending→World→Prop} (h:Calls P f args w R):CallsIn (fen ro) n P f args w R:=
 let k:CallsIn Fence.wide n P f args w R:=callsIn_wide.2 h
 ⟨trivial,k.2⟩
theorem aGD {ro:Option Nat} {n:Nat} {l:Nat} {f:FuncId} {tmps:Array Value} {x y:Code} {R:Ending→World→Prop} (h:RoundIn Fence.wide 0 P l f tmps x y w R):RoundIn (fen ro) n P l f tmps x y w R:=
 ⟨trivial,fun c cs _=>h.2 c cs (room_wide _)⟩
theorem aHL {ro:Option Nat} {o:Oper} {a:Act} {K:Act→World→Prop} {Q:Exit→Act→World→Prop} (hd:∀ c,o.op≠.defer c) (h:o.uponIn (fen ro) 0 P a K Q ((execOp a.eval o).run P w)):o.wpIn (fen ro) 0 P a w K Q:=
 ⟨fun _ _=>trivial,by rw [Oper.semAt_eq _ _ _ hd];exact h⟩
theorem lD {ro:Option Nat} {o:Oper} {a:Act} {w':World} {v:Value} {K:Act→World→Prop} {Q:Exit→Act→World→Prop} (hd:∀ c,o.op≠.defer c) (h:(execOp a.eval o).run P w=.ok (.value v) w') (k:K (a.put o.dst v) w'):o.wpIn (fen ro) 0 P a w K Q:=
 aHL hd (by rw [h];exact k)
theorem aAS {ro:Option Nat} {o:Oper} {a:Act} {w':World} {K:Act→World→Prop} {Q:Exit→Act→World→Prop} (hd:∀ c,o.op≠.defer c) (h:(execOp a.eval o).run P w=.ok .skip w') (k:K (a.put o.dst undef) w'):o.wpIn (fen ro) 0 P a w K Q:=
 aHL hd (by rw [h];exact k)
theorem aBu {ro:Option Nat} {o:Oper} {a:Act} {f:FuncId} {args:Array Value} {K:Act→World→Prop} {Q:Exit→Act→World→Prop} (hd:∀ c,o.op≠.defer c) (h:(execOp a.eval o).run P w=.ok (.enter f args) w)
  (k:Calls P f args w fun e w'=>∃ v,e=.returned v∧K (a.put o.dst v) w'):o.wpIn (fen ro) 0 P a w K Q:=
 aHL hd (by
  rw [h]
  refine ⟨(by intro h;cases h),xH (k.mono fun e w' ⟨v,he,hk⟩=>?_)⟩
  subst he;exact hk)
theorem aJl {ro:Option Nat} {o:Oper} {a:Act} {l:Nat} {f:FuncId} {tmps:Array Value} {x y:Code} {K:Act→World→Prop} {Q:Exit→Act→World→Prop} (hd:∀ c,o.op≠.defer c) (h:(execOp a.eval o).run P w=.ok (.round l f tmps x y) w)
  (k:RoundIn Fence.wide 0 P l f tmps x y w fun e w'=>∃ v,e=.returned v∧K (a.put o.dst v) w'):o.wpIn (fen ro) 0 P a w K Q:=
 aHL hd (by
  rw [h]
  refine ⟨(by intro h;cases h),aGD (k.mono fun e w' ⟨v,he,hk⟩=>?_)⟩
  subst he;exact hk)
theorem cL.backTo {β0 β:cN} {H:bH} {w0 w:World} {B:Bd} (h0:cL β0 H w0 B) (hle:cN.le β0 β) (h:cL β H w B):cL (β0.keep β) H w B where
 fz:=h.fz
 gb:=h.gb
 own i cs hi:=by
  obtain ⟨l,h1,h2,h3⟩:=h0.own i cs hi
  refine ⟨l,h1,h2,fun hk=>?_⟩
  obtain ⟨hB,_,full,e,p,q,r⟩:=h3 hk
  obtain ⟨l',h1',_,h3'⟩:=h.own i cs hi
  have:=gD hle h1 h1';subst this
  obtain ⟨_,hu,full',e',p',q',r'⟩:=h3' hk
  refine ⟨hB,hu,full',e',p',q',fun j a ha=>?_⟩
  obtain ⟨v0,_,y0⟩:=r j a ha
  obtain ⟨v1,x1,y1⟩:=r' j a ha
  exact ⟨v1,x1,aBv hle _ _ _ y0 y1⟩
 map i es clk hi:=by
  obtain ⟨l,h1,h2,h3,ents,h4,m⟩:=h0.map i es clk hi
  obtain ⟨l',h1',_,_,ents',h4',m'⟩:=h.map i es clk hi
  have:=gD hle h1 h1';subst this
  refine ⟨l',h1,h2,h3,ents',h4',m'.len,fun j p hp=>?_⟩
  obtain ⟨e0,_,_,a0,b0⟩:=m.rel j p hp
  obtain ⟨e1,x1,y1,a1,b1⟩:=m'.rel j p hp
  exact ⟨e1,x1,y1,aBv hle _ _ _ a0 a1,aBv hle _ _ _ b0 b1⟩
 sep:=h0.sep
 ys:=h.ys
 yo i b l hi hl pi:=h.yo i b l hi (hle.loc _ _ hl) pi
 gh i S G s hi:=by
  obtain ⟨l,h1,_⟩:=h0.gh i S G s hi
  obtain ⟨l',h1',h2,h3,h4⟩:=h.gh i S G s hi
  have:=gD hle h1 h1';subst this
  exact ⟨_,h1,h2,h3,h4⟩
 gh1:=h0.gh1
 mps i sz es clk ho hi:=by
  obtain ⟨l,h1,h2,h3,ents,h4,m,_⟩:=h0.mps i sz es clk ho hi
  obtain ⟨l',h1',_,_,ents',h4',m',m2⟩:=h.mps i sz es clk ho hi
  have:=gD hle h1 h1';subst this
  refine ⟨l',h1,h2,h3,ents',h4',⟨m'.len,fun j p hp=>?_⟩,m2⟩
  obtain ⟨e0,_,_,a0,b0⟩:=m.rel j p hp
  obtain ⟨e1,x1,y1,a1,b1⟩:=m'.rel j p hp
  exact ⟨e1,x1,y1,aBv hle _ _ _ a0 a1,aBv hle _ _ _ b0 b1⟩
 mp1:=h0.mp1
theorem aKk {c:Ctx} (hpf:cP c.T c.pf) {f:FuncId} (hf:c.pf f=true) {args:List AV} {H H':bH} {base:Nat} {B:Bd} {r:AV} (hT:c.T f args H base r H') (hH:cL β H w B) {e:Ending} {w':World} (ho:zO P β B base w r H' e w') :
  ∃ v β',e=.returned v∧cN.le β β'∧(∀ j,β' j≠none→β j≠none)∧(∀ c o,β'.fz c o≠none→β.fz c o≠none∨B c)∧V β' r v∧cL β' H w' B∧bJ B w w':=by
 obtain ⟨v,β',he,hx,hv,hH',hb⟩:=ho
 obtain ⟨rfl,hcl,_⟩:=hpf f hf args H base r H' hT
 exact ⟨v,β.keep β',he,cN.le_keep hx.le,fun j hj=>hj,hx.fz,hcl _ _ _ _ hv,hH.backTo hx.le hH',hb⟩
theorem aIs {H:bH} {b id sz n:Nat} {B:Bd} {cs:List AV} (hH:cL β H w B) (hid:β id=none) (hb:β b=none) (hlo:∀ a∈cs,a.loose) {e:Ending} {w':World} (ho:zO P β B b w (.so b 0 n sz) (upd H b (some (.cells cs))) e w') :
  ∃ v β',e=.returned v∧cN.le β β'∧(∀ j,β' j≠none→β j≠none∨j=id)∧(∀ c o,β'.fz c o≠none→β.fz c o≠none∨B c)∧V β' (.so id 0 n sz) v∧cL β' (upd H id (some (.cells cs))) w' B∧bJ B w w':=by
 obtain ⟨v,β',he,hx,hv,hH',hbl⟩:=ho
 have hsub:∀ i x,H i=some x→upd H b (some (.cells cs)) i=some x:=fun i x hi=>by
  have:i≠b:=fun e=>by subst e;obtain ⟨l,hl⟩:=hH.locOf hi;rw [hb] at hl;cases hl
  rw [aY _ _ this];exact hi
 have h1:cL (β.keep β') H w' B:=hH.backTo hx.le (hH'.sub hsub)
 obtain ⟨l,hl,hlen,hblk⟩:=hH'.own b cs (mY _ _ _)
 have hid1:(β.keep β') id=none:=hid
 have hle1:cN.le (β.keep β') ((β.keep β').put id l):=vK hid1
 refine ⟨v,(β.keep β').put id l,he,(cN.le_keep hx.le).trans hle1,fun j hj=>xK j hj,hx.fz,?_,?_,hbl⟩
 ·simp only [V] at hv ⊢
  obtain ⟨l',h2,h3⟩:=hv
  rw [hl] at h2;cases h2
  exact ⟨l,iV _ _ _,h3⟩
 ·refine (h1.put l hid1).add (l:=l) (iV _ _ _) hlen (fun hk=>?_) (fun hk j x lj hj hx' hlj hkj=>?_) fun hk=>hH'.yo b _ l (mY _ _ _) hl hk
  ·obtain ⟨hB,hu,full,e,p,q,r⟩:=hblk hk
   refine ⟨hB,hu,full,e,p,q,fun j a ha=>?_⟩
   obtain ⟨u,y1,y2⟩:=r j a ha
   exact ⟨u,y1,hlo a (List.mem_of_getElem? ha) β' _ _ u y2⟩
  ·rw [uF _ _ hj] at hlj
   have hjb:j≠b:=fun e=>by subst e;obtain ⟨l2,hl2⟩:=hH.locOf hx';rw [hb] at hl2;cases hl2
   exact hH'.sep j b x _ lj l hjb (hsub j x hx') (mY _ _ _) (hx.le.loc _ _ hlj) hl hkj hk
theorem tZ {sl:Nat→AV} {a:Act} (hs:∀ t,V β (sl t) (a.tmps.getD t undef)) (xs:Array Operand):Vs β (xs.toList.map (evA sl)) (xs.map a.eval).toList:=by
 rw [Array.toList_map];exact aHz hs _
set_option maxHeartbeats 800000 in
theorem aK0 {ro:Option Nat} (c:Ctx) (hT:TOk c.P c.T) (hpf:cP c.T c.pf) {i:Nat} {o:Oper} {sl:Nat→AV} {a:Act} {H H':bH} {B:Bd} {r:AV} (hs:∀ t,V β (sl t) (a.tmps.getD t undef)) (hH:cL β H w B) (hB:B.top w.heap.size)
  (he:aCl (opA c i o sl) H (c.b+i * 64) r H')
  (hfresh:(opA c i o sl).uses=true→∀ j,c.b+i * 64≤j→j<c.b+i * 64+64→β j=none)
  (hlow:(opA c i o sl).isWrite=true→∀ j,β j≠none→j<c.b+i * 64)
  (hall:∀ j,β j≠none→j<c.b+c.n * 64)
  {K:Act→World→Prop} {Q:Exit→Act→World→Prop}
  (hK:∀ β' v w',cN.le β β'→(∀ j,β' j≠none→β j≠none∨((opA c i o sl).uses=true∧c.b+i * 64≤j∧j<c.b+i * 64+64))→(∀ c o,β'.fz c o≠none→β.fz c o≠none∨B c)→V β' r v→cL β' H' w' B→bJ B w w'→K (a.put o.dst v) w') :
  o.wpIn (fen ro) 0 c.P a w K Q:=by
 obtain ⟨dst,op,type,pos,after,guard⟩:=o
 have hd:∀ d,(⟨dst,op,type,pos,after,guard⟩:Oper).op≠.defer d:=fun d h=>by
  simp only at h;subst h;exact he.1
 have kpure:∀ {v:Value} {e:AV→Prop},opA c i ⟨dst,op,type,pos,after,guard⟩ sl=.pure e→(∀ r,e r→∃ v,(execOp a.eval ⟨dst,op,type,pos,after,guard⟩).run c.P w=.ok (.value v) w∧V β r v)→Oper.wpIn (fen ro) 0 c.P ⟨dst,op,type,pos,after,guard⟩ a w K Q:=by
  intro _ e hop hr
  rw [hop] at he
  obtain ⟨he,rfl⟩:=he
  obtain ⟨v,h1,h2⟩:=hr _ he
  exact lD hd h1 (hK β v w (cN.le.refl _) (fun j hj=>.inl hj) (fun c o h=>.inl h) h2 hH (bJ.refl _ _))
 have kalloc:∀ {e:AV→AB→Prop},opA c i ⟨dst,op,type,pos,after,guard⟩ sl=.alloc e →
   (∀ r blk,e r blk→β (c.b+i * 64)=none→∃ β' w' v,(execOp a.eval ⟨dst,op,type,pos,after,guard⟩).run c.P w=.ok (.value v) w'∧Ext β β' B (c.b+i * 64)∧V β' r v∧cL β' (upd H (c.b+i * 64) (some blk)) w' B∧bJ (fun c=>w.heap.size≤c) w w') →
   Oper.wpIn (fen ro) 0 c.P ⟨dst,op,type,pos,after,guard⟩ a w K Q:=by
  intro e hop hr
  have huse:(opA c i ⟨dst,op,type,pos,after,guard⟩ sl).uses=true:=by rw [hop];rfl
  have hf:=hfresh huse (c.b+i * 64) (Nat.le_refl _) (by omega)
  rw [hop] at he
  obtain ⟨blk,he,rfl⟩:=he
  obtain ⟨β',w',v,h1,h2,h4,h5,h6⟩:=hr _ _ he hf
  exact lD hd h1 (hK β' v w' h2.le (fun j hj=>(h2.dom j hj).imp id fun e=>⟨huse,by omega,by omega⟩) h2.fz h4 h5 (.of hB h6))
 cases op with
 | move x=>exact kpure (v:=undef) rfl fun r hr=>by cases hr;exact ⟨a.eval x,by simp [execOp],fM hs x⟩
 | assign x=>exact kpure (v:=undef) rfl fun r hr=>by cases hr;exact ⟨a.eval x,by simp [execOp],fM hs x⟩
 | pick q x y=>
  refine kpure (v:=undef) rfl fun r hr=>?_
  have hq:=fM hs q
  split at hr<;>(try (exact hr.elim))
  rename_i t hqt
  rw [hqt] at hq
  have hb:=aCv hq
  subst hr
  cases t
  ·exact ⟨a.eval y,by simp [execOp,hb,asBool],fM hs y⟩
  ·exact ⟨a.eval x,by simp [execOp,hb,asBool],fM hs x⟩
 | alloc t=>
  refine kalloc rfl fun r blk hr hf=>?_
  obtain ⟨z,hz,rfl,rfl⟩:=hr
  obtain ⟨β',w',h1,h2,h3,h4,h5,h6,h7⟩:=aKX (P:=c.P) hH hB hf hz
  exact ⟨β',w',_,by simp [execOp,h1],⟨h2,h3,fun c o h=>.inl (h7 ▸ h)⟩,h4,h5,h6⟩
 | box t x=>
  refine kalloc rfl fun r blk hr hf=>?_
  obtain ⟨z,hz,rfl,rfl⟩:=hr
  obtain ⟨β',w',h1,h2,h3,h4,h5,h6,h7⟩:=aRg (P:=c.P) (t:=t) hH hB hf hz (fM hs x)
  exact ⟨β',w',_,by simp [execOp,h1],⟨h2,h3,fun c o h=>.inl (h7 ▸ h)⟩,h4,h5,h6⟩
 | build t ps=>
  refine kpure (v:=undef) rfl fun r hr=>?_
  obtain ⟨h1,h2⟩:=aGZ hs ps.toList
  obtain ⟨z,h3,h4⟩:=aLv (w:=w) (ps:=ps.map fun (i,x)=>(i,a.eval x)) hr (by simp) (by simpa using h2)
  exact ⟨z,by simp [execOp,h3],h4⟩
 | buildSlice t n ps=>
  refine kalloc rfl fun r blk hr hf=>?_
  obtain ⟨h1,h2⟩:=aGZ hs ps.toList
  obtain ⟨β',w',v,g1,g2,g3,g4,g5,g6,g7⟩:=aEE (w:=w) (ps:=ps.map fun (i,x)=>(i,a.eval x)) hH hB hf hr (by simp) (by simpa using h2)
  exact ⟨β',w',v,by simp [execOp,g1],⟨g2,g3,g7⟩,g4,g5,g6⟩
 | load t p=>
  obtain ⟨hl,rfl⟩:=he
  obtain ⟨z,h1,h2⟩:=aJ8 (P:=c.P) hH hl (fM hs p)
  exact lD hd (by simp [execOp,h1]) (hK β z w (cN.le.refl _) (fun j hj=>.inl hj) (fun c o h=>.inl h) h2 hH (bJ.refl _ _))
 | store t p x=>
  obtain ⟨w',h1,rfl,h2,h3⟩:=aLi (P:=c.P) hH he (fM hs p) (fM hs x)
  exact aAS hd (by simp [execOp,h1]) (hK β undef w' (cN.le.refl _) (fun j hj=>.inl hj) (fun c o h=>.inl h) (by simp [V]) h2 h3)
 | nilCheck x=>
  refine kpure (v:=undef) rfl fun r hr=>?_
  have hx:=fM hs x
  obtain ⟨rfl,hr⟩:=hr
  split at hr<;>(try (exact hr.elim))
  ·rename_i k o hk
   rw [hk] at hx ⊢
   obtain ⟨l,hl,hv⟩:=aId hx
   exact ⟨.pointer (some ⟨l.c,l.o+o,none⟩),by simp [execOp,hv],by unfold V;exact ⟨l,hl,rfl⟩⟩
  ·rename_i cs o hk
   rw [hk] at hx ⊢
   obtain ⟨b,q,vs,hv,h1,h2⟩:=aO4 hx
   exact ⟨.pointer (some ⟨b,q+o,none⟩),by simp [execOp,hv],by unfold V;exact ⟨b,q,vs,rfl,h1,h2⟩⟩
  ·rename_i f fs cs hk
   rw [hk] at hx ⊢
   simp only [V] at hx
   obtain ⟨fv,cv,hv,hfv,hcv⟩:=hx
   exact ⟨.func (.func f) fv.toArray cv.toArray,by simp [execOp,hv],by unfold V;exact ⟨fv,cv,rfl,hfv,hcv⟩⟩
 | binOp op t x y yt=>
  refine kpure (v:=undef) rfl fun r hr=>?_
  rcases hr with hr | ⟨b,hr,hop⟩
  ·obtain ⟨z,h1,h2⟩:=aOS (P:=c.P) (w:=w) t yt x y hr (fM hs x) (fM hs y)
   exact ⟨z,by simp only [execOp,Sem.run_bind] at h1 ⊢;simp only [h1];rfl,h2⟩
  ·obtain ⟨e1,e2⟩:=hr β w _ _ x y (fM hs x) (fM hs y)
   rcases hop with ⟨rfl,rfl⟩ | ⟨rfl,rfl⟩
   ·exact ⟨.bool b,by simp only [execOp,Sem.run_bind] at e1 ⊢;simp only [e1];rfl,by simp [V]⟩
   ·exact ⟨.bool !b,by simp only [execOp,Sem.run_bind] at e2 ⊢;simp only [e2];rfl,by simp [V]⟩
 | unOp op t x=>
  refine kpure (v:=undef) rfl fun r hr=>?_
  obtain ⟨z,h1,h2⟩:=aRI (P:=c.P) (w:=w) hr (fM hs x)
  exact ⟨z,by simp [execOp,h1],h2⟩
 | convert s d x=>
  refine kpure (v:=undef) rfl fun r hr=>?_
  obtain ⟨z,h1,h2⟩:=aMV (P:=c.P) (w:=w) hr (fM hs x)
  exact ⟨z,by simp [execOp,h1],h2⟩
 | makeFunc fn first caps=>
  refine kpure (v:=undef) rfl fun r hr=>?_
  split at hr<;>(try (exact hr.elim))
  rename_i f
  cases hr
  exact ⟨.func (.func f) (first.map a.eval) (caps.map a.eval),by simp [execOp,Instr.makeFunc],by unfold V;exact ⟨first.toList.map a.eval,caps.toList.map a.eval,by rw [show (caps.toList.map a.eval).toArray=caps.map a.eval from by apply Array.toList_inj.1;simp,show (first.toList.map a.eval).toArray=first.map a.eval from by apply Array.toList_inj.1;simp],aHz hs _,aHz hs _⟩⟩
 | makeSlice t l k=>
  refine kalloc rfl fun r blk hr hf=>?_
  obtain ⟨r0,hr,hwk⟩:=hr
  obtain ⟨β',w',v,g1,g2,g3,g4,g5,g6,g7⟩:=aFu (P:=c.P) hH hB hf hr (fM hs l) (fM hs k)
  exact ⟨β',w',v,by simp [execOp,g1],⟨g2,g3,fun c o h=>.inl (g7 ▸ h)⟩,hwk _ _ g4,g5,g6⟩
 | makeMap t rv=>
  cases rv with
  | some _=>exact he.1.elim
  | none=>
   refine kalloc rfl fun r blk hr hf=>?_
   obtain ⟨rfl,rfl⟩:=hr
   obtain ⟨β',w',v,g1,g2,g3,g4,g5,g6,g7⟩:=aOP (P:=c.P) hH hB hf t
   exact ⟨β',w',v,by simp [execOp,g1],⟨g2,g3,fun c o h=>.inl (g7 ▸ h)⟩,g4,g5,g6⟩
 | lookup t x k ok=>
  obtain ⟨hl,rfl⟩:=he
  obtain ⟨z,h1,h2⟩:=aM6 (P:=c.P) hH hl (fM hs x) (fM hs k)
  exact lD hd (by simp [execOp,h1]) (hK β z w (cN.le.refl _) (fun j hj=>.inl hj) (fun c o h=>.inl h) h2 hH (bJ.refl _ _))
 | mapUpdate t m k x=>
  obtain ⟨w',h1,rfl,h2,h3⟩:=aMR (P:=c.P) hH he (fM hs m) (fM hs k) (fM hs x)
  exact aAS hd (by simp [execOp,h1]) (hK β undef w' (cN.le.refl _) (fun j hj=>.inl hj) (fun c o h=>.inl h) (by simp [V]) h2 h3)
 | insert t m k x=>
  obtain ⟨w',h1,rfl,h2,h3⟩:=aMR (P:=c.P) hH he (fM hs m) (fM hs k) (fM hs x)
  exact aAS hd (by simp [execOp,h1]) (hK β undef w' (cN.le.refl _) (fun j hj=>.inl hj) (fun c o h=>.inl h) (by simp [V]) h2 h3)
 | mapEntry t m k=>
  obtain ⟨w',z,h1,h0,h2,h3⟩:=aPd (P:=c.P) hH he (fM hs m) (fM hs k)
  exact lD hd (by simp [execOp,h1]) (hK β z w' (cN.le.refl _) (fun j hj=>.inl hj) (fun c o h=>.inl h) h0 h2 h3)
 | entryStore t m s x=>
  obtain ⟨w',h1,rfl,h2,h3⟩:=aQb (P:=c.P) (t:=t) hH he (fM hs m) (fM hs s) (fM hs x)
  exact aAS hd (by simp [execOp,h1]) (hK β undef w' (cN.le.refl _) (fun j hj=>.inl hj) (fun c o h=>.inl h) (by simp [V]) h2 h3)
 | slice t x lo hi mx=>
  refine kpure (v:=undef) rfl fun r hr=>?_
  obtain ⟨r0,hr,hrwk⟩:=hr
  obtain ⟨z,h1,h2⟩:=aLt (P:=c.P) (w:=w) hr (fM hs x) (aOm hs lo) (aOm hs hi) (aOm hs mx)
  exact ⟨z,by simp [execOp,h1],hrwk _ _ h2⟩
 | fieldAddr t x f=>
  refine kpure (v:=undef) rfl fun r hr=>?_
  obtain ⟨z,h1,h2⟩:=aFZ (P:=c.P) (w:=w) hr (fM hs x)
  exact ⟨z,by simp [execOp,h1],h2⟩
 | field t x f=>
  refine kpure (v:=undef) rfl fun r hr=>?_
  obtain ⟨z,h1,h2⟩:=aLS (P:=c.P) (w:=w) hr (fM hs x)
  exact ⟨z,by simp [execOp,h1],h2⟩
 | indexAddr t x k=>
  refine kpure (v:=undef) rfl fun r hr=>?_
  obtain ⟨z,h1,h2⟩:=aF8 (P:=c.P) (w:=w) hr (aRN hs hH.gb x) (fM hs k)
  exact ⟨z,by simp [execOp,h1],h2⟩
 | index t x k=>
  refine kpure (v:=undef) rfl fun r hr=>?_
  obtain ⟨z,h1,h2⟩:=aDy (P:=c.P) (w:=w) hr (fM hs x) (fM hs k)
  exact ⟨z,by simp [execOp,h1],h2⟩
 | extract x k=>
  refine kpure (v:=undef) rfl fun r hr=>?_
  have hx:=fM hs x
  split at hr<;>(try (exact hr.elim))
  rename_i vs hk
  rw [hk] at hx
  simp only [V] at hx
  obtain ⟨us,hv,hus⟩:=hx
  obtain ⟨u,h1,h2⟩:=tT hus _ _ hr
  exact ⟨u,by simp [execOp,hv,Instr.extract,h1],h2⟩
 | call cl=>
  obtain ⟨callee,args,argTypes⟩:=cl
  cases callee with
  | invoke r m=>exact absurd he.1 (by simp)
  | builtin b=>
   cases b
   case len=>
    simp only [opA,aCl] at he
    obtain ⟨he,rfl⟩:=he
    split at he<;>(try (exact he.elim))
    rename_i x t tl hargs htys
    have e1:args=#[x]:=by apply Array.toList_inj.1;simpa using hargs
    have e2:argTypes[0]?=some t:=by rw [← Array.getElem?_toList,htys];rfl
    subst e1
    obtain ⟨z,h1,h2⟩:=aNL (P:=c.P) (w:=w) (ty:=type) hH argTypes e2 he (fM hs x)
    exact lD hd (by simp [execOp,resolve,invoke,builtin,h1]) (hK β z w (cN.le.refl _) (fun j hj=>.inl hj) (fun c o h=>.inl h) h2 hH (bJ.refl _ _))
   case delete=>
    simp only [opA,aCl] at he
    split at he<;>(try (exact he.elim))
    rename_i m k t kt hargs htys
    have e1:args=#[m,k]:=by apply Array.toList_inj.1;simpa using hargs
    have e2:argTypes=#[t,kt]:=by apply Array.toList_inj.1;simpa using htys
    subst e1 e2
    obtain ⟨w',z,g1,g2,g3,g4⟩:=aQY (P:=c.P) (ty:=type) (kt':=kt) hH he (fM hs m) (fM hs k)
    exact lD hd (by simp [execOp,resolve,invoke,builtin,g1]) (hK β z w' (cN.le.refl _) (fun j hj=>.inl hj) (fun c o h=>.inl h) g2 g3 g4)
   case min=>
    refine kpure (v:=undef) rfl fun r hr=>?_
    obtain ⟨z,h1,h2⟩:=aQZ (P:=c.P) (w:=w) (vs:=args.map a.eval) argTypes type hr (tZ hs args)
    exact ⟨z,by simp [execOp,resolve,invoke,builtin,h1],h2⟩
   case max=>
    refine kpure (v:=undef) rfl fun r hr=>?_
    obtain ⟨z,h1,h2⟩:=aPj (P:=c.P) (w:=w) (vs:=args.map a.eval) argTypes type hr (tZ hs args)
    exact ⟨z,by simp [execOp,resolve,invoke,builtin,h1],h2⟩
   case append=>
    have huse:(opA c i ⟨dst,.call ⟨.builtin .append,args,argTypes⟩,type,pos,after,guard⟩ sl).uses=true:=by
     simp only [opA];split<;>rfl
    have hfr:=hfresh huse (c.b+i * 64) (Nat.le_refl _) (by omega)
    simp only [opA] at he
    split at he
    ·simp only [aCl] at he
     obtain ⟨blk,he,rfl⟩:=he
     split at he<;>(try (exact he.elim))
     rename_i s x t u hargs htys
     have e1:args=#[s,x]:=by apply Array.toList_inj.1;simpa using hargs
     have e2:argTypes=#[t,u]:=by apply Array.toList_inj.1;simpa using htys
     subst e1 e2
     have:∃ β' w' v,(Builtin.append_ #[t,u] type #[a.eval s,a.eval x]).run c.P w=.ok v w'∧Ext β β' B (c.b+i * 64)∧V β' r v∧cL β' (upd H (c.b+i * 64) (some blk)) w' B∧bJ B w w':=by
      obtain ⟨r0,he,hwk⟩:=he
      have:∃ β' w' v,(Builtin.append_ #[t,u] type #[a.eval s,a.eval x]).run c.P w=.ok v w'∧Ext β β' B (c.b+i * 64)∧V β' r0 v∧cL β' (upd H (c.b+i * 64) (some blk)) w' B∧bJ B w w':=by
       rcases he with ⟨k1,k2,he⟩ | he
       ·exact aFe (P:=c.P) (ty:=type) hH hB hfr k1 k2 (he H) (fM hs s) (fM hs x)
       ·exact aCI (P:=c.P) (ty:=type) hH hB hfr (he H) (fM hs s) (fM hs x)
      obtain ⟨β',w',v,g1,g2,g3,g4,g5⟩:=this
      exact ⟨β',w',v,g1,g2,hwk _ _ g3,g4,g5⟩
     obtain ⟨β',w',v,g1,g2,g4,g5,g6⟩:=this
     exact lD hd (by simp [execOp,resolve,invoke,builtin,g1]) (hK β' v w' g2.le (fun j hj=>(g2.dom j hj).imp id fun e=>⟨huse,by omega,by omega⟩) g2.fz g4 g5 g6)
    simp only [aCl] at he
    split at he<;>(try (exact he.elim))
    rename_i s x t u hargs htys
    have e1:args=#[s,x]:=by apply Array.toList_inj.1;simpa using hargs
    have e2:argTypes=#[t,u]:=by apply Array.toList_inj.1;simpa using htys
    subst e1 e2
    have:∃ β' w' v,(Builtin.append_ #[t,u] type #[a.eval s,a.eval x]).run c.P w=.ok v w'∧Ext β β' B (c.b+i * 64)∧V β' r v∧cL β' H' w' B∧bJ B w w':=by
     obtain ⟨r0,he,hwk⟩:=he
     have:∃ β' w' v,(Builtin.append_ #[t,u] type #[a.eval s,a.eval x]).run c.P w=.ok v w'∧Ext β β' B (c.b+i * 64)∧V β' r0 v∧cL β' H' w' B∧bJ B w w':=by
      rcases he with ⟨k1,k2,he⟩ | he
      ·exact aFe (P:=c.P) (ty:=type) hH hB hfr k1 k2 he (fM hs s) (fM hs x)
      ·exact aCI (P:=c.P) (ty:=type) hH hB hfr he (fM hs s) (fM hs x)
     obtain ⟨β',w',v,g1,g2,g3,g4,g5⟩:=this
     exact ⟨β',w',v,g1,g2,hwk _ _ g3,g4,g5⟩
    obtain ⟨β',w',v,g1,g2,g4,g5,g6⟩:=this
    exact lD hd (by simp [execOp,resolve,invoke,builtin,g1]) (hK β' v w' g2.le (fun j hj=>(g2.dom j hj).imp id fun e=>⟨huse,by omega,by omega⟩) g2.fz g4 g5 g6)
   all_goals exact absurd he.1 (by simp)
  | value f=>
   have dyn:∀ (g:AV),V β g (a.eval f)→aFs c i g (args.toList.map (evA sl)) H r H'→(∀ j,β j≠none→j<c.b+i * 64) →
     (∀ β' v w',cN.le β β'→(∀ j,β' j≠none→β j≠none∨(c.b+i * 64≤j∧j<c.b+i * 64+64))→(∀ c o,β'.fz c o≠none→β.fz c o≠none∨B c)→V β' r v→cL β' H' w' B→bJ B w w'→K (a.put dst v) w') →
     Oper.wpIn (fen ro) 0 c.P ⟨dst,.call ⟨.value f,args,argTypes⟩,type,pos,after,guard⟩ a w K Q:=by
    intro g hg hcall hl hk
    unfold aFs at hcall
    split at hcall<;>(try (exact hcall.elim))
    case h_2 j=>
     obtain ⟨S,G,s,b,s',av,hj,hP,hav,hY,rfl,rfl⟩:=hcall
     simp only [V] at hg
     obtain ⟨l,hlj,hcv⟩:=hg
     obtain ⟨l',hlj',hk0,hJ,hfz,hfz2⟩:=hH.gh j S G s hj
     rw [hlj] at hlj';cases hlj'
     have hargs:=hav _ _ (tZ hs args)
     obtain ⟨fn,tmps,x,y,hy,hR⟩:=G.yield s β.ys l.c w av b s' hJ (fun c hc=>(hH.ys c hc).2) hY
     rw [hP] at hy hR
     have hrun:(execOp a.eval ⟨dst,.call ⟨.value f,args,argTypes⟩,type,pos,after,guard⟩).run c.P w=.ok (.round l.c fn tmps x y) w:=by
      have e:args.map a.eval=av.toArray:=by rw [← hargs,Array.toArray_toList]
      simp [execOp,resolve,hcv,Deferred.ofValue,invoke,e,hy]
     refine aJl hd hrun (hR.mono fun e w' ho=>?_)
     obtain ⟨rfl,Ys',hJ',hsub,hlt,hbel⟩:=ho
     have hbB:bJ B w w':=hbel.weaken fun c hc=>hc.elim (fun h=>(hH.ys c h).1) (fun h=>hB c h)
     have hle:cN.le β ⟨β.loc,β.fz,Ys'⟩:=⟨fun _ _ h=>h,fun _ _ _ h=>h⟩
     have hold:∀ c,c<w.heap.size→¬ β.ys c→w'.heap[c]?=w.heap[c]?:=fun c h1 h2=>hbel.block c fun h=>h.elim h2 (fun h=>by omega)
     have hcell:∀ c o v,β.fz c o=some v→w'.cell? ⟨c,o,none⟩=some v:=fun c o v hv=>by
      by_cases hc:β.ys c
      ·exact G.cells _ _ _ _ c o v hJ' (hfz c o v hc hv)
      ·have h0:=hH.fz c o v hv
       exact (World.cell?_of_block (w:=w) (a:=⟨c,o,none⟩) (hold c (aBr h0) hc)).trans h0
     have hys':∀ c,Ys' c→B c∧c<w'.heap.size:=fun c hc=>⟨(hsub c hc).elim (fun h=>(hH.ys c h).1) (fun h=>hB c h),hlt c hc⟩
     have hyo':∀ i b l,H i=some b→β i=some l→0<l.k→¬ Ys' l.c:=fun i b l hi hl hk hc=>
      (hsub _ hc).elim (hH.yo i b l hi hl hk) fun h=>by have:=(hH.lt_of_own hi hl hk).1;omega
     refine ⟨.bool b,rfl,hk ⟨β.loc,β.fz,Ys'⟩ _ _ hle (fun j hj=>.inl hj) (fun c o h=>.inl h) (by simp [V]) ?_ hbB⟩
     have hne:∀ {k cs},upd H j (some (.gh S G s')) k=some (.cells cs)→H k=some (.cells cs):=fun {k cs} h=>by
      unfold upd at h;split at h
      ·cases h
      ·exact h
     have hneM:∀ {k es clk},upd H j (some (.gh S G s')) k=some (.map es clk)→H k=some (.map es clk):=fun {k es clk} h=>by
      unfold upd at h;split at h
      ·cases h
      ·exact h
     have hnm:∀ {k sz es clk ho},upd H j (some (.gh S G s')) k=some (.maps sz es clk ho)→False:=fun {k sz es clk ho} h=>by
      unfold upd at h;split at h
      ·cases h
      ·rename_i e;exact e (hH.mp1 _ _ _ _ _ _ _ h hj rfl)
     have hneA:∀ {k b lk},upd H j (some (.gh S G s')) k=some b→β k=some lk→0<lk.k→H k=some b:=fun {k b lk} h hlk hpos=>by
      unfold upd at h;split at h
      ·rename_i e;subst e;rw [hlj] at hlk;cases hlk;omega
      ·exact h
     refine ⟨hcell,hH.gb,fun k cs hk=>?_,fun k es clk hk=>?_,fun a b ba bb la lb hab ha hb ea eb pa pb=>hH.sep a b ba bb la lb hab (hneA ha ea pa) (hneA hb eb pb) ea eb pa pb,hys',fun k b lk hk hlk hpos=>hyo' k b lk (hneA hk hlk hpos) hlk hpos,fun k S2 G2 s2 hk=>?_,fun k k' S2 G2 s2 S3 G3 s3 h2 h3=>?_,fun k sz es clk ho hk=>absurd (hnm hk) (fun e=>e),fun k k' sz es clk ho b hk _ _=>absurd (hnm hk) (fun e=>e)⟩
     ·obtain ⟨lk,g1,g2,g3⟩:=hH.own k cs (hne hk)
      refine ⟨lk,g1,g2,fun hpos=>?_⟩
      obtain ⟨hB',hu,full,e,p,q,r⟩:=g3 hpos
      exact ⟨hB',hu,full,e,(hold _ (Array.getElem?_eq_some_iff.1 p).1 (hH.yo k _ lk (hne hk) g1 hpos)).trans p,q,fun j a ha=>let ⟨v,x,y⟩:=r j a ha;⟨v,x,kU hle _ _ y⟩⟩
     ·obtain ⟨lk,g1,g2,g3,ents,g4,g5⟩:=hH.map k es clk (hneM hk)
      exact ⟨lk,g1,g2,g3,ents,(hold _ (Array.getElem?_eq_some_iff.1 g4).1 (hH.yo k _ lk (hneM hk) g1 g2)).trans g4,g5.mono hle⟩
     ·have hkj:k=j:=by
       by_cases e:k=j
       ·exact e
       ·rw [aY _ _ e] at hk;exact hH.gh1 _ _ _ _ _ _ _ _ hk hj
      subst hkj
      simp only [mY,Option.some.injEq,AB.gh.injEq] at hk
      obtain ⟨rfl,hk⟩:=hk
      obtain ⟨h1,h2⟩:=hk
      cases h1;cases h2
      refine ⟨l,hlj,hk0,hJ',fun c o v hc hv=>?_,hfz2⟩
      rcases hsub c hc with h | h
      ·exact hfz c o v h hv
      ·rw [hH.fz_none h] at hv;cases hv
     ·have one:∀ {k S2 G2 s2},upd H j (some (.gh S G s')) k=some (.gh S2 G2 s2)→k=j:=fun {k S2 G2 s2} h=>by
       by_cases e:k=j
       ·exact e
       ·rw [aY _ _ e] at h;exact hH.gh1 _ _ _ _ _ _ _ _ h hj
      rw [one h2,one h3]
    rename_i f' first caps
    obtain ⟨args',hwk,hcall⟩:=hcall
    simp only [V] at hg
    obtain ⟨fv,cv,hcv,hfvs,hcvs⟩:=hg
    obtain ⟨henter,hcalls⟩:=hT _ _ _ _ _ _ hcall
    have hrun:(execOp a.eval ⟨dst,.call ⟨.value f,args,argTypes⟩,type,pos,after,guard⟩).run c.P w=.ok (.enter f' (fv.toArray++args.map a.eval++cv.toArray)) w:=by
     simp [execOp,resolve,hcv,Deferred.ofValue,invoke,henter]
    refine aBu hd hrun ?_
    have hargs:(fv.toArray++args.map a.eval++cv.toArray)=(fv++(args.map a.eval).toList++cv).toArray:=by apply Array.toList_inj.1;simp
    rw [hargs]
    refine (hcalls B w β _ hl hH hB (hwk _ _ (qT (qT hfvs (tZ hs args)) hcvs))).mono fun e w' ho=>?_
    obtain ⟨v,β',he',hx,hv,hH',hb⟩:=ho
    exact ⟨v,he',hk β' v w' hx.le hx.dom hx.fz hv hH' hb⟩
   have stat:∀ g,f=.func g→Oper.wpIn (fen ro) 0 c.P ⟨dst,.call ⟨.value f,args,argTypes⟩,type,pos,after,guard⟩ a w K Q:=by
    rintro g rfl
    by_cases hp:c.pf g=true
    ·simp only [opA,hp,if_true,aCl] at he
     obtain ⟨⟨args',H2,hwk,hcall⟩,rfl⟩:=he
     obtain ⟨henter,hcalls⟩:=hT _ _ _ _ _ _ hcall
     have hrun:(execOp a.eval ⟨dst,.call ⟨.value (.func g),args,argTypes⟩,type,pos,after,guard⟩).run c.P w=.ok (.enter g (args.map a.eval)) w:=by
      simp [execOp,resolve,Act.eval,Deferred.ofValue,invoke,henter]
     refine aBu hd hrun ?_
     have hargs:(args.map a.eval)=((args.map a.eval).toList).toArray:=by rw [Array.toArray_toList]
     rw [hargs]
     refine (hcalls B w β _ hall hH hB (hwk _ _ (tZ hs args))).mono fun e w' ho=>?_
     obtain ⟨v,β',he',hle,hdom,hfz,hv,hH',hb⟩:=aKk (c:=c) hpf hp hcall hH ho
     exact ⟨v,he',hK β' v w' hle (fun j hj=>.inl (hdom j hj)) hfz hv hH' hb⟩
    ·by_cases hp2:c.pf (g+100000)=true
     ·have hop:opA c i ⟨dst,.call ⟨.value (.func g),args,argTypes⟩,type,pos,after,guard⟩ sl=.alloc (fun r blk=>afR c.T g (args.toList.map (evA sl)) (c.b+i * 64) r blk):=by simp [opA,hp,hp2]
      rw [hop] at he hfresh hK
      obtain ⟨blk,⟨args',sz,n,cs,hwk,rfl,rfl,hlo,hcall⟩,rfl⟩:=he
      have hf0:=hfresh rfl (c.b+i * 64) (Nat.le_refl _) (by omega)
      have hbn:β (c.b+c.n * 64)=none:=by
       cases e:β (c.b+c.n * 64) with
       | none=>rfl
       | some x=>exact absurd (hall _ (by rw [e];simp)) (Nat.lt_irrefl _)
      obtain ⟨henter,hcalls⟩:=hT _ _ _ _ _ _ (hcall (c.b+c.n * 64) H)
      have hrun:(execOp a.eval ⟨dst,.call ⟨.value (.func g),args,argTypes⟩,type,pos,after,guard⟩).run c.P w=.ok (.enter g (args.map a.eval)) w:=by
       simp [execOp,resolve,Act.eval,Deferred.ofValue,invoke,henter]
      refine aBu hd hrun ?_
      have hargs:(args.map a.eval)=((args.map a.eval).toList).toArray:=by rw [Array.toArray_toList]
      rw [hargs]
      refine (hcalls B w β _ hall hH hB (hwk _ _ (tZ hs args))).mono fun e w' ho=>?_
      obtain ⟨v,β',he',hle,hdom,hfz,hv,hH',hb⟩:=aIs hH hf0 hbn hlo ho
      exact ⟨v,he',hK β' v w' hle (fun j hj=>(hdom j hj).imp id fun e=>⟨rfl,by omega,by omega⟩) hfz hv hH' hb⟩
     have hop:opA c i ⟨dst,.call ⟨.value (.func g),args,argTypes⟩,type,pos,after,guard⟩ sl=.write (aFs c i (.fn g [] []) (args.toList.map (evA sl))):=by simp [opA,hp,hp2]
     rw [hop] at he hlow hK
     exact dyn (.fn g [] []) (by unfold V;exact ⟨[],[],rfl,by simp [Vs],by simp [Vs]⟩) he (hlow rfl) fun β' v w' h1 h2=>hK β' v w' h1 fun j hj=>(h2 j hj).imp id fun h=>⟨rfl,h⟩
   cases f with
   | func g=>exact stat g rfl
   | tmp t=>exact dyn _ (fM hs (.tmp t)) he (hlow rfl) fun β' v w' h1 h2=>hK β' v w' h1 fun j hj=>(h2 j hj).imp id fun h=>⟨rfl,h⟩
   | const v=>exact dyn _ (fM hs (.const v)) he (hlow rfl) fun β' v w' h1 h2=>hK β' v w' h1 fun j hj=>(h2 j hj).imp id fun h=>⟨rfl,h⟩
   | global g=>exact dyn _ (fM hs (.global g)) he (hlow rfl) fun β' v w' h1 h2=>hK β' v w' h1 fun j hj=>(h2 j hj).imp id fun h=>⟨rfl,h⟩
 | _=>exact absurd he.1 (by simp)
end
end Go.Eng
namespace Go.Eng
open Go.RowKit (Below)
structure Fr where
 B:Bd
 w0:World
 β0:cN
 b0:Nat
structure aNf (F:Fr) (β:cN) (b:Nat):Prop where
 le:cN.le F.β0 β
 dom:∀ j,β j≠none→F.β0 j≠none∨F.b0≤j
 b:F.b0≤b
 fz:∀ c o,β.fz c o≠none→F.β0.fz c o≠none∨F.B c
def aOi (D:Nat):Deferred:={ target:=.collected D,args:=#[] }
def Bd.x (B:Bd) (ds:List Nat):Bd:=fun c=>B c∧c ∉ ds
abbrev Fr.Bx (F:Fr) (ds:List Nat):Bd:=F.B.x ds
structure aCB (B:Bd) (ds:List Nat) (w:World):Prop where
 nodup:ds.Nodup
 at_:∀ D,D∈ds→B D∧w.heap[D]?=some (.deferred (some []))
abbrev aFW (F:Fr) (ds:List Nat) (w:World):Prop:=aCB F.B ds w
theorem aFW.nil (F:Fr) (w:World):aFW F [] w:=⟨List.nodup_nil,fun _ h=>by cases h⟩
theorem aCB.top {B:Bd} {ds:List Nat} {w:World} (h:aCB B ds w) (hB:B.top w.heap.size):(B.x ds).top w.heap.size:=fun c hc=>⟨hB c hc,fun hd=>by
 have:=(Array.getElem?_eq_some_iff.1 (h.at_ c hd).2).1;omega⟩
theorem aCB.step {B:Bd} {ds:List Nat} {w w':World} (h:aCB B ds w) (k:bJ (B.x ds) w w'):aCB B ds w':=
 ⟨h.nodup,fun D hD=>⟨(h.at_ D hD).1,(k.block D fun hb=>hb.2 hD).trans (h.at_ D hD).2⟩⟩
theorem Fr.Bx_nil (F:Fr):F.Bx []=F.B:=by funext c;simp [Fr.Bx,Bd.x]
def RR (c:Ctx) (F:Fr) (N:Nat) (s:RS) (a:Act) (w:World):Prop:=
 ∃ β ds,aNf F β c.b∧(∀ t,V β (s.sl t) (a.tmps.getD t undef))∧cL β s.hp w (F.Bx ds)∧(∀ j,β j≠none→j<c.b∨∃ i,i<c.n∧s.ex i=true∧c.b+i * 64≤j∧j<c.b+i * 64+64) ∧
  bJ F.B F.w0 w∧F.B.top w.heap.size∧a.defers=ds.map aOi∧aFW F ds w∧a.tmps.size=N
theorem aFV {β:cN} {sl:Nat→AV} {a:Act} {N:Nat} (hs:∀ t,V β (sl t) (a.tmps.getD t undef)) (hN:a.tmps.size=N) {d:Option Tmp} (hd:∀ t,d=some t→t<N) {r:AV} {v:Value} (hv:V β r v) :
  ∀ t,V β (tA sl d r t) ((a.put d v).tmps.getD t undef):=by
 cases d with
 | none=>exact hs
 | some e=>
  intro t
  have:=hd e rfl
  by_cases h:t=e
  ·subst h
   simp [tA,wY,Act.put,hN,this,hv]
  ·simp only [tA,wY,aY _ _ h,Act.put]
   have h1:=hs t
   rw [Array.getD_eq_getD_getElem?,Array.getElem?_setIfInBounds_ne (Ne.symm h),← Array.getD_eq_getD_getElem?]
   exact h1
theorem oV {a:Act} {d:Option Tmp} {v:Value}:(a.put d v).tmps.size=a.tmps.size:=by cases d<;>simp [Act.put]
theorem oS {a:Act} {d:Option Tmp} {v:Value}:(a.put d v).defers=a.defers:=by cases d<;>simp [Act.put]
theorem aOk {β:cN} {ops:Array Oper} {o:Oper} {sl:Nat→AV} {a:Act} {b:Bool} (h:wV ops o sl=some b) (hs:∀ t,V β (sl t) (a.tmps.getD t undef)):Region.wanted o (yielded ops a.tmps)=b:=by
 unfold wV at h
 unfold Region.wanted
 cases hg:o.guard with
 | none=>simp [hg] at h;simp [h]
 | some p=>
  obtain ⟨j,want⟩:=p
  simp only [hg] at h
  simp only
  cases hd:(ops[j]?).bind (·.dst) with
  | none=>simp [hd] at h
  | some t=>
   simp only [hd] at h
   have hv:=hs t
   unfold yielded
   simp only [hd,Option.bind_some]
   split at h<;>(try (simp at h;done))
   ·rename_i x hx
    rw [hx] at hv
    have hv:=aCv hv
    cases ht:a.tmps[t]? with
    | none=>rw [Array.getD_eq_getD_getElem?,ht] at hv;simp [undef] at hv
    | some u=>
     rw [Array.getD_eq_getD_getElem?,ht] at hv
     simp only [Option.getD_some] at hv
     subst hv
     simp only [Option.some.injEq] at h
     simp [← h]
   ·rename_i hx
    rw [hx] at hv
    simp only [V] at hv
    simp only [Option.some.injEq] at h
    subst h
    cases ht:a.tmps[t]? with
    | none=>simp
    | some u=>
     rw [Array.getD_eq_getD_getElem?,ht] at hv
     simp only [Option.getD_some] at hv
     subst hv
     simp [undef]
theorem aCN {ro:Option Nat} (c:Ctx) (hT:TOk c.P c.T) (hpf:cP c.T c.pf) {ops:Array Oper} (hn:ops.size=c.n) {i:Nat} {s s':RS} {a:Act} {w:World} {F:Fr} {N:Nat} (hd:∀ (o:Oper) (t:Tmp),ops[i]?=some o→o.dst=some t→t<N)
  (h:xU c ops i s s') (hr:RR c F N s a w) {K:Act→World→Prop} {Q:Exit→Act→World→Prop} (hK:∀ a' w',RR c F N s' a' w'→K a' w'):wpOpIn (fen ro) 0 c.P ops Q i K a w:=by
 unfold xU at h
 unfold wpOpIn
 cases ho:ops[i]? with
 | none=>simp only [ho] at h;subst h;exact hK _ _ hr
 | some o=>
  have hin:i<c.n:=by rw [← hn];exact (Array.getElem?_eq_some_iff.1 ho).1
  simp only [ho] at h ⊢
  obtain ⟨β,ds,h0,hs,hH,hβ,hb,hB,hdf,hmk,hN⟩:=hr
  cases hw:wV ops o s.sl with
  | none=>simp [hw] at h
  | some b=>
   have hwant:=aOk hw hs
   cases b with
   | false=>
    simp only [hw] at h
    subst h
    simp only [hwant,Bool.false_eq_true,if_false]
    exact ⟨fun _ _=>trivial,hK _ _ ⟨β,ds,h0,aFV hs hN (fun t ht=>hd o t ho ht) (by simp [V]),hH,hβ,hb,hB,by rw [oS];exact hdf,hmk,by rw [oV];exact hN⟩⟩
   | true=>
    simp only [hw] at h
    simp only [hwant,if_true]
    obtain ⟨r,⟨hu,hw2,hp,hex⟩,hsl⟩:=h
    simp only at hu hw2 hp hex
    refine aK0 c hT hpf hs hH (hmk.top hB) hp ?_ ?_ ?_ ?_
    ·intro huse j h1 h2
     cases hj:β j with
     | none=>rfl
     | some l=>
      rcases hβ j (by simp [hj]) with h3 | ⟨k,hk1,hk2,hk3,hk4⟩
      ·omega
      ·have:k=i:=by omega
       subst this
       exact absurd ⟨huse,hk2⟩ hu
    ·intro hwr j hj
     rcases hβ j hj with h3 | ⟨k,hk1,hk2,hk3,hk4⟩
     ·omega
     ·have hlt:k<i:=hw2 hwr k hk1 hk2
      omega
    ·intro j hj
     rcases hβ j hj with h3 | ⟨k,hk1,hk2,hk3,hk4⟩
     ·omega
     ·omega
    ·intro β' v w' hle hnew hfz hv hH' hb'
     refine hK _ _ ⟨β',ds,⟨h0.le.trans hle,fun j hj=>?_,h0.b,fun q o' hq=>?_⟩,fun t=>?_,hH',fun j hj=>?_,hb.trans (hb'.weaken fun _ h=>h.1),hB.mono hb'.size,by rw [oS];exact hdf,hmk.step hb',by rw [oV];exact hN⟩
     ·rcases hnew j hj with h1 | ⟨h1,h2,h3⟩
      ·exact h0.dom j h1
      ·have:=h0.b;right;omega
     ·rcases hfz q o' hq with h1 | h1
      ·exact h0.fz q o' h1
      ·exact .inr h1.1
     ·rw [hsl];exact aFV (fun t=>kU hle _ _ (hs t)) hN (fun t ht=>hd o t ho ht) hv t
     rcases hnew j hj with h1 | ⟨h1,h2,h3⟩
     ·rcases hβ j h1 with h4 | ⟨k,hk1,hk2,hk3,hk4⟩
      ·exact .inl h4
      ·refine .inr ⟨k,hk1,?_,hk3,hk4⟩
       rw [hex]
       split
       ·by_cases e:k=i
        ·subst e;simp
        ·rw [aY _ _ e];exact hk2
       ·exact hk2
     ·refine .inr ⟨i,hin,?_,h2,h3⟩
      rw [hex,if_pos h1];simp
def aLq (c:Ctx) (ops:Array Oper):List Nat→RS→RS→Prop
 | [],s,s'=>s'=s
 | i::l,s,s'=>∃ s1,xU c ops i s s1∧aLq c ops l s1 s'
theorem zX {ro:Option Nat} (c:Ctx) (hT:TOk c.P c.T) (hpf:cP c.T c.pf) {ops:Array Oper} (hn:ops.size=c.n) {F:Fr} {N:Nat} (hd:∀ (i:Nat) (o:Oper) (t:Tmp),ops[i]?=some o→o.dst=some t→t<N) {Q:Exit→Act→World→Prop} :
  ∀ (l:List Nat) (s s':RS) (a:Act) (w:World),aLq c ops l s s'→RR c F N s a w→(∀ a' w',RR c F N s' a' w'→Q .normal a' w')→wpOpsIn (fen ro) 0 c.P ops Q l a w
 | [],s,s',a,w,h,hr,hQ=>by simp only [aLq] at h;subst h;exact hQ _ _ hr
 | i::l,s,s',a,w,h,hr,hQ=>by
  obtain ⟨s1,h1,h2⟩:=h
  rw [wpOpsIn_cons]
  exact aCN c hT hpf hn (hd i) h1 hr fun a' w' hr'=>zX c hT hpf hn hd l s1 s' a' w' h2 hr' hQ
def aMD (c:Ctx) (ops:Array Oper) (Q:RS→Prop):Nat→Array Bool→RS→Prop
 | 0,listed,s=>Region.ready .any ops listed=[]∧Q s
 | fuel+1,listed,s=>(Region.ready .any ops listed=[]→Q s)∧∀ i∈Region.ready .any ops listed,∃ s',xU c ops i s s'∧aMD c ops Q fuel (listed.setIfInBounds i true) s'
theorem aAg {ro:Option Nat} (c:Ctx) (hT:TOk c.P c.T) (hpf:cP c.T c.pf) {ops:Array Oper} (hn:ops.size=c.n) {F:Fr} {N:Nat} (hd:∀ (i:Nat) (o:Oper) (t:Tmp),ops[i]?=some o→o.dst=some t→t<N) {Q:Exit→Act→World→Prop} {Q':RS→Prop}
  (hQ:∀ s a w,Q' s→RR c F N s a w→Q .normal a w):∀ (fuel:Nat) (listed:Array Bool) (s:RS) (a:Act) (w:World),aMD c ops Q' fuel listed s→RR c F N s a w→wpAnyIn (fen ro) 0 c.P .any ops Q fuel listed a w
 | 0,listed,s,a,w,h,hr=>⟨h.1,hQ _ _ _ h.2 hr⟩
 | fuel+1,listed,s,a,w,h,hr=>⟨fun h0=>hQ _ _ _ (h.1 h0) hr,fun i hi=>by
   obtain ⟨s',h1,h2⟩:=h.2 i hi
   exact aCN c hT hpf hn (hd i) h1 hr fun a' w' hr'=>aAg c hT hpf hn hd hQ fuel _ s' a' w' h2 hr'⟩
inductive Cls where
 | P | L | C | M | A | W
 deriving DecidableEq
def cls (pf:FuncId→Bool) (bt:Tmp→Bool) (o:Oper):Cls:=
 match o.op with
 | .alloc _ | .box .. | .buildSlice .. | .makeSlice .. | .makeMap _ none=>.A
 | .lookup ..=>.M
 | .mapUpdate .. | .insert .. | .mapEntry .. | .entryStore ..=>.W
 | .call { callee:=.builtin .delete,.. }=>.W
 | .call { callee:=.builtin .len,.. }=>.M
 | .load ..=>.L
 | .store ..=>.W
 | .call { callee:=.builtin .append,args,.. }=>if aAZ bt args=true then .A else .W
 | .call { callee:=.value (.func f),.. }=>if pf f=true then .C else if pf (f+100000)=true then .A else .W
 | .call { callee:=.value _,.. }=>.W
 | _=>.P
def uK:Cls→Cls→Bool
 | .P,_ | _,.P=>true
 | .L,.L | .L,.C | .C,.L | .C,.C | .L,.A | .A,.L | .A,.A | .C,.A | .A,.C=>true
 | .M,.M | .M,.L | .L,.M | .M,.C | .C,.M | .M,.A | .A,.M=>true
 | _,_=>false
abbrev HX:=bH×(Nat→Bool)
def aGd (c:Ctx) (ops:Array Oper) (i:Nat) (o:Oper) (sl:Nat→AV) (h:HX) (r:AV) (h':HX):Prop:=
 match wV ops o sl with
 | none=>False
 | some false=>r=.und∧h'=h
 | some true=>aLE c i (opA c i o sl) h r h'
theorem aAO (c:Ctx) (ops:Array Oper) (i:Nat) (o:Oper) (s s':RS) (ho:ops[i]?=some o) :
  xU c ops i s s'↔∃ r,aGd c ops i o s.sl (s.hp,s.ex) r (s'.hp,s'.ex)∧s'.sl=tA s.sl o.dst r:=by
 unfold xU aGd
 simp only [ho]
 cases wV ops o s.sl with
 | none=>simp
 | some b=>
  cases b with
  | false=>
   simp only
   obtain ⟨sl,hp,ex⟩:=s
   obtain ⟨sl',hp',ex'⟩:=s'
   simp only [RS.mk.injEq,Prod.mk.injEq]
   constructor
   ·rintro ⟨rfl,rfl,rfl⟩;exact ⟨_,⟨rfl,rfl,rfl⟩,rfl⟩
   ·rintro ⟨_,⟨rfl,rfl,rfl⟩,rfl⟩;exact ⟨rfl,rfl,rfl⟩
  | true=>rfl
theorem aKz {sl sl':Nat→AV} {x:Operand} (h:evA sl x=evA sl' x):evG sl x=evG sl' x:=by
 cases x<;>first | exact h | rfl
theorem aKN {sl sl':Nat→AV} {x:Operand} (h:∀ t,x=.tmp t→sl t=sl' t):evA sl x=evA sl' x:=by
 cases x with
 | tmp t=>exact h t rfl
 | _=>rfl
theorem aI2 (c:Ctx) (i:Nat) (o:Oper) {sl sl':Nat→AV} (h:∀ x∈o.op.operands,evA sl x=evA sl' x):opA c i o sl=opA c i o sl':=by
 obtain ⟨dst,op,type,pos,after,guard⟩:=o
 have pairs:∀ ps:List (Nat×Operand),(∀ x∈ps.map (·.2),evA sl x=evA sl' x)→(ps.map fun p=>(p.1,evA sl p.2))=(ps.map fun p=>(p.1,evA sl' p.2)):=fun ps hp=>
  List.map_congr_left fun p hm=>by simp only [hp p.2 (List.mem_map.2 ⟨p,hm,rfl⟩)]
 have many:∀ xs:Array Operand,(∀ x∈xs,evA sl x=evA sl' x)→xs.toList.map (evA sl)=xs.toList.map (evA sl'):=fun xs hx=>
  List.map_congr_left fun x hm=>hx x (by simpa using hm)
 cases op<;>simp only [Op.operands] at h
 case build t ps=>simp only [opA];rw [pairs ps.toList fun x hx=>h x (by simpa using hx)]
 case buildSlice t n ps=>simp only [opA];rw [pairs ps.toList fun x hx=>h x (by simpa using hx)]
 case makeFunc fn first captured=>simp only [opA];rw [many captured fun x hx=>h x (by simp [hx]),many first fun x hx=>h x (by simp [hx])]
 case makeMap t rv=>cases rv<;>rfl
 case slice t x lo hi mx=>simp only [opA];cases lo<;>cases hi<;>cases mx<;>simp_all
 case call cl=>
  obtain ⟨callee,args,argTypes⟩:=cl
  have hargs:=many args fun x hx=>h x (by simp [Call.operands,hx])
  cases callee with
  | invoke r m=>rfl
  | builtin b=>
   cases b
   case len=>
    simp only [opA]
    congr 1
    funext H r
    split
    ·rename_i x t tl e1 e2
     have:x∈args:=by rw [← Array.mem_toList_iff,e1];simp
     rw [h x (by simp [Call.operands,this])]
    ·rfl
   case min=>simp only [opA];rw [hargs]
   case max=>simp only [opA];rw [hargs]
   case delete=>
    simp only [opA]
    congr 1
    funext H r H'
    split
    ·rename_i s x t u e1 e2
     have h1:s∈args:=by rw [← Array.mem_toList_iff,e1];simp
     have h2:x∈args:=by rw [← Array.mem_toList_iff,e1];simp
     rw [h s (by simp [Call.operands,h1]),h x (by simp [Call.operands,h2])]
    ·rfl
   case append=>
    simp only [opA]
    by_cases hfr:aAZ c.bt args=true
    ·rw [if_pos hfr,if_pos hfr]
     congr 1
     funext r blk
     split
     ·rename_i s x t u e1 e2
      have h1:s∈args:=by rw [← Array.mem_toList_iff,e1];simp
      have h2:x∈args:=by rw [← Array.mem_toList_iff,e1];simp
      rw [h s (by simp [Call.operands,h1]),h x (by simp [Call.operands,h2])]
     ·rfl
    rw [if_neg hfr,if_neg hfr]
    congr 1
    funext H r H'
    split
    ·rename_i s x t u e1 e2
     have h1:s∈args:=by rw [← Array.mem_toList_iff,e1];simp
     have h2:x∈args:=by rw [← Array.mem_toList_iff,e1];simp
     rw [h s (by simp [Call.operands,h1]),h x (by simp [Call.operands,h2])]
    ·rfl
   all_goals rfl
  | value f=>
   have hf:evA sl f=evA sl' f:=h f (by simp [Call.operands])
   cases f with
   | func g=>simp only [opA];rw [hargs]
   | tmp t=>simp only [opA];rw [hargs,hf]
   | const v=>simp only [opA];rw [hargs,hf]
   | global g=>simp only [opA];rw [hargs,hf]
 case indexAddr=>simp only [opA];rw [aKz (h _ (by simp [Op.operands])),h _ (by simp [Op.operands])]
 all_goals first | rfl | (simp only [opA];simp_all;done)
theorem aNy (c:Ctx) (ops:Array Oper) (i:Nat) (o:Oper) (sl:Nat→AV) (d:Option Tmp) (v:AV) (h:∀ t,d=some t→t ∉ o.looksAt ops):opA c i o (tA sl d v)=opA c i o sl:=
 aI2 c i o fun x hx=>aKN fun t ht=>by
  subst ht
  cases d with
  | none=>rfl
  | some e=>
   have:t≠e:=fun e'=>h e rfl (by subst e';exact List.mem_append_left _ (List.mem_filterMap.2 ⟨.tmp t,by simpa using hx,rfl⟩))
   simp [tA,wY,aY _ _ this]
theorem aKh (ops:Array Oper) (o:Oper) (sl:Nat→AV) (d:Option Tmp) (v:AV) (h:∀ t,d=some t→t ∉ o.looksAt ops):wV ops o (tA sl d v)=wV ops o sl:=by
 cases d with
 | none=>rfl
 | some e=>
  unfold wV
  cases hg:o.guard with
  | none=>rfl
  | some p=>
   obtain ⟨j,want⟩:=p
   simp only
   cases ht:(ops[j]?).bind (·.dst) with
   | none=>rfl
   | some t=>
    have hne:t≠e:=fun e'=>h e rfl (by subst e';simp [Oper.looksAt,hg,ht])
    simp [tA,wY,aY _ _ hne]
theorem aG4 (c:Ctx) (ops:Array Oper) (i:Nat) (o:Oper) (sl:Nat→AV) (d:Option Tmp) (v:AV) (h:∀ t,d=some t→t ∉ o.looksAt ops):aGd c ops i o (tA sl d v)=aGd c ops i o sl:=by
 funext x r y
 unfold aGd
 rw [aNy c ops i o sl d v h,aKh ops o sl d v h]
theorem aJL (sl:Nat→AV) {d e:Option Tmp} (x y:AV) (h:∀ t,d=some t→e≠some t):tA (tA sl d x) e y=tA (tA sl e y) d x:=by
 cases d with
 | none=>rfl
 | some d=>
  cases e with
  | none=>rfl
  | some e=>exact aDG _ _ _ fun e'=>h d rfl (by rw [e'])
def aOa (f g:HX→AV→HX→Prop):Prop:=
 ∀ h r1 h1 r2 h2,f h r1 h1→g h1 r2 h2→∃ h1',g h r2 h1'∧f h1' r1 h2
theorem aKt (c:Ctx) (ops:Array Oper) {i j:Nat} {oi oj:Oper} (hi:ops[i]?=some oi) (hj:ops[j]?=some oj) (hap:oi.apart ops oj=true) (hc:∀ sl,aOa (aGd c ops i oi sl) (aGd c ops j oj sl)) {s s1 s2:RS}
  (h1:xU c ops i s s1) (h2:xU c ops j s1 s2):∃ s1',xU c ops j s s1'∧xU c ops i s1' s2:=by
 obtain ⟨a1,a2,a3⟩:=Oper.apart_spec hap
 rw [aAO c ops i oi _ _ hi] at h1
 obtain ⟨r1,e1,hs1⟩:=h1
 rw [aAO c ops j oj _ _ hj] at h2
 obtain ⟨r2,e2,hs2⟩:=h2
 rw [hs1,aG4 c ops j oj s.sl oi.dst r1 a1] at e2
 obtain ⟨h1',e3,e4⟩:=hc s.sl _ _ _ _ _ e1 e2
 refine ⟨{ sl:=tA s.sl oj.dst r2,hp:=h1'.1,ex:=h1'.2 },(aAO c ops j oj _ _ hj).2 ⟨r2,e3,rfl⟩,?_⟩
 rw [aAO c ops i oi _ _ hi]
 refine ⟨r1,by rw [aG4 c ops i oi s.sl oj.dst r2 a3];exact e4,?_⟩
 rw [hs2,hs1]
 exact aJL s.sl r1 r2 a2
end Go.Eng
