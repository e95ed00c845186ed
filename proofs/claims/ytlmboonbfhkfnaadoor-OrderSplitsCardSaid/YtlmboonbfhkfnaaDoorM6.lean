import Derived.Test.YtlmboonbfhkfnaaDoorM3
import Derived.Test.YtlmboonbfhkfnaaDoorM4
import Derived.Test.YtlmboonbfhkfnaaDoorM5
import Derived.KernelRfl
set_option linter.unusedVariables false
set_option linter.unusedSimpArgs false
set_option linter.unusedSectionVars false
namespace Go.Proofs.YtlmboonbfhkfnaaDoor
open Go Go.Eng
set_option maxRecDepth 100000
set_option maxHeartbeats 0
set_option maxRecDepth 100000
theorem kW {a:Nat} (h:a<4611686018427387904):(BitVec.ofInt IntKind.i64.bits (a:Int)).toNat=a:=by
 show (BitVec.ofInt 64 (a:Int)).toNat=a
 rw [BitVec.toNat_ofInt,Int.emod_eq_of_lt (by omega) (by omega)];rfl
theorem aKS {a b:Nat} (ha:a<4611686018427387904) (hb:b<4611686018427387904):tI .i64 (a:Int) (b:Int)=((a&&&b:Nat):Int):=by
 show IntKind.i64.wrap _=_
 rw [BitVec.toNat_and,kW ha,kW hb]
 have:a&&&b≤a:=Nat.and_le_left
 exact aAT (by omega) (by omega)
theorem aLB {a b:Nat} (ha:a<4611686018427387904) (hb:b<4611686018427387904):bor .i64 (a:Int) (b:Int)=((a|||b:Nat):Int):=by
 show IntKind.i64.wrap _=_
 rw [BitVec.toNat_or,kW ha,kW hb]
 have:a|||b<2 ^ 62:=Nat.or_lt_two_pow (by omega) (by omega)
 exact aAT (by omega) (by omega)
def qD (a b:Nat):Nat:=a ^^^ (a&&&b)
theorem lA (a b i:Nat):(qD a b).testBit i=(a.testBit i && !b.testBit i):=by
 unfold qD
 rw [Nat.testBit_xor,Nat.testBit_and]
 cases a.testBit i<;>cases b.testBit i<;>rfl
theorem aAC {a b k:Nat} (h:a<2 ^ k):qD a b<2 ^ k:=Nat.xor_lt_two_pow h (Nat.lt_of_le_of_lt Nat.and_le_left h)
theorem zG {a b:Nat} (ha:a<4611686018427387904) (hb:b<4611686018427387904):qP .i64 (a:Int) (b:Int)=((qD a b:Nat):Int):=by
 show IntKind.i64.wrap _=_
 have e:(BitVec.ofInt IntKind.i64.bits (a:Int)&&&~~~BitVec.ofInt IntKind.i64.bits (b:Int)).toNat=qD a b:=by
  refine Nat.eq_of_testBit_eq fun i=>?_
  rw [BitVec.testBit_toNat,BitVec.getLsbD_and,BitVec.getLsbD_not,lA,← BitVec.testBit_toNat,← BitVec.testBit_toNat,kW ha,kW hb]
  by_cases h:i<64
  ·rw [show decide (i<IntKind.i64.bits)=true from decide_eq_true h,Bool.true_and]
  ·rw [Nat.testBit_lt_two_pow (x:=a) (i:=i) (Nat.lt_of_lt_of_le (show a<2 ^ 62 by omega) (Nat.pow_le_pow_right (by omega) (by omega)))]
   rfl
 rw [e]
 have:qD a b<2 ^ 62:=aAC (by omega)
 exact aAT (by omega) (by omega)
theorem aC5 {n m:Nat} (h:n≤m):(2:Int) ^ n≤2 ^ m:=by
 have:=Nat.pow_le_pow_right (n:=2) (by omega) h
 exact_mod_cast this
theorem two_pow_pos (n:Nat):(0:Int)<2 ^ n:=by
 have:=Nat.two_pow_pos n
 exact_mod_cast this
theorem aIR {k:Nat} (h:k≤60):aEP .i64 1 (k:Int)=((2 ^ k:Nat):Int):=by
 show IntKind.i64.wrap (1 * 2 ^ (min (k:Int).toNat 64))=_
 rw [Int.toNat_natCast,Nat.min_eq_left (by omega),Int.one_mul]
 have h1:=aC5 h
 have h2:=two_pow_pos k
 rw [show ((2 ^ k:Nat):Int)=(2:Int) ^ k by norm_cast]
 exact aAT (by omega) (by omega)
theorem aLJ {s i:Nat} (hi:i≤60):vX .i64 (s:Int) (i:Int)=((s >>> i:Nat):Int):=by
 show (s:Int).fdiv (2 ^ (min (i:Int).toNat 64))=_
 rw [Int.toNat_natCast,Nat.min_eq_left (by omega),Int.fdiv_eq_ediv_of_nonneg _ (Int.le_of_lt (two_pow_pos i)),Nat.shiftRight_eq_div_pow]
 norm_cast
theorem aBO (n i:Nat):(n >>> i)&&&1=if n.testBit i then 1 else 0:=by
 rw [Nat.testBit_eq_decide_div_mod_eq,Nat.shiftRight_eq_div_pow,Nat.and_one_is_mod]
 have:=Nat.mod_two_eq_zero_or_one (n / 2 ^ i)
 rcases this with h | h<;>simp [h]
theorem aK8 {s i:Nat} (h:s<4611686018427387904) (hi:i≤60):tI .i64 (vX .i64 (s:Int) (i:Int)) 1=if s.testBit i then 1 else 0:=by
 rw [aLJ hi]
 have:s >>> i≤s:=by rw [Nat.shiftRight_eq_div_pow];exact Nat.div_le_self _ _
 rw [show (1:Int)=((1:Nat):Int) from rfl,aKS (by omega) (by omega),aBO]
 split<;>rfl
theorem aGR {s i:Nat} (h:s<4611686018427387904) (hi:i≤60):(tI .i64 (vX .i64 (s:Int) (i:Int)) 1==1)=s.testBit i:=by
 rw [aK8 h hi];cases s.testBit i<;>rfl
theorem yY (k i:Nat):(2 ^ k).testBit i=decide (i=k):=by
 rw [Nat.testBit_two_pow]
 by_cases h:k=i
 ·rw [decide_eq_true h,decide_eq_true h.symm]
 ·rw [decide_eq_false h,decide_eq_false (fun q=>h q.symm)]
theorem aJQ {m k i:Nat} (h:m<2 ^ k) (hb:m.testBit i=true):i<k:=by
 refine Nat.lt_of_not_le fun q=>?_
 rw [Nat.testBit_lt_two_pow (Nat.lt_of_lt_of_le h (Nat.pow_le_pow_right (by omega) q))] at hb
 cases hb
theorem aCY {a b:Nat}:qD a b=0↔∀ i,a.testBit i=true→b.testBit i=true:=by
 constructor
 ·intro h i hi
  have:=lA a b i
  rw [h,Nat.zero_testBit,hi,Bool.true_and] at this
  simpa using this.symm
 ·intro h
  refine Nat.eq_of_testBit_eq fun i=>?_
  rw [lA,Nat.zero_testBit]
  cases e:a.testBit i
  ·rfl
  ·rw [h i e];rfl
theorem aEw {a b:Nat} (h:∀ i,a.testBit i=b.testBit i):a=b:=Nat.eq_of_testBit_eq h
theorem tX {k:Nat} (h:k≤8):2 ^ k≤256:=Nat.pow_le_pow_right (n:=2) (by omega) h
def TB (t:Ar 8) (r:Nat→Nat→Bool):Prop:=∀ b:Nat,b<8→∃ m:Nat,t.at1 (b:Int)=(m:Int)∧m<256∧∀ a,m.testBit a=r a b
theorem aG3:TB (Ar.zero 8) fun _ _=>false:=fun b hb=>⟨0,by
 show (List.replicate 8 (0:Int)).getD (b:Int).toNat 0=0
 rw [Int.toNat_natCast,List.getD_eq_getElem?_getD,List.getElem?_replicate,if_pos hb];rfl,by omega,fun a=>Nat.zero_testBit a⟩
theorem aGZ (t:Ar 8) {b c:Nat} (hb:b<8) (v:Int):(t.st1 (b:Int) v).at1 (c:Int)=if c=b then v else t.at1 (c:Int):=by
 show (t.l.set (b:Int).toNat v).getD (c:Int).toNat 0=_
 rw [Int.toNat_natCast,Int.toNat_natCast,List.getD_eq_getElem?_getD,List.getElem?_set]
 by_cases h:c=b
 ·subst h;rw [if_pos rfl,if_pos rfl,if_pos (by rw [t.h];exact hb)];rfl
 ·rw [if_neg (fun q=>h q.symm),if_neg h]
  show _=t.l.getD (c:Int).toNat 0
  rw [Int.toNat_natCast,List.getD_eq_getElem?_getD]
theorem aGc {t:Ar 8} {r:Nat→Nat→Bool} (h:TB t r) {b:Nat} (hb:b<8) {m:Nat} (hm:m<256):TB (t.st1 (b:Int) (m:Int)) fun a c=>if c=b then m.testBit a else r a c:=by
 intro c hc
 rw [aGZ t hb]
 by_cases e:c=b
 ·rw [if_pos e];exact ⟨m,rfl,hm,fun a=>(if_pos e).symm⟩
 ·rw [if_neg e]
  obtain ⟨q,h1,h2,h3⟩:=h c hc
  exact ⟨q,h1,h2,fun a=>(h3 a).trans (if_neg e).symm⟩
theorem iE {t:Ar 8} {r r':Nat→Nat→Bool} (h:TB t r) (e:∀ a b,b<8→r a b=r' a b):TB t r':=fun b hb=>by
 obtain ⟨q,h1,h2,h3⟩:=h b hb
 exact ⟨q,h1,h2,fun a=>by rw [h3,e a b hb]⟩
theorem aI5 {t:Ar 8} {r:Nat→Nat→Bool} (h:TB t r) {b:Nat} (hb:b<8) {m:Nat} (hm:m<256):TB (t.st1 (b:Int) (bor .i64 (t.at1 (b:Int)) (m:Int))) fun a c=>r a c||(decide (c=b)&&m.testBit a):=by
 obtain ⟨q,h1,h2,h3⟩:=h b hb
 rw [h1,aLB (by omega) (by omega)]
 refine iE (aGc h hb (m:=q|||m) (Nat.or_lt_two_pow (n:=8) h2 hm)) fun a c hc=>?_
 by_cases e:c=b
 ·subst e;rw [if_pos rfl,Nat.testBit_or,h3,decide_eq_true rfl,Bool.true_and]
 ·rw [if_neg e,decide_eq_false e,Bool.false_and,Bool.or_false]
theorem aDi {t:Ar 8} {r:Nat→Nat→Bool} (h:TB t r) {b:Nat} (hb:b<8) {m:Nat} (hm:m<256):TB (t.st1 (b:Int) (qP .i64 (t.at1 (b:Int)) (m:Int))) fun a c=>r a c && !(decide (c=b)&&m.testBit a):=by
 obtain ⟨q,h1,h2,h3⟩:=h b hb
 rw [h1,zG (by omega) (by omega)]
 refine iE (aGc h hb (m:=qD q m) (aAC (k:=8) h2)) fun a c hc=>?_
 by_cases e:c=b
 ·subst e;rw [if_pos rfl,lA,h3,decide_eq_true rfl,Bool.true_and]
 ·rw [if_neg e,decide_eq_false e,Bool.false_and,Bool.not_false,Bool.and_true]
theorem aBi {t:Ar 8} {r:Nat→Nat→Bool} (h:TB t r) {a b:Nat} (hb:b<8) (ha:a≤60):(tI .i64 (vX .i64 (t.at1 (b:Int)) (a:Int)) 1==1)=r a b:=by
 obtain ⟨q,h1,h2,h3⟩:=h b hb
 rw [h1,aGR (by omega) ha,h3]
theorem lX {α:Type} [Inhabited α] {l:List α} {k:Nat} (h:k<l.length):l.getD k default=l[k]:=by simp [List.getD_eq_getElem?_getD,h]
theorem oM {α:Type} [Inhabited α] {l:List α} {k:Nat} (h:k<l.length):l.getD k default∈l:=by rw [lX h];exact List.getElem_mem h
theorem aDo {α:Type} [Inhabited α] {l:List α} {k:Nat} (h:k<l.length):l.take (k+1)=l.take k++[l.getD k default]:=by
 rw [List.take_succ_eq_append_getElem h,lX h]
theorem zD {α:Type} [Inhabited α] {l:List α} {x:α} (h:x∈l):∃ k,k<l.length∧l.getD k default=x:=by
 obtain ⟨k,hk,e⟩:=List.getElem_of_mem h
 exact ⟨k,hk,by rw [lX hk,e]⟩
def Rc (P:List (Int×Int)) (a b:Nat):Prop:=∀ S:Nat→Nat→Prop,(∀ x y:Nat,((x:Int),(y:Int))∈P→S x y)→(∀ x y z,S x y→S y z→S x z)→S a b
theorem aHT {P:List (Int×Int)} {a b:Nat} (h:((a:Int),(b:Int))∈P):Rc P a b:=fun _ h1 _=>h1 a b h
theorem aIC {P:List (Int×Int)} {a b c:Nat} (h:Rc P a b) (g:Rc P b c):Rc P a c:=fun S h1 h2=>h2 a b c (h S h1 h2) (g S h1 h2)
theorem aHy {P Q:List (Int×Int)} (h:∀ x y:Nat,((x:Int),(y:Int))∈P→Rc Q x y) {a b:Nat} (g:Rc P a b):Rc Q a b:=g (Rc Q) h fun _ _ _=>aIC
def nK (N:Int) (p:Int×Int):Prop:=(0≤p.1∧p.1<N)∧(0≤p.2∧p.2<N)∧p.1≠p.2
instance (N:Int) (p:Int×Int):Decidable (nK N p):=by unfold nK;infer_instance
structure Fm (o:aP):Prop where
 N:0≤o.N∧o.N≤8
 len:o.Pairs.length≤28
 el:∀ p∈o.Pairs,nK o.N p
theorem aCL (p:Int×Int) (o:aP):dW p o=some (!decide (nK o.N p)):=by
 have key:∀ v:Bool,(v=true↔¬nK o.N p)→some v=some (!decide (nK o.N p)):=fun v hv=>by
  congr 1
  by_cases c:nK o.N p
  ·rw [decide_eq_true c];exact Bool.eq_false_iff.2 fun q=>hv.1 q c
  ·rw [decide_eq_false c];exact hv.2 c
 unfold dW
 simp only [aCn,dO,aJ7,aIM]
 by_cases c1:(if p.2<p.1 then p.2 else p.1)<0
 ·rw [if_pos c1]
  exact key _ ⟨fun _ h=>by unfold nK at h;split at c1<;>omega,fun _=>rfl⟩
 rw [if_neg c1]
 by_cases c2:(if p.2>p.1 then p.2 else p.1)≥o.N
 ·rw [if_pos c2]
  exact key _ ⟨fun _ h=>by unfold nK at h;split at c2<;>omega,fun _=>rfl⟩
 rw [if_neg c2]
 refine key _ ?_
 rw [beq_iff_eq];unfold nK
 split at c1<;>split at c2<;>omega
theorem aBb (l:List (Int×Int)) (o:aP) (hl:l.length≤1048576):∃ i,bX l o=some i∧(i≥0↔∃ p∈l,¬nK o.N p):=by
 obtain ⟨y,e,hy⟩:=zI (body:=cG l o) (fun s=>∃ k:Nat,s=(k:Int)∧k≤l.length∧∀ j,j<k→nK o.N (l.getD j default)) (fun s=>l.length-s.toNat)
  (fun y=>match y with | .inl _=>∀ p∈l,nK o.N p | .inr r=>r≥0∧∃ p∈l,¬nK o.N p)
  (fun s ⟨k,hs,hk,hj⟩=>by
   subst hs
   unfold cG
   simp only [dO]
   by_cases c:k<l.length
   ·rw [if_pos (by omega),aKb c,aCL,iT,tT,dO]
    by_cases q:nK o.N (l.getD k default)
    ·rw [if_pos q,iV (by omega) (by omega)]
     exact .inl ⟨_,rfl,⟨k+1,by omega,c,fun j h=>by
      by_cases e:j<k
      ·exact hj j e
      ·rw [show j=k by omega];exact q⟩,by omega⟩
    ·rw [if_neg q]
     exact .inr (.inr ⟨_,rfl,by omega,_,oM c,q⟩)
   ·rw [if_neg (by omega)]
    refine .inr (.inl ⟨_,rfl,fun p hp=>?_⟩)
    obtain ⟨j,h1,rfl⟩:=zD hp
    exact hj j (by omega)) 0 ⟨0,rfl,Nat.zero_le _,fun j h=>absurd h (Nat.not_lt_zero _)⟩ (by omega)
 unfold bX
 rw [e,iT]
 cases y with
 | inl s=>
  rw [pS]
  exact ⟨_,rfl,⟨fun h=>absurd h (by omega),fun ⟨p,h1,h2⟩=>absurd (hy p h1) h2⟩⟩
 | inr r=>
  rw [aIk]
  exact ⟨_,rfl,⟨fun _=>hy.2,fun _=>hy.1⟩⟩
theorem aD4 (o:aP) (hl:o.Pairs.length≤9223372036854775807):∃ v,dE o=some v∧(v=true↔Fm o):=by
 unfold dE
 simp only [aCn,dO]
 by_cases c1:o.N<0
 ·rw [if_pos c1,xU];exact ⟨_,rfl,⟨fun h=>(by cases h),fun h=>by have:=h.N;omega⟩⟩
 rw [if_neg c1]
 by_cases c2:o.N>8
 ·rw [if_pos c2,xU];exact ⟨_,rfl,⟨fun h=>(by cases h),fun h=>by have:=h.N;omega⟩⟩
 rw [if_neg c2]
 by_cases c3:(o.Pairs.length:Int)>28
 ·rw [if_pos c3];exact ⟨_,rfl,⟨fun h=>(by cases h),fun h=>by have:=h.len;omega⟩⟩
 rw [if_neg c3]
 obtain ⟨i,e,hi⟩:=aBb o.Pairs o (by omega)
 unfold cB
 rw [e,iT,iT]
 refine ⟨_,rfl,?_⟩
 simp only [Bool.not_eq_true',decide_eq_false_iff_not]
 constructor
 ·intro h
  exact ⟨by omega,by omega,fun p hp=>Decidable.byContradiction fun q=>h (hi.2 ⟨p,hp,q⟩)⟩
 ·intro h q
  obtain ⟨p,h1,h2⟩:=hi.1 q
  exact h2 (h.el p h1)
theorem aDF {o:aP} (h:Fm o):∃ t v r,fK o=some (t,v)∧TB t r∧(∀ a b:Nat,b<8→(r a b=true↔Rc o.Pairs a b))∧(v=true↔∀ a:Nat,¬Rc o.Pairs a a):=by
 obtain ⟨n,hn⟩:∃ n:Nat,o.N=(n:Int):=⟨o.N.toNat,by have:=h.N;omega⟩
 have n8:n≤8:=by have:=h.N;omega
 have hel:∀ k,k<o.Pairs.length→∃ a b:Nat,o.Pairs.getD k default=((a:Int),(b:Int))∧a<n∧b<n:=fun k hk=>by
  obtain ⟨h1,h2,_⟩:=h.el _ (oM hk)
  exact ⟨_,_,Prod.ext (Int.toNat_of_nonneg h1.1).symm (Int.toNat_of_nonneg h2.1).symm,by omega,by omega⟩
 have hin:∀ a b,Rc o.Pairs a b→a<n∧b<n:=fun a b g=>g (fun a b=>a<n∧b<n) (fun x y hxy=>by
  obtain ⟨h1,h2,_⟩:=h.el _ hxy
  exact ⟨by simp only at h1;omega,by simp only at h2;omega⟩) (fun x y z g1 g2=>⟨g1.1,g2.2⟩)
 obtain ⟨s1,e1,i1,r0,T0,H0⟩:=jX (body:=fA o) (fun k s=>s.1=(k:Int)∧∃ r,TB s.2 r∧∀ a b:Nat,b<8→(r a b=true↔((a:Int),(b:Int))∈o.Pairs.take k)) o.Pairs.length (by have:=h.len;omega)
  (fun k s hk ⟨hs,r,T,H⟩=>by
   obtain ⟨i,t⟩:=s
   simp only at hs T
   subst hs
   obtain ⟨a,b,he,ha,hb⟩:=hel k hk
   unfold fA
   simp only [dO]
   have:=h.len
   rw [if_pos (by omega),aKb hk,he,oG _ (by omega),oG _ (by omega),oG _ (by omega),iV (by omega) (by omega)]
   have T':=aI5 T (b:=b) (by omega) (m:=2 ^ a) (Nat.pow_lt_pow_right (n:=8) (by omega) (by omega))
   rw [← aIR (by omega)] at T'
   refine ⟨_,rfl,by simp only;omega,_,T',?_⟩
   ·intro x y hy
    rw [aDo hk,he,List.mem_append,List.mem_singleton,Bool.or_eq_true,H x y hy,yY,Bool.and_eq_true,decide_eq_true_eq,decide_eq_true_eq]
    refine or_congr_right ?_
    rw [Prod.mk.injEq]
    omega) (fun s ⟨hs,_⟩=>by
   unfold fA
   simp only [dO]
   rw [if_neg (by omega)]) (0,Ar.zero 8) ⟨rfl,_,aG3,fun a b _=>by simp⟩
 rw [List.take_length] at H0
 obtain ⟨s2,e2,i2,r,T2,L2,S2,C2⟩:=jX (body:=eU o) (fun k s=>s.1=(k:Int)∧∃ r,TB s.2 r∧(∀ a b:Nat,b<8→r0 a b=true→r a b=true)∧(∀ a b:Nat,b<8→r a b=true→Rc o.Pairs a b)∧∀ j a b:Nat,j<k→b<8→r a j=true→r j b=true→r a b=true) n (by omega)
  (fun k s hk ⟨hs,r,T,L,S,C⟩=>by
   obtain ⟨i,t⟩:=s
   simp only at hs T
   subst hs
   obtain ⟨s3,e3,i3,T3⟩:=jX (body:=eO o ((k:Int),t)) (fun m s=>s.1=(m:Int)∧TB s.2 fun a b=>r a b||(decide (b<m)&&r a k&&r k b)) n (by omega)
    (fun m s hm ⟨hs,T⟩=>by
     obtain ⟨i,u⟩:=s
     simp only at hs T
     subst hs
     unfold eO
     simp only [dO,aCn]
     rw [if_pos (by omega),oG _ (by omega),oG _ (by omega),aBi T (by omega) (by omega),aA5,iV (by omega) (by omega)]
     simp only [Nat.lt_irrefl,decide_false,Bool.false_and,Bool.or_false]
     by_cases c:r k m=true
     ·rw [if_pos c,oG _ (by omega),oG _ (by omega),oG _ (by omega)]
      refine ⟨_,rfl,by simp only;omega,?_⟩
      obtain ⟨q,h1,h2,h3⟩:=T k (by omega)
      simp only
      rw [h1]
      refine iE (aI5 T (by omega) h2) fun a b hb=>?_
      have h4:q.testBit a=r a k:=by
       rw [h3];show (r a k||decide (k<m)&&r a k&&r k k)=r a k;cases r a k<;>simp
      rw [h4]
      by_cases e:b=m
      ·subst e
       rw [c,decide_eq_true rfl,Bool.true_and,decide_eq_false (Nat.lt_irrefl _),decide_eq_true (Nat.lt_succ_self _)]
       cases r a b<;>cases r a k<;>simp
      ·rw [decide_eq_false e,Bool.false_and,Bool.or_false]
       by_cases g:b<m
       ·rw [decide_eq_true g,decide_eq_true (by omega)]
       ·rw [decide_eq_false g,decide_eq_false (by omega)]
     ·rw [if_neg c]
      refine ⟨_,rfl,by simp only;omega,iE T fun a b hb=>?_⟩
      by_cases e:b=m
      ·subst e
       rw [Bool.eq_false_iff.2 c,Bool.and_false,Bool.and_false]
      ·by_cases g:b<m
       ·rw [decide_eq_true g,decide_eq_true (by omega)]
       ·rw [decide_eq_false g,decide_eq_false (by omega)]) (fun s ⟨hs,_⟩=>by
     unfold eO
     simp only [dO]
     rw [if_neg (by omega)]) (0,t) ⟨rfl,iE T fun a b _=>by simp⟩
   unfold eU
   simp only [dO]
   rw [if_pos (by omega),e3,iT,pS,iV (by omega) (by omega)]
   refine ⟨_,rfl,by simp only;omega,_,T3,?_,?_,?_⟩
   ·intro a b hb g
    rw [L a b hb g];rfl
   ·intro a b hb g
    rw [Bool.or_eq_true,Bool.and_eq_true,Bool.and_eq_true] at g
    rcases g with g | ⟨⟨_,g1⟩,g2⟩
    ·exact S a b hb g
    ·exact aIC (S a k (by omega) g1) (S k b hb g2)
   ·intro j a b hj hb g1 g2
    have key:∀ x y,y<8→((r x y||(decide (y<n)&&r x k&&r k y))=true↔r x y=true∨r x k=true∧r k y=true):=fun x y hy=>by
     rw [Bool.or_eq_true,Bool.and_eq_true,Bool.and_eq_true,decide_eq_true_eq]
     constructor
     ·rintro (g | ⟨⟨_,g1⟩,g2⟩)
      ·exact .inl g
      ·exact .inr ⟨g1,g2⟩
     ·rintro (g | ⟨g1,g2⟩)
      ·exact .inl g
      ·exact .inr ⟨⟨(hin _ _ (S k y hy g2)).2,g1⟩,g2⟩
    rw [key _ _ hb]
    rw [key _ _ (by omega)] at g1
    rw [key _ _ hb] at g2
    by_cases e:j=k
    ·subst e
     refine .inr ⟨?_,?_⟩
     ·rcases g1 with g | ⟨g,_⟩<;>exact g
     ·rcases g2 with g | ⟨_,g⟩<;>exact g
    ·have hj':j<k:=by omega
     rcases g1 with g1 | ⟨g1,g1'⟩
     ·rcases g2 with g2 | ⟨g2,g2'⟩
      ·exact .inl (C j a b hj' hb g1 g2)
      ·exact .inr ⟨C j a k hj' (by omega) g1 g2,g2'⟩
     ·rcases g2 with g2 | ⟨g2,g2'⟩
      ·exact .inr ⟨g1,C j k b hj' hb g1' g2⟩
      ·exact .inr ⟨g1,g2'⟩) (fun s ⟨hs,_⟩=>by
   unfold eU
   simp only [dO]
   rw [if_neg (by omega)]) (0,s1.2) ⟨rfl,r0,T0,fun _ _ _ g=>g,fun a b hb g=>aHT ((H0 a b hb).1 g),fun j a b hj=>absurd hj (Nat.not_lt_zero _)⟩
 have full:∀ a b:Nat,b<8→(r a b=true↔Rc o.Pairs a b):=fun a b hb=>⟨S2 a b hb,fun g=>by
  refine (g (fun a b=>b<n∧r a b=true) (fun x y hxy=>?_) (fun x y z g1 g2=>?_)).2
  ·have:=hin _ _ (aHT hxy)
   exact ⟨this.2,L2 x y (by omega) ((H0 x y (by omega)).2 hxy)⟩
  ·exact ⟨g2.1,C2 y x z g1.1 (by omega) g1.2 g2.2⟩⟩
 obtain ⟨y,e4,hy⟩:=zI (body:=fU o s2) (fun s=>∃ k:Nat,s.1=(k:Int)∧k≤n∧∀ j,j<k→r j j=false) (fun s=>n-s.1.toNat)
  (fun y=>match y with | .inl _=>∀ j,j<n→r j j=false | .inr q=>q=(s2.2,false)∧∃ j,j<n∧r j j=true)
  (fun s ⟨k,hs,hk,hj⟩=>by
   obtain ⟨i,t⟩:=s
   simp only at hs
   subst hs
   unfold fU
   simp only [dO]
   by_cases c:k<n
   ·rw [if_pos (by omega),oG _ (by omega),oG _ (by omega),aBi T2 (by omega) (by omega),aA5]
    by_cases q:r k k=true
    ·rw [if_pos q];exact .inr (.inr ⟨_,rfl,rfl,k,c,q⟩)
    ·rw [if_neg q,iV (by omega) (by omega)]
     exact .inl ⟨_,rfl,⟨k+1,rfl,c,fun j h=>by
      by_cases e:j<k
      ·exact hj j e
      ·rw [show j=k by omega];exact Bool.eq_false_iff.2 q⟩,by simp only;omega⟩
   ·rw [if_neg (by omega)]
    exact .inr (.inl ⟨_,rfl,fun j h=>hj j (by omega)⟩)) (0,Ar.zero 8) ⟨0,rfl,Nat.zero_le _,fun j h=>absurd h (Nat.not_lt_zero _)⟩ (by simp only;omega)
 unfold fK
 rw [e1,iT,pS,e2,iT,pS,e4,iT]
 cases y with
 | inl s=>
  rw [pS]
  refine ⟨_,_,r,rfl,T2,full,⟨fun _ a g=>?_,fun _=>rfl⟩⟩
  have hl:=(hin _ _ g).1
  have:=(full a a (by omega)).2 g
  rw [hy a hl] at this;cases this
 | inr q=>
  obtain ⟨rfl,j,hj,hjj⟩:=hy
  rw [aIk]
  refine ⟨_,_,r,rfl,T2,full,⟨fun g=>(by cases g),fun g=>absurd ((full j j (by omega)).1 hjj) (g j)⟩⟩
structure OV (o:aP) (n:Nat) (t:Ar 8) (r:Nat→Nat→Bool):Prop where
 fm:Fm o
 N:o.N=(n:Int)
 n8:n≤8
 rd:bI o=some (t,true)
 tb:TB t r
 lt:∀ a b,r a b=true→a<n∧b<n
 ir:∀ a,r a a=false
 tr:∀ a b c,r a b=true→r b c=true→r a c=true
 rc:∀ a b,r a b=true↔Rc o.Pairs a b
def Vd (o:aP):Prop:=Fm o∧∀ a:Nat,¬Rc o.Pairs a a
theorem aBW (o:aP) (hl:o.Pairs.length≤9223372036854775807):(Vd o∧∃ n t r,OV o n t r)∨(¬Vd o∧∃ t,bI o=some (t,false)):=by
 obtain ⟨v,e,hv⟩:=aD4 o hl
 by_cases c:Fm o
 ·obtain ⟨t,w,r,e2,T,R,hw⟩:=aDF c
  have er:bI o=some (t,w):=by
   unfold bI
   rw [e,iT,hv.2 c,tT,xU,e2,iT]
  by_cases g:∀ a:Nat,¬Rc o.Pairs a a
  ·obtain ⟨n,hn⟩:∃ n:Nat,o.N=(n:Int):=⟨o.N.toNat,by have:=c.N;omega⟩
   have n8:n≤8:=by have:=c.N;omega
   have hin:∀ a b,Rc o.Pairs a b→a<n∧b<n:=fun a b g=>g (fun a b=>a<n∧b<n) (fun x y hxy=>by
    obtain ⟨h1,h2,_⟩:=c.el _ hxy
    exact ⟨by simp only at h1;omega,by simp only at h2;omega⟩) (fun x y z g1 g2=>⟨g1.1,g2.2⟩)
   have R':∀ a b,(decide (b<8)&&r a b)=true↔Rc o.Pairs a b:=fun a b=>by
    rw [Bool.and_eq_true,decide_eq_true_eq]
    exact ⟨fun ⟨h1,h2⟩=>(R a b h1).1 h2,fun h=>by
     have:=hin a b h
     exact ⟨by omega,(R a b (by omega)).2 h⟩⟩
   refine .inl ⟨⟨c,g⟩,n,t,fun a b=>decide (b<8)&&r a b,c,hn,n8,by rw [er,hw.2 g],iE T fun a b hb=>by rw [decide_eq_true hb,Bool.true_and],fun a b h=>hin _ _ ((R' a b).1 h),fun a=>Bool.eq_false_iff.2 fun h=>g a ((R' a a).1 h),fun a b d h1 h2=>(R' a d).2 (aIC ((R' a b).1 h1) ((R' b d).1 h2)),R'⟩
  ·refine .inr ⟨fun h=>g h.2,t,?_⟩
   rw [er,Bool.eq_false_iff.2 fun q=>g (hw.1 q)]
 ·refine .inr ⟨fun h=>c h.1,Ar.zero 8,?_⟩
  unfold bI
  rw [e,iT,Bool.eq_false_iff.2 fun q=>c (hv.1 q),tT,aEZ]
theorem aDr {o:aP} {n:Nat} {t:Ar 8} {r:Nat→Nat→Bool} (h:OV o n t r) (a b:Int):cH o a b=some (decide (0≤a∧0≤b)&&r a.toNat b.toNat):=by
 have hN:=h.N;have h8:=h.n8
 unfold cH
 rw [h.rd,iT]
 simp only [aCn,xU,dO,aJ7,aIM]
 by_cases c:(0≤a∧0≤b)∧a<n∧b<n
 ·rw [if_pos (by split<;>omega),if_pos (by split<;>omega),oG _ (by omega),oG _ (by omega),decide_eq_true c.1,Bool.true_and]
  obtain ⟨x,rfl⟩:∃ x:Nat,a=(x:Int):=⟨a.toNat,by omega⟩
  obtain ⟨y,rfl⟩:∃ y:Nat,b=(y:Int):=⟨b.toNat,by omega⟩
  rw [aBi h.tb (by omega) (by omega),Int.toNat_natCast,Int.toNat_natCast]
 ·have e:(decide (0≤a∧0≤b)&&r a.toNat b.toNat)=false:=Bool.eq_false_iff.2 fun g=>by
   rw [Bool.and_eq_true,decide_eq_true_eq] at g
   have:=h.lt _ _ g.2
   omega
  rw [e]
  by_cases d1:(if b<a then b else a)≥0
  ·rw [if_pos d1,if_neg fun d2=>c (by split at d1<;>split at d2<;>omega)]
  ·rw [if_neg d1]
theorem rP {o:aP} {n:Nat} {t:Ar 8} {r:Nat→Nat→Bool} (h:OV o n t r) (a b:Nat):cH o (a:Int) (b:Int)=some (r a b):=by
 rw [aDr h,decide_eq_true (by omega),Bool.true_and,Int.toNat_natCast,Int.toNat_natCast]
def sm:Nat→(Nat→Nat)→Nat
 | 0,_=>0
 | n+1,f=>sm n f+f n
theorem nH:∀ {n:Nat} {f g:Nat→Nat},(∀ i,i<n→f i=g i)→sm n f=sm n g
 | 0,_,_,_=>rfl
 | n+1,f,g,h=>by
  show sm n f+f n=sm n g+g n
  rw [nH fun i hi=>h i (by omega),h n (by omega)]
theorem xX:∀ {n:Nat} {f g:Nat→Nat},(∀ i,i<n→f i≤g i)→sm n f≤sm n g
 | 0,_,_,_=>Nat.le_refl _
 | n+1,f,g,h=>by
  show sm n f+f n≤sm n g+g n
  have:=xX (n:=n) fun i hi=>h i (by omega)
  have:=h n (by omega)
  omega
theorem tZ:∀ (n:Nat) (f g:Nat→Nat),sm n (fun i=>f i+g i)=sm n f+sm n g
 | 0,_,_=>rfl
 | n+1,f,g=>by
  show sm n (fun i=>f i+g i)+(f n+g n)=sm n f+f n+(sm n g+g n)
  rw [tZ n f g];omega
theorem aB1:∀ (n:Nat),sm n (fun _=>0)=0
 | 0=>rfl
 | n+1=>by show sm n (fun _=>0)+0=0;rw [aB1 n]
theorem aBF:∀ (n m:Nat) (f:Nat→Nat→Nat),sm n (fun a=>sm m (fun b=>f a b))=sm m (fun b=>sm n (fun a=>f a b))
 | 0,m,f=>(aB1 m).symm
 | n+1,m,f=>by
  show sm n (fun a=>sm m (fun b=>f a b))+sm m (fun b=>f n b)=sm m (fun b=>sm n (fun a=>f a b)+f n b)
  rw [tZ,aBF n m f]
theorem aGs:∀ {n:Nat} {f:Nat→Nat} {i:Nat},i<n→0<f i→0<sm n f
 | n+1,f,i,h,hf=>by
  show 0<sm n f+f n
  by_cases e:i=n
  ·subst e;omega
  ·have:=aGs (n:=n) (show i<n by omega) hf;omega
def aDY (m:Nat) (r:Nat→Nat→Bool) (a:Nat):List (Int×Int):=((List.range m).filter fun b=>r a b).map fun (b:Nat)=>((a:Int),(b:Int))
def gL (k n:Nat) (r:Nat→Nat→Bool):List (Int×Int):=(List.range k).flatMap fun a=>aDY n r a
theorem aDs (m:Nat) (r:Nat→Nat→Bool) (a:Nat):aDY (m+1) r a=aDY m r a++if r a m=true then [((a:Int),(m:Int))] else []:=by
 unfold aDY
 rw [List.range_succ,List.filter_append,List.map_append]
 congr 1
 by_cases h:r a m=true
 ·rw [if_pos h,List.filter_cons_of_pos h];rfl
 ·rw [if_neg h,List.filter_cons_of_neg h];rfl
theorem aCb (k n:Nat) (r:Nat→Nat→Bool):gL (k+1) n r=gL k n r++aDY n r k:=by
 unfold gL
 rw [List.range_succ,List.flatMap_append]
 simp
theorem zX:∀ (m:Nat) (r:Nat→Nat→Bool) (a:Nat),(aDY m r a).length=sm m fun b=>(r a b).toNat
 | 0,_,_=>rfl
 | m+1,r,a=>by
  rw [aDs,List.length_append,zX m]
  show _=sm m _+(r a m).toNat
  cases r a m<;>rfl
theorem pF:∀ (k n:Nat) (r:Nat→Nat→Bool),(gL k n r).length=sm k fun a=>sm n fun b=>(r a b).toNat
 | 0,_,_=>rfl
 | k+1,n,r=>by
  rw [aCb,List.length_append,pF k,zX];rfl
theorem qL {n:Nat} {f:Nat→Bool}:sm n (fun b=>(f b).toNat)≤n:=by
 have h:=xX (n:=n) (f:=fun b=>(f b).toNat) (g:=fun _=>1) fun i _=>by cases f i<;>simp
 have e:∀ n:Nat,sm n (fun _=>1)=n:=fun n=>by
  induction n with
  | zero=>rfl
  | succ n ih=>show sm n (fun _=>1)+1=n+1;rw [ih]
 rw [e] at h;exact h
theorem wN {k n:Nat} {r:Nat→Nat→Bool} {p:Int×Int}:p∈gL k n r↔∃ a b:Nat,a<k∧b<n∧r a b=true∧p=((a:Int),(b:Int)):=by
 unfold gL aDY
 simp only [List.mem_flatMap,List.mem_range,List.mem_map,List.mem_filter]
 constructor
 ·rintro ⟨a,ha,b,⟨hb,hr⟩,rfl⟩;exact ⟨a,b,ha,hb,hr,rfl⟩
 ·rintro ⟨a,b,ha,hb,hr,rfl⟩;exact ⟨a,ha,b,⟨hb,hr⟩,rfl⟩
theorem pC {n:Nat} {r:Nat→Nat→Bool} {a b:Nat}:((a:Int),(b:Int))∈gL n n r↔a<n∧b<n∧r a b=true:=by
 rw [wN]
 constructor
 ·rintro ⟨x,y,h1,h2,h3,h4⟩
  rw [Prod.mk.injEq] at h4
  obtain ⟨rfl,rfl⟩:a=x∧b=y:=by omega
  exact ⟨h1,h2,h3⟩
 ·rintro ⟨h1,h2,h3⟩;exact ⟨a,b,h1,h2,h3,rfl⟩
theorem aA7 {k n:Nat} {r q:Nat→Nat→Bool} (h:∀ a b,a<k→b<n→r a b=q a b):gL k n r=gL k n q:=by
 unfold gL aDY
 have e:∀ a∈List.range k,((List.range n).filter fun b=>r a b)=(List.range n).filter fun b=>q a b:=fun a ha=>List.filter_congr fun b hb=>h a b (List.mem_range.1 ha) (List.mem_range.1 hb)
 rw [List.flatMap_def,List.flatMap_def]
 congr 1
 exact List.map_congr_left fun a ha=>by rw [e a ha]
theorem aE6 {n:Nat} (hn:n≤8) {r:Nat→Nat→Bool} (ir:∀ a,r a a=false) (ant:∀ a b,r a b=true→r b a=false) (hx:n=8→∃ x y,((x=0∧y=1)∨(x=0∧y=2)∨(x=1∧y=2))∧r x y=false∧r y x=false):(gL n n r).length≤27:=by
 by_cases e8:n=8
 ·obtain ⟨x,y,hxy,q1,q2⟩:=hx e8
  subst e8
  rw [pF]
  have h1:sm 8 (fun a=>sm 8 fun b=>(r a b).toNat)+sm 8 (fun a=>sm 8 fun b=>(r b a).toNat)≤sm 8 fun a=>sm 8 fun b=>if a=b∨(a=x∧b=y)∨(a=y∧b=x) then 0 else 1:=by
   rw [← tZ]
   refine xX fun a ha=>?_
   rw [← tZ]
   refine xX fun b hb=>?_
   by_cases e:a=b∨(a=x∧b=y)∨(a=y∧b=x)
   ·rw [if_pos e]
    rcases e with rfl | ⟨rfl,rfl⟩ | ⟨rfl,rfl⟩
    ·rw [ir];simp
    ·rw [q1,q2];simp
    ·rw [q1,q2];simp
   ·rw [if_neg e]
    cases h:r a b
    ·cases r b a<;>simp
    ·rw [ant a b h];simp
  have h2:=aBF 8 8 fun a b=>(r b a).toNat
  have h3:(sm 8 fun a=>sm 8 fun b=>if a=b∨(a=x∧b=y)∨(a=y∧b=x) then 0 else 1)≤55:=by
   rcases hxy with ⟨rfl,rfl⟩ | ⟨rfl,rfl⟩ | ⟨rfl,rfl⟩<;>decide
  omega
 ·rw [pF]
  have h1:sm n (fun a=>sm n fun b=>(r a b).toNat)+sm n (fun a=>sm n fun b=>(r b a).toNat)≤sm n fun a=>sm n fun b=>if a=b then 0 else 1:=by
   rw [← tZ]
   refine xX fun a ha=>?_
   rw [← tZ]
   refine xX fun b hb=>?_
   by_cases e:a=b
   ·subst e;rw [if_pos rfl,ir];exact Nat.le_refl _
   ·rw [if_neg e]
    cases h:r a b
    ·cases r b a<;>simp
    ·rw [ant a b h];simp
  have h2:=aBF n n fun a b=>(r b a).toNat
  have h3:(sm n fun a=>sm n fun b=>if a=b then 0 else 1)≤54:=by
   have:n=0∨n=1∨n=2∨n=3∨n=4∨n=5∨n=6∨n=7:=by omega
   rcases this with rfl | rfl | rfl | rfl | rfl | rfl | rfl | rfl<;>decide
  omega
theorem aDe {n:Nat} (n8:n≤8) {t:Ar 8} {r:Nat→Nat→Bool} (T:TB t r):eE (n:Int) t=some ⟨(n:Int),gL n n r⟩:=by
 have rl:∀ m a,(aDY m r a).length≤m:=fun m a=>by rw [zX];exact qL
 obtain ⟨s,e,h1,h2⟩:=jX (body:=eW (n:Int) t) (fun k s=>s.1=(k:Int)∧s.2=⟨(n:Int),gL k n r⟩) n (by omega)
  (fun k s hk ⟨hs,hq⟩=>by
   obtain ⟨i,u⟩:=s
   simp only at hs hq
   subst hs hq
   have pl:(gL k n r).length≤64:=by
    rw [pF]
    have:=xX (n:=k) (f:=fun a=>sm n fun b=>(r a b).toNat) (g:=fun _=>8) fun a _=>Nat.le_trans qL n8
    have e:∀ k:Nat,sm k (fun _=>8)=8 * k:=fun k=>by
     induction k with
     | zero=>rfl
     | succ k ih=>show sm k (fun _=>8)+8=_;rw [ih];omega
    rw [e] at this;omega
   obtain ⟨s,e,h1,h2⟩:=jX (body:=eR (n:Int) t ((k:Int),(⟨(n:Int),gL k n r⟩:aP))) (fun m s=>s.1=(m:Int)∧s.2=⟨(n:Int),gL k n r++aDY m r k⟩) n (by omega)
    (fun m s hm ⟨hs,hq⟩=>by
     obtain ⟨i,u⟩:=s
     simp only at hs hq
     subst hs hq
     have:=rl m k
     unfold eR
     simp only [dO,aCn]
     rw [if_pos (by omega),oG _ (by omega),oG _ (by omega),aBi T (by omega) (by omega),aA5,iV (by omega) (by omega)]
     by_cases c:r k m=true
     ·rw [if_pos c,aJh,aF9 (by simp only [List.length_append,List.length_cons,List.length_nil];omega)]
      exact ⟨_,rfl,by simp only;omega,by rw [aDs,if_pos c,List.append_assoc]⟩
     ·rw [if_neg c]
      exact ⟨_,rfl,by simp only;omega,by rw [aDs,if_neg c,List.append_nil]⟩) (fun s ⟨hs,_⟩=>by
     unfold eR
     simp only [dO]
     rw [if_neg (by omega)]) (0,⟨(n:Int),gL k n r⟩) ⟨rfl,by simp [aDY]⟩
   unfold eW
   simp only [dO]
   rw [if_pos (by omega),e,iT,pS,iV (by omega) (by omega)]
   exact ⟨_,rfl,by simp only;omega,by simp only;rw [h2,aCb]⟩) (fun s ⟨hs,_⟩=>by
   unfold eW
   simp only [dO]
   rw [if_neg (by omega)]) (0,⟨(n:Int),[]⟩) ⟨rfl,rfl⟩
 unfold eE
 rw [e,iT,pS,h2]
def cv (n:Nat) (r:Nat→Nat→Bool) (a b:Nat):Bool:=r a b && !(List.range n).any fun k=>r a k&&r k b
theorem nN (m:Nat) (f:Nat→Bool):(List.range (m+1)).any f=((List.range m).any f||f m):=by
 rw [List.range_succ,List.any_append];simp
theorem aEA {o:aP} {n:Nat} {t:Ar 8} {r:Nat→Nat→Bool} (h:OV o n t r):eJ o=some (⟨(n:Int),gL n n (cv n r)⟩,0):=by
 have hN:=h.N;have n8:=h.n8
 obtain ⟨s,e,h1,h2⟩:=jX (body:=eV o (t,true)) (fun k s=>s.1=(k:Int)∧TB s.2 fun a c=>r a c && !(decide (c<k)&&(List.range n).any fun j=>r a j&&r j c)) n (by omega)
  (fun k s hk ⟨hs,T⟩=>by
   obtain ⟨i,u⟩:=s
   simp only at hs T
   subst hs
   obtain ⟨s,e,h1,h2⟩:=jX (body:=eP o ((k:Int),u) (t,true)) (fun m s=>s.1=(m:Int)∧TB s.2 fun a c=>r a c && !(decide (c<k)&&(List.range n).any fun j=>r a j&&r j c) && !(decide (c=k)&&(List.range m).any fun j=>r a j&&r j c)) n (by omega)
    (fun m s hm ⟨hs,T⟩=>by
     obtain ⟨i,u⟩:=s
     simp only at hs T
     subst hs
     unfold eP
     simp only [dO,aCn]
     rw [if_pos (by omega),oG _ (by omega),oG _ (by omega),aBi h.tb (by omega) (by omega),aA5,iV (by omega) (by omega)]
     by_cases c:r m k=true
     ·rw [if_pos c,oG _ (by omega),oG _ (by omega),oG _ (by omega)]
      refine ⟨_,rfl,by simp only;omega,?_⟩
      obtain ⟨q,q1,q2,q3⟩:=h.tb m (by omega)
      simp only
      rw [q1]
      refine iE (aDi T (by omega) q2) fun a b hb=>?_
      rw [q3,nN]
      by_cases e:b=k
      ·subst e
       rw [c,decide_eq_true rfl,Bool.and_true,Bool.true_and,Bool.true_and]
       cases r a b<;>cases (List.range m).any (fun j=>r a j&&r j b)<;>cases r a m<;>simp
      ·rw [decide_eq_false e];simp
     ·rw [if_neg c]
      refine ⟨_,rfl,by simp only;omega,iE T fun a b hb=>?_⟩
      rw [nN]
      by_cases e:b=k
      ·subst e
       rw [Bool.eq_false_iff.2 c,Bool.and_false,Bool.or_false]
      ·rw [decide_eq_false e];simp) (fun s ⟨hs,_⟩=>by
     unfold eP
     simp only [dO]
     rw [if_neg (by omega)]) (0,u) ⟨rfl,iE T fun a b _=>by simp⟩
   unfold eV
   simp only [dO]
   rw [if_pos (by omega),e,iT,pS,iV (by omega) (by omega)]
   refine ⟨_,rfl,by simp only;omega,iE h2 fun a b hb=>?_⟩
   by_cases e:b=k
   ·subst e
    rw [decide_eq_true rfl,decide_eq_false (Nat.lt_irrefl _),decide_eq_true (Nat.lt_succ_self _)];simp
   ·rw [decide_eq_false e]
    by_cases g:b<k
    ·rw [decide_eq_true g,decide_eq_true (by omega)];simp
    ·rw [decide_eq_false g,decide_eq_false (by omega)];simp) (fun s ⟨hs,_⟩=>by
   unfold eV
   simp only [dO]
   rw [if_neg (by omega)]) (0,t) ⟨rfl,iE h.tb fun a b _=>by simp⟩
 unfold eJ
 rw [h.rd,iT,tT,xU]
 simp only
 rw [e,iT,pS,hN,aDe n8 h2,iT]
 congr 3
 refine aA7 fun a b _ hb=>?_
 rw [decide_eq_true hb,Bool.true_and];rfl
theorem oV {n:Nat} {r:Nat→Nat→Bool} {a b:Nat}:cv n r a b=true↔r a b=true∧∀ k,k<n→¬(r a k=true∧r k b=true):=by
 unfold cv
 rw [Bool.and_eq_true,Bool.not_eq_true',List.any_eq_false]
 constructor
 ·rintro ⟨h1,h2⟩
  exact ⟨h1,fun k hk ⟨g1,g2⟩=>h2 k (List.mem_range.2 hk) (by rw [g1,g2];rfl)⟩
 ·rintro ⟨h1,h2⟩
  exact ⟨h1,fun k hk g=>h2 k (List.mem_range.1 hk) (by rwa [Bool.and_eq_true] at g)⟩
theorem aDB {a b:aP} (h1:a.N=b.N) (h2:a.Pairs=b.Pairs):a=b:=by cases a;cases b;simp_all
instance:DecidableEq aP:=fun a b=>if h:a.N=b.N∧a.Pairs=b.Pairs then .isTrue (aDB h.1 h.2) else .isFalse fun e=>h (by subst e;exact ⟨rfl,rfl⟩)
theorem aCp (c n:Int) (hc:okI c) (hn:0<n):dZ c n=some (vS c n):=by
 unfold dZ
 simp only [aCn,aA5,decide_eq_true_eq]
 rw [oG _ (by simpa using Int.ne_of_gt hn),oG _ (by simpa using Int.ne_of_gt hn)]
 rw [← aFp c n hc.1 hc.2 hn]
 split<;>rfl
theorem tH (c n:Int) (hc:okI c) (hn:0<n):fD c n=some (vS c n):=aCp c n hc hn
theorem aGg (c:Int) {n:Nat} (hc:okI c) (hn:0<n):∃ k:Nat,k<n∧dZ c (n:Int)=some (k:Int):=by
 obtain ⟨h1,h2⟩:=rK c (n:=(n:Int)) (by omega)
 exact ⟨(vS c n).toNat,by omega,by rw [aCp c n hc (by omega),Int.toNat_of_nonneg h1]⟩
theorem aGD {α:Type} [Inhabited α] {ok:α→Prop} {l:List α} (h:okL ok l) {k:Nat} (hk:k<l.length):ok (l.getD k default):=h.1 _ (oM hk)
def dnB (n:Nat) (r:Nat→Nat→Bool) (p:Nat):Bool:=(List.range n).all fun b => !p.testBit b||(List.range n).all fun a => !r a b||p.testBit a
def Dn (r:Nat→Nat→Bool) (p:Nat):Prop:=∀ a b,r a b=true→p.testBit b=true→p.testBit a=true
theorem oD {n:Nat} {r:Nat→Nat→Bool} (lt:∀ a b,r a b=true→a<n∧b<n) {p:Nat}:dnB n r p=true↔Dn r p:=by
 unfold dnB Dn
 simp only [List.all_eq_true,List.mem_range,Bool.or_eq_true,Bool.not_eq_true']
 constructor
 ·intro h a b hr hb
  obtain ⟨h1,h2⟩:=lt a b hr
  rcases h b h2 with g | g
  ·rw [hb] at g;cases g
  ·rcases g a h1 with g | g
   ·rw [hr] at g;cases g
   ·exact g
 ·intro h b _
  cases hb:p.testBit b
  ·exact .inl rfl
  ·refine .inr fun a _=>?_
   cases hr:r a b
   ·exact .inl rfl
   ·exact .inr (h a b hr hb)
theorem aHs {n:Nat} (n8:n≤8) {t:Ar 8} {r:Nat→Nat→Bool} (T:TB t r) (lt:∀ a b,r a b=true→a<n∧b<n) {σ:Type} {f:Int→σ→Option σ} (I:Nat→σ→Prop) (g:σ) (h0:I 0 g)
  (step:∀ p s,p<2 ^ n→I p s→(dnB n r p=true→∃ s',f (p:Int) s=some s'∧I (p+1) s')∧(dnB n r p=false→I (p+1) s)):∃ s',cM (n:Int) t σ f g=some s'∧I (2 ^ n) s':=by
 have hp8:=tX n8
 obtain ⟨s,e,h1,h2⟩:=jX (body:=dB σ (n:Int) t f) (fun p s=>s.1=(p:Int)∧I p s.2) (2 ^ n) (by omega)
  (fun p s hp ⟨hs,hI⟩=>by
   obtain ⟨i,u⟩:=s
   simp only at hs hI
   subst hs
   obtain ⟨s,e,h1,q,h2,h3,h4⟩:=jX (body:=dC σ (n:Int) t ((p:Int),u)) (fun m s=>s.2=(m:Int)∧∃ q:Nat,s.1=(q:Int)∧q<256∧∀ a,q.testBit a=(List.range m).any fun x=>p.testBit x&&r a x) n (by omega)
    (fun m s hm ⟨hs,q,h2,h3,h4⟩=>by
     obtain ⟨i,j⟩:=s
     simp only at hs h2
     subst hs h2
     unfold dC
     simp only [dO,aCn]
     rw [if_pos (by omega),oG _ (by omega),aGR (by omega) (by omega),aA5,iV (by omega) (by omega)]
     by_cases c:p.testBit m=true
     ·obtain ⟨z,z1,z2,z3⟩:=T m (by omega)
      rw [if_pos c,oG _ (by omega),z1,aLB (by omega) (by omega)]
      refine ⟨_,rfl,by simp only;omega,q|||z,rfl,Nat.or_lt_two_pow (n:=8) h3 z2,fun a=>?_⟩
      rw [Nat.testBit_or,h4,z3,nN,c,Bool.true_and]
     ·rw [if_neg c]
      refine ⟨_,rfl,by simp only;omega,q,rfl,h3,fun a=>?_⟩
      rw [h4,nN,Bool.eq_false_iff.2 c,Bool.false_and,Bool.or_false]) (fun s ⟨hs,_⟩=>by
     unfold dC
     simp only [dO]
     rw [if_neg (by omega)]) (0,0) ⟨rfl,0,rfl,by omega,fun a=>by simp⟩
   unfold dB
   simp only [dO,aCn]
   rw [aIR (by omega),if_pos (by omega),e,iT,pS,h2,zG (by omega) (by omega),iV (by omega) (by omega)]
   have key:(((qD q p:Nat):Int)==0)=dnB n r p:=by
    rw [Bool.eq_iff_iff,beq_iff_eq,oD lt]
    rw [show (((qD q p:Nat):Int)=0↔qD q p=0) by omega,aCY]
    constructor
    ·intro h a b hr hb
     exact h a (by rw [h4,List.any_eq_true];exact ⟨b,List.mem_range.2 (lt a b hr).2,by rw [hb,hr];rfl⟩)
    ·intro h a ha
     rw [h4,List.any_eq_true] at ha
     obtain ⟨b,_,hb⟩:=ha
     rw [Bool.and_eq_true] at hb
     exact h a b hb.2 hb.1
   rw [key,aA5]
   obtain ⟨k1,k2⟩:=step p u hp hI
   by_cases c:dnB n r p=true
   ·obtain ⟨u',e',hu⟩:=k1 c
    rw [if_pos c,e',iT]
    exact ⟨_,rfl,by simp only;omega,hu⟩
   ·rw [if_neg c]
    exact ⟨_,rfl,by simp only;omega,k2 (Bool.eq_false_iff.2 c)⟩) (fun s ⟨hs,_⟩=>by
   unfold dB
   simp only [dO]
   rw [aIR (by omega),if_neg (by omega)]) (0,g) ⟨rfl,h0⟩
 unfold cM
 rw [oG _ (by omega),e,iT,pS]
 exact ⟨_,rfl,h2⟩
def aHW (l:List Nat):List Int:=l.map fun (x:Nat)=>(x:Int)
theorem aAe (l:List Nat):(aHW l).length=l.length:=List.length_map _
theorem aE1 (l m:List Nat):aHW (l++m)=aHW l++aHW m:=List.map_append
theorem aDx {a b n:Int} (ha:0≤a∧a<n) (hb:0≤b∧b<n-1):let t:=Int.tmod (a+1+b) n;(0≤t∧t<n)∧a≠t:=by
 have hn:0<n:=by omega
 simp only
 rw [Int.tmod_eq_emod_of_nonneg (by omega)]
 by_cases q:a+1+b<n
 ·rw [Int.emod_eq_of_lt (by omega) q];omega
 ·have:(a+1+b) % n=a+1+b-n:=by
   rw [← Int.sub_emod_right,Int.emod_eq_of_lt (by omega) (by omega)]
  rw [this];omega
theorem aF5 (a0:Int) (x:List (Int×Int)) (o0:okI a0) (o1:okL aDa x):∃ o,gA a0 x=some o∧Fm o∧o.Pairs.length≤20:=by
 unfold gA
 obtain ⟨p1,p2⟩:=rK a0 (n:=9) (by omega)
 rw [tH a0 9 o0 (by omega),iT]
 generalize vS a0 9=b0 at p1 p2 ⊢
 have hx:=o1.2
 obtain ⟨y,e,hy⟩:=zI (body:=gT x) (fun s=>∃ k:Nat,s.1=(k:Int)∧k≤20∧k≤x.length∧s.2.N=b0∧s.2.Pairs.length≤k∧∀ p∈s.2.Pairs,nK b0 p) (fun s=>20-s.1.toNat)
  (fun y=>match y with | .inl s=>s.2.N=b0∧s.2.Pairs.length≤20∧∀ p∈s.2.Pairs,nK b0 p | .inr _=>False)
  (fun s ⟨k,hs,hk,hkx,hN,hl,hp⟩=>by
   obtain ⟨i,N,E⟩:=s
   simp only at hs hN hl hp
   subst hs hN
   unfold gT
   simp only [aCn,dO]
   by_cases c:k<x.length∧k<20∧N>1
   ·obtain ⟨c1,c2,c3⟩:=c
    rw [if_pos (by omega),if_pos (by omega),if_pos c3]
    obtain ⟨o1,o2⟩:=aGD o1 c1
    obtain ⟨q1,q2⟩:=rK (x.getD k default).1 (n:=N) (by omega)
    obtain ⟨q3,q4⟩:=rK (x.getD k default).2 (n:=N-1) (by omega)
    simp only [aKb c1]
    rw [tH _ _ o1 (by omega),iT,iV (by omega) (by omega),tH _ _ o2 (by omega),iT,oG _ (by omega),aJh,aF9 (by simp only [List.length_cons,List.length_nil];omega),iV (by omega) (by omega)]
    generalize vS (x.getD k default).1 N=u at *
    generalize vS (x.getD k default).2 (N-1)=v at *
    obtain ⟨t1,t2⟩:=aDx (a:=u) (b:=v) (n:=N) ⟨q1,q2⟩ ⟨q3,q4⟩
    rw [iV (x:=u+1) (by omega) (by omega),iV (x:=u+1+v) (by omega) (by omega)]
    refine .inl ⟨_,rfl,⟨k+1,by simp only;omega,by omega,by omega,rfl,by simp only [List.length_append,List.length_cons,List.length_nil];omega,fun p hp'=>?_⟩,by simp only;omega⟩
    rcases List.mem_append.1 hp' with hp' | hp'
    ·exact hp p hp'
    ·rw [List.mem_singleton.1 hp'];exact ⟨⟨q1,q2⟩,t1,t2⟩
   ·refine .inr (.inl ⟨((k:Int),⟨N,E⟩),?_,rfl,Nat.le_trans hl hk,hp⟩)
    by_cases c1:(k:Int)<(x.length:Int)
    ·by_cases c2:(k:Int)<20
     ·rw [if_pos c1,if_pos c2,if_neg fun c3=>c ⟨by omega,by omega,c3⟩]
     ·rw [if_pos c1,if_neg c2,aEZ]
    ·rw [if_neg c1,aEZ]) (0,⟨b0,[]⟩) ⟨0,rfl,by omega,by omega,rfl,by simp,by simp⟩ (by simp only;omega)
 rw [e,iT]
 cases y with
 | inl s=>
  obtain ⟨h1,h2,h3⟩:=hy
  rw [pS]
  exact ⟨_,rfl,⟨by omega,by omega,fun p hp=>by rw [h1];exact h3 p hp⟩,h2⟩
 | inr s=>exact hy.elim
theorem aFG {α:Type} (l:List α) (k:Nat):sub l 0 (k:Int)=l.take k:=by
 unfold sub;simp
theorem aFv {α:Type} (l:List α) (k:Nat):sub l (k:Int) (l.length:Int)=l.drop k:=by
 unfold sub;simp
theorem aHz (a0:Int) (x:List (Int×Int)) (a2:Int) (o0:okI a0) (o1:okL aDa x) (o2:okI a2):∃ o n t r,hZ a0 x a2=some o∧OV o n t r∧o.Pairs.length≤20:=by
 obtain ⟨o,e0,hf,hl⟩:=aF5 a0 x o0 o1
 have hN:=hf.N
 obtain ⟨n,hn⟩:∃ n:Nat,o.N=(n:Int):=⟨o.N.toNat,by omega⟩
 have n8:n≤8:=by omega
 unfold hZ
 rw [e0,iT]
 obtain ⟨p1,p2⟩:=rK a2 (n:=40320) (by omega)
 rw [tH a2 40320 o2 (by omega),iT]
 generalize vS a2 40320=m0 at p1 p2 ⊢
 obtain ⟨s1,e1,h1,h2⟩:=jX (body:=gC o) (fun k s=>s.2=(k:Int)∧s.1=aHW (List.range k)) n (by omega)
  (fun k s hk ⟨hs,hq⟩=>by
   obtain ⟨l,i⟩:=s
   simp only at hs hq
   subst hs hq
   unfold gC
   simp only [dO]
   rw [if_pos (by omega),aJh,aF9 (by rw [aAe,List.length_range];simp only [List.length_cons,List.length_nil];omega),iV (by omega) (by omega)]
   exact ⟨_,rfl,by simp only;omega,by rw [List.range_succ,aE1];rfl⟩) (fun s ⟨hs,_⟩=>by
   unfold gC
   simp only [dO]
   rw [if_neg (by omega)]) ([],0) ⟨rfl,rfl⟩
 rw [e1,iT,pS,h2]
 obtain ⟨y,e2,hy⟩:=zI (body:=iA) (fun s=>0≤s.2.1∧s.2.1<40320∧s.1.length+s.2.2.length=n∧(s.1++s.2.2).Nodup) (fun s=>s.2.2.length)
  (fun y=>match y with | .inl s=>s.1.length=n∧s.1.Nodup | .inr _=>False)
  (fun s ⟨g1,g2,g3,g4⟩=>by
   obtain ⟨P,m,L⟩:=s
   simp only at g1 g2 g3 g4
   unfold iA
   simp only [dO]
   by_cases c:L.length=0
   ·rw [if_neg (by omega)]
    obtain rfl:=List.length_eq_zero_iff.1 c
    exact .inr (.inl ⟨_,rfl,by simpa using g3,by simpa using g4⟩)
   ·rw [if_pos (by omega),oG _ (by omega),oG _ (by omega)]
    have k1:=Int.emod_nonneg m (show (L.length:Int)≠0 by omega)
    have k2:=Int.emod_lt_of_pos m (show (0:Int)<(L.length:Int) by omega)
    have d1:0≤m / (L.length:Int):=Int.ediv_nonneg g1 (by omega)
    have d2:m / (L.length:Int)≤m:=Int.ediv_le_self _ g1
    rw [Int.tmod_eq_emod_of_nonneg g1,Int.tdiv_eq_ediv_of_nonneg g1]
    generalize m / (L.length:Int)=d at d1 d2 ⊢
    obtain ⟨k,hk⟩:∃ k:Nat,m % (L.length:Int)=(k:Int):=⟨(m % (L.length:Int)).toNat,by omega⟩
    rw [hk] at k1 k2 ⊢
    have hkl:k<L.length:=by omega
    rw [aKb hkl,aJh,aF9 (by simp only [List.length_cons,List.length_nil];omega),aJp (by omega) (by omega) (by omega),iV (x:=(k:Int)+1) (by omega) (by omega),aJp (by omega) (by omega) (by omega),iV (x:=d) (by omega) (by omega),aFG,show (k:Int)+1=((k+1:Nat):Int) by omega,aFv,aF9 (by simp only [List.length_take,List.length_drop];omega)]
    have hL:L=L.take k++L.getD k default::L.drop (k+1):=by
     rw [lX hkl,← List.drop_eq_getElem_cons hkl,List.take_append_drop]
    refine .inl ⟨_,rfl,⟨d1,by simp only;omega,by simp only [List.length_append,List.length_cons,List.length_nil,List.length_take,List.length_drop];omega,?_⟩,by simp only [List.length_append,List.length_take,List.length_drop];omega⟩
    refine (List.Perm.nodup_iff ?_).1 g4
    simp only
    rw [List.append_assoc]
    refine List.Perm.append_left P ?_
    conv=>lhs;rw [hL]
    exact List.perm_middle) ([],m0,aHW (List.range n)) ⟨p1,p2,by rw [aAe,List.length_range];simp,by
     rw [List.nil_append]
     exact List.pairwise_map.2 ((List.nodup_range (n:=n)).imp fun h q=>h (by omega))⟩ (by simp only;rw [aAe,List.length_range];omega)
 rw [e2,iT]
 cases y with
 | inr s=>exact hy.elim
 | inl s=>
  obtain ⟨P,m,L⟩:=s
  obtain ⟨P1,P2⟩:=hy
  simp only at P1 P2
  rw [pS]
  have pl:∀ z:Int,0≤z∧z<(n:Int)→z.toNat<P.length:=fun z hz=>by omega
  obtain ⟨s3,e3,q1,q2,q3,q4,q5⟩:=jX (body:=gE (P,m,L)) (fun k s=>s.1=(k:Int)∧s.2.N=(n:Int)∧s.2.Pairs.length=o.Pairs.length∧(∀ p∈s.2.Pairs,nK (n:Int) p)∧∀ j,j<k→P.getD ((s.2.Pairs.getD j default).1).toNat default<P.getD ((s.2.Pairs.getD j default).2).toNat default) o.Pairs.length (by omega)
   (fun k s hk ⟨hs,g1,g2,g3,g4⟩=>by
    obtain ⟨i,N,E⟩:=s
    simp only at hs g1 g2 g3 g4
    subst hs g1
    have hkE:k<E.length:=by omega
    obtain ⟨v1,v2,v3⟩:=g3 _ (oM hkE)
    unfold gE
    simp only [dO,aCn,Int.toNat_natCast]
    rw [if_pos (by omega),oG _ (by omega),oG _ (by omega),oG _ (by omega),iV (by omega) (by omega)]
    have hne:P.getD ((E.getD k default).1).toNat default≠P.getD ((E.getD k default).2).toNat default:=by
     rw [lX (pl _ v1),lX (pl _ v2)]
     intro q
     have:=(List.getElem_inj P2).1 q
     omega
    by_cases c:P.getD ((E.getD k default).1).toNat default>P.getD ((E.getD k default).2).toNat default
    ·rw [if_pos c,oG _ (by omega),aLR,Int.toNat_natCast]
     have set_get:∀ j,j<E.length→(E.set k ((E.getD k default).2,(E.getD k default).1)).getD j default=if j=k then ((E.getD k default).2,(E.getD k default).1) else E.getD j default:=fun j hj=>by
      rw [lX (by rw [List.length_set];exact hj),List.getElem_set,lX (l:=E) hj]
      by_cases e:j=k
      ·rw [if_pos e,if_pos e.symm]
      ·rw [if_neg e,if_neg fun q=>e q.symm]
     refine ⟨_,rfl,by simp only;omega,rfl,by simp only [List.length_set];exact g2,fun p hp=>?_,fun j hj=>?_⟩
     ·obtain ⟨j,hj,rfl⟩:=zD hp
      simp only [List.length_set] at hj
      rw [set_get j hj]
      by_cases e:j=k
      ·rw [if_pos e];exact ⟨v2,v1,fun q=>v3 q.symm⟩
      ·rw [if_neg e];exact g3 _ (oM hj)
     ·simp only
      rw [set_get j (by omega)]
      by_cases e:j=k
      ·rw [if_pos e];exact c
      ·rw [if_neg e];exact g4 j (by omega)
    ·rw [if_neg c]
     refine ⟨_,rfl,by simp only;omega,rfl,g2,g3,fun j hj=>?_⟩
     by_cases e:j=k
     ·subst e;simp only;omega
     ·exact g4 j (by omega)) (fun s ⟨hs,_,g2,_⟩=>by
    unfold gE
    simp only [dO]
    rw [if_neg (by omega)]) (0,⟨o.N,o.Pairs⟩) ⟨rfl,hn,rfl,by rw [← hn];exact hf.el,fun j hj=>absurd hj (Nat.not_lt_zero _)⟩
  rw [e3,iT,pS]
  have hFm:Fm ⟨s3.2.N,s3.2.Pairs⟩:=⟨by simp only;omega,by simp only;omega,fun p hp=>by simp only;rw [q2];exact q4 p hp⟩
  have hac:∀ a:Nat,¬Rc s3.2.Pairs a a:=fun a g=>by
   have:=g (fun a b=>P.getD a default<P.getD b default) (fun u v huv=>by
    obtain ⟨j,hj,ej⟩:=zD huv
    have:=q5 j (by omega)
    rw [ej] at this
    simpa using this) (fun _ _ _ g1 g2=>Int.lt_trans g1 g2)
   omega
  rcases aBW ⟨s3.2.N,s3.2.Pairs⟩ (by simp only;omega) with ⟨_,n',t,r,hv⟩ | ⟨hno,_⟩
  ·exact ⟨_,n',t,r,rfl,hv,by simp only;omega⟩
  ·exact absurd ⟨hFm,hac⟩ hno
theorem aER:∀ {n:Nat} {f g:Nat→Nat},(∀ i,i<n→f i≤g i)→∀ {j:Nat},j<n→f j<g j→sm n f<sm n g
 | n+1,f,g,h,j,hj,hlt=>by
  show sm n f+f n<sm n g+g n
  by_cases e:j=n
  ·subst e
   have:=xX (n:=j) (f:=f) (g:=g) fun i hi=>h i (by omega)
   omega
  ·have:=aER (n:=n) (f:=f) (g:=g) (fun i hi=>h i (by omega)) (j:=j) (by omega) hlt
   have:=h n (by omega)
   omega
section
variable {o:aP} {n:Nat} {t:Ar 8} {r:Nat→Nat→Bool}
theorem OV.asy (h:OV o n t r) {a b:Nat} (hr:r a b=true):r b a=false:=Bool.eq_false_iff.2 fun g=>by
 have:=h.tr a b a hr g
 rw [h.ir] at this;cases this
theorem OV.cva (h:OV o n t r) (a b:Nat) (hr:cv n r a b=true):cv n r b a=false:=Bool.eq_false_iff.2 fun g=>by
 have:=h.asy (oV.1 hr).1
 rw [(oV.1 g).1] at this;cases this
theorem OV.cvi (h:OV o n t r) (a:Nat):cv n r a a=false:=by unfold cv;rw [h.ir];rfl
def btw (n:Nat) (r:Nat→Nat→Bool) (a b:Nat):Nat:=sm n fun k=>(r a k&&r k b).toNat
theorem OV.btw_lt (h:OV o n t r) {a b k:Nat} (h1:r a k=true) (h2:r k b=true):btw n r a k<btw n r a b∧btw n r k b<btw n r a b:=by
 have hk:=(h.lt _ _ h1).2
 constructor
 ·refine aER (fun i _=>?_) hk ?_
  ·cases c:r a i&&r i k
   ·simp
   ·rw [Bool.and_eq_true] at c
    rw [c.1,h.tr i k b c.2 h2];simp
  ·rw [h.ir,h1,h2];simp
 ·refine aER (fun i _=>?_) hk ?_
  ·cases c:r k i&&r i b
   ·simp
   ·rw [Bool.and_eq_true] at c
    rw [c.2,h.tr a k i h1 c.1];simp
  ·rw [h.ir,h1,h2];simp
theorem OV.cv_rc (h:OV o n t r) {P:List (Int×Int)} (hP:∀ x y:Nat,cv n r x y=true→Rc P x y):∀ (m a b:Nat),btw n r a b<m→r a b=true→Rc P a b
 | 0,_,_,hm,_=>absurd hm (Nat.not_lt_zero _)
 | m+1,a,b,hm,hr=>by
  by_cases c:cv n r a b=true
  ·exact hP a b c
  ·have:∃ k,r a k=true∧r k b=true:=Classical.byContradiction fun q=>c (oV.2 ⟨hr,fun k _ g=>q ⟨k,g⟩⟩)
   obtain ⟨k,h1,h2⟩:=this
   obtain ⟨l1,l2⟩:=h.btw_lt h1 h2
   exact aIC (h.cv_rc hP m a k (by omega) h1) (h.cv_rc hP m k b (by omega) h2)
theorem OV.cv_gen (h:OV o n t r) (a b:Nat):Rc (gL n n (cv n r)) a b↔r a b=true:=by
 constructor
 ·intro g
  exact g (fun x y=>r x y=true) (fun x y hxy=>(oV.1 (pC.1 hxy).2.2).1) (fun x y z=>h.tr x y z)
 ·intro g
  exact h.cv_rc (fun x y hxy=>aHT (pC.2 ⟨(h.lt _ _ (oV.1 hxy).1).1,(h.lt _ _ (oV.1 hxy).1).2,hxy⟩)) _ a b (Nat.lt_succ_self _) g
theorem aE5 {q:Nat→Nat→Bool} (hq:∀ a,q a a=false):∀ p∈gL n n q,nK (n:Int) p:=fun p hp=>by
 obtain ⟨a,b,ha,hb,hr,rfl⟩:=wN.1 hp
 refine ⟨⟨by simp only;omega,by simp only;omega⟩,⟨by simp only;omega,by simp only;omega⟩,fun e=>?_⟩
 simp only at e
 obtain rfl:a=b:=by omega
 rw [hq] at hr;cases hr
theorem OV.cv_27 (h:OV o n t r):(gL n n (cv n r)).length≤27:=by
 refine aE6 h.n8 h.cvi h.cva fun e8=>?_
 refine Classical.byContradiction fun q=>?_
 have g:∀ x y,((x=0∧y=1)∨(x=0∧y=2)∨(x=1∧y=2))→cv n r x y=true∨cv n r y x=true:=fun x y hxy=>by
  cases c1:cv n r x y
  ·cases c2:cv n r y x
   ·exact absurd ⟨x,y,hxy,c1,c2⟩ q
   ·exact .inr rfl
  ·exact .inl rfl
 have no:∀ x y z,y<n→cv n r x y=true→cv n r y z=true→cv n r x z=true∨cv n r z x=true→False:=fun x y z hy h1 h2 h3=>by
  have r1:=(oV.1 h1).1;have r2:=(oV.1 h2).1
  rcases h3 with h3 | h3
  ·exact (oV.1 h3).2 y hy ⟨r1,r2⟩
  ·have:=h.asy (h.tr x y z r1 r2)
   rw [(oV.1 h3).1] at this;cases this
 have a1:=g 0 1 (.inl ⟨rfl,rfl⟩)
 have a2:=g 0 2 (.inr (.inl ⟨rfl,rfl⟩))
 have a3:=g 1 2 (.inr (.inr ⟨rfl,rfl⟩))
 rcases a1 with b1 | b1
 ·rcases a3 with b3 | b3
  ·exact no 0 1 2 (by omega) b1 b3 a2
  ·rcases a2 with b2 | b2
   ·exact no 0 2 1 (by omega) b2 b3 (.inl b1)
   ·exact no 2 0 1 (by omega) b2 b1 (.inl b3)
 ·rcases a3 with b3 | b3
  ·rcases a2 with b2 | b2
   ·exact no 1 0 2 (by omega) b1 b2 (.inl b3)
   ·exact no 1 2 0 (by omega) b3 b2 (.inl b1)
  ·exact no 2 1 0 (by omega) b3 b1 a2.symm
theorem aGl {P:List (Int×Int)} {q:Nat→Nat→Bool} (hq:∀ a b,q a b=true↔Rc P a b) (p:Nat):Dn q p↔∀ x y:Nat,((x:Int),(y:Int))∈P→p.testBit y=true→p.testBit x=true:=by
 constructor
 ·intro h x y hxy
  exact h x y ((hq x y).2 (aHT hxy))
 ·intro h a b hab
  exact (hq a b).1 hab (fun x y=>p.testBit y=true→p.testBit x=true) h fun x y z h1 h2 h3=>h1 (h2 h3)
abbrev wI (n:Nat) (r:Nat→Nat→Bool) (a b:Nat):aP:=⟨(n:Int),gL n n (cv n r)++[((a:Int),(b:Int))]⟩
theorem OV.more_len (h:OV o n t r) (a b:Nat):(wI n r a b).Pairs.length≤28:=by
 have:=h.cv_27
 simp only [List.length_append,List.length_cons,List.length_nil];omega
theorem OV.more_ok (h:OV o n t r) {a b:Nat} (ha:a<n) (hb:b<n) (hne:a≠b) (hba:r b a=false) :
  ∃ t' r',OV (wI n r a b) n t' r'∧∀ p,Dn r' p↔Dn r p∧(p.testBit b=true→p.testBit a=true):=by
 have hn8:=h.n8
 have hl:=h.more_len a b
 have hfm:Fm (wI n r a b):=⟨by simp only;omega,hl,fun p hp=>by
  rcases List.mem_append.1 hp with hp | hp
  ·exact aE5 h.cvi p hp
  ·rw [List.mem_singleton.1 hp]
   exact ⟨⟨by simp only;omega,by simp only;omega⟩,⟨by simp only;omega,by simp only;omega⟩,by simp only;omega⟩⟩
 have hac:∀ x:Nat,¬Rc (wI n r a b).Pairs x x:=fun x g=>by
  have:=g (fun x y=>r x y=true∨((x=a∨r x a=true)∧(y=b∨r b y=true))) (fun x y hxy=>by
   rcases List.mem_append.1 hxy with hp | hp
   ·exact .inl (oV.1 (pC.1 hp).2.2).1
   ·have:=List.mem_singleton.1 hp
    rw [Prod.mk.injEq] at this
    exact .inr ⟨.inl (by omega),.inl (by omega)⟩) (fun x y z g1 g2=>by
   rcases g1 with g1 | ⟨g1,g1'⟩
   ·rcases g2 with g2 | ⟨g2,g2'⟩
    ·exact .inl (h.tr _ _ _ g1 g2)
    ·refine .inr ⟨.inr ?_,g2'⟩
     rcases g2 with rfl | g2
     ·exact g1
     ·exact h.tr _ _ _ g1 g2
   ·rcases g2 with g2 | ⟨g2,g2'⟩
    ·refine .inr ⟨g1,.inr ?_⟩
     rcases g1' with rfl | g1'
     ·exact g2
     ·exact h.tr _ _ _ g1' g2
    ·exact .inr ⟨g1,g2'⟩)
  rcases this with g | ⟨g1,g2⟩
  ·rw [h.ir] at g;cases g
  ·have hno:r b a=true→False:=fun q=>by rw [hba] at q;cases q
   rcases g1 with rfl | g1
   ·rcases g2 with g2 | g2
    ·exact hne g2
    ·exact hno g2
   ·rcases g2 with rfl | g2
    ·exact hno g1
    ·exact hno (h.tr _ _ _ g2 g1)
 rcases aBW (wI n r a b) (by omega) with ⟨_,n',t',r',hv⟩ | ⟨hno,_⟩
 ·have:n'=n:=by have:=hv.N;simp only at this;omega
  subst this
  refine ⟨t',r',hv,fun p=>?_⟩
  rw [aGl hv.rc,aGl fun a b=>(h.cv_gen a b).symm]
  constructor
  ·intro g
   exact ⟨fun x y hxy=>g x y (List.mem_append_left _ hxy),g a b (List.mem_append_right _ (List.mem_singleton.2 rfl))⟩
  ·rintro ⟨g1,g2⟩ x y hxy
   rcases List.mem_append.1 hxy with hp | hp
   ·exact g1 x y hp
   ·have:=List.mem_singleton.1 hp
    rw [Prod.mk.injEq] at this
    obtain ⟨rfl,rfl⟩:x=a∧y=b:=by omega
    exact g2
 ·exact absurd ⟨hfm,hac⟩ hno
theorem OV.more_no (h:OV o n t r) {a b:Nat} (hc:n≤a∨n≤b∨a=b∨r b a=true):∃ t',bI (wI n r a b)=some (t',false):=by
 have hl:=h.more_len a b
 rcases aBW (wI n r a b) (by omega) with ⟨⟨hf,hac⟩,_⟩ | ⟨_,t',e⟩
 ·exfalso
  have hm:((a:Int),(b:Int))∈(wI n r a b).Pairs:=List.mem_append_right _ (List.mem_singleton.2 rfl)
  obtain ⟨h1,h2,h3⟩:=hf.el _ hm
  simp only at h1 h2 h3
  have hba:r b a=true:=by
   rcases hc with c | c | c | c
   ·omega
   ·omega
   ·omega
   ·exact c
  refine hac a (aIC (aHT hm) ?_)
  exact aHy (fun x y hxy=>aHT (List.mem_append_left _ hxy)) ((h.cv_gen b a).2 hba)
 ·exact ⟨t',e⟩
end
theorem aGr:∀ (k:Nat) {a b:Nat},a<2 ^ k→b<2 ^ k→a&&&b=0→a|||b=a+b
 | 0,a,b,ha,hb,_=>by
  obtain rfl:a=0:=by simpa using ha
  obtain rfl:b=0:=by simpa using hb
  rfl
 | k+1,a,b,ha,hb,h=>by
  rw [Nat.pow_succ] at ha hb
  have h2:a / 2&&&b / 2=0:=by rw [← Nat.and_div_two,h]
  have ih:=aGr k (a:=a / 2) (b:=b / 2) (by omega) (by omega) h2
  have e1:(a|||b) / 2=a / 2+b / 2:=by rw [Nat.or_div_two,ih]
  have e2:¬(a % 2=1∧b % 2=1):=fun q=>by
   have:=Nat.and_mod_two_eq_one.2 q
   rw [h] at this;cases this
  have e3:(a|||b) % 2=1↔a % 2=1∨b % 2=1:=Nat.or_mod_two_eq_one
  omega
theorem aBZ {p x:Nat} (h:p.testBit x=true):qD p (2 ^ x)+2 ^ x=p:=by
 have hx:2 ^ x≤p:=Nat.ge_two_pow_of_testBit h
 obtain ⟨k,hk⟩:∃ k,p<2 ^ k:=⟨p,Nat.lt_two_pow_self⟩
 rw [← aGr k (aAC hk) (by omega)]
 ·refine aEw fun i=>?_
  rw [Nat.testBit_or,lA,yY]
  by_cases e:i=x
  ·subst e;rw [h,decide_eq_true rfl];rfl
  ·rw [decide_eq_false e];cases p.testBit i<;>rfl
 ·refine aEw fun i=>?_
  rw [Nat.testBit_and,lA,yY,Nat.zero_testBit]
  cases p.testBit i<;>cases decide (i=x)<;>rfl
theorem pZ {p x:Nat} (h:p.testBit x=true) (i:Nat):(p-2 ^ x).testBit i=(p.testBit i && !decide (i=x)):=by
 have:=aBZ h
 rw [show p-2 ^ x=qD p (2 ^ x) by omega,lA,yY]
theorem aBS {p x:Nat} (h:p.testBit x=true):p-2 ^ x<p:=by
 have:=aBZ h
 have:=Nat.two_pow_pos x
 omega
theorem aGy {P:Nat→Prop} (f:Nat→Nat):∀ (n:Nat),(∃ x,x<n∧P x)→∃ x,x<n∧P x∧∀ y,y<n→P y→f y≤f x
 | 0,⟨x,h,_⟩=>absurd h (Nat.not_lt_zero _)
 | n+1,⟨x,h,hP⟩=>by
  by_cases c:∃ x,x<n∧P x
  ·obtain ⟨z,h1,h2,h3⟩:=aGy f n c
   by_cases d:P n∧f z≤f n
   ·exact ⟨n,by omega,d.1,fun y hy hp=>by
     by_cases e:y=n
     ·rw [e];exact Nat.le_refl _
     ·exact Nat.le_trans (h3 y (by omega) hp) d.2⟩
   ·exact ⟨z,by omega,h2,fun y hy hp=>by
     by_cases e:y=n
     ·subst e
      have:¬f z≤f y:=fun q=>d ⟨hp,q⟩
      omega
     ·exact h3 y (by omega) hp⟩
  ·have:x=n:=by
    refine Classical.byContradiction fun q=>c ⟨x,by omega,hP⟩
   subst this
   exact ⟨x,by omega,hP,fun y hy hp=>by
    by_cases e:y=x
    ·rw [e];exact Nat.le_refl _
    ·exact absurd ⟨y,by omega,hp⟩ c⟩
def prd (n:Nat) (r:Nat→Nat→Bool) (x:Nat):Nat:=sm n fun k=>(r k x).toNat
section
variable {o:aP} {n:Nat} {t:Ar 8} {r:Nat→Nat→Bool}
theorem OV.prd_lt (h:OV o n t r) {a b:Nat} (hr:r a b=true):prd n r a<prd n r b:=by
 refine aER (fun i _=>?_) (h.lt _ _ hr).1 (by rw [h.ir,hr];simp)
 cases c:r i a
 ·simp
 ·rw [h.tr i a b c hr];exact Nat.le_refl _
theorem OV.last_of (h:OV o n t r) {p:Nat} (hp:p<2 ^ n) (h0:p≠0) (hd:Dn r p):∃ x,x<n∧p.testBit x=true∧Dn r (p-2 ^ x):=by
 obtain ⟨i,hi⟩:=Nat.exists_testBit_of_ne_zero h0
 obtain ⟨x,h1,h2,h3⟩:=aGy (P:=fun x=>p.testBit x=true) (prd n r) n ⟨i,aJQ hp hi,hi⟩
 refine ⟨x,h1,h2,fun a b hr hb=>?_⟩
 rw [pZ h2,Bool.and_eq_true] at hb ⊢
 refine ⟨hd a b hr hb.1,?_⟩
 rw [Bool.not_eq_true',decide_eq_false_iff_not]
 rintro rfl
 have:=h3 b (h.lt _ _ hr).2 hb.1
 have:=h.prd_lt hr
 omega
end
def Lf (n:Nat) (r:Nat→Nat→Bool):Nat→Nat→Nat
 | 0,_=>0
 | k+1,p=>if dnB n r p=true then (if p=0 then 1 else sm n fun x=>if p.testBit x=true then Lf n r k (p-2 ^ x) else 0) else 0
def Lc (n:Nat) (r:Nat→Nat→Bool) (p:Nat):Nat:=Lf n r (p+1) p
theorem aDX (n:Nat) (r:Nat→Nat→Bool):∀ (k m p:Nat),p<k→p<m→Lf n r k p=Lf n r m p
 | 0,_,_,h,_=>absurd h (Nat.not_lt_zero _)
 | k+1,0,_,_,h=>absurd h (Nat.not_lt_zero _)
 | k+1,m+1,p,h1,h2=>by
  unfold Lf
  have e:(sm n fun x=>if p.testBit x=true then Lf n r k (p-2 ^ x) else 0)=sm n fun x=>if p.testBit x=true then Lf n r m (p-2 ^ x) else 0:=nH fun x _=>by
   by_cases c:p.testBit x=true
   ·rw [if_pos c,if_pos c]
    have:=aBS c
    exact aDX n r k m _ (by omega) (by omega)
   ·rw [if_neg c,if_neg c]
  rw [e]
theorem tE (n:Nat) (r:Nat→Nat→Bool) (p:Nat):Lc n r p=if dnB n r p=true then (if p=0 then 1 else sm n fun x=>if p.testBit x=true then Lc n r (p-2 ^ x) else 0) else 0:=by
 show Lf n r (p+1) p=_
 unfold Lf
 have e:(sm n fun x=>if p.testBit x=true then Lf n r p (p-2 ^ x) else 0)=sm n fun x=>if p.testBit x=true then Lc n r (p-2 ^ x) else 0:=nH fun x _=>by
  by_cases c:p.testBit x=true
  ·rw [if_pos c,if_pos c]
   have:=aBS c
   exact aDX n r _ _ _ (by omega) (by omega)
  ·rw [if_neg c,if_neg c]
 rw [e]
theorem aEs {n:Nat} {r:Nat→Nat→Bool} {p:Nat} (h:dnB n r p=false):Lc n r p=0:=by
 rw [tE,h,if_neg (by decide)]
def pc (n p:Nat):Nat:=sm n fun x=>(p.testBit x).toNat
theorem aLq (n p:Nat):pc n p≤n:=qL
theorem aJj {n p x:Nat} (hx:x<n) (h:p.testBit x=true):pc n (p-2 ^ x)<pc n p:=by
 refine aER (fun i _=>?_) hx (by rw [pZ h,h,decide_eq_true rfl];simp)
 rw [pZ h]
 cases p.testBit i<;>cases decide (i=x)<;>simp
theorem vE {n m:Nat} {f:Nat→Nat} (h:∀ i,i<n→f i≤m):sm n f≤n * m:=by
 have e:∀ n:Nat,sm n (fun _=>m)=n * m:=fun n=>by
  induction n with
  | zero=>rw [Nat.zero_mul];rfl
  | succ n ih=>show sm n (fun _=>m)+m=_;rw [ih,Nat.succ_mul]
 have:=xX (g:=fun _=>m) h
 rwa [e] at this
theorem aJR {n:Nat} (n8:n≤8) (r:Nat→Nat→Bool):∀ (k p:Nat),p<k→Lc n r p≤8 ^ pc n p
 | 0,_,h=>absurd h (Nat.not_lt_zero _)
 | k+1,p,h=>by
  rw [tE]
  have hp:1≤8 ^ pc n p:=Nat.one_le_pow _ _ (by omega)
  by_cases c:dnB n r p=true
  ·rw [if_pos c]
   by_cases d:p=0
   ·rw [if_pos d];exact hp
   ·rw [if_neg d]
    by_cases z:pc n p=0
    ·rw [z]
     refine Nat.le_trans (vE (m:=0) fun i hi=>?_) (by omega)
     by_cases q:p.testBit i=true
     ·have:=aJj hi q;omega
     ·rw [if_neg q];exact Nat.le_refl _
    ·refine Nat.le_trans (vE (m:=8 ^ (pc n p-1)) fun i hi=>?_) ?_
     ·by_cases q:p.testBit i=true
      ·rw [if_pos q]
       have:=aBS q
       have:=aJj hi q
       exact Nat.le_trans (aJR n8 r k _ (by omega)) (Nat.pow_le_pow_right (by omega) (by omega))
      ·rw [if_neg q];exact Nat.zero_le _
     ·refine Nat.le_trans (Nat.mul_le_mul_right _ n8) ?_
      rw [Nat.mul_comm,← Nat.pow_succ]
      exact Nat.pow_le_pow_right (by omega) (by omega)
  ·rw [if_neg c];omega
theorem aAD {n:Nat} (n8:n≤8) (r:Nat→Nat→Bool) (p:Nat):Lc n r p≤16777216:=
 Nat.le_trans (aJR n8 r _ p (Nat.lt_succ_self _)) (Nat.le_trans (Nat.pow_le_pow_right (by omega) (Nat.le_trans (aLq n p) n8)) (by decide))
theorem aDU {f:Nat→Nat}:∀ {n m:Nat},n≤m→sm n f≤sm m f
 | n, 0, h => by obtain rfl : n = 0 := by omega
                 exact Nat.le_refl _
 | n,m+1,h=>by
  by_cases e:n=m+1
  ·rw [e];exact Nat.le_refl _
  ·show sm n f≤sm m f+f m
   have:=aDU (f:=f) (n:=n) (m:=m) (by omega)
   omega
section
variable {o:aP} {n:Nat} {t:Ar 8} {r:Nat→Nat→Bool}
theorem OV.Lc_pos (h:OV o n t r):∀ (k p:Nat),p<k→p<2 ^ n→Dn r p→0<Lc n r p
 | 0,_,hk,_,_=>absurd hk (Nat.not_lt_zero _)
 | k+1,p,hk,hp,hd=>by
  rw [tE,if_pos ((oD h.lt).2 hd)]
  by_cases d:p=0
  ·rw [if_pos d];omega
  ·rw [if_neg d]
   obtain ⟨x,h1,h2,h3⟩:=h.last_of hp d hd
   have:=aBS h2
   refine aGs h1 ?_
   rw [if_pos h2]
   exact h.Lc_pos k _ (by omega) (by omega) h3
theorem aES (lt:∀ a b,r a b=true→a<n∧b<n):Dn r (2 ^ n-1):=fun a b hr _=>by
 rw [Nat.testBit_two_pow_sub_one,decide_eq_true_eq];exact (lt a b hr).1
theorem pH (h:OV o n t r):cI o=some (((Lc n r (2 ^ n-1):Nat):Int),0):=by
 have hN:=h.N;have n8:=h.n8
 have p8:=tX n8
 have pp:=Nat.two_pow_pos n
 have z0:dnB n r 0=true:=(oD h.lt).2 fun a b _ hb=>by rw [Nat.zero_testBit] at hb;cases hb
 obtain ⟨s,e,hs⟩:=aHs n8 h.tb h.lt (f:=jH o) (fun p m=>∀ q:Nat,m.get (q:Int) 0=if q<p then ((Lc n r q:Nat):Int) else if q=0 then 1 else 0) ((GM.mt Int).put 0 1)
  (fun q=>by
   rw [if_neg (Nat.not_lt_zero _)]
   by_cases c:q=0
   ·subst c;rw [if_pos rfl];exact GM.get_put
   ·rw [if_neg c,GM.get_put_ne (by omega)];exact GM.get_mt) (fun p m hp hm=>by
   constructor
   ·intro c
    have small:=aAD n8 r p
    have hsum:p≠0→Lc n r p=sm n fun x=>if p.testBit x=true then Lc n r (p-2 ^ x) else 0:=fun d=>by rw [tE,if_pos c,if_neg d]
    obtain ⟨s,e,h1,h2⟩:=jX (body:=fN o (p:Int)) (fun j s=>s.1=(j:Int)∧∀ q:Nat,s.2.get (q:Int) 0=if q=p then (((if p=0 then 1 else 0)+sm j fun x=>if p.testBit x=true then Lc n r (p-2 ^ x) else 0:Nat):Int) else m.get (q:Int) 0) n (by omega)
     (fun j s hj ⟨hs,hq⟩=>by
      obtain ⟨i,u⟩:=s
      simp only at hs hq
      subst hs
      unfold fN
      simp only [dO,aCn]
      rw [if_pos (by omega),oG _ (by omega),aGR (by omega) (by omega),aA5,iV (x:=(j:Int)+1) (by omega) (by omega)]
      by_cases g:p.testBit j=true
      ·have hs:=aBZ g
       have hd:p≠0:=fun q=>by subst q;rw [Nat.zero_testBit] at g;cases g
       have hlt:=aBS g
       have hle:(sm j fun x=>if p.testBit x=true then Lc n r (p-2 ^ x) else 0)+Lc n r (p-2 ^ j)≤Lc n r p:=by
        have:=aDU (f:=fun x=>if p.testBit x=true then Lc n r (p-2 ^ x) else 0) (n:=j+1) (m:=n) (by omega)
        rw [← hsum hd] at this
        have e:(sm (j+1) fun x=>if p.testBit x=true then Lc n r (p-2 ^ x) else 0)=(sm j fun x=>if p.testBit x=true then Lc n r (p-2 ^ x) else 0)+if p.testBit j=true then Lc n r (p-2 ^ j) else 0:=rfl
        rw [e,if_pos g] at this
        exact this
       have hpj:2 ^ j≤256:=by have:=tX (k:=j) (by omega);exact this
       have hget:u.get ((qD p (2 ^ j):Nat):Int) 0=((Lc n r (p-2 ^ j):Nat):Int):=by
        rw [hq,if_neg (by have:=Nat.two_pow_pos j;omega),hm,if_pos (by have:=Nat.two_pow_pos j;omega),show qD p (2 ^ j)=p-2 ^ j by omega]
       rw [if_pos g,oG _ (by omega),aIR (by omega),zG (by omega) (by omega),hget,hq p,if_pos rfl,if_neg hd,iV (by omega) (by omega)]
       refine ⟨_,rfl,by simp only;omega,fun q=>?_⟩
       simp only
       by_cases eq:q=p
       ·subst eq
        rw [GM.get_put,if_pos rfl]
        show _=((0+((sm j fun x=>if q.testBit x=true then Lc n r (q-2 ^ x) else 0)+if q.testBit j=true then Lc n r (q-2 ^ j) else 0):Nat):Int)
        rw [if_pos g];omega
       ·rw [GM.get_put_ne (by omega),hq,if_neg eq,if_neg eq]
      ·rw [if_neg g]
       refine ⟨_,rfl,by simp only;omega,fun q=>?_⟩
       simp only
       rw [hq]
       have e:(sm (j+1) fun x=>if p.testBit x=true then Lc n r (p-2 ^ x) else 0)=(sm j fun x=>if p.testBit x=true then Lc n r (p-2 ^ x) else 0)+if p.testBit j=true then Lc n r (p-2 ^ j) else 0:=rfl
       rw [e,if_neg g,Nat.add_zero]) (fun s ⟨hs,_⟩=>by
      unfold fN
      simp only [dO]
      rw [if_neg (by omega)]) (0,m) ⟨rfl,fun q=>by
       by_cases eq:q=p
       ·subst eq
        simp only
        rw [hm,if_neg (Nat.lt_irrefl _),if_pos trivial]
        show _=(((if q=0 then 1 else 0)+0:Nat):Int)
        split<;>rfl
       ·rw [if_neg eq]⟩
    unfold jH
    rw [e,iT,pS]
    refine ⟨_,rfl,fun q=>?_⟩
    rw [h2]
    by_cases eq:q=p
    ·subst eq
     rw [if_pos rfl,if_pos (Nat.lt_succ_self _)]
     by_cases d:q=0
     ·subst d
      rw [tE,if_pos c,if_pos rfl,if_pos rfl]
      have:(sm n fun x=>if Nat.testBit 0 x=true then Lc n r (0-2 ^ x) else 0)=0:=by
       rw [nH (g:=fun _=>0) fun i _=>by rw [Nat.zero_testBit,if_neg (by decide)]]
       exact aB1 n
      rw [this]
     ·rw [if_neg d,hsum d,Nat.zero_add]
    ·rw [if_neg eq,hm]
     by_cases l:q<p
     ·rw [if_pos l,if_pos (by omega)]
     ·rw [if_neg l,if_neg (show ¬q<p+1 by omega)]
   ·intro c q
    rw [hm]
    by_cases l:q<p
    ·rw [if_pos l,if_pos (by omega)]
    ·rw [if_neg l]
     by_cases eq:q=p
     ·subst eq
      rw [if_pos (Nat.lt_succ_self _),aEs c]
      by_cases d:q=0
      ·subst d;rw [z0] at c;cases c
      ·rw [if_neg d];rfl
     ·rw [if_neg (show ¬q<p+1 by omega)])
 unfold cI
 rw [h.rd,iT,tT,xU,hN]
 simp only
 rw [e,iT,oG _ (by omega),aIR (by omega),iV (by omega) (by omega),show ((2 ^ n:Nat):Int)-1=((2 ^ n-1:Nat):Int) by omega,hs,if_pos (by omega)]
theorem aCz (h:bI o=some (t,false)):cI o=some (0,70):=by
 unfold cI
 rw [h,iT,tT,aEZ]
end
theorem aHK:jS=some true:=by kernel_rfl
end Go.Proofs.YtlmboonbfhkfnaaDoor
