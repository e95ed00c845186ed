import Derived.Test.YtlmboonbfhkfnaaDoorM3
import Derived.Test.YtlmboonbfhkfnaaDoorM4
import Derived.Test.YtlmboonbfhkfnaaDoorM5
import Derived.KernelRfl
set_option linter.unusedVariables false
set_option linter.unusedSimpArgs false
set_option linter.unusedSectionVars false
namespace Go.Proofs.YtlmboonbfhkfnaaDoor
open Go Go.Eng
set_option maxRecDepth 100000
set_option maxHeartbeats 0
set_option maxRecDepth 100000
theorem pJ {a:Nat} (h:a<4611686018427387904):(BitVec.ofInt IntKind.i64.bits (a:Int)).toNat=a:=by
 show (BitVec.ofInt 64 (a:Int)).toNat=a
 rw [BitVec.toNat_ofInt,Int.emod_eq_of_lt (by omega) (by omega)];rfl
theorem aKu {a b:Nat} (ha:a<4611686018427387904) (hb:b<4611686018427387904):tK .i64 (a:Int) (b:Int)=((a&&&b:Nat):Int):=by
 show IntKind.i64.wrap _=_
 rw [BitVec.toNat_and,pJ ha,pJ hb]
 have:a&&&b≤a:=Nat.and_le_left
 exact aB7 (by omega) (by omega)
theorem aK2 {a b:Nat} (ha:a<4611686018427387904) (hb:b<4611686018427387904):bor .i64 (a:Int) (b:Int)=((a|||b:Nat):Int):=by
 show IntKind.i64.wrap _=_
 rw [BitVec.toNat_or,pJ ha,pJ hb]
 have:a|||b<2 ^ 62:=Nat.or_lt_two_pow (by omega) (by omega)
 exact aB7 (by omega) (by omega)
theorem aCI {n m:Nat} (h:n≤m):(2:Int) ^ n≤2 ^ m:=by
 have:=Nat.pow_le_pow_right (n:=2) (by omega) h
 exact_mod_cast this
theorem two_pow_pos (n:Nat):(0:Int)<2 ^ n:=by
 have:=Nat.two_pow_pos n
 exact_mod_cast this
theorem aKQ {k:Nat} (h:k≤60):aD5 .i64 1 (k:Int)=((2 ^ k:Nat):Int):=by
 show IntKind.i64.wrap (1 * 2 ^ (min (k:Int).toNat 64))=_
 rw [Int.toNat_natCast,Nat.min_eq_left (by omega),Int.one_mul]
 have h1:=aCI h
 have h2:=two_pow_pos k
 rw [show ((2 ^ k:Nat):Int)=(2:Int) ^ k by norm_cast]
 exact aB7 (by omega) (by omega)
theorem aK7 {s i:Nat} (hi:i≤60):vP .i64 (s:Int) (i:Int)=((s >>> i:Nat):Int):=by
 show (s:Int).fdiv (2 ^ (min (i:Int).toNat 64))=_
 rw [Int.toNat_natCast,Nat.min_eq_left (by omega),Int.fdiv_eq_ediv_of_nonneg _ (Int.le_of_lt (two_pow_pos i)),Nat.shiftRight_eq_div_pow]
 norm_cast
theorem aBB (n i:Nat):(n >>> i)&&&1=if n.testBit i then 1 else 0:=by
 rw [Nat.testBit_eq_decide_div_mod_eq,Nat.shiftRight_eq_div_pow,Nat.and_one_is_mod]
 have:=Nat.mod_two_eq_zero_or_one (n / 2 ^ i)
 rcases this with h | h<;>simp [h]
theorem aKc {s i:Nat} (h:s<4611686018427387904) (hi:i≤60):tK .i64 (vP .i64 (s:Int) (i:Int)) 1=if s.testBit i then 1 else 0:=by
 rw [aK7 hi]
 have:s >>> i≤s:=by rw [Nat.shiftRight_eq_div_pow];exact Nat.div_le_self _ _
 rw [show (1:Int)=((1:Nat):Int) from rfl,aKu (by omega) (by omega),aBB]
 split<;>rfl
theorem aJ8 {s i:Nat} (h:s<4611686018427387904) (hi:i≤60):(tK .i64 (vP .i64 (s:Int) (i:Int)) 1==1)=s.testBit i:=by
 rw [aKc h hi];cases s.testBit i<;>rfl
theorem aDs (k i:Nat):(2 ^ k).testBit i=decide (i=k):=by
 rw [Nat.testBit_two_pow]
 by_cases h:k=i
 ·rw [decide_eq_true h,decide_eq_true h.symm]
 ·rw [decide_eq_false h,decide_eq_false (fun q=>h q.symm)]
def TB (t:Ar 8) (r:Nat→Nat→Bool):Prop:=∀ b:Nat,b<8→∃ m:Nat,t.at1 (b:Int)=(m:Int)∧m<256∧∀ a,m.testBit a=r a b
theorem aDU:TB (Ar.zero 8) fun _ _=>false:=fun b hb=>⟨0,by
 show (List.replicate 8 (0:Int)).getD (b:Int).toNat 0=0
 rw [Int.toNat_natCast,List.getD_eq_getElem?_getD,List.getElem?_replicate,if_pos hb];rfl,by omega,fun a=>Nat.zero_testBit a⟩
theorem aGZ (t:Ar 8) {b c:Nat} (hb:b<8) (v:Int):(t.st1 (b:Int) v).at1 (c:Int)=if c=b then v else t.at1 (c:Int):=by
 show (t.l.set (b:Int).toNat v).getD (c:Int).toNat 0=_
 rw [Int.toNat_natCast,Int.toNat_natCast,List.getD_eq_getElem?_getD,List.getElem?_set]
 by_cases h:c=b
 ·subst h;rw [if_pos rfl,if_pos rfl,if_pos (by rw [t.h];exact hb)];rfl
 ·rw [if_neg (fun q=>h q.symm),if_neg h]
  show _=t.l.getD (c:Int).toNat 0
  rw [Int.toNat_natCast,List.getD_eq_getElem?_getD]
theorem aIc {t:Ar 8} {r:Nat→Nat→Bool} (h:TB t r) {b:Nat} (hb:b<8) {m:Nat} (hm:m<256):TB (t.st1 (b:Int) (m:Int)) fun a c=>if c=b then m.testBit a else r a c:=by
 intro c hc
 rw [aGZ t hb]
 by_cases e:c=b
 ·rw [if_pos e];exact ⟨m,rfl,hm,fun a=>(if_pos e).symm⟩
 ·rw [if_neg e]
  obtain ⟨q,h1,h2,h3⟩:=h c hc
  exact ⟨q,h1,h2,fun a=>(h3 a).trans (if_neg e).symm⟩
theorem qX {t:Ar 8} {r r':Nat→Nat→Bool} (h:TB t r) (e:∀ a b,b<8→r a b=r' a b):TB t r':=fun b hb=>by
 obtain ⟨q,h1,h2,h3⟩:=h b hb
 exact ⟨q,h1,h2,fun a=>by rw [h3,e a b hb]⟩
theorem aGl {t:Ar 8} {r:Nat→Nat→Bool} (h:TB t r) {b:Nat} (hb:b<8) {m:Nat} (hm:m<256):TB (t.st1 (b:Int) (bor .i64 (t.at1 (b:Int)) (m:Int))) fun a c=>r a c||(decide (c=b)&&m.testBit a):=by
 obtain ⟨q,h1,h2,h3⟩:=h b hb
 rw [h1,aK2 (by omega) (by omega)]
 refine qX (aIc h hb (m:=q|||m) (Nat.or_lt_two_pow (n:=8) h2 hm)) fun a c hc=>?_
 by_cases e:c=b
 ·subst e;rw [if_pos rfl,Nat.testBit_or,h3,decide_eq_true rfl,Bool.true_and]
 ·rw [if_neg e,decide_eq_false e,Bool.false_and,Bool.or_false]
theorem aAW {t:Ar 8} {r:Nat→Nat→Bool} (h:TB t r) {a b:Nat} (hb:b<8) (ha:a≤60):(tK .i64 (vP .i64 (t.at1 (b:Int)) (a:Int)) 1==1)=r a b:=by
 obtain ⟨q,h1,h2,h3⟩:=h b hb
 rw [h1,aJ8 (by omega) ha,h3]
theorem jJ {α:Type} [Inhabited α] {l:List α} {k:Nat} (h:k<l.length):l.getD k default=l[k]:=by simp [List.getD_eq_getElem?_getD,h]
theorem gW {α:Type} [Inhabited α] {l:List α} {k:Nat} (h:k<l.length):l.getD k default∈l:=by rw [jJ h];exact List.getElem_mem h
theorem qV {α:Type} [Inhabited α] {l:List α} {k:Nat} (h:k<l.length):l.take (k+1)=l.take k++[l.getD k default]:=by
 rw [List.take_succ_eq_append_getElem h,jJ h]
theorem xK {α:Type} [Inhabited α] {l:List α} {x:α} (h:x∈l):∃ k,k<l.length∧l.getD k default=x:=by
 obtain ⟨k,hk,e⟩:=List.getElem_of_mem h
 exact ⟨k,hk,by rw [jJ hk,e]⟩
def Rc (P:List (Int×Int)) (a b:Nat):Prop:=∀ S:Nat→Nat→Prop,(∀ x y:Nat,((x:Int),(y:Int))∈P→S x y)→(∀ x y z,S x y→S y z→S x z)→S a b
theorem aGs {P:List (Int×Int)} {a b:Nat} (h:((a:Int),(b:Int))∈P):Rc P a b:=fun _ h1 _=>h1 a b h
theorem aHc {P:List (Int×Int)} {a b c:Nat} (h:Rc P a b) (g:Rc P b c):Rc P a c:=fun S h1 h2=>h2 a b c (h S h1 h2) (g S h1 h2)
theorem aGR {P Q:List (Int×Int)} (h:∀ x y:Nat,((x:Int),(y:Int))∈P→Rc Q x y) {a b:Nat} (g:Rc P a b):Rc Q a b:=g (Rc Q) h fun _ _ _=>aHc
def oT (N:Int) (p:Int×Int):Prop:=(0≤p.1∧p.1<N)∧(0≤p.2∧p.2<N)∧p.1≠p.2
instance (N:Int) (p:Int×Int):Decidable (oT N p):=by unfold oT;infer_instance
structure Fm (o:aP):Prop where
 N:0≤o.N∧o.N≤8
 len:o.Pairs.length≤28
 el:∀ p∈o.Pairs,oT o.N p
theorem aCP (p:Int×Int) (o:aP):eK p o=some (!decide (oT o.N p)):=by
 have key:∀ v:Bool,(v=true↔¬oT o.N p)→some v=some (!decide (oT o.N p)):=fun v hv=>by
  congr 1
  by_cases c:oT o.N p
  ·rw [decide_eq_true c];exact Bool.eq_false_iff.2 fun q=>hv.1 q c
  ·rw [decide_eq_false c];exact hv.2 c
 unfold eK
 simp only [aEv,eG,aJs,aH0]
 by_cases c1:(if p.2<p.1 then p.2 else p.1)<0
 ·rw [if_pos c1]
  exact key _ ⟨fun _ h=>by unfold oT at h;split at c1<;>omega,fun _=>rfl⟩
 rw [if_neg c1]
 by_cases c2:(if p.2>p.1 then p.2 else p.1)≥o.N
 ·rw [if_pos c2]
  exact key _ ⟨fun _ h=>by unfold oT at h;split at c2<;>omega,fun _=>rfl⟩
 rw [if_neg c2]
 refine key _ ?_
 rw [beq_iff_eq];unfold oT
 split at c1<;>split at c2<;>omega
theorem aAL (l:List (Int×Int)) (o:aP) (hl:l.length≤1048576):∃ i,cH l o=some i∧(i≥0↔∃ p∈l,¬oT o.N p):=by
 obtain ⟨y,e,hy⟩:=nU (body:=cR l o) (fun s=>∃ k:Nat,s=(k:Int)∧k≤l.length∧∀ j,j<k→oT o.N (l.getD j default)) (fun s=>l.length-s.toNat)
  (fun y=>match y with | .inl _=>∀ p∈l,oT o.N p | .inr r=>r≥0∧∃ p∈l,¬oT o.N p)
  (fun s ⟨k,hs,hk,hj⟩=>by
   subst hs
   unfold cR
   simp only [eG]
   by_cases c:k<l.length
   ·rw [if_pos (by omega),aCU c,aCP,iL,sX,eG]
    by_cases q:oT o.N (l.getD k default)
    ·rw [if_pos q,kX (by omega) (by omega)]
     exact .inl ⟨_,rfl,⟨k+1,by omega,c,fun j h=>by
      by_cases e:j<k
      ·exact hj j e
      ·rw [show j=k by omega];exact q⟩,by omega⟩
    ·rw [if_neg q]
     exact .inr (.inr ⟨_,rfl,by omega,_,gW c,q⟩)
   ·rw [if_neg (by omega)]
    refine .inr (.inl ⟨_,rfl,fun p hp=>?_⟩)
    obtain ⟨j,h1,rfl⟩:=xK hp
    exact hj j (by omega)) 0 ⟨0,rfl,Nat.zero_le _,fun j h=>absurd h (Nat.not_lt_zero _)⟩ (by omega)
 unfold cH
 rw [e,iL]
 cases y with
 | inl s=>
  rw [pD]
  exact ⟨_,rfl,⟨fun h=>absurd h (by omega),fun ⟨p,h1,h2⟩=>absurd (hy p h1) h2⟩⟩
 | inr r=>
  rw [aAQ]
  exact ⟨_,rfl,⟨fun _=>hy.2,fun _=>hy.1⟩⟩
theorem rI (o:aP) (hl:o.Pairs.length≤9223372036854775807):∃ v,cD o=some v∧(v=true↔Fm o):=by
 unfold cD
 simp only [aEv,eG]
 by_cases c1:o.N<0
 ·rw [if_pos c1,aBk];exact ⟨_,rfl,⟨fun h=>(by cases h),fun h=>by have:=h.N;omega⟩⟩
 rw [if_neg c1]
 by_cases c2:o.N>8
 ·rw [if_pos c2,aBk];exact ⟨_,rfl,⟨fun h=>(by cases h),fun h=>by have:=h.N;omega⟩⟩
 rw [if_neg c2]
 by_cases c3:(o.Pairs.length:Int)>28
 ·rw [if_pos c3];exact ⟨_,rfl,⟨fun h=>(by cases h),fun h=>by have:=h.len;omega⟩⟩
 rw [if_neg c3]
 obtain ⟨i,e,hi⟩:=aAL o.Pairs o (by omega)
 unfold cJ
 rw [e,iL,iL]
 refine ⟨_,rfl,?_⟩
 simp only [Bool.not_eq_true',decide_eq_false_iff_not]
 constructor
 ·intro h
  exact ⟨by omega,by omega,fun p hp=>Decidable.byContradiction fun q=>h (hi.2 ⟨p,hp,q⟩)⟩
 ·intro h q
  obtain ⟨p,h1,h2⟩:=hi.1 q
  exact h2 (h.el p h1)
theorem aDn {o:aP} (h:Fm o):∃ t v r,fT o=some (t,v)∧TB t r∧(∀ a b:Nat,b<8→(r a b=true↔Rc o.Pairs a b))∧(v=true↔∀ a:Nat,¬Rc o.Pairs a a):=by
 obtain ⟨n,hn⟩:∃ n:Nat,o.N=(n:Int):=⟨o.N.toNat,by have:=h.N;omega⟩
 have n8:n≤8:=by have:=h.N;omega
 have hel:∀ k,k<o.Pairs.length→∃ a b:Nat,o.Pairs.getD k default=((a:Int),(b:Int))∧a<n∧b<n:=fun k hk=>by
  obtain ⟨h1,h2,_⟩:=h.el _ (gW hk)
  exact ⟨_,_,Prod.ext (Int.toNat_of_nonneg h1.1).symm (Int.toNat_of_nonneg h2.1).symm,by omega,by omega⟩
 have hin:∀ a b,Rc o.Pairs a b→a<n∧b<n:=fun a b g=>g (fun a b=>a<n∧b<n) (fun x y hxy=>by
  obtain ⟨h1,h2,_⟩:=h.el _ hxy
  exact ⟨by simp only at h1;omega,by simp only at h2;omega⟩) (fun x y z g1 g2=>⟨g1.1,g2.2⟩)
 obtain ⟨s1,e1,i1,r0,T0,H0⟩:=yI (body:=eX o) (fun k s=>s.1=(k:Int)∧∃ r,TB s.2 r∧∀ a b:Nat,b<8→(r a b=true↔((a:Int),(b:Int))∈o.Pairs.take k)) o.Pairs.length (by have:=h.len;omega)
  (fun k s hk ⟨hs,r,T,H⟩=>by
   obtain ⟨i,t⟩:=s
   simp only at hs T
   subst hs
   obtain ⟨a,b,he,ha,hb⟩:=hel k hk
   unfold eX
   simp only [eG]
   have:=h.len
   rw [if_pos (by omega),aCU hk,he,rJ _ (by omega),rJ _ (by omega),rJ _ (by omega),kX (by omega) (by omega)]
   have T':=aGl T (b:=b) (by omega) (m:=2 ^ a) (Nat.pow_lt_pow_right (n:=8) (by omega) (by omega))
   rw [← aKQ (by omega)] at T'
   refine ⟨_,rfl,by simp only;omega,_,T',?_⟩
   ·intro x y hy
    rw [qV hk,he,List.mem_append,List.mem_singleton,Bool.or_eq_true,H x y hy,aDs,Bool.and_eq_true,decide_eq_true_eq,decide_eq_true_eq]
    refine or_congr_right ?_
    rw [Prod.mk.injEq]
    omega) (fun s ⟨hs,_⟩=>by
   unfold eX
   simp only [eG]
   rw [if_neg (by omega)]) (0,Ar.zero 8) ⟨rfl,_,aDU,fun a b _=>by simp⟩
 rw [List.take_length] at H0
 obtain ⟨s2,e2,i2,r,T2,L2,S2,C2⟩:=yI (body:=fC o) (fun k s=>s.1=(k:Int)∧∃ r,TB s.2 r∧(∀ a b:Nat,b<8→r0 a b=true→r a b=true)∧(∀ a b:Nat,b<8→r a b=true→Rc o.Pairs a b)∧∀ j a b:Nat,j<k→b<8→r a j=true→r j b=true→r a b=true) n (by omega)
  (fun k s hk ⟨hs,r,T,L,S,C⟩=>by
   obtain ⟨i,t⟩:=s
   simp only at hs T
   subst hs
   obtain ⟨s3,e3,i3,T3⟩:=yI (body:=fA o ((k:Int),t)) (fun m s=>s.1=(m:Int)∧TB s.2 fun a b=>r a b||(decide (b<m)&&r a k&&r k b)) n (by omega)
    (fun m s hm ⟨hs,T⟩=>by
     obtain ⟨i,u⟩:=s
     simp only at hs T
     subst hs
     unfold fA
     simp only [eG,aEv]
     rw [if_pos (by omega),rJ _ (by omega),rJ _ (by omega),aAW T (by omega) (by omega),wC,kX (by omega) (by omega)]
     simp only [Nat.lt_irrefl,decide_false,Bool.false_and,Bool.or_false]
     by_cases c:r k m=true
     ·rw [if_pos c,rJ _ (by omega),rJ _ (by omega),rJ _ (by omega)]
      refine ⟨_,rfl,by simp only;omega,?_⟩
      obtain ⟨q,h1,h2,h3⟩:=T k (by omega)
      simp only
      rw [h1]
      refine qX (aGl T (by omega) h2) fun a b hb=>?_
      have h4:q.testBit a=r a k:=by
       rw [h3];show (r a k||decide (k<m)&&r a k&&r k k)=r a k;cases r a k<;>simp
      rw [h4]
      by_cases e:b=m
      ·subst e
       rw [c,decide_eq_true rfl,Bool.true_and,decide_eq_false (Nat.lt_irrefl _),decide_eq_true (Nat.lt_succ_self _)]
       cases r a b<;>cases r a k<;>simp
      ·rw [decide_eq_false e,Bool.false_and,Bool.or_false]
       by_cases g:b<m
       ·rw [decide_eq_true g,decide_eq_true (by omega)]
       ·rw [decide_eq_false g,decide_eq_false (by omega)]
     ·rw [if_neg c]
      refine ⟨_,rfl,by simp only;omega,qX T fun a b hb=>?_⟩
      by_cases e:b=m
      ·subst e
       rw [Bool.eq_false_iff.2 c,Bool.and_false,Bool.and_false]
      ·by_cases g:b<m
       ·rw [decide_eq_true g,decide_eq_true (by omega)]
       ·rw [decide_eq_false g,decide_eq_false (by omega)]) (fun s ⟨hs,_⟩=>by
     unfold fA
     simp only [eG]
     rw [if_neg (by omega)]) (0,t) ⟨rfl,qX T fun a b _=>by simp⟩
   unfold fC
   simp only [eG]
   rw [if_pos (by omega),e3,iL,pD,kX (by omega) (by omega)]
   refine ⟨_,rfl,by simp only;omega,_,T3,?_,?_,?_⟩
   ·intro a b hb g
    rw [L a b hb g];rfl
   ·intro a b hb g
    rw [Bool.or_eq_true,Bool.and_eq_true,Bool.and_eq_true] at g
    rcases g with g | ⟨⟨_,g1⟩,g2⟩
    ·exact S a b hb g
    ·exact aHc (S a k (by omega) g1) (S k b hb g2)
   ·intro j a b hj hb g1 g2
    have key:∀ x y,y<8→((r x y||(decide (y<n)&&r x k&&r k y))=true↔r x y=true∨r x k=true∧r k y=true):=fun x y hy=>by
     rw [Bool.or_eq_true,Bool.and_eq_true,Bool.and_eq_true,decide_eq_true_eq]
     constructor
     ·rintro (g | ⟨⟨_,g1⟩,g2⟩)
      ·exact .inl g
      ·exact .inr ⟨g1,g2⟩
     ·rintro (g | ⟨g1,g2⟩)
      ·exact .inl g
      ·exact .inr ⟨⟨(hin _ _ (S k y hy g2)).2,g1⟩,g2⟩
    rw [key _ _ hb]
    rw [key _ _ (by omega)] at g1
    rw [key _ _ hb] at g2
    by_cases e:j=k
    ·subst e
     refine .inr ⟨?_,?_⟩
     ·rcases g1 with g | ⟨g,_⟩<;>exact g
     ·rcases g2 with g | ⟨_,g⟩<;>exact g
    ·have hj':j<k:=by omega
     rcases g1 with g1 | ⟨g1,g1'⟩
     ·rcases g2 with g2 | ⟨g2,g2'⟩
      ·exact .inl (C j a b hj' hb g1 g2)
      ·exact .inr ⟨C j a k hj' (by omega) g1 g2,g2'⟩
     ·rcases g2 with g2 | ⟨g2,g2'⟩
      ·exact .inr ⟨g1,C j k b hj' hb g1' g2⟩
      ·exact .inr ⟨g1,g2'⟩) (fun s ⟨hs,_⟩=>by
   unfold fC
   simp only [eG]
   rw [if_neg (by omega)]) (0,s1.2) ⟨rfl,r0,T0,fun _ _ _ g=>g,fun a b hb g=>aGs ((H0 a b hb).1 g),fun j a b hj=>absurd hj (Nat.not_lt_zero _)⟩
 have full:∀ a b:Nat,b<8→(r a b=true↔Rc o.Pairs a b):=fun a b hb=>⟨S2 a b hb,fun g=>by
  refine (g (fun a b=>b<n∧r a b=true) (fun x y hxy=>?_) (fun x y z g1 g2=>?_)).2
  ·have:=hin _ _ (aGs hxy)
   exact ⟨this.2,L2 x y (by omega) ((H0 x y (by omega)).2 hxy)⟩
  ·exact ⟨g2.1,C2 y x z g1.1 (by omega) g1.2 g2.2⟩⟩
 obtain ⟨y,e4,hy⟩:=nU (body:=fY o s2) (fun s=>∃ k:Nat,s.1=(k:Int)∧k≤n∧∀ j,j<k→r j j=false) (fun s=>n-s.1.toNat)
  (fun y=>match y with | .inl _=>∀ j,j<n→r j j=false | .inr q=>q=(s2.2,false)∧∃ j,j<n∧r j j=true)
  (fun s ⟨k,hs,hk,hj⟩=>by
   obtain ⟨i,t⟩:=s
   simp only at hs
   subst hs
   unfold fY
   simp only [eG]
   by_cases c:k<n
   ·rw [if_pos (by omega),rJ _ (by omega),rJ _ (by omega),aAW T2 (by omega) (by omega),wC]
    by_cases q:r k k=true
    ·rw [if_pos q];exact .inr (.inr ⟨_,rfl,rfl,k,c,q⟩)
    ·rw [if_neg q,kX (by omega) (by omega)]
     exact .inl ⟨_,rfl,⟨k+1,rfl,c,fun j h=>by
      by_cases e:j<k
      ·exact hj j e
      ·rw [show j=k by omega];exact Bool.eq_false_iff.2 q⟩,by simp only;omega⟩
   ·rw [if_neg (by omega)]
    exact .inr (.inl ⟨_,rfl,fun j h=>hj j (by omega)⟩)) (0,Ar.zero 8) ⟨0,rfl,Nat.zero_le _,fun j h=>absurd h (Nat.not_lt_zero _)⟩ (by simp only;omega)
 unfold fT
 rw [e1,iL,pD,e2,iL,pD,e4,iL]
 cases y with
 | inl s=>
  rw [pD]
  refine ⟨_,_,r,rfl,T2,full,⟨fun _ a g=>?_,fun _=>rfl⟩⟩
  have hl:=(hin _ _ g).1
  have:=(full a a (by omega)).2 g
  rw [hy a hl] at this;cases this
 | inr q=>
  obtain ⟨rfl,j,hj,hjj⟩:=hy
  rw [aAQ]
  refine ⟨_,_,r,rfl,T2,full,⟨fun g=>(by cases g),fun g=>absurd ((full j j (by omega)).1 hjj) (g j)⟩⟩
structure OV (o:aP) (n:Nat) (t:Ar 8) (r:Nat→Nat→Bool):Prop where
 fm:Fm o
 N:o.N=(n:Int)
 n8:n≤8
 rd:bT o=some (t,true)
 tb:TB t r
 lt:∀ a b,r a b=true→a<n∧b<n
 ir:∀ a,r a a=false
 tr:∀ a b c,r a b=true→r b c=true→r a c=true
 rc:∀ a b,r a b=true↔Rc o.Pairs a b
def Vd (o:aP):Prop:=Fm o∧∀ a:Nat,¬Rc o.Pairs a a
theorem aDJ (o:aP) (hl:o.Pairs.length≤9223372036854775807):(Vd o∧∃ n t r,OV o n t r)∨(¬Vd o∧∃ t,bT o=some (t,false)):=by
 obtain ⟨v,e,hv⟩:=rI o hl
 by_cases c:Fm o
 ·obtain ⟨t,w,r,e2,T,R,hw⟩:=aDn c
  have er:bT o=some (t,w):=by
   unfold bT
   rw [e,iL,hv.2 c,sX,aBk,e2,iL]
  by_cases g:∀ a:Nat,¬Rc o.Pairs a a
  ·obtain ⟨n,hn⟩:∃ n:Nat,o.N=(n:Int):=⟨o.N.toNat,by have:=c.N;omega⟩
   have n8:n≤8:=by have:=c.N;omega
   have hin:∀ a b,Rc o.Pairs a b→a<n∧b<n:=fun a b g=>g (fun a b=>a<n∧b<n) (fun x y hxy=>by
    obtain ⟨h1,h2,_⟩:=c.el _ hxy
    exact ⟨by simp only at h1;omega,by simp only at h2;omega⟩) (fun x y z g1 g2=>⟨g1.1,g2.2⟩)
   have R':∀ a b,(decide (b<8)&&r a b)=true↔Rc o.Pairs a b:=fun a b=>by
    rw [Bool.and_eq_true,decide_eq_true_eq]
    exact ⟨fun ⟨h1,h2⟩=>(R a b h1).1 h2,fun h=>by
     have:=hin a b h
     exact ⟨by omega,(R a b (by omega)).2 h⟩⟩
   refine .inl ⟨⟨c,g⟩,n,t,fun a b=>decide (b<8)&&r a b,c,hn,n8,by rw [er,hw.2 g],qX T fun a b hb=>by rw [decide_eq_true hb,Bool.true_and],fun a b h=>hin _ _ ((R' a b).1 h),fun a=>Bool.eq_false_iff.2 fun h=>g a ((R' a a).1 h),fun a b d h1 h2=>(R' a d).2 (aHc ((R' a b).1 h1) ((R' b d).1 h2)),R'⟩
  ·refine .inr ⟨fun h=>g h.2,t,?_⟩
   rw [er,Bool.eq_false_iff.2 fun q=>g (hw.1 q)]
 ·refine .inr ⟨fun h=>c h.1,Ar.zero 8,?_⟩
  unfold bT
  rw [e,iL,Bool.eq_false_iff.2 fun q=>c (hv.1 q),sX,aAR]
theorem aDv {o:aP} {n:Nat} {t:Ar 8} {r:Nat→Nat→Bool} (h:OV o n t r) (a b:Int):bU o a b=some (decide (0≤a∧0≤b)&&r a.toNat b.toNat):=by
 have hN:=h.N;have h8:=h.n8
 unfold bU
 rw [h.rd,iL]
 simp only [aEv,aBk,eG,aJs,aH0]
 by_cases c:(0≤a∧0≤b)∧a<n∧b<n
 ·rw [if_pos (by split<;>omega),if_pos (by split<;>omega),rJ _ (by omega),rJ _ (by omega),decide_eq_true c.1,Bool.true_and]
  obtain ⟨x,rfl⟩:∃ x:Nat,a=(x:Int):=⟨a.toNat,by omega⟩
  obtain ⟨y,rfl⟩:∃ y:Nat,b=(y:Int):=⟨b.toNat,by omega⟩
  rw [aAW h.tb (by omega) (by omega),Int.toNat_natCast,Int.toNat_natCast]
 ·have e:(decide (0≤a∧0≤b)&&r a.toNat b.toNat)=false:=Bool.eq_false_iff.2 fun g=>by
   rw [Bool.and_eq_true,decide_eq_true_eq] at g
   have:=h.lt _ _ g.2
   omega
  rw [e]
  by_cases d1:(if b<a then b else a)≥0
  ·rw [if_pos d1,if_neg fun d2=>c (by split at d1<;>split at d2<;>omega)]
  ·rw [if_neg d1]
theorem aEH {o:aP} {n:Nat} {t:Ar 8} {r:Nat→Nat→Bool} (h:OV o n t r) (a b:Nat):bU o (a:Int) (b:Int)=some (r a b):=by
 rw [aDv h,decide_eq_true (by omega),Bool.true_and,Int.toNat_natCast,Int.toNat_natCast]
theorem aD6 {o:aP} {t:Ar 8} (h:bT o=some (t,false)) (a b:Int):bU o a b=some false:=by
 unfold bU
 rw [h,iL]
 simp only [aEv,aAR]
def cv (n:Nat) (r:Nat→Nat→Bool) (a b:Nat):Bool:=r a b && !(List.range n).any fun k=>r a k&&r k b
theorem vM {R:Type} {body:Int→Option (Ct Int R)} (a N:Nat) (ha:a≤N) (hN:N≤9223372036854775807) (bad:Nat→Bool) (v:Nat→R)
  (step:∀ k,a≤k→k<N→(∀ j,a≤j→j<k→bad j=false)→body (k:Int)=some (if bad k=true then .rt (v k) else .nx ((k:Int)+1))) (stop:body (N:Int)=some (.bk (N:Int))) :
  ((∀ k,a≤k→k<N→bad k=false)∧lp body FU (a:Int)=some (.inl (N:Int)))∨∃ k,a≤k∧k<N∧bad k=true∧(∀ j,a≤j→j<k→bad j=false)∧lp body FU (a:Int)=some (.inr (v k)):=by
 obtain ⟨y,e,hy⟩:=nU (body:=body) (fun s=>∃ k:Nat,s=(k:Int)∧a≤k∧k≤N∧∀ j,a≤j→j<k→bad j=false) (fun s=>N-s.toNat)
  (fun y=>((∀ k,a≤k→k<N→bad k=false)∧y=.inl (N:Int))∨∃ k,a≤k∧k<N∧bad k=true∧(∀ j,a≤j→j<k→bad j=false)∧y=.inr (v k))
  (fun s ⟨k,hs,h1,h2,h3⟩=>by
   subst hs
   by_cases c:k<N
   ·rw [step k h1 c h3]
    by_cases q:bad k=true
    ·rw [if_pos q];exact .inr (.inr ⟨_,rfl,.inr ⟨k,h1,c,q,h3,rfl⟩⟩)
    ·rw [if_neg q]
     exact .inl ⟨_,rfl,⟨k+1,by omega,by omega,c,fun j g1 g2=>by
      by_cases e:j<k
      ·exact h3 j g1 e
      ·rw [show j=k by omega];exact Bool.eq_false_iff.2 q⟩,by omega⟩
   ·obtain rfl:k=N:=by omega
    rw [stop]
    exact .inr (.inl ⟨_,rfl,.inl ⟨h3,rfl⟩⟩)) (a:Int) ⟨a,rfl,Nat.le_refl _,ha,fun j g1 g2=>absurd g2 (by omega)⟩ (by omega)
 rw [e]
 rcases hy with ⟨h,rfl⟩ | ⟨k,h1,h2,h3,h4,rfl⟩
 ·exact .inl ⟨h,rfl⟩
 ·exact .inr ⟨k,h1,h2,h3,h4,rfl⟩
theorem aD0 {a b:aP} (h1:a.N=b.N) (h2:a.Pairs=b.Pairs):a=b:=by cases a;cases b;simp_all
instance:DecidableEq aP:=fun a b=>if h:a.N=b.N∧a.Pairs=b.Pairs then .isTrue (aD0 h.1 h.2) else .isFalse fun e=>h (by subst e;exact ⟨rfl,rfl⟩)
theorem aCk (c n:Int) (hc:okI c) (hn:0<n):cE c n=some (vT c n):=by
 unfold cE
 simp only [aEv,wC,decide_eq_true_eq]
 rw [rJ _ (by simpa using Int.ne_of_gt hn),rJ _ (by simpa using Int.ne_of_gt hn)]
 rw [← aEC c n hc.1 hc.2 hn]
 split<;>rfl
theorem zG (c n:Int) (hc:okI c) (hn:0<n):fG c n=some (vT c n):=aCk c n hc hn
theorem aC1 (c:Int) {n:Nat} (hc:okI c) (hn:0<n):∃ k:Nat,k<n∧cE c (n:Int)=some (k:Int):=by
 obtain ⟨h1,h2⟩:=tR c (n:=(n:Int)) (by omega)
 exact ⟨(vT c n).toNat,by omega,by rw [aCk c n hc (by omega),Int.toNat_of_nonneg h1]⟩
theorem aDI {α:Type} [Inhabited α] {ok:α→Prop} {l:List α} (h:okL ok l) {k:Nat} (hk:k<l.length):ok (l.getD k default):=h.1 _ (gW hk)
def oK (l:List Nat):List Int:=l.map fun (x:Nat)=>(x:Int)
theorem fI (l:List Nat):(oK l).length=l.length:=List.length_map _
theorem aCg {l:List Nat} {x:Nat}:(x:Int)∈oK l↔x∈l:=by
 unfold oK
 rw [List.mem_map]
 exact ⟨fun ⟨y,h,e⟩=>by rwa [← show y=x by omega],fun h=>⟨x,h,rfl⟩⟩
theorem aE0 (l m:List Nat):oK (l++m)=oK l++oK m:=List.map_append
theorem jU {l:List Nat} {k:Nat} (h:k<l.length):(oK l).getD k default=((l.getD k default:Nat):Int):=by
 rw [jJ (by rw [fI];exact h),jJ h];simp [oK]
theorem aGQ {a b n:Int} (ha:0≤a∧a<n) (hb:0≤b∧b<n-1):let t:=Int.tmod (a+1+b) n;(0≤t∧t<n)∧a≠t:=by
 have hn:0<n:=by omega
 simp only
 rw [Int.tmod_eq_emod_of_nonneg (by omega)]
 by_cases q:a+1+b<n
 ·rw [Int.emod_eq_of_lt (by omega) q];omega
 ·have:(a+1+b) % n=a+1+b-n:=by
   rw [← Int.sub_emod_right,Int.emod_eq_of_lt (by omega) (by omega)]
  rw [this];omega
theorem aEX (a0:Int) (x:List (Int×Int)) (o0:okI a0) (o1:okL aDw x):∃ o,fL a0 x=some o∧Fm o∧o.Pairs.length≤20:=by
 unfold fL
 obtain ⟨p1,p2⟩:=tR a0 (n:=9) (by omega)
 rw [zG a0 9 o0 (by omega),iL]
 generalize vT a0 9=b0 at p1 p2 ⊢
 have hx:=o1.2
 obtain ⟨y,e,hy⟩:=nU (body:=gY x) (fun s=>∃ k:Nat,s.1=(k:Int)∧k≤20∧k≤x.length∧s.2.N=b0∧s.2.Pairs.length≤k∧∀ p∈s.2.Pairs,oT b0 p) (fun s=>20-s.1.toNat)
  (fun y=>match y with | .inl s=>s.2.N=b0∧s.2.Pairs.length≤20∧∀ p∈s.2.Pairs,oT b0 p | .inr _=>False)
  (fun s ⟨k,hs,hk,hkx,hN,hl,hp⟩=>by
   obtain ⟨i,N,E⟩:=s
   simp only at hs hN hl hp
   subst hs hN
   unfold gY
   simp only [aEv,eG]
   by_cases c:k<x.length∧k<20∧N>1
   ·obtain ⟨c1,c2,c3⟩:=c
    rw [if_pos (by omega),if_pos (by omega),if_pos c3]
    obtain ⟨o1,o2⟩:=aDI o1 c1
    obtain ⟨q1,q2⟩:=tR (x.getD k default).1 (n:=N) (by omega)
    obtain ⟨q3,q4⟩:=tR (x.getD k default).2 (n:=N-1) (by omega)
    simp only [aCU c1]
    rw [zG _ _ o1 (by omega),iL,kX (by omega) (by omega),zG _ _ o2 (by omega),iL,rJ _ (by omega),aHf,aIH (by simp only [List.length_cons,List.length_nil];omega),kX (by omega) (by omega)]
    generalize vT (x.getD k default).1 N=u at *
    generalize vT (x.getD k default).2 (N-1)=v at *
    obtain ⟨t1,t2⟩:=aGQ (a:=u) (b:=v) (n:=N) ⟨q1,q2⟩ ⟨q3,q4⟩
    rw [kX (x:=u+1) (by omega) (by omega),kX (x:=u+1+v) (by omega) (by omega)]
    refine .inl ⟨_,rfl,⟨k+1,by simp only;omega,by omega,by omega,rfl,by simp only [List.length_append,List.length_cons,List.length_nil];omega,fun p hp'=>?_⟩,by simp only;omega⟩
    rcases List.mem_append.1 hp' with hp' | hp'
    ·exact hp p hp'
    ·rw [List.mem_singleton.1 hp'];exact ⟨⟨q1,q2⟩,t1,t2⟩
   ·refine .inr (.inl ⟨((k:Int),⟨N,E⟩),?_,rfl,Nat.le_trans hl hk,hp⟩)
    by_cases c1:(k:Int)<(x.length:Int)
    ·by_cases c2:(k:Int)<20
     ·rw [if_pos c1,if_pos c2,if_neg fun c3=>c ⟨by omega,by omega,c3⟩]
     ·rw [if_pos c1,if_neg c2,aAR]
    ·rw [if_neg c1,aAR]) (0,⟨b0,[]⟩) ⟨0,rfl,by omega,by omega,rfl,by simp,by simp⟩ (by simp only;omega)
 rw [e,iL]
 cases y with
 | inl s=>
  obtain ⟨h1,h2,h3⟩:=hy
  rw [pD]
  exact ⟨_,rfl,⟨by omega,by omega,fun p hp=>by rw [h1];exact h3 p hp⟩,h2⟩
 | inr s=>exact hy.elim
theorem aAZ:∀ {l m:List Nat},l.Nodup→(∀ x,x∈l→x∈m)→l.length≤m.length
 | [],_,_,_=>Nat.zero_le _
 | x::l,m,hd,hs=>by
  obtain ⟨h1,h2⟩:=List.nodup_cons.1 hd
  have hx:=hs x (List.mem_cons_self ..)
  have:=aAZ (m:=m.erase x) h2 fun y hy=>(List.mem_erase_of_ne (fun (e:y=x)=>h1 (e ▸ hy))).2 (hs y (List.mem_cons_of_mem _ hy))
  rw [List.length_erase_of_mem hx] at this
  have:=List.length_pos_of_mem hx
  rw [List.length_cons];omega
def Ed (P:List (Int×Int)) (a b:Nat):Prop:=((a:Int),(b:Int))∈P
instance (P:List (Int×Int)) (a b:Nat):Decidable (Ed P a b):=by unfold Ed;infer_instance
structure Pth (P:List (Int×Int)) (n:Nat) (p:List Nat):Prop where
 lt:∀ x,x∈p→x<n
 nd:p.Nodup
 st:∀ i,i+1<p.length→Ed P (p.getD i default) (p.getD (i+1) default)
structure rD (P:List (Int×Int)) (n len:Nat) (c:List Nat):Prop where
 pt:Pth P n c
 ln:c.length=len
 ps:0<len
 cl:Ed P (c.getD (len-1) default) (c.getD 0 default)
def Px (p c:List Nat):Prop:=c.take p.length=p
def aGC (c d:List Nat):Prop:=∀ i,i<c.length→(∀ j,j<i→c.getD j default=d.getD j default)→c.getD i default≤d.getD i default
section
variable {P:List (Int×Int)} {n len:Nat}
theorem rD.le {c:List Nat} (h:rD P n len c):len≤n:=by
 have:=aAZ (m:=List.range n) h.pt.nd fun x hx=>List.mem_range.2 (h.pt.lt x hx)
 rwa [List.length_range,h.ln] at this
theorem yB {p c:List Nat} (h:rD P n len c) (hp:Px p c) (hl:p.length<len):Px (p++[c.getD p.length default]) c:=by
 unfold Px at hp ⊢
 rw [List.length_append,List.length_cons,List.length_nil,qV (by rw [h.ln];exact hl),hp]
theorem uI {p c:List Nat} (hp:Px p c) {i:Nat} (hi:i<p.length):c.getD i default=p.getD i default:=by
 unfold Px at hp
 rw [← hp,List.getD_eq_getElem?_getD,List.getD_eq_getElem?_getD,List.getElem?_take_of_lt hi]
theorem aFJ {p c:List Nat} (hp:Px p c):p.length≤c.length:=by
 unfold Px at hp
 have:=congrArg List.length hp
 rw [List.length_take] at this;omega
theorem aA2 (p:List Nat) (x:Nat):(p++[x]).getD p.length default=x:=by simp [List.getD_eq_getElem?_getD]
theorem aCa {p q:List Nat} {i:Nat} (hi:i<p.length):(p++q).getD i default=p.getD i default:=by
 rw [List.getD_eq_getElem?_getD,List.getElem?_append_left hi,List.getD_eq_getElem?_getD]
theorem aFA {p c:List Nat} {x:Nat} (hp:Px (p++[x]) c):c.getD p.length default=x:=by
 rw [uI hp (by simp),aA2]
theorem aGT {p c:List Nat} {x:Nat} (hp:Px (p++[x]) c):Px p c:=by
 have hl:=aFJ hp
 rw [List.length_append,List.length_cons,List.length_nil] at hl
 unfold Px at hp ⊢
 rw [List.length_append,List.length_cons,List.length_nil,qV (by omega)] at hp
 exact (List.append_inj hp (by rw [List.length_take];omega)).1
theorem aBn {p c:List Nat} {x:Nat} (h:rD P n len c) (hp0:0<p.length) (hp:Px (p++[x]) c):x<n∧x ∉ p∧Ed P (p.getD (p.length-1) default) x:=by
 have hl:=aFJ hp
 rw [List.length_append,List.length_cons,List.length_nil] at hl
 have hx:=aFA hp
 have hpp:=aGT hp
 refine ⟨by rw [← hx];exact h.pt.lt _ (gW (by omega)),fun q=>?_,?_⟩
 ·obtain ⟨j,hj,e⟩:=xK q
  rw [← uI hpp hj,← hx,jJ (by omega),jJ (l:=c) (by omega)] at e
  have:=(List.getElem_inj h.pt.nd).1 e
  omega
 ·have:=h.pt.st (p.length-1) (by omega)
  rw [show p.length-1+1=p.length by omega,hx,uI hpp (by omega)] at this
  exact this
theorem aFo {p:List Nat} {x:Nat} (h:Pth P n p) (hp0:0<p.length) (hx:x<n) (hno:x ∉ p) (he:Ed P (p.getD (p.length-1) default) x):Pth P n (p++[x]):=by
 refine ⟨fun y hy=>?_,?_,fun i hi=>?_⟩
 ·rcases List.mem_append.1 hy with hy | hy
  ·exact h.lt y hy
  ·rw [List.mem_singleton.1 hy];exact hx
 ·refine List.nodup_append.2 ⟨h.nd,List.pairwise_singleton _ _,fun a ha b hb=>?_⟩
  rw [List.mem_singleton.1 hb]
  exact fun q=>hno (q ▸ ha)
 ·rw [List.length_append,List.length_cons,List.length_nil] at hi
  rw [aCa (by omega)]
  by_cases e:i+1<p.length
  ·rw [aCa e];exact h.st i e
  ·rw [show i+1=p.length by omega,aA2,show i=p.length-1 by omega];exact he
theorem aJq (x:Int) (l:List Int) (hl:l.length≤1000):kZ x l=some (decide (x∈l)):=by
 unfold kZ tU
 rcases vM (body:=lY x l) 0 l.length (Nat.zero_le _) (by omega) (fun k=>x==l.getD k default) (fun k=>(k:Int))
  (fun k _ hk _=>by
   unfold lY
   simp only [eG]
   rw [if_pos (by omega),rJ _ (by omega),Int.toNat_natCast,kX (by omega) (by omega),wC]
   split<;>rfl) (by
   unfold lY
   simp only [eG]
   rw [if_neg (by omega)]) with ⟨h,e⟩ | ⟨k,_,h2,h3,_,e⟩
 ·have e':lp (lY x l) FU 0=_:=e
  rw [e',iL,pD,iL,decide_eq_false (show ¬(-1:Int)≥0 by omega),decide_eq_false]
  intro hx
  obtain ⟨k,hk,q⟩:=xK hx
  have:=h k (Nat.zero_le _) hk
  rw [q] at this;simp at this
 ·have e':lp (lY x l) FU 0=_:=e
  rw [e',iL,aAQ,iL,decide_eq_true (show (k:Int)≥0 by omega),decide_eq_true]
  rw [beq_iff_eq.1 h3];exact gW h2
end
section
variable {o:aP} {n len:Nat} {t:Ar 8} {q:Nat→Nat→Bool}
def Ext (P:List (Int×Int)) (n len:Nat) (p:List Nat):Option (List Int)→Prop
 | some c=>∃ cs,c=oK cs∧rD P n len cs∧Px p cs∧∀ d,rD P n len d→Px p d→aGC cs d
 | none=>∀ d,rD P n len d→¬Px p d
theorem aFQ (hN:o.N=(n:Int)) (n8:n≤8) (T:TB t q) (hq:∀ a b:Nat,a<8→(q b a=true↔Ed o.Pairs a b)) (hl:len≤n) :
  ∀ (k:Nat) (p:List Nat),Pth o.Pairs n p→0<p.length→p.length≤len→len-p.length<k→∃ y,nL k (len:Int) t o (oK p)=some y∧Ext o.Pairs n len p y
 | 0,_,_,_,_,h=>absurd h (Nat.not_lt_zero _)
 | k+1,p,hp,h0,h1,h2=>by
  show ∃ y,qW (nL k) (len:Int) t o (oK p)=some y∧Ext o.Pairs n len p y
  unfold qW
  have lastlt:=hp.lt _ (gW (show p.length-1<p.length by omega))
  have headlt:=hp.lt _ (gW h0)
  have elast:(oK p).getD (wr ((p.length:Int)-1)).toNat default=((p.getD (p.length-1) default:Nat):Int):=by
   rw [kX (by omega) (by omega),show ((p.length:Int)-1).toNat=p.length-1 by omega,jU (by omega)]
  have ehead:(oK p).getD (0:Int).toNat default=((p.getD 0 default:Nat):Int):=jU h0
  simp only [fI]
  simp only [elast,ehead]
  rw [kX (by omega) (by omega),rJ _ (by omega),aCb]
  by_cases c:p.length=len
  ·rw [if_pos (by omega),rJ _ (by omega),rJ _ (by omega),rJ _ (by omega),aAW T (by omega) (by omega),wC]
   have eqd:∀ d,rD o.Pairs n len d→Px p d→d=p:=fun d hd hx=>by
    unfold Px at hx
    rw [List.take_of_length_le (by rw [hd.ln,c];exact Nat.le_refl _)] at hx;exact hx
   by_cases e:q (p.getD 0 default) (p.getD (p.length-1) default)=true
   ·rw [if_pos e]
    have he:=(hq _ _ (by omega)).1 e
    refine ⟨_,rfl,p,rfl,⟨hp,c,by omega,by rw [← c];exact he⟩,?_,fun d hd hx=>?_⟩
    ·unfold Px;rw [List.take_length]
    ·rw [eqd d hd hx];exact fun _ _ _=>Nat.le_refl _
   ·rw [if_neg e]
    refine ⟨_,rfl,fun d hd hx=>e ?_⟩
    have:=hd.cl
    rw [eqd d hd hx,← c] at this
    exact (hq _ _ (by omega)).2 this
  ·rw [if_neg (by omega)]
   obtain ⟨y,e,hy⟩:=nU (body:=oS (nL k) (len:Int) t o (oK p)) (fun s=>∃ x:Nat,s=(x:Int)∧x≤n∧∀ z,z<x→∀ d,rD o.Pairs n len d→¬Px (p++[z]) d) (fun s=>n-s.toNat)
    (fun y=>match y with | .inl _=>∀ d,rD o.Pairs n len d→¬Px p d | .inr y=>∃ c,y=some c∧Ext o.Pairs n len p (some c))
    (fun s ⟨x,hs,hx,hz⟩=>by
     subst hs
     unfold oS
     simp only [eG,fI]
     simp only [elast]
     by_cases cx:x<n
     ·rw [if_pos (by omega),rJ _ (by omega),rJ _ (by omega),aAW T (by omega) (by omega),wC]
      have nxt:(∀ d,rD o.Pairs n len d→¬Px (p++[x]) d)→(∃ s',(some (.nx (wr ((x:Int)+1))):Option (Ct Int (Option (List Int))))=some (.nx s')∧(∃ x:Nat,s'=(x:Int)∧x≤n∧∀ z,z<x→∀ d,rD o.Pairs n len d→¬Px (p++[z]) d)∧n-s'.toNat<n-(x:Int).toNat):=fun g=>by
       rw [kX (by omega) (by omega)]
       refine ⟨_,rfl,⟨x+1,by omega,cx,fun z hz'=>?_⟩,by omega⟩
       by_cases e:z<x
       ·exact hz z e
       ·rw [show z=x by omega];exact g
      by_cases e:q x (p.getD (p.length-1) default)=true
      ·have he:=(hq _ _ (by omega)).1 e
       rw [if_pos e,aJq _ _ (by rw [fI];omega),iL,sX,eG]
       by_cases ci:(x:Int)∈oK p
       ·rw [if_pos ci]
        exact .inl (nxt fun d hd hx=>(aBn hd h0 hx).2.1 (aCg.1 ci))
       ·have hno:x ∉ p:=fun z=>ci (aCg.2 z)
        rw [if_neg ci,aIH (by rw [fI];simp only [List.length_cons,List.length_nil];omega),show oK p++[(x:Int)]=oK (p++[x]) by rw [aE0];rfl]
        have hp':=aFo hp h0 cx hno he
        have len':(p++[x]).length=p.length+1:=by simp
        obtain ⟨y,ey,hy⟩:=aFQ hN n8 T hq hl k (p++[x]) hp' (by omega) (by omega) (by omega)
        rw [ey,iL]
        cases y with
        | none=>rw [Option.isSome_none,aAR];exact .inl (nxt hy)
        | some c=>
         rw [Option.isSome_some,aBk]
         obtain ⟨cs,rfl,v1,v2,v3⟩:=hy
         refine .inr (.inr ⟨_,rfl,_,rfl,cs,rfl,v1,aGT v2,fun d hd hpd=>?_⟩)
         have hdn:=yB hd hpd (by omega)
         generalize hw:d.getD p.length default=w at hdn
         have hwx:¬w<x:=fun g=>hz w g d hd hdn
         by_cases ew:w=x
         ·subst ew;exact v3 d hd hdn
         ·intro i hi hj
          by_cases c1:i<p.length
          ·rw [uI (aGT v2) c1,uI hpd c1];exact Nat.le_refl _
          ·by_cases c2:i=p.length
           ·subst c2;rw [aFA v2,hw];omega
           ·have:=hj p.length (by omega)
            rw [aFA v2,hw] at this;omega
      ·rw [if_neg e]
       exact .inl (nxt fun d hd hx=>e ((hq _ _ (by omega)).2 (aBn hd h0 hx).2.2))
     ·rw [if_neg (by omega)]
      refine .inr (.inl ⟨_,rfl,fun d hd hpd=>?_⟩)
      have hdn:=yB hd hpd (by omega)
      have:=(aBn hd h0 hdn).1
      exact hz _ (by omega) d hd hdn) 0 ⟨0,rfl,Nat.zero_le _,fun z h=>absurd h (Nat.not_lt_zero _)⟩ (by omega)
   rw [e,iL]
   cases y with
   | inl s=>rw [pD];exact ⟨_,rfl,hy⟩
   | inr y=>
    obtain ⟨c,rfl,hy⟩:=hy
    rw [aAQ];exact ⟨_,rfl,hy⟩
def aJC (P:List (Int×Int)) (n:Nat) (c:List Int) (b:Bool):Prop:=(b=false∧c=[]∧∀ len d,2≤len→¬rD P n len d)∨(b=true∧∃ cs len,c=oK cs∧2≤len∧rD P n len cs∧(∀ len' d,2≤len'→len'<len→¬rD P n len' d)∧∀ d,rD P n len d→aGC cs d)
theorem aCp (hf:Fm o) (hN:o.N=(n:Int)):∃ c b,cS o=some (c,b)∧aJC o.Pairs n c b:=by
 have n8:n≤8:=by have:=hf.N;omega
 obtain ⟨v,ev,hv⟩:=rI o (by have:=hf.len;omega)
 obtain ⟨s1,e1,i1,r0,T0,H0⟩:=yI (body:=fS o) (fun k s=>s.1=(k:Int)∧∃ r,TB s.2 r∧∀ a b:Nat,a<8→(r b a=true↔((a:Int),(b:Int))∈o.Pairs.take k)) o.Pairs.length (by have:=hf.len;omega)
  (fun k s hk ⟨hs,r,T,H⟩=>by
   obtain ⟨i,t⟩:=s
   simp only at hs T
   subst hs
   obtain ⟨g1,g2,_⟩:=hf.el _ (gW hk)
   obtain ⟨a,b,he,ha,hb⟩:∃ a b:Nat,o.Pairs.getD k default=((a:Int),(b:Int))∧a<n∧b<n:=⟨_,_,Prod.ext (Int.toNat_of_nonneg g1.1).symm (Int.toNat_of_nonneg g2.1).symm,by omega,by omega⟩
   have:=hf.len
   unfold fS
   simp only [eG]
   rw [if_pos (by omega),aCU hk,he,rJ _ (by omega),rJ _ (by omega),rJ _ (by omega),kX (by omega) (by omega)]
   have T':=aGl T (b:=a) (by omega) (m:=2 ^ b) (Nat.pow_lt_pow_right (n:=8) (by omega) (by omega))
   rw [← aKQ (by omega)] at T'
   refine ⟨_,rfl,by simp only;omega,_,T',?_⟩
   intro x y hx
   rw [qV hk,he,List.mem_append,List.mem_singleton,Bool.or_eq_true,H x y hx,aDs,Bool.and_eq_true,decide_eq_true_eq,decide_eq_true_eq]
   refine or_congr_right ?_
   rw [Prod.mk.injEq]
   omega) (fun s ⟨hs,_⟩=>by
   unfold fS
   simp only [eG]
   rw [if_neg (by omega)]) (0,Ar.zero 8) ⟨rfl,_,aDU,fun a b _=>by simp⟩
 rw [List.take_length] at H0
 obtain ⟨y,e2,hy⟩:=nU (body:=gU o s1) (fun s=>∃ l:Nat,s=(l:Int)∧2≤l∧l≤n+2∧∀ len' d,2≤len'→len'<l→¬rD o.Pairs n len' d) (fun s=>n+2-s.toNat)
  (fun y=>match y with | .inl _=>∀ len d,2≤len→¬rD o.Pairs n len d | .inr y=>y.2=true∧aJC o.Pairs n y.1 true)
  (fun s ⟨l,hs,hl2,hln,hno⟩=>by
   subst hs
   unfold gU
   simp only [eG]
   by_cases c:l≤n
   ·rw [if_pos (by omega)]
    obtain ⟨y,e3,hy⟩:=nU (body:=gP o s1 (l:Int)) (fun s=>∃ x:Nat,s=(x:Int)∧x≤n∧∀ z,z<x→∀ d,rD o.Pairs n l d→¬Px [z] d) (fun s=>n-s.toNat)
     (fun y=>match y with | .inl _=>∀ d,¬rD o.Pairs n l d | .inr y=>y.2=true∧∃ cs,y.1=oK cs∧rD o.Pairs n l cs∧∀ d,rD o.Pairs n l d→aGC cs d)
     (fun s ⟨x,hs,hx,hz⟩=>by
      subst hs
      unfold gP
      simp only [eG]
      by_cases cx:x<n
      ·rw [if_pos (by omega),aHf]
       obtain ⟨y,ey,hy⟩:=aFQ (len:=l) hN n8 T0 H0 c 10 [x] ⟨fun z hz=>by rw [List.mem_singleton.1 hz];exact cx,List.pairwise_singleton _ _,fun i hi=>by simp at hi⟩ (by simp) (by simp;omega) (by simp;omega)
       rw [show [(x:Int)]=oK [x] from rfl,ey,iL]
       cases y with
       | none=>
        rw [Option.isSome_none,aAR,kX (by omega) (by omega)]
        refine .inl ⟨_,rfl,⟨x+1,by omega,cx,fun z hz'=>?_⟩,by omega⟩
        by_cases e:z<x
        ·exact hz z e
        ·rw [show z=x by omega];exact hy
       | some c=>
        obtain ⟨cs,rfl,v1,v2,v3⟩:=hy
        have hcl:=v1.ln
        rw [Option.isSome_some,aBk]
        simp only [Option.getD_some]
        rw [rJ _ (by rw [fI];omega),aHf]
        refine .inr (.inr ⟨_,rfl,rfl,cs,rfl,v1,fun d hd=>?_⟩)
        have hdn:=yB (p:=[]) hd rfl hd.ps
        rw [List.nil_append,List.length_nil] at hdn
        generalize hw:d.getD 0 default=w at hdn
        have hwx:¬w<x:=fun g=>hz w g d hd hdn
        by_cases ew:w=x
        ·subst ew;exact v3 d hd hdn
        ·intro i hi hj
         have cx0:cs.getD 0 default=x:=aFA (p:=[]) v2
         by_cases c2:i=0
         ·subst c2;rw [cx0,hw];omega
         ·have:=hj 0 (by omega)
          rw [cx0,hw] at this;omega
      ·rw [if_neg (by omega)]
       refine .inr (.inl ⟨_,rfl,fun d hd=>?_⟩)
       have hdn:=yB (p:=[]) hd rfl hd.ps
       rw [List.nil_append,List.length_nil] at hdn
       have:=hd.pt.lt _ (gW (show 0<d.length by rw [hd.ln];exact hd.ps))
       exact hz _ (by omega) d hd hdn) 0 ⟨0,rfl,Nat.zero_le _,fun z h=>absurd h (Nat.not_lt_zero _)⟩ (by omega)
    rw [e3,iL]
    cases y with
    | inl s=>
     rw [pD,kX (by omega) (by omega)]
     refine .inl ⟨_,rfl,⟨l+1,by omega,by omega,by omega,fun len' d h1 h2=>?_⟩,by omega⟩
     by_cases e:len'<l
     ·exact hno len' d h1 e
     ·rw [show len'=l by omega];exact hy d
    | inr y=>
     obtain ⟨y1,cs,y2,y3,y4⟩:=hy
     rw [aAQ]
     exact .inr (.inr ⟨_,rfl,y1,.inr ⟨rfl,cs,l,y2,hl2,y3,hno,y4⟩⟩)
   ·rw [if_neg (by omega)]
    refine .inr (.inl ⟨_,rfl,fun len d h1 hd=>?_⟩)
    have:=hd.le
    exact hno len d h1 (by omega) hd) 2 ⟨2,rfl,by omega,by omega,fun len' d h1 h2=>by omega⟩ (by omega)
 unfold cS
 rw [ev,iL,hv.2 hf,sX,aBk,e1,iL,pD,e2,iL]
 cases y with
 | inl s=>rw [pD];exact ⟨_,_,rfl,.inl ⟨rfl,rfl,hy⟩⟩
 | inr y=>
  obtain ⟨c,b⟩:=y
  obtain ⟨y1,y2⟩:=hy
  simp only at y1 y2
  subst y1
  rw [aAQ]
  exact ⟨_,_,rfl,y2⟩
end
def Wlk (P:List (Int×Int)) (m:Nat) (f:Nat→Nat):Prop:=∀ i,i<m→Ed P (f i) (f (i+1))
section
variable {o:aP} {n:Nat}
theorem nF {m i:Nat} (f:Nat→Nat) (h:i<m):((List.range m).map f).getD i default=f i:=by
 rw [jJ (by simpa using h)];simp
theorem aCm (hf:Fm o) (hN:o.N=(n:Int)):∀ (m:Nat) (f:Nat→Nat),1≤m→Wlk o.Pairs m f→f m=f 0 →
  ((∀ i j,i<j→j<m→f i≠f j)→2≤m∧rD o.Pairs n m ((List.range m).map f))∧∃ m' cs,2≤m'∧m'≤m∧rD o.Pairs n m' cs∧(¬(∀ i j,i<j→j<m→f i≠f j)→m'<m):=by
 intro m
 induction m using Nat.strongRecOn with
 | _ m ih=>
  intro f h1 hw hc
  have hlt:∀ i,i<m→f i<n:=fun i hi=>by
   have:=(hf.el _ (hw i hi)).1
   simp only at this;omega
  have key:(∀ i j,i<j→j<m→f i≠f j)→2≤m∧rD o.Pairs n m ((List.range m).map f):=fun inj=>by
   have h2:2≤m:=by
    refine Nat.lt_of_not_le fun q=>?_
    obtain rfl:m=1:=by omega
    have:=hf.el _ (hw 0 (by omega))
    simp only [hc] at this
    exact this.2.2 rfl
   refine ⟨h2,⟨fun x hx=>?_,?_,fun i hi=>?_⟩,by simp,by omega,?_⟩
   ·obtain ⟨i,hi,rfl⟩:=List.mem_map.1 hx
    exact hlt i (List.mem_range.1 hi)
   ·refine List.pairwise_iff_getElem.2 fun i j hi hj hij=>?_
    simp only [List.length_map,List.length_range] at hi hj
    simp only [List.getElem_map,List.getElem_range]
    exact inj i j hij hj
   ·simp only [List.length_map,List.length_range] at hi
    rw [nF f (by omega),nF f hi]
    exact hw i (by omega)
   ·rw [nF f (by omega),nF f (by omega),← hc]
    have:=hw (m-1) (by omega)
    rwa [show m-1+1=m by omega] at this
  refine ⟨key,?_⟩
  by_cases inj:∀ i j,i<j→j<m→f i≠f j
  ·obtain ⟨h2,hk⟩:=key inj
   exact ⟨m,_,h2,Nat.le_refl _,hk,fun q=>absurd inj q⟩
  ·have:∃ i j,i<j∧j<m∧f i=f j:=Classical.byContradiction fun q=>inj fun i j hij hj e=>q ⟨i,j,hij,hj,e⟩
   obtain ⟨i,j,hij,hj,e⟩:=this
   obtain ⟨_,m',cs,c1,c2,c3,_⟩:=ih (j-i) (by omega) (fun k=>f (i+k)) (by omega) (fun k hk=>hw (i+k) (by omega)) (by show f (i+(j-i))=f (i+0);rw [show i+(j-i)=j by omega,Nat.add_zero,e])
   exact ⟨m',cs,c1,by omega,c3,fun _=>by omega⟩
theorem aG4 {P:List (Int×Int)} {a b:Nat} (h:Rc P a b):∃ m f,1≤m∧f 0=a∧f m=b∧Wlk P m f:=by
 refine h (fun a b=>∃ m f,1≤m∧f 0=a∧f m=b∧Wlk P m f) (fun x y hxy=>⟨1,fun i=>if i=0 then x else y,by omega,rfl,rfl,fun i hi=>?_⟩) (fun x y z ⟨m,f,h1,h2,h3,h4⟩ ⟨m',f',g1,g2,g3,g4⟩=>⟨m+m',fun i=>if i≤m then f i else f' (i-m),by omega,?_,?_,fun i hi=>?_⟩)
 ·obtain rfl:i=0:=by omega
  exact hxy
 ·simp only;rw [if_pos (Nat.zero_le _),h2]
 ·simp only;rw [if_neg (by omega),show m+m'-m=m' by omega,g3]
 ·simp only
  by_cases c1:i<m
  ·rw [if_pos (by omega),if_pos (by omega)];exact h4 i c1
  ·rw [if_neg (show ¬i+1≤m by omega)]
   have:=g4 (i-m) (by omega)
   rw [show i-m+1=i+1-m by omega] at this
   by_cases c2:i=m
   ·subst c2
    rw [if_pos (Nat.le_refl _),h3,← g2]
    rwa [Nat.sub_self] at this
   ·rw [if_neg (by omega)];exact this
theorem rD.rc {P:List (Int×Int)} {len:Nat} {c:List Nat} (h:rD P n len c) (h2:2≤len):Rc P (c.getD 0 default) (c.getD 0 default):=by
 have key:∀ i,i+1<c.length→Rc P (c.getD 0 default) (c.getD (i+1) default):=fun i=>by
  induction i with
  | zero=>intro hi;exact aGs (h.pt.st 0 hi)
  | succ i ih=>intro hi;exact aHc (ih (by omega)) (aGs (h.pt.st (i+1) hi))
 have:=key (len-2) (by rw [h.ln];omega)
 rw [show len-2+1=len-1 by omega] at this
 exact aHc this (aGs h.cl)
theorem aB4 (o:aP) (hl:o.Pairs.length≤9223372036854775807):∃ v,cT o=some v∧(v=true↔Vd o):=by
 unfold cT
 rcases aDJ o hl with ⟨hv,n,t,r,h⟩ | ⟨hno,t,e⟩
 ·rw [h.rd,iL];exact ⟨_,rfl,fun _=>hv,fun _=>rfl⟩
 ·rw [e,iL];exact ⟨_,rfl,fun g=>(by cases g),fun g=>absurd g hno⟩
theorem wV (hf:Fm o) (hN:o.N=(n:Int)) {c:List Int} {b:Bool} (h:aJC o.Pairs n c b):b=true↔¬Vd o:=by
 constructor
 ·intro hb hv
  rcases h with ⟨h1,_⟩ | ⟨_,cs,len,_,h2,h3,_⟩
  ·rw [h1] at hb;cases hb
  ·exact hv.2 _ (h3.rc h2)
 ·intro hno
  rcases h with ⟨_,_,h3⟩ | ⟨h1,_⟩
  ·exfalso
   refine hno ⟨hf,fun a g=>?_⟩
   obtain ⟨m,f,f1,f2,f3,f4⟩:=aG4 g
   obtain ⟨_,m',cs,c1,_,c3,_⟩:=aCm hf hN m f f1 f4 (by rw [f3,f2])
   exact h3 m' cs c1 c3
  ·exact h1
end
theorem aF7:jT=some true:=by kernel_rfl
end Go.Proofs.YtlmboonbfhkfnaaDoor
