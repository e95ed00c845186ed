import Derived.Test.YtlmboonbfhkfnaaDoorM3
import Derived.Test.YtlmboonbfhkfnaaDoorM4
import Derived.Test.YtlmboonbfhkfnaaDoorM5
import Derived.KernelRfl
set_option linter.unusedVariables false
set_option linter.unusedSimpArgs false
set_option linter.unusedSectionVars false
namespace Go.Proofs.YtlmboonbfhkfnaaDoor
open Go Go.Eng
set_option maxRecDepth 100000
set_option maxHeartbeats 0
set_option maxRecDepth 100000
theorem lK {a:Nat} (h:a<4611686018427387904):(BitVec.ofInt IntKind.i64.bits (a:Int)).toNat=a:=by
 show (BitVec.ofInt 64 (a:Int)).toNat=a
 rw [BitVec.toNat_ofInt,Int.emod_eq_of_lt (by omega) (by omega)];rfl
theorem aKG {a b:Nat} (ha:a<4611686018427387904) (hb:b<4611686018427387904):tL .i64 (a:Int) (b:Int)=((a&&&b:Nat):Int):=by
 show IntKind.i64.wrap _=_
 rw [BitVec.toNat_and,lK ha,lK hb]
 have:a&&&b≤a:=Nat.and_le_left
 exact aBk (by omega) (by omega)
theorem aK3 {a b:Nat} (ha:a<4611686018427387904) (hb:b<4611686018427387904):bor .i64 (a:Int) (b:Int)=((a|||b:Nat):Int):=by
 show IntKind.i64.wrap _=_
 rw [BitVec.toNat_or,lK ha,lK hb]
 have:a|||b<2 ^ 62:=Nat.or_lt_two_pow (by omega) (by omega)
 exact aBk (by omega) (by omega)
def aAk (a b:Nat):Nat:=a ^^^ (a&&&b)
theorem vV (a b i:Nat):(aAk a b).testBit i=(a.testBit i && !b.testBit i):=by
 unfold aAk
 rw [Nat.testBit_xor,Nat.testBit_and]
 cases a.testBit i<;>cases b.testBit i<;>rfl
theorem aFT {a b k:Nat} (h:a<2 ^ k):aAk a b<2 ^ k:=Nat.xor_lt_two_pow h (Nat.lt_of_le_of_lt Nat.and_le_left h)
theorem aGw {a b:Nat} (ha:a<4611686018427387904) (hb:b<4611686018427387904):pV .i64 (a:Int) (b:Int)=((aAk a b:Nat):Int):=by
 show IntKind.i64.wrap _=_
 have e:(BitVec.ofInt IntKind.i64.bits (a:Int)&&&~~~BitVec.ofInt IntKind.i64.bits (b:Int)).toNat=aAk a b:=by
  refine Nat.eq_of_testBit_eq fun i=>?_
  rw [BitVec.testBit_toNat,BitVec.getLsbD_and,BitVec.getLsbD_not,vV,← BitVec.testBit_toNat,← BitVec.testBit_toNat,lK ha,lK hb]
  by_cases h:i<64
  ·rw [show decide (i<IntKind.i64.bits)=true from decide_eq_true h,Bool.true_and]
  ·rw [Nat.testBit_lt_two_pow (x:=a) (i:=i) (Nat.lt_of_lt_of_le (show a<2 ^ 62 by omega) (Nat.pow_le_pow_right (by omega) (by omega)))]
   rfl
 rw [e]
 have:aAk a b<2 ^ 62:=aFT (by omega)
 exact aBk (by omega) (by omega)
theorem aC6 {n m:Nat} (h:n≤m):(2:Int) ^ n≤2 ^ m:=by
 have:=Nat.pow_le_pow_right (n:=2) (by omega) h
 exact_mod_cast this
theorem two_pow_pos (n:Nat):(0:Int)<2 ^ n:=by
 have:=Nat.two_pow_pos n
 exact_mod_cast this
theorem aII {k:Nat} (h:k≤60):aDz .i64 1 (k:Int)=((2 ^ k:Nat):Int):=by
 show IntKind.i64.wrap (1 * 2 ^ (min (k:Int).toNat 64))=_
 rw [Int.toNat_natCast,Nat.min_eq_left (by omega),Int.one_mul]
 have h1:=aC6 h
 have h2:=two_pow_pos k
 rw [show ((2 ^ k:Nat):Int)=(2:Int) ^ k by norm_cast]
 exact aBk (by omega) (by omega)
theorem aMs {s i:Nat} (hi:i≤60):rR .i64 (s:Int) (i:Int)=((s >>> i:Nat):Int):=by
 show (s:Int).fdiv (2 ^ (min (i:Int).toNat 64))=_
 rw [Int.toNat_natCast,Nat.min_eq_left (by omega),Int.fdiv_eq_ediv_of_nonneg _ (Int.le_of_lt (two_pow_pos i)),Nat.shiftRight_eq_div_pow]
 norm_cast
theorem aB6 (n i:Nat):(n >>> i)&&&1=if n.testBit i then 1 else 0:=by
 rw [Nat.testBit_eq_decide_div_mod_eq,Nat.shiftRight_eq_div_pow,Nat.and_one_is_mod]
 have:=Nat.mod_two_eq_zero_or_one (n / 2 ^ i)
 rcases this with h | h<;>simp [h]
theorem aJQ {s i:Nat} (h:s<4611686018427387904) (hi:i≤60):tL .i64 (rR .i64 (s:Int) (i:Int)) 1=if s.testBit i then 1 else 0:=by
 rw [aMs hi]
 have:s >>> i≤s:=by rw [Nat.shiftRight_eq_div_pow];exact Nat.div_le_self _ _
 rw [show (1:Int)=((1:Nat):Int) from rfl,aKG (by omega) (by omega),aB6]
 split<;>rfl
theorem aJT {s i:Nat} (h:s<4611686018427387904) (hi:i≤60):(tL .i64 (rR .i64 (s:Int) (i:Int)) 1==1)=s.testBit i:=by
 rw [aJQ h hi];cases s.testBit i<;>rfl
theorem aKi {s i:Nat} (h:s<4611686018427387904) (hi:i≤60):(tL .i64 (rR .i64 (s:Int) (i:Int)) 1==0) = !s.testBit i:=by
 rw [aJQ h hi];cases s.testBit i<;>rfl
theorem ntm {s i:Nat} (hi:i≤60):Int.tmod (rR .i64 (s:Int) (i:Int)) 2=if s.testBit i=true then 1 else 0:=by
 rw [aMs hi,Int.tmod_eq_emod_of_nonneg (Int.natCast_nonneg _),Nat.testBit_eq_decide_div_mod_eq,Nat.shiftRight_eq_div_pow,show (2:Int)=((2:Nat):Int) from rfl,← Int.natCast_emod]
 have:=Nat.mod_two_eq_zero_or_one (s / 2 ^ i)
 rcases this with h | h<;>rw [h]<;>rfl
theorem aLZ {s i:Nat} (hi:i≤60):(Int.tmod (rR .i64 (s:Int) (i:Int)) 2==1)=s.testBit i:=by
 rw [ntm hi];cases s.testBit i<;>rfl
theorem aBT (k i:Nat):(2 ^ k).testBit i=decide (i=k):=by
 rw [Nat.testBit_two_pow]
 by_cases h:k=i
 ·rw [decide_eq_true h,decide_eq_true h.symm]
 ·rw [decide_eq_false h,decide_eq_false (fun q=>h q.symm)]
theorem aHb {m k i:Nat} (h:m<2 ^ k) (hb:m.testBit i=true):i<k:=by
 refine Nat.lt_of_not_le fun q=>?_
 rw [Nat.testBit_lt_two_pow (Nat.lt_of_lt_of_le h (Nat.pow_le_pow_right (by omega) q))] at hb
 cases hb
theorem aC4 {a b:Nat}:aAk a b=0↔∀ i,a.testBit i=true→b.testBit i=true:=by
 constructor
 ·intro h i hi
  have:=vV a b i
  rw [h,Nat.zero_testBit,hi,Bool.true_and] at this
  simpa using this.symm
 ·intro h
  refine Nat.eq_of_testBit_eq fun i=>?_
  rw [vV,Nat.zero_testBit]
  cases e:a.testBit i
  ·rfl
  ·rw [h i e];rfl
theorem aEF {a b:Nat} (h:∀ i,a.testBit i=b.testBit i):a=b:=Nat.eq_of_testBit_eq h
theorem nP {k:Nat} (h:k≤8):2 ^ k≤256:=Nat.pow_le_pow_right (n:=2) (by omega) h
def TB (t:Ar 8) (r:Nat→Nat→Bool):Prop:=∀ b:Nat,b<8→∃ m:Nat,t.at1 (b:Int)=(m:Int)∧m<256∧∀ a,m.testBit a=r a b
theorem aHB:TB (Ar.zero 8) fun _ _=>false:=fun b hb=>⟨0,by
 show (List.replicate 8 (0:Int)).getD (b:Int).toNat 0=0
 rw [Int.toNat_natCast,List.getD_eq_getElem?_getD,List.getElem?_replicate,if_pos hb];rfl,by omega,fun a=>Nat.zero_testBit a⟩
theorem aFr (t:Ar 8) {b c:Nat} (hb:b<8) (v:Int):(t.st1 (b:Int) v).at1 (c:Int)=if c=b then v else t.at1 (c:Int):=by
 show (t.l.set (b:Int).toNat v).getD (c:Int).toNat 0=_
 rw [Int.toNat_natCast,Int.toNat_natCast,List.getD_eq_getElem?_getD,List.getElem?_set]
 by_cases h:c=b
 ·subst h;rw [if_pos rfl,if_pos rfl,if_pos (by rw [t.h];exact hb)];rfl
 ·rw [if_neg (fun q=>h q.symm),if_neg h]
  show _=t.l.getD (c:Int).toNat 0
  rw [Int.toNat_natCast,List.getD_eq_getElem?_getD]
theorem aJW {t:Ar 8} {r:Nat→Nat→Bool} (h:TB t r) {b:Nat} (hb:b<8) {m:Nat} (hm:m<256):TB (t.st1 (b:Int) (m:Int)) fun a c=>if c=b then m.testBit a else r a c:=by
 intro c hc
 rw [aFr t hb]
 by_cases e:c=b
 ·rw [if_pos e];exact ⟨m,rfl,hm,fun a=>(if_pos e).symm⟩
 ·rw [if_neg e]
  obtain ⟨q,h1,h2,h3⟩:=h c hc
  exact ⟨q,h1,h2,fun a=>(h3 a).trans (if_neg e).symm⟩
theorem sB {t:Ar 8} {r r':Nat→Nat→Bool} (h:TB t r) (e:∀ a b,b<8→r a b=r' a b):TB t r':=fun b hb=>by
 obtain ⟨q,h1,h2,h3⟩:=h b hb
 exact ⟨q,h1,h2,fun a=>by rw [h3,e a b hb]⟩
theorem aJl {t:Ar 8} {r:Nat→Nat→Bool} (h:TB t r) {b:Nat} (hb:b<8) {m:Nat} (hm:m<256):TB (t.st1 (b:Int) (bor .i64 (t.at1 (b:Int)) (m:Int))) fun a c=>r a c||(decide (c=b)&&m.testBit a):=by
 obtain ⟨q,h1,h2,h3⟩:=h b hb
 rw [h1,aK3 (by omega) (by omega)]
 refine sB (aJW h hb (m:=q|||m) (Nat.or_lt_two_pow (n:=8) h2 hm)) fun a c hc=>?_
 by_cases e:c=b
 ·subst e;rw [if_pos rfl,Nat.testBit_or,h3,decide_eq_true rfl,Bool.true_and]
 ·rw [if_neg e,decide_eq_false e,Bool.false_and,Bool.or_false]
theorem aFo {t:Ar 8} {r:Nat→Nat→Bool} (h:TB t r) {a b:Nat} (hb:b<8) (ha:a≤60):(tL .i64 (rR .i64 (t.at1 (b:Int)) (a:Int)) 1==1)=r a b:=by
 obtain ⟨q,h1,h2,h3⟩:=h b hb
 rw [h1,aJT (by omega) ha,h3]
theorem aH2 {t:Ar 8} {r:Nat→Nat→Bool} (h:TB t r) {a b:Nat} (hb:b<8) (ha:a≤60):(tL .i64 (rR .i64 (t.at1 (b:Int)) (a:Int)) 1==0) = !r a b:=by
 obtain ⟨q,h1,h2,h3⟩:=h b hb
 rw [h1,aKi (by omega) ha,h3]
theorem dU {α:Type} [Inhabited α] {l:List α} {k:Nat} (h:k<l.length):l.getD k default=l[k]:=by simp [List.getD_eq_getElem?_getD,h]
theorem iD {α:Type} [Inhabited α] {l:List α} {k:Nat} (h:k<l.length):l.getD k default∈l:=by rw [dU h];exact List.getElem_mem h
theorem oZ {α:Type} [Inhabited α] {l:List α} {k:Nat} (h:k<l.length):l.take (k+1)=l.take k++[l.getD k default]:=by
 rw [List.take_succ_eq_append_getElem h,dU h]
theorem vX {α:Type} [Inhabited α] {l:List α} {x:α} (h:x∈l):∃ k,k<l.length∧l.getD k default=x:=by
 obtain ⟨k,hk,e⟩:=List.getElem_of_mem h
 exact ⟨k,hk,by rw [dU hk,e]⟩
def Rc (P:List (Int×Int)) (a b:Nat):Prop:=∀ S:Nat→Nat→Prop,(∀ x y:Nat,((x:Int),(y:Int))∈P→S x y)→(∀ x y z,S x y→S y z→S x z)→S a b
theorem aMv {P:List (Int×Int)} {a b:Nat} (h:((a:Int),(b:Int))∈P):Rc P a b:=fun _ h1 _=>h1 a b h
theorem aMr {P:List (Int×Int)} {a b c:Nat} (h:Rc P a b) (g:Rc P b c):Rc P a c:=fun S h1 h2=>h2 a b c (h S h1 h2) (g S h1 h2)
def oW (N:Int) (p:Int×Int):Prop:=(0≤p.1∧p.1<N)∧(0≤p.2∧p.2<N)∧p.1≠p.2
instance (N:Int) (p:Int×Int):Decidable (oW N p):=by unfold oW;infer_instance
structure Fm (o:aG):Prop where
 N:0≤o.N∧o.N≤8
 len:o.Pairs.length≤28
 el:∀ p∈o.Pairs,oW o.N p
theorem aDr (p:Int×Int) (o:aG):eJ p o=some (!decide (oW o.N p)):=by
 have key:∀ v:Bool,(v=true↔¬oW o.N p)→some v=some (!decide (oW o.N p)):=fun v hv=>by
  congr 1
  by_cases c:oW o.N p
  ·rw [decide_eq_true c];exact Bool.eq_false_iff.2 fun q=>hv.1 q c
  ·rw [decide_eq_false c];exact hv.2 c
 unfold eJ
 simp only [aBK,bY,aKY,aEf]
 by_cases c1:(if p.2<p.1 then p.2 else p.1)<0
 ·rw [if_pos c1]
  exact key _ ⟨fun _ h=>by unfold oW at h;split at c1<;>omega,fun _=>rfl⟩
 rw [if_neg c1]
 by_cases c2:(if p.2>p.1 then p.2 else p.1)≥o.N
 ·rw [if_pos c2]
  exact key _ ⟨fun _ h=>by unfold oW at h;split at c2<;>omega,fun _=>rfl⟩
 rw [if_neg c2]
 refine key _ ?_
 rw [beq_iff_eq];unfold oW
 split at c1<;>split at c2<;>omega
theorem aBp (l:List (Int×Int)) (o:aG) (hl:l.length≤1048576):∃ i,bX l o=some i∧(i≥0↔∃ p∈l,¬oW o.N p):=by
 obtain ⟨y,e,hy⟩:=mP (body:=cM l o) (fun s=>∃ k:Nat,s=(k:Int)∧k≤l.length∧∀ j,j<k→oW o.N (l.getD j default)) (fun s=>l.length-s.toNat)
  (fun y=>match y with | .inl _=>∀ p∈l,oW o.N p | .inr r=>r≥0∧∃ p∈l,¬oW o.N p)
  (fun s ⟨k,hs,hk,hj⟩=>by
   subst hs
   unfold cM
   simp only [bY]
   by_cases c:k<l.length
   ·rw [if_pos (by omega),aAi c,aDr,gF,qO,bY]
    by_cases q:oW o.N (l.getD k default)
    ·rw [if_pos q,fC (by omega) (by omega)]
     exact .inl ⟨_,rfl,⟨k+1,by omega,c,fun j h=>by
      by_cases e:j<k
      ·exact hj j e
      ·rw [show j=k by omega];exact q⟩,by omega⟩
    ·rw [if_neg q]
     exact .inr (.inr ⟨_,rfl,by omega,_,iD c,q⟩)
   ·rw [if_neg (by omega)]
    refine .inr (.inl ⟨_,rfl,fun p hp=>?_⟩)
    obtain ⟨j,h1,rfl⟩:=vX hp
    exact hj j (by omega)) 0 ⟨0,rfl,Nat.zero_le _,fun j h=>absurd h (Nat.not_lt_zero _)⟩ (by omega)
 unfold bX
 rw [e,gF]
 cases y with
 | inl s=>
  rw [jP]
  exact ⟨_,rfl,⟨fun h=>absurd h (by omega),fun ⟨p,h1,h2⟩=>absurd (hy p h1) h2⟩⟩
 | inr r=>
  rw [aBM]
  exact ⟨_,rfl,⟨fun _=>hy.2,fun _=>hy.1⟩⟩
theorem aDV (o:aG) (hl:o.Pairs.length≤9223372036854775807):∃ v,dR o=some v∧(v=true↔Fm o):=by
 unfold dR
 simp only [aBK,bY]
 by_cases c1:o.N<0
 ·rw [if_pos c1,aCs];exact ⟨_,rfl,⟨fun h=>(by cases h),fun h=>by have:=h.N;omega⟩⟩
 rw [if_neg c1]
 by_cases c2:o.N>8
 ·rw [if_pos c2,aCs];exact ⟨_,rfl,⟨fun h=>(by cases h),fun h=>by have:=h.N;omega⟩⟩
 rw [if_neg c2]
 by_cases c3:(o.Pairs.length:Int)>28
 ·rw [if_pos c3];exact ⟨_,rfl,⟨fun h=>(by cases h),fun h=>by have:=h.len;omega⟩⟩
 rw [if_neg c3]
 obtain ⟨i,e,hi⟩:=aBp o.Pairs o (by omega)
 unfold bZ
 rw [e,gF,gF]
 refine ⟨_,rfl,?_⟩
 simp only [Bool.not_eq_true',decide_eq_false_iff_not]
 constructor
 ·intro h
  exact ⟨by omega,by omega,fun p hp=>Decidable.byContradiction fun q=>h (hi.2 ⟨p,hp,q⟩)⟩
 ·intro h q
  obtain ⟨p,h1,h2⟩:=hi.1 q
  exact h2 (h.el p h1)
theorem aEu {o:aG} (h:Fm o):∃ t v r,fY o=some (t,v)∧TB t r∧(∀ a b:Nat,b<8→(r a b=true↔Rc o.Pairs a b))∧(v=true↔∀ a:Nat,¬Rc o.Pairs a a):=by
 obtain ⟨n,hn⟩:∃ n:Nat,o.N=(n:Int):=⟨o.N.toNat,by have:=h.N;omega⟩
 have n8:n≤8:=by have:=h.N;omega
 have hel:∀ k,k<o.Pairs.length→∃ a b:Nat,o.Pairs.getD k default=((a:Int),(b:Int))∧a<n∧b<n:=fun k hk=>by
  obtain ⟨h1,h2,_⟩:=h.el _ (iD hk)
  exact ⟨_,_,Prod.ext (Int.toNat_of_nonneg h1.1).symm (Int.toNat_of_nonneg h2.1).symm,by omega,by omega⟩
 have hin:∀ a b,Rc o.Pairs a b→a<n∧b<n:=fun a b g=>g (fun a b=>a<n∧b<n) (fun x y hxy=>by
  obtain ⟨h1,h2,_⟩:=h.el _ hxy
  exact ⟨by simp only at h1;omega,by simp only at h2;omega⟩) (fun x y z g1 g2=>⟨g1.1,g2.2⟩)
 obtain ⟨s1,e1,i1,r0,T0,H0⟩:=jT (body:=fB o) (fun k s=>s.1=(k:Int)∧∃ r,TB s.2 r∧∀ a b:Nat,b<8→(r a b=true↔((a:Int),(b:Int))∈o.Pairs.take k)) o.Pairs.length (by have:=h.len;omega)
  (fun k s hk ⟨hs,r,T,H⟩=>by
   obtain ⟨i,t⟩:=s
   simp only at hs T
   subst hs
   obtain ⟨a,b,he,ha,hb⟩:=hel k hk
   unfold fB
   simp only [bY]
   have:=h.len
   rw [if_pos (by omega),aAi hk,he,kR _ (by omega),kR _ (by omega),kR _ (by omega),fC (by omega) (by omega)]
   have T':=aJl T (b:=b) (by omega) (m:=2 ^ a) (Nat.pow_lt_pow_right (n:=8) (by omega) (by omega))
   rw [← aII (by omega)] at T'
   refine ⟨_,rfl,by simp only;omega,_,T',?_⟩
   ·intro x y hy
    rw [oZ hk,he,List.mem_append,List.mem_singleton,Bool.or_eq_true,H x y hy,aBT,Bool.and_eq_true,decide_eq_true_eq,decide_eq_true_eq]
    refine or_congr_right ?_
    rw [Prod.mk.injEq]
    omega) (fun s ⟨hs,_⟩=>by
   unfold fB
   simp only [bY]
   rw [if_neg (by omega)]) (0,Ar.zero 8) ⟨rfl,_,aHB,fun a b _=>by simp⟩
 rw [List.take_length] at H0
 obtain ⟨s2,e2,i2,r,T2,L2,S2,C2⟩:=jT (body:=eY o) (fun k s=>s.1=(k:Int)∧∃ r,TB s.2 r∧(∀ a b:Nat,b<8→r0 a b=true→r a b=true)∧(∀ a b:Nat,b<8→r a b=true→Rc o.Pairs a b)∧∀ j a b:Nat,j<k→b<8→r a j=true→r j b=true→r a b=true) n (by omega)
  (fun k s hk ⟨hs,r,T,L,S,C⟩=>by
   obtain ⟨i,t⟩:=s
   simp only at hs T
   subst hs
   obtain ⟨s3,e3,i3,T3⟩:=jT (body:=fF o ((k:Int),t)) (fun m s=>s.1=(m:Int)∧TB s.2 fun a b=>r a b||(decide (b<m)&&r a k&&r k b)) n (by omega)
    (fun m s hm ⟨hs,T⟩=>by
     obtain ⟨i,u⟩:=s
     simp only at hs T
     subst hs
     unfold fF
     simp only [bY,aBK]
     rw [if_pos (by omega),kR _ (by omega),kR _ (by omega),aFo T (by omega) (by omega),tA,fC (by omega) (by omega)]
     simp only [Nat.lt_irrefl,decide_false,Bool.false_and,Bool.or_false]
     by_cases c:r k m=true
     ·rw [if_pos c,kR _ (by omega),kR _ (by omega),kR _ (by omega)]
      refine ⟨_,rfl,by simp only;omega,?_⟩
      obtain ⟨q,h1,h2,h3⟩:=T k (by omega)
      simp only
      rw [h1]
      refine sB (aJl T (by omega) h2) fun a b hb=>?_
      have h4:q.testBit a=r a k:=by
       rw [h3];show (r a k||decide (k<m)&&r a k&&r k k)=r a k;cases r a k<;>simp
      rw [h4]
      by_cases e:b=m
      ·subst e
       rw [c,decide_eq_true rfl,Bool.true_and,decide_eq_false (Nat.lt_irrefl _),decide_eq_true (Nat.lt_succ_self _)]
       cases r a b<;>cases r a k<;>simp
      ·rw [decide_eq_false e,Bool.false_and,Bool.or_false]
       by_cases g:b<m
       ·rw [decide_eq_true g,decide_eq_true (by omega)]
       ·rw [decide_eq_false g,decide_eq_false (by omega)]
     ·rw [if_neg c]
      refine ⟨_,rfl,by simp only;omega,sB T fun a b hb=>?_⟩
      by_cases e:b=m
      ·subst e
       rw [Bool.eq_false_iff.2 c,Bool.and_false,Bool.and_false]
      ·by_cases g:b<m
       ·rw [decide_eq_true g,decide_eq_true (by omega)]
       ·rw [decide_eq_false g,decide_eq_false (by omega)]) (fun s ⟨hs,_⟩=>by
     unfold fF
     simp only [bY]
     rw [if_neg (by omega)]) (0,t) ⟨rfl,sB T fun a b _=>by simp⟩
   unfold eY
   simp only [bY]
   rw [if_pos (by omega),e3,gF,jP,fC (by omega) (by omega)]
   refine ⟨_,rfl,by simp only;omega,_,T3,?_,?_,?_⟩
   ·intro a b hb g
    rw [L a b hb g];rfl
   ·intro a b hb g
    rw [Bool.or_eq_true,Bool.and_eq_true,Bool.and_eq_true] at g
    rcases g with g | ⟨⟨_,g1⟩,g2⟩
    ·exact S a b hb g
    ·exact aMr (S a k (by omega) g1) (S k b hb g2)
   ·intro j a b hj hb g1 g2
    have key:∀ x y,y<8→((r x y||(decide (y<n)&&r x k&&r k y))=true↔r x y=true∨r x k=true∧r k y=true):=fun x y hy=>by
     rw [Bool.or_eq_true,Bool.and_eq_true,Bool.and_eq_true,decide_eq_true_eq]
     constructor
     ·rintro (g | ⟨⟨_,g1⟩,g2⟩)
      ·exact .inl g
      ·exact .inr ⟨g1,g2⟩
     ·rintro (g | ⟨g1,g2⟩)
      ·exact .inl g
      ·exact .inr ⟨⟨(hin _ _ (S k y hy g2)).2,g1⟩,g2⟩
    rw [key _ _ hb]
    rw [key _ _ (by omega)] at g1
    rw [key _ _ hb] at g2
    by_cases e:j=k
    ·subst e
     refine .inr ⟨?_,?_⟩
     ·rcases g1 with g | ⟨g,_⟩<;>exact g
     ·rcases g2 with g | ⟨_,g⟩<;>exact g
    ·have hj':j<k:=by omega
     rcases g1 with g1 | ⟨g1,g1'⟩
     ·rcases g2 with g2 | ⟨g2,g2'⟩
      ·exact .inl (C j a b hj' hb g1 g2)
      ·exact .inr ⟨C j a k hj' (by omega) g1 g2,g2'⟩
     ·rcases g2 with g2 | ⟨g2,g2'⟩
      ·exact .inr ⟨g1,C j k b hj' hb g1' g2⟩
      ·exact .inr ⟨g1,g2'⟩) (fun s ⟨hs,_⟩=>by
   unfold eY
   simp only [bY]
   rw [if_neg (by omega)]) (0,s1.2) ⟨rfl,r0,T0,fun _ _ _ g=>g,fun a b hb g=>aMv ((H0 a b hb).1 g),fun j a b hj=>absurd hj (Nat.not_lt_zero _)⟩
 have full:∀ a b:Nat,b<8→(r a b=true↔Rc o.Pairs a b):=fun a b hb=>⟨S2 a b hb,fun g=>by
  refine (g (fun a b=>b<n∧r a b=true) (fun x y hxy=>?_) (fun x y z g1 g2=>?_)).2
  ·have:=hin _ _ (aMv hxy)
   exact ⟨this.2,L2 x y (by omega) ((H0 x y (by omega)).2 hxy)⟩
  ·exact ⟨g2.1,C2 y x z g1.1 (by omega) g1.2 g2.2⟩⟩
 obtain ⟨y,e4,hy⟩:=mP (body:=gO o s2) (fun s=>∃ k:Nat,s.1=(k:Int)∧k≤n∧∀ j,j<k→r j j=false) (fun s=>n-s.1.toNat)
  (fun y=>match y with | .inl _=>∀ j,j<n→r j j=false | .inr q=>q=(s2.2,false)∧∃ j,j<n∧r j j=true)
  (fun s ⟨k,hs,hk,hj⟩=>by
   obtain ⟨i,t⟩:=s
   simp only at hs
   subst hs
   unfold gO
   simp only [bY]
   by_cases c:k<n
   ·rw [if_pos (by omega),kR _ (by omega),kR _ (by omega),aFo T2 (by omega) (by omega),tA]
    by_cases q:r k k=true
    ·rw [if_pos q];exact .inr (.inr ⟨_,rfl,rfl,k,c,q⟩)
    ·rw [if_neg q,fC (by omega) (by omega)]
     exact .inl ⟨_,rfl,⟨k+1,rfl,c,fun j h=>by
      by_cases e:j<k
      ·exact hj j e
      ·rw [show j=k by omega];exact Bool.eq_false_iff.2 q⟩,by simp only;omega⟩
   ·rw [if_neg (by omega)]
    exact .inr (.inl ⟨_,rfl,fun j h=>hj j (by omega)⟩)) (0,Ar.zero 8) ⟨0,rfl,Nat.zero_le _,fun j h=>absurd h (Nat.not_lt_zero _)⟩ (by simp only;omega)
 unfold fY
 rw [e1,gF,jP,e2,gF,jP,e4,gF]
 cases y with
 | inl s=>
  rw [jP]
  refine ⟨_,_,r,rfl,T2,full,⟨fun _ a g=>?_,fun _=>rfl⟩⟩
  have hl:=(hin _ _ g).1
  have:=(full a a (by omega)).2 g
  rw [hy a hl] at this;cases this
 | inr q=>
  obtain ⟨rfl,j,hj,hjj⟩:=hy
  rw [aBM]
  refine ⟨_,_,r,rfl,T2,full,⟨fun g=>(by cases g),fun g=>absurd ((full j j (by omega)).1 hjj) (g j)⟩⟩
structure OV (o:aG) (n:Nat) (t:Ar 8) (r:Nat→Nat→Bool):Prop where
 fm:Fm o
 N:o.N=(n:Int)
 n8:n≤8
 rd:bP o=some (t,true)
 tb:TB t r
 lt:∀ a b,r a b=true→a<n∧b<n
 ir:∀ a,r a a=false
 tr:∀ a b c,r a b=true→r b c=true→r a c=true
 rc:∀ a b,r a b=true↔Rc o.Pairs a b
def Vd (o:aG):Prop:=Fm o∧∀ a:Nat,¬Rc o.Pairs a a
theorem aHn (o:aG) (hl:o.Pairs.length≤9223372036854775807):(Vd o∧∃ n t r,OV o n t r)∨(¬Vd o∧∃ t,bP o=some (t,false)):=by
 obtain ⟨v,e,hv⟩:=aDV o hl
 by_cases c:Fm o
 ·obtain ⟨t,w,r,e2,T,R,hw⟩:=aEu c
  have er:bP o=some (t,w):=by
   unfold bP
   rw [e,gF,hv.2 c,qO,aCs,e2,gF]
  by_cases g:∀ a:Nat,¬Rc o.Pairs a a
  ·obtain ⟨n,hn⟩:∃ n:Nat,o.N=(n:Int):=⟨o.N.toNat,by have:=c.N;omega⟩
   have n8:n≤8:=by have:=c.N;omega
   have hin:∀ a b,Rc o.Pairs a b→a<n∧b<n:=fun a b g=>g (fun a b=>a<n∧b<n) (fun x y hxy=>by
    obtain ⟨h1,h2,_⟩:=c.el _ hxy
    exact ⟨by simp only at h1;omega,by simp only at h2;omega⟩) (fun x y z g1 g2=>⟨g1.1,g2.2⟩)
   have R':∀ a b,(decide (b<8)&&r a b)=true↔Rc o.Pairs a b:=fun a b=>by
    rw [Bool.and_eq_true,decide_eq_true_eq]
    exact ⟨fun ⟨h1,h2⟩=>(R a b h1).1 h2,fun h=>by
     have:=hin a b h
     exact ⟨by omega,(R a b (by omega)).2 h⟩⟩
   refine .inl ⟨⟨c,g⟩,n,t,fun a b=>decide (b<8)&&r a b,c,hn,n8,by rw [er,hw.2 g],sB T fun a b hb=>by rw [decide_eq_true hb,Bool.true_and],fun a b h=>hin _ _ ((R' a b).1 h),fun a=>Bool.eq_false_iff.2 fun h=>g a ((R' a a).1 h),fun a b d h1 h2=>(R' a d).2 (aMr ((R' a b).1 h1) ((R' b d).1 h2)),R'⟩
  ·refine .inr ⟨fun h=>g h.2,t,?_⟩
   rw [er,Bool.eq_false_iff.2 fun q=>g (hw.1 q)]
 ·refine .inr ⟨fun h=>c h.1,Ar.zero 8,?_⟩
  unfold bP
  rw [e,gF,Bool.eq_false_iff.2 fun q=>c (hv.1 q),qO,aAO]
theorem aD9 {o:aG} {n:Nat} {t:Ar 8} {r:Nat→Nat→Bool} (h:OV o n t r) (a b:Int):cE o a b=some (decide (0≤a∧0≤b)&&r a.toNat b.toNat):=by
 have hN:=h.N;have h8:=h.n8
 unfold cE
 rw [h.rd,gF]
 simp only [aBK,aCs,bY,aKY,aEf]
 by_cases c:(0≤a∧0≤b)∧a<n∧b<n
 ·rw [if_pos (by split<;>omega),if_pos (by split<;>omega),kR _ (by omega),kR _ (by omega),decide_eq_true c.1,Bool.true_and]
  obtain ⟨x,rfl⟩:∃ x:Nat,a=(x:Int):=⟨a.toNat,by omega⟩
  obtain ⟨y,rfl⟩:∃ y:Nat,b=(y:Int):=⟨b.toNat,by omega⟩
  rw [aFo h.tb (by omega) (by omega),Int.toNat_natCast,Int.toNat_natCast]
 ·have e:(decide (0≤a∧0≤b)&&r a.toNat b.toNat)=false:=Bool.eq_false_iff.2 fun g=>by
   rw [Bool.and_eq_true,decide_eq_true_eq] at g
   have:=h.lt _ _ g.2
   omega
  rw [e]
  by_cases d1:(if b<a then b else a)≥0
  ·rw [if_pos d1,if_neg fun d2=>c (by split at d1<;>split at d2<;>omega)]
  ·rw [if_neg d1]
theorem zA {o:aG} {n:Nat} {t:Ar 8} {r:Nat→Nat→Bool} (h:OV o n t r) (a b:Nat):cE o (a:Int) (b:Int)=some (r a b):=by
 rw [aD9 h,decide_eq_true (by omega),Bool.true_and,Int.toNat_natCast,Int.toNat_natCast]
def sm:Nat→(Nat→Nat)→Nat
 | 0,_=>0
 | n+1,f=>sm n f+f n
theorem eQ:∀ {n:Nat} {f g:Nat→Nat},(∀ i,i<n→f i=g i)→sm n f=sm n g
 | 0,_,_,_=>rfl
 | n+1,f,g,h=>by
  show sm n f+f n=sm n g+g n
  rw [eQ fun i hi=>h i (by omega),h n (by omega)]
theorem aDv:∀ {n:Nat} {f g:Nat→Nat},(∀ i,i<n→f i≤g i)→sm n f≤sm n g
 | 0,_,_,_=>Nat.le_refl _
 | n+1,f,g,h=>by
  show sm n f+f n≤sm n g+g n
  have:=aDv (n:=n) fun i hi=>h i (by omega)
  have:=h n (by omega)
  omega
theorem aBa:∀ (n:Nat) (f g:Nat→Nat),sm n (fun i=>f i+g i)=sm n f+sm n g
 | 0,_,_=>rfl
 | n+1,f,g=>by
  show sm n (fun i=>f i+g i)+(f n+g n)=sm n f+f n+(sm n g+g n)
  rw [aBa n f g];omega
theorem oH:∀ (n:Nat),sm n (fun _=>0)=0
 | 0=>rfl
 | n+1=>by show sm n (fun _=>0)+0=0;rw [oH n]
theorem aDI:∀ (n m:Nat) (f:Nat→Nat→Nat),sm n (fun a=>sm m (fun b=>f a b))=sm m (fun b=>sm n (fun a=>f a b))
 | 0,m,f=>(oH m).symm
 | n+1,m,f=>by
  show sm n (fun a=>sm m (fun b=>f a b))+sm m (fun b=>f n b)=sm m (fun b=>sm n (fun a=>f a b)+f n b)
  rw [aBa,aDI n m f]
theorem vI {n:Nat} {f:Nat→Bool}:sm n (fun b=>(f b).toNat)≤n:=by
 have h:=aDv (n:=n) (f:=fun b=>(f b).toNat) (g:=fun _=>1) fun i _=>by cases f i<;>simp
 have e:∀ n:Nat,sm n (fun _=>1)=n:=fun n=>by
  induction n with
  | zero=>rfl
  | succ n ih=>show sm n (fun _=>1)+1=n+1;rw [ih]
 rw [e] at h;exact h
def cv (n:Nat) (r:Nat→Nat→Bool) (a b:Nat):Bool:=r a b && !(List.range n).any fun k=>r a k&&r k b
theorem aBX {R:Type} {body:Int→Option (Ct Int R)} (a N:Nat) (ha:a≤N) (hN:N≤9223372036854775807) (bad:Nat→Bool) (v:Nat→R)
  (step:∀ k,a≤k→k<N→(∀ j,a≤j→j<k→bad j=false)→body (k:Int)=some (if bad k=true then .rt (v k) else .nx ((k:Int)+1))) (stop:body (N:Int)=some (.bk (N:Int))) :
  ((∀ k,a≤k→k<N→bad k=false)∧lp body FU (a:Int)=some (.inl (N:Int)))∨∃ k,a≤k∧k<N∧bad k=true∧(∀ j,a≤j→j<k→bad j=false)∧lp body FU (a:Int)=some (.inr (v k)):=by
 obtain ⟨y,e,hy⟩:=mP (body:=body) (fun s=>∃ k:Nat,s=(k:Int)∧a≤k∧k≤N∧∀ j,a≤j→j<k→bad j=false) (fun s=>N-s.toNat)
  (fun y=>((∀ k,a≤k→k<N→bad k=false)∧y=.inl (N:Int))∨∃ k,a≤k∧k<N∧bad k=true∧(∀ j,a≤j→j<k→bad j=false)∧y=.inr (v k))
  (fun s ⟨k,hs,h1,h2,h3⟩=>by
   subst hs
   by_cases c:k<N
   ·rw [step k h1 c h3]
    by_cases q:bad k=true
    ·rw [if_pos q];exact .inr (.inr ⟨_,rfl,.inr ⟨k,h1,c,q,h3,rfl⟩⟩)
    ·rw [if_neg q]
     exact .inl ⟨_,rfl,⟨k+1,by omega,by omega,c,fun j g1 g2=>by
      by_cases e:j<k
      ·exact h3 j g1 e
      ·rw [show j=k by omega];exact Bool.eq_false_iff.2 q⟩,by omega⟩
   ·obtain rfl:k=N:=by omega
    rw [stop]
    exact .inr (.inl ⟨_,rfl,.inl ⟨h3,rfl⟩⟩)) (a:Int) ⟨a,rfl,Nat.le_refl _,ha,fun j g1 g2=>absurd g2 (by omega)⟩ (by omega)
 rw [e]
 rcases hy with ⟨h,rfl⟩ | ⟨k,h1,h2,h3,h4,rfl⟩
 ·exact .inl ⟨h,rfl⟩
 ·exact .inr ⟨k,h1,h2,h3,h4,rfl⟩
theorem aEA {a b:aG} (h1:a.N=b.N) (h2:a.Pairs=b.Pairs):a=b:=by cases a;cases b;simp_all
instance:DecidableEq aG:=fun a b=>if h:a.N=b.N∧a.Pairs=b.Pairs then .isTrue (aEA h.1 h.2) else .isFalse fun e=>h (by subst e;exact ⟨rfl,rfl⟩)
theorem aCM (c n:Int) (hc:okI c) (hn:0<n):fH c n=some (vS c n):=by
 unfold fH
 simp only [aBK,tA,decide_eq_true_eq]
 rw [kR _ (by simpa using Int.ne_of_gt hn),kR _ (by simpa using Int.ne_of_gt hn)]
 rw [← aGA c n hc.1 hc.2 hn]
 split<;>rfl
theorem uA (c n:Int) (hc:okI c) (hn:0<n):fI c n=some (vS c n):=aCM c n hc hn
theorem aJR (c:Int) {n:Nat} (hc:okI c) (hn:0<n):∃ k:Nat,k<n∧fH c (n:Int)=some (k:Int):=by
 obtain ⟨h1,h2⟩:=rH c (n:=(n:Int)) (by omega)
 exact ⟨(vS c n).toNat,by omega,by rw [aCM c n hc (by omega),Int.toNat_of_nonneg h1]⟩
theorem aHm {α:Type} [Inhabited α] {ok:α→Prop} {l:List α} (h:okL ok l) {k:Nat} (hk:k<l.length):ok (l.getD k default):=h.1 _ (iD hk)
def mK (l:List Nat):List Int:=l.map fun (x:Nat)=>(x:Int)
theorem bN (l:List Nat):(mK l).length=l.length:=List.length_map _
theorem aAz (l m:List Nat):mK (l++m)=mK l++mK m:=List.map_append
theorem fP {l:List Nat} {k:Nat} (h:k<l.length):(mK l).getD k default=((l.getD k default:Nat):Int):=by
 rw [dU (by rw [bN];exact h),dU h];simp [mK]
theorem aHs {a b n:Int} (ha:0≤a∧a<n) (hb:0≤b∧b<n-1):let t:=Int.tmod (a+1+b) n;(0≤t∧t<n)∧a≠t:=by
 have hn:0<n:=by omega
 simp only
 rw [Int.tmod_eq_emod_of_nonneg (by omega)]
 by_cases q:a+1+b<n
 ·rw [Int.emod_eq_of_lt (by omega) q];omega
 ·have:(a+1+b) % n=a+1+b-n:=by
   rw [← Int.sub_emod_right,Int.emod_eq_of_lt (by omega) (by omega)]
  rw [this];omega
theorem aGs (a0:Int) (x:List (Int×Int)) (o0:okI a0) (o1:okL aDf x):∃ o,gW a0 x=some o∧Fm o∧o.Pairs.length≤20:=by
 unfold gW
 obtain ⟨p1,p2⟩:=rH a0 (n:=9) (by omega)
 rw [uA a0 9 o0 (by omega),gF]
 generalize vS a0 9=b0 at p1 p2 ⊢
 have hx:=o1.2
 obtain ⟨y,e,hy⟩:=mP (body:=iA x) (fun s=>∃ k:Nat,s.1=(k:Int)∧k≤20∧k≤x.length∧s.2.N=b0∧s.2.Pairs.length≤k∧∀ p∈s.2.Pairs,oW b0 p) (fun s=>20-s.1.toNat)
  (fun y=>match y with | .inl s=>s.2.N=b0∧s.2.Pairs.length≤20∧∀ p∈s.2.Pairs,oW b0 p | .inr _=>False)
  (fun s ⟨k,hs,hk,hkx,hN,hl,hp⟩=>by
   obtain ⟨i,N,E⟩:=s
   simp only at hs hN hl hp
   subst hs hN
   unfold iA
   simp only [aBK,bY]
   by_cases c:k<x.length∧k<20∧N>1
   ·obtain ⟨c1,c2,c3⟩:=c
    rw [if_pos (by omega),if_pos (by omega),if_pos c3]
    obtain ⟨o1,o2⟩:=aHm o1 c1
    obtain ⟨q1,q2⟩:=rH (x.getD k default).1 (n:=N) (by omega)
    obtain ⟨q3,q4⟩:=rH (x.getD k default).2 (n:=N-1) (by omega)
    simp only [aAi c1]
    rw [uA _ _ o1 (by omega),gF,fC (by omega) (by omega),uA _ _ o2 (by omega),gF,kR _ (by omega),aIA,aHY (by simp only [List.length_cons,List.length_nil];omega),fC (by omega) (by omega)]
    generalize vS (x.getD k default).1 N=u at *
    generalize vS (x.getD k default).2 (N-1)=v at *
    obtain ⟨t1,t2⟩:=aHs (a:=u) (b:=v) (n:=N) ⟨q1,q2⟩ ⟨q3,q4⟩
    rw [fC (x:=u+1) (by omega) (by omega),fC (x:=u+1+v) (by omega) (by omega)]
    refine .inl ⟨_,rfl,⟨k+1,by simp only;omega,by omega,by omega,rfl,by simp only [List.length_append,List.length_cons,List.length_nil];omega,fun p hp'=>?_⟩,by simp only;omega⟩
    rcases List.mem_append.1 hp' with hp' | hp'
    ·exact hp p hp'
    ·rw [List.mem_singleton.1 hp'];exact ⟨⟨q1,q2⟩,t1,t2⟩
   ·refine .inr (.inl ⟨((k:Int),⟨N,E⟩),?_,rfl,Nat.le_trans hl hk,hp⟩)
    by_cases c1:(k:Int)<(x.length:Int)
    ·by_cases c2:(k:Int)<20
     ·rw [if_pos c1,if_pos c2,if_neg fun c3=>c ⟨by omega,by omega,c3⟩]
     ·rw [if_pos c1,if_neg c2,aAO]
    ·rw [if_neg c1,aAO]) (0,⟨b0,[]⟩) ⟨0,rfl,by omega,by omega,rfl,by simp,by simp⟩ (by simp only;omega)
 rw [e,gF]
 cases y with
 | inl s=>
  obtain ⟨h1,h2,h3⟩:=hy
  rw [jP]
  exact ⟨_,rfl,⟨by omega,by omega,fun p hp=>by rw [h1];exact h3 p hp⟩,h2⟩
 | inr s=>exact hy.elim
theorem aGe {α:Type} (l:List α) (k:Nat):sub l 0 (k:Int)=l.take k:=by
 unfold sub;simp
theorem aGf {α:Type} (l:List α) (k:Nat):sub l (k:Int) (l.length:Int)=l.drop k:=by
 unfold sub;simp
theorem aHt (a0:Int) (x:List (Int×Int)) (a2:Int) (o0:okI a0) (o1:okL aDf x) (o2:okI a2):∃ o n t r,iP a0 x a2=some o∧OV o n t r∧o.Pairs.length≤20:=by
 obtain ⟨o,e0,hf,hl⟩:=aGs a0 x o0 o1
 have hN:=hf.N
 obtain ⟨n,hn⟩:∃ n:Nat,o.N=(n:Int):=⟨o.N.toNat,by omega⟩
 have n8:n≤8:=by omega
 unfold iP
 rw [e0,gF]
 obtain ⟨p1,p2⟩:=rH a2 (n:=40320) (by omega)
 rw [uA a2 40320 o2 (by omega),gF]
 generalize vS a2 40320=m0 at p1 p2 ⊢
 obtain ⟨s1,e1,h1,h2⟩:=jT (body:=gU o) (fun k s=>s.2=(k:Int)∧s.1=mK (List.range k)) n (by omega)
  (fun k s hk ⟨hs,hq⟩=>by
   obtain ⟨l,i⟩:=s
   simp only at hs hq
   subst hs hq
   unfold gU
   simp only [bY]
   rw [if_pos (by omega),aIA,aHY (by rw [bN,List.length_range];simp only [List.length_cons,List.length_nil];omega),fC (by omega) (by omega)]
   exact ⟨_,rfl,by simp only;omega,by rw [List.range_succ,aAz];rfl⟩) (fun s ⟨hs,_⟩=>by
   unfold gU
   simp only [bY]
   rw [if_neg (by omega)]) ([],0) ⟨rfl,rfl⟩
 rw [e1,gF,jP,h2]
 obtain ⟨y,e2,hy⟩:=mP (body:=iS) (fun s=>0≤s.2.1∧s.2.1<40320∧s.1.length+s.2.2.length=n∧(s.1++s.2.2).Nodup) (fun s=>s.2.2.length)
  (fun y=>match y with | .inl s=>s.1.length=n∧s.1.Nodup | .inr _=>False)
  (fun s ⟨g1,g2,g3,g4⟩=>by
   obtain ⟨P,m,L⟩:=s
   simp only at g1 g2 g3 g4
   unfold iS
   simp only [bY]
   by_cases c:L.length=0
   ·rw [if_neg (by omega)]
    obtain rfl:=List.length_eq_zero_iff.1 c
    exact .inr (.inl ⟨_,rfl,by simpa using g3,by simpa using g4⟩)
   ·rw [if_pos (by omega),kR _ (by omega),kR _ (by omega)]
    have k1:=Int.emod_nonneg m (show (L.length:Int)≠0 by omega)
    have k2:=Int.emod_lt_of_pos m (show (0:Int)<(L.length:Int) by omega)
    have d1:0≤m / (L.length:Int):=Int.ediv_nonneg g1 (by omega)
    have d2:m / (L.length:Int)≤m:=Int.ediv_le_self _ g1
    rw [Int.tmod_eq_emod_of_nonneg g1,Int.tdiv_eq_ediv_of_nonneg g1]
    generalize m / (L.length:Int)=d at d1 d2 ⊢
    obtain ⟨k,hk⟩:∃ k:Nat,m % (L.length:Int)=(k:Int):=⟨(m % (L.length:Int)).toNat,by omega⟩
    rw [hk] at k1 k2 ⊢
    have hkl:k<L.length:=by omega
    rw [aAi hkl,aIA,aHY (by simp only [List.length_cons,List.length_nil];omega),aI2 (by omega) (by omega) (by omega),fC (x:=(k:Int)+1) (by omega) (by omega),aI2 (by omega) (by omega) (by omega),fC (x:=d) (by omega) (by omega),aGe,show (k:Int)+1=((k+1:Nat):Int) by omega,aGf,aHY (by simp only [List.length_take,List.length_drop];omega)]
    have hL:L=L.take k++L.getD k default::L.drop (k+1):=by
     rw [dU hkl,← List.drop_eq_getElem_cons hkl,List.take_append_drop]
    refine .inl ⟨_,rfl,⟨d1,by simp only;omega,by simp only [List.length_append,List.length_cons,List.length_nil,List.length_take,List.length_drop];omega,?_⟩,by simp only [List.length_append,List.length_take,List.length_drop];omega⟩
    refine (List.Perm.nodup_iff ?_).1 g4
    simp only
    rw [List.append_assoc]
    refine List.Perm.append_left P ?_
    conv=>lhs;rw [hL]
    exact List.perm_middle) ([],m0,mK (List.range n)) ⟨p1,p2,by rw [bN,List.length_range];simp,by
     rw [List.nil_append]
     exact List.pairwise_map.2 ((List.nodup_range (n:=n)).imp fun h q=>h (by omega))⟩ (by simp only;rw [bN,List.length_range];omega)
 rw [e2,gF]
 cases y with
 | inr s=>exact hy.elim
 | inl s=>
  obtain ⟨P,m,L⟩:=s
  obtain ⟨P1,P2⟩:=hy
  simp only at P1 P2
  rw [jP]
  have pl:∀ z:Int,0≤z∧z<(n:Int)→z.toNat<P.length:=fun z hz=>by omega
  obtain ⟨s3,e3,q1,q2,q3,q4,q5⟩:=jT (body:=gQ (P,m,L)) (fun k s=>s.1=(k:Int)∧s.2.N=(n:Int)∧s.2.Pairs.length=o.Pairs.length∧(∀ p∈s.2.Pairs,oW (n:Int) p)∧∀ j,j<k→P.getD ((s.2.Pairs.getD j default).1).toNat default<P.getD ((s.2.Pairs.getD j default).2).toNat default) o.Pairs.length (by omega)
   (fun k s hk ⟨hs,g1,g2,g3,g4⟩=>by
    obtain ⟨i,N,E⟩:=s
    simp only at hs g1 g2 g3 g4
    subst hs g1
    have hkE:k<E.length:=by omega
    obtain ⟨v1,v2,v3⟩:=g3 _ (iD hkE)
    unfold gQ
    simp only [bY,aBK,Int.toNat_natCast]
    rw [if_pos (by omega),kR _ (by omega),kR _ (by omega),kR _ (by omega),fC (by omega) (by omega)]
    have hne:P.getD ((E.getD k default).1).toNat default≠P.getD ((E.getD k default).2).toNat default:=by
     rw [dU (pl _ v1),dU (pl _ v2)]
     intro q
     have:=(List.getElem_inj P2).1 q
     omega
    by_cases c:P.getD ((E.getD k default).1).toNat default>P.getD ((E.getD k default).2).toNat default
    ·rw [if_pos c,kR _ (by omega),aMV,Int.toNat_natCast]
     have set_get:∀ j,j<E.length→(E.set k ((E.getD k default).2,(E.getD k default).1)).getD j default=if j=k then ((E.getD k default).2,(E.getD k default).1) else E.getD j default:=fun j hj=>by
      rw [dU (by rw [List.length_set];exact hj),List.getElem_set,dU (l:=E) hj]
      by_cases e:j=k
      ·rw [if_pos e,if_pos e.symm]
      ·rw [if_neg e,if_neg fun q=>e q.symm]
     refine ⟨_,rfl,by simp only;omega,rfl,by simp only [List.length_set];exact g2,fun p hp=>?_,fun j hj=>?_⟩
     ·obtain ⟨j,hj,rfl⟩:=vX hp
      simp only [List.length_set] at hj
      rw [set_get j hj]
      by_cases e:j=k
      ·rw [if_pos e];exact ⟨v2,v1,fun q=>v3 q.symm⟩
      ·rw [if_neg e];exact g3 _ (iD hj)
     ·simp only
      rw [set_get j (by omega)]
      by_cases e:j=k
      ·rw [if_pos e];exact c
      ·rw [if_neg e];exact g4 j (by omega)
    ·rw [if_neg c]
     refine ⟨_,rfl,by simp only;omega,rfl,g2,g3,fun j hj=>?_⟩
     by_cases e:j=k
     ·subst e;simp only;omega
     ·exact g4 j (by omega)) (fun s ⟨hs,_,g2,_⟩=>by
    unfold gQ
    simp only [bY]
    rw [if_neg (by omega)]) (0,⟨o.N,o.Pairs⟩) ⟨rfl,hn,rfl,by rw [← hn];exact hf.el,fun j hj=>absurd hj (Nat.not_lt_zero _)⟩
  rw [e3,gF,jP]
  have hFm:Fm ⟨s3.2.N,s3.2.Pairs⟩:=⟨by simp only;omega,by simp only;omega,fun p hp=>by simp only;rw [q2];exact q4 p hp⟩
  have hac:∀ a:Nat,¬Rc s3.2.Pairs a a:=fun a g=>by
   have:=g (fun a b=>P.getD a default<P.getD b default) (fun u v huv=>by
    obtain ⟨j,hj,ej⟩:=vX huv
    have:=q5 j (by omega)
    rw [ej] at this
    simpa using this) (fun _ _ _ g1 g2=>Int.lt_trans g1 g2)
   omega
  rcases aHn ⟨s3.2.N,s3.2.Pairs⟩ (by simp only;omega) with ⟨_,n',t,r,hv⟩ | ⟨hno,_⟩
  ·exact ⟨_,n',t,r,rfl,hv,by simp only;omega⟩
  ·exact absurd ⟨hFm,hac⟩ hno
theorem aDd {α:Type} (f:α→Bool) (x:α):List.filter f [x]=if f x=true then [x] else []:=by
 by_cases h:f x=true
 ·rw [if_pos h,List.filter_cons_of_pos h];rfl
 ·rw [if_neg h,List.filter_cons_of_neg h];rfl
theorem aIf:∀ {n:Nat} {f g:Nat→Nat},(∀ i,i<n→f i≤g i)→∀ {j:Nat},j<n→f j<g j→sm n f<sm n g
 | n+1,f,g,h,j,hj,hlt=>by
  show sm n f+f n<sm n g+g n
  by_cases e:j=n
  ·subst e
   have:=aDv (n:=j) (f:=f) (g:=g) fun i hi=>h i (by omega)
   omega
  ·have:=aIf (n:=n) (f:=f) (g:=g) (fun i hi=>h i (by omega)) (j:=j) (by omega) hlt
   have:=h n (by omega)
   omega
section
variable {o:aG} {n:Nat} {t:Ar 8} {r:Nat→Nat→Bool}
end
theorem aG2:∀ (k:Nat) {a b:Nat},a<2 ^ k→b<2 ^ k→a&&&b=0→a|||b=a+b
 | 0,a,b,ha,hb,_=>by
  obtain rfl:a=0:=by simpa using ha
  obtain rfl:b=0:=by simpa using hb
  rfl
 | k+1,a,b,ha,hb,h=>by
  rw [Nat.pow_succ] at ha hb
  have h2:a / 2&&&b / 2=0:=by rw [← Nat.and_div_two,h]
  have ih:=aG2 k (a:=a / 2) (b:=b / 2) (by omega) (by omega) h2
  have e1:(a|||b) / 2=a / 2+b / 2:=by rw [Nat.or_div_two,ih]
  have e2:¬(a % 2=1∧b % 2=1):=fun q=>by
   have:=Nat.and_mod_two_eq_one.2 q
   rw [h] at this;cases this
  have e3:(a|||b) % 2=1↔a % 2=1∨b % 2=1:=Nat.or_mod_two_eq_one
  omega
theorem aCA {p x:Nat} (h:p.testBit x=false):p|||2 ^ x=p+2 ^ x:=by
 obtain ⟨k,hk⟩:∃ k,p+2 ^ x<2 ^ k:=⟨p+2 ^ x,Nat.lt_two_pow_self⟩
 have:=Nat.two_pow_pos x
 refine aG2 k (by omega) (by omega) (aEF fun i=>?_)
 rw [Nat.testBit_and,aBT,Nat.zero_testBit]
 by_cases e:i=x
 ·subst e;rw [h];rfl
 ·rw [decide_eq_false e,Bool.and_false]
theorem aCn {p x:Nat} (h:p.testBit x=false) (i:Nat):(p+2 ^ x).testBit i=(p.testBit i||decide (i=x)):=by
 rw [← aCA h,Nat.testBit_or,aBT]
theorem aG9 {P:Nat→Prop} (f:Nat→Nat):∀ (n:Nat),(∃ x,x<n∧P x)→∃ x,x<n∧P x∧∀ y,y<n→P y→f y≤f x
 | 0,⟨x,h,_⟩=>absurd h (Nat.not_lt_zero _)
 | n+1,⟨x,h,hP⟩=>by
  by_cases c:∃ x,x<n∧P x
  ·obtain ⟨z,h1,h2,h3⟩:=aG9 f n c
   by_cases d:P n∧f z≤f n
   ·exact ⟨n,by omega,d.1,fun y hy hp=>by
     by_cases e:y=n
     ·rw [e];exact Nat.le_refl _
     ·exact Nat.le_trans (h3 y (by omega) hp) d.2⟩
   ·exact ⟨z,by omega,h2,fun y hy hp=>by
     by_cases e:y=n
     ·subst e
      have:¬f z≤f y:=fun q=>d ⟨hp,q⟩
      omega
     ·exact h3 y (by omega) hp⟩
  ·have:x=n:=by
    refine Classical.byContradiction fun q=>c ⟨x,by omega,hP⟩
   subst this
   exact ⟨x,by omega,hP,fun y hy hp=>by
    by_cases e:y=x
    ·rw [e];exact Nat.le_refl _
    ·exact absurd ⟨y,by omega,hp⟩ c⟩
def suc (n:Nat) (r:Nat→Nat→Bool) (x:Nat):Nat:=sm n fun k=>(r x k).toNat
section
variable {o:aG} {n:Nat} {t:Ar 8} {r:Nat→Nat→Bool}
theorem OV.suc_lt (h:OV o n t r) {a b:Nat} (hr:r a b=true):suc n r b<suc n r a:=by
 refine aIf (fun i _=>?_) (h.lt _ _ hr).2 (by rw [h.ir,hr];simp)
 cases c:r b i
 ·simp
 ·rw [h.tr a b i hr c];exact Nat.le_refl _
end
def pc (n p:Nat):Nat:=sm n fun x=>(p.testBit x).toNat
theorem aIt (n p:Nat):pc n p≤n:=vI
section
variable {o:aG} {n:Nat} {t:Ar 8} {r:Nat→Nat→Bool}
end
def fr (r:Nat→Nat→Bool) (S x:Nat):Prop:=S.testBit x=false∧∀ a,r a x=true→S.testBit a=true
def LnF (n:Nat) (r:Nat→Nat→Bool):Nat→List Nat→Prop
 | _,[]=>True
 | S,x::l=>x<n∧fr r S x∧LnF n r (S+2 ^ x) l
def msk:List Nat→Nat
 | []=>0
 | x::l=>2 ^ x+msk l
def Ln (n:Nat) (r:Nat→Nat→Bool) (l:List Nat):Prop:=LnF n r 0 l
section
variable {n:Nat} {r:Nat→Nat→Bool}
theorem aFl:∀ (l m:List Nat),msk (l++m)=msk l+msk m
 | [],m=>by show msk m=0+msk m;omega
 | x::l,m=>by show 2 ^ x+msk (l++m)=2 ^ x+msk l+msk m;rw [aFl l m];omega
theorem aGd (l:List Nat) (x:Nat):msk (l++[x])=msk l+2 ^ x:=by rw [aFl];rfl
theorem aB5:∀ (l m:List Nat) (S:Nat),LnF n r S (l++m)↔LnF n r S l∧LnF n r (S+msk l) m
 | [],m,S=>by show LnF n r S m↔True∧LnF n r (S+0) m;rw [Nat.add_zero,true_and]
 | x::l,m,S=>by
  show (x<n∧fr r S x∧LnF n r (S+2 ^ x) (l++m))↔(x<n∧fr r S x∧LnF n r (S+2 ^ x) l)∧LnF n r (S+(2 ^ x+msk l)) m
  rw [aB5 l m,Nat.add_assoc,and_assoc,and_assoc]
theorem aFd {l:List Nat} {x:Nat}:Ln n r (l++[x])↔Ln n r l∧x<n∧fr r (msk l) x:=by
 unfold Ln
 rw [aB5,Nat.zero_add]
 exact and_congr_right fun _=>⟨fun h=>⟨h.1,h.2.1⟩,fun h=>⟨h.1,h.2,trivial⟩⟩
theorem aCo:∀ {l:List Nat} {S:Nat},LnF n r S l→∀ i,(S+msk l).testBit i=(S.testBit i||decide (i∈l))
 | [],S,_,i=>by show (S+0).testBit i=_;simp
 | x::l,S,h,i=>by
  show (S+(2 ^ x+msk l)).testBit i=_
  rw [← Nat.add_assoc,aCo h.2.2 i,aCn h.2.1.1,Bool.or_assoc]
  congr 1
  rw [Bool.eq_iff_iff];simp
theorem sJ {l:List Nat} (h:Ln n r l) (i:Nat):(msk l).testBit i=decide (i∈l):=by
 have:=aCo h i
 rwa [Nat.zero_add,Nat.zero_testBit,Bool.false_or] at this
theorem aG4:∀ {l:List Nat} {S:Nat},LnF n r S l→∀ x∈l,x<n
 | [],_,_,x,hx=>by cases hx
 | y::l,_,h,x,hx=>by
  rcases List.mem_cons.1 hx with rfl | hx
  ·exact h.1
  ·exact aG4 h.2.2 x hx
theorem aF9 {l:List Nat} (h:Ln n r l):∀ x∈l,x<n:=aG4 h
theorem aDP {l:List Nat} (h:Ln n r l):msk l<2 ^ n:=Nat.lt_pow_two_of_testBit _ fun i hi=>by
 rw [sJ h,decide_eq_false_iff_not]
 intro q
 have:=aF9 h i q
 omega
theorem aFc:∀ {n x:Nat},x<n→sm n (fun i=>if i=x then 1 else 0)=1
 | n+1,x,h=>by
  show sm n (fun i=>if i=x then 1 else 0)+(if n=x then 1 else 0)=1
  by_cases e:n=x
  ·subst e
   rw [if_pos rfl,eQ (g:=fun _=>0) fun i hi=>if_neg (by omega),oH]
  ·rw [if_neg e,aFc (by omega)]
theorem aGL {S x:Nat} (hx:x<n) (h:S.testBit x=false):pc n (S+2 ^ x)=pc n S+1:=by
 unfold pc
 rw [← aFc hx,← aBa]
 refine eQ fun i _=>?_
 rw [aCn h]
 by_cases e:i=x
 ·subst e;rw [h,decide_eq_true rfl,if_pos rfl];rfl
 ·rw [decide_eq_false e,if_neg e,Bool.or_false,Nat.add_zero]
theorem aGU:∀ {l:List Nat} {S:Nat},LnF n r S l→pc n (S+msk l)=pc n S+l.length
 | [],S,_=>rfl
 | x::l,S,h=>by
  show pc n (S+(2 ^ x+msk l))=_
  rw [← Nat.add_assoc,aGU h.2.2,aGL h.1 h.2.1.1,List.length_cons];omega
theorem aH4 (n:Nat):pc n 0=0:=by
 unfold pc
 rw [eQ (g:=fun _=>0) fun i _=>by rw [Nat.zero_testBit];rfl]
 exact oH n
theorem aH0 {l:List Nat} (h:Ln n r l):pc n (msk l)=l.length:=by
 have:=aGU h
 rwa [Nat.zero_add,aH4,Nat.zero_add] at this
theorem aCE (n:Nat):sm n (fun _=>1)=n:=by
 induction n with
 | zero=>rfl
 | succ n ih=>show sm n (fun _=>1)+1=n+1;rw [ih]
theorem aBO {S:Nat}:pc n S=n↔∀ x,x<n→S.testBit x=true:=by
 constructor
 ·intro h x hx
  refine Classical.byContradiction fun q=>?_
  have:=aIf (n:=n) (f:=fun x=>(S.testBit x).toNat) (g:=fun _=>1) (fun i _=>by cases S.testBit i<;>simp) hx (by rw [Bool.eq_false_iff.2 q];simp)
  rw [aCE] at this
  unfold pc at h;omega
 ·intro h
  unfold pc
  rw [eQ (g:=fun _=>1) fun i hi=>by rw [h i hi];rfl]
  exact aCE n
theorem aKF {l:List Nat} (h:Ln n r l):l.length≤n:=by rw [← aH0 h];exact aIt _ _
theorem aE5 {l:List Nat} (h:Ln n r l) (hl:l.length=n) {x:Nat} (hx:x<n):x∈l:=by
 have:=aBO.1 ((aH0 h).trans hl) x hx
 rw [sJ h,decide_eq_true_eq] at this;exact this
theorem aB4 {l:List Nat} (h:Ln n r l) (hl:l.length<n):∃ x,x<n∧(msk l).testBit x=false:=by
 refine Classical.byContradiction fun q=>?_
 have:pc n (msk l)=n:=aBO.2 fun x hx=>by
  cases c:(msk l).testBit x
  ·exact absurd ⟨x,hx,c⟩ q
  ·rfl
 rw [aH0 h] at this;omega
theorem aJc {l:List Nat} (h:Ln n r l) {k:Nat} (hk:k<l.length):Ln n r (l.take k)∧l.getD k default<n∧fr r (msk (l.take k)) (l.getD k default):=by
 have e:l=l.take k++l.getD k default::l.drop (k+1):=by
  rw [dU hk,← List.drop_eq_getElem_cons hk,List.take_append_drop]
 unfold Ln at h
 rw [e,aB5,Nat.zero_add] at h
 exact ⟨h.1,h.2.1,h.2.2.1⟩
theorem aE7:∀ (k:Nat) {l:List Nat},l.length=k→Ln n r l→l.Pairwise fun x y=>x≠y∧r y x=false
 | 0,l,hk,_=>by
  rw [List.length_eq_zero_iff.1 hk];exact .nil
 | k+1,l,hk,h=>by
  have hne:l≠[]:=fun q=>by rw [q] at hk;cases hk
  obtain ⟨m,x,rfl⟩:∃ m x,l=m++[x]:=⟨l.dropLast,l.getLast hne,(List.dropLast_concat_getLast hne).symm⟩
  obtain ⟨h1,h2,h3⟩:=aFd.1 h
  have hm:m.length=k:=by simpa using hk
  refine List.pairwise_append.2 ⟨aE7 k hm h1,List.pairwise_singleton _ _,fun y hy z hz=>?_⟩
  rw [List.mem_singleton.1 hz]
  have hb:=h3.1
  rw [sJ h1,decide_eq_false_iff_not] at hb
  refine ⟨fun q=>hb (q ▸ hy),Bool.eq_false_iff.2 fun q=>?_⟩
  obtain ⟨j,hj,rfl⟩:=vX hy
  obtain ⟨g1,_,g3⟩:=aJc h1 hj
  have:=g3.2 x q
  rw [sJ g1,decide_eq_true_eq] at this
  exact hb (List.mem_of_mem_take this)
end
section
variable {o:aG} {n:Nat} {t:Ar 8} {r:Nat→Nat→Bool}
theorem OV.fr_ex (h:OV o n t r) {l:List Nat} (hl:Ln n r l) (hlt:l.length<n):∃ x,x<n∧fr r (msk l) x:=by
 obtain ⟨y,hy,hb⟩:=aB4 hl hlt
 obtain ⟨x,h1,h2,h3⟩:=aG9 (P:=fun x=>(msk l).testBit x=false) (suc n r) n ⟨y,hy,hb⟩
 refine ⟨x,h1,h2,fun a ha=>?_⟩
 cases c:(msk l).testBit a
 ·have:=h3 a (h.lt _ _ ha).1 c
  have:=h.suc_lt ha
  omega
 ·rfl
theorem aJ5 (T:TB t r) {S x:Nat} (hS:S<256) (hx:x<8):(pV .i64 (t.at1 (x:Int)) (S:Int)==0)=true↔∀ a,r a x=true→S.testBit a=true:=by
 obtain ⟨z,z1,z2,z3⟩:=T x hx
 rw [z1,aGw (by omega) (by omega),beq_iff_eq,show (((aAk z S:Nat):Int)=0↔aAk z S=0) by omega,aC4]
 exact ⟨fun q a ha=>q a (by rw [z3];exact ha),fun q a ha=>q a (by rw [← z3];exact ha)⟩
def Gd (r:Nat→Nat→Bool) (l:List Nat):Prop:=∀ k,k<l.length→∀ y,y<l.getD k default→¬fr r (msk (l.take k)) y
theorem aHT {l:List Nat} {x:Nat} (h:Gd r l) (hx:∀ y,y<x→¬fr r (msk l) y):Gd r (l++[x]):=fun k hk y hy=>by
 by_cases c:k<l.length
 ·have e:(l++[x]).getD k default=l.getD k default:=by rw [List.getD_eq_getElem?_getD,List.getElem?_append_left c,List.getD_eq_getElem?_getD]
  rw [e] at hy
  rw [List.take_append_of_le_length (by omega)]
  exact h k c y hy
 ·have:k=l.length:=by simp only [List.length_append,List.length_cons,List.length_nil] at hk;omega
  subst this
  have e:(l++[x]).getD l.length default=x:=by simp [List.getD_eq_getElem?_getD]
  rw [e] at hy
  rw [List.take_append_of_le_length (Nat.le_refl _),List.take_length]
  exact hx y hy
theorem aIc (h:OV o n t r):∃ ls,fK (n:Int) t=some (mK ls)∧Ln n r ls∧ls.length=n∧Gd r ls:=by
 have n8:=h.n8
 have p8:=nP n8
 obtain ⟨y,e,hy⟩:=mP (body:=iX (n:Int) t) (fun s=>∃ ls,s.1=mK ls∧Ln n r ls∧Gd r ls∧s.2=((msk ls:Nat):Int)) (fun s=>n-s.1.length)
  (fun y=>match y with | .inl s=>∃ ls,s.1=mK ls∧Ln n r ls∧ls.length=n∧Gd r ls | .inr _=>False)
  (fun s ⟨ls,h1,h2,h3,h4⟩=>by
   obtain ⟨u,v⟩:=s
   simp only at h1 h4
   subst h1 h4
   have hm:=aDP h2
   have hlen:=aKF h2
   unfold iX
   simp only [bY,bN]
   by_cases c:ls.length<n
   ·rw [if_pos (by omega)]
    obtain ⟨x0,x1,x2⟩:=h.fr_ex h2 c
    obtain ⟨y,e,hy⟩:=mP (body:=jE (n:Int) t) (fun s=>∃ k:Nat,s=(mK ls,((msk ls:Nat):Int),(k:Int))∧k≤n∧∀ y,y<k→¬fr r (msk ls) y) (fun s=>n-s.2.2.toNat)
     (fun y=>∃ x,x<n∧fr r (msk ls) x∧(∀ y,y<x→¬fr r (msk ls) y)∧y=.inl (mK (ls++[x]),((msk (ls++[x]):Nat):Int),(x:Int)))
     (fun s ⟨k,hs,hk,hj⟩=>by
      subst hs
      have hkn:k<n:=by
       refine Nat.lt_of_not_le fun q=>hj x0 (by omega) x2
      unfold jE
      simp only [bY,aBK]
      rw [if_pos (by omega),kR _ (by omega),aKi (by omega) (by omega),qO,tA]
      have nxt:¬fr r (msk ls) k→(∃ s',(some (Ct.nx (mK ls,((msk ls:Nat):Int),wr ((k:Int)+1))):Option (Ct ((List Int)×Int×Int) (List Int)))=some (.nx s')∧(∃ k:Nat,s'=(mK ls,((msk ls:Nat):Int),(k:Int))∧k≤n∧∀ y,y<k→¬fr r (msk ls) y)∧n-s'.2.2.toNat<n-(k:Int).toNat):=fun q=>by
       rw [fC (by omega) (by omega)]
       refine ⟨_,rfl,⟨k+1,by rw [show (k:Int)+1=((k+1:Nat):Int) by omega],hkn,fun y hy=>?_⟩,by simp only;omega⟩
       by_cases e:y<k
       ·exact hj y e
       ·rw [show y=k by omega];exact q
      by_cases c1:(msk ls).testBit k=true
      ·rw [if_pos c1,aAO]
       exact .inl (nxt fun q=>by rw [q.1] at c1;cases c1)
      ·rw [if_neg c1,kR _ (by omega),tA]
       have fd:=aJ5 h.tb (S:=msk ls) (x:=k) (by omega) (by omega)
       by_cases c2:(pV .i64 (t.at1 (k:Int)) ((msk ls:Nat):Int)==0)=true
       ·rw [if_pos c2,aIA,aHY (by rw [bN];simp only [List.length_cons,List.length_nil];omega),kR _ (by omega),aII (by omega),aK3 (by omega) (by have:=nP (k:=k) (by omega);omega)]
        have hb:=Bool.eq_false_iff.2 c1
        refine .inr (.inl ⟨_,rfl,k,hkn,⟨hb,fd.1 c2⟩,hj,?_⟩)
        rw [aAz,aGd,← aCA hb];rfl
       ·rw [if_neg c2]
        exact .inl (nxt fun q=>c2 (fd.2 q.2))) (mK ls,((msk ls:Nat):Int),0) ⟨0,rfl,Nat.zero_le _,fun y hy=>absurd hy (Nat.not_lt_zero _)⟩ (by simp only;omega)
    obtain ⟨x,g1,g2,g3,rfl⟩:=hy
    rw [e,gF,jP]
    refine .inl ⟨_,rfl,⟨ls++[x],rfl,aFd.2 ⟨h2,g1,g2⟩,aHT h3 g3,rfl⟩,by simp only [bN,List.length_append,List.length_cons,List.length_nil];omega⟩
   ·rw [if_neg (by omega)]
    exact .inr (.inl ⟨_,rfl,ls,rfl,h2,by omega,h3⟩)) ([],0) ⟨[],rfl,trivial,fun k hk=>absurd hk (Nat.not_lt_zero _),rfl⟩ (by simp only [List.length_nil];omega)
 unfold fK
 rw [e,gF]
 cases y with
 | inr s=>exact hy.elim
 | inl s=>
  obtain ⟨ls,h1,h2,h3,h4⟩:=hy
  rw [jP,h1]
  exact ⟨ls,rfl,h2,h3,h4⟩
end
theorem tZ {α:Type} [Inhabited α] {l:List α} {i j:Nat} {v:α} (hi:i<l.length):(l.set i v).getD j default=if j=i then v else l.getD j default:=by
 rw [List.getD_eq_getElem?_getD,List.getElem?_set]
 by_cases e:j=i
 ·subst e;rw [if_pos rfl,if_pos rfl,if_pos hi];rfl
 ·rw [if_neg (fun q=>e q.symm),if_neg e,List.getD_eq_getElem?_getD]
def Rep (n:Nat) (W:List Int) (f:Nat→Nat):Prop:=W.length=n∧∀ x,x<n→W.getD x default=((f x:Nat):Int)
def upf (f:Nat→Nat) (b v x:Nat):Nat:=if x=b then v else f x
theorem aDM (f:Nat→Nat) (b v:Nat):upf f b v b=v:=if_pos rfl
theorem yL (f:Nat→Nat) {b x:Nat} (v:Nat) (h:x≠b):upf f b v x=f x:=if_neg h
section
variable {o:aG} {n:Nat} {t:Ar 8} {r:Nat→Nat→Bool}
end
section
variable {o:aG} {n:Nat} {t:Ar 8} {r:Nat→Nat→Bool}
end
def RA (x:Ar 8) (f:Nat→Nat):Prop:=∀ b:Nat,b<8→x.at1 (b:Int)=((f b:Nat):Int)
theorem aFs {x:Ar 8} {f:Nat→Nat} (h:RA x f) {b:Nat} (hb:b<8) (v:Nat):RA (x.st1 (b:Int) (v:Int)) (upf f b v):=fun c hc=>by
 rw [aFr x hb]
 by_cases e:c=b
 ·rw [if_pos e,e,aDM]
 ·rw [if_neg e,yL _ _ e,h c hc]
theorem aDR:RA (Ar.zero 8) fun _=>0:=fun b hb=>by
 show (List.replicate 8 (0:Int)).getD (b:Int).toNat 0=0
 rw [Int.toNat_natCast,List.getD_eq_getElem?_getD,List.getElem?_replicate,if_pos hb];rfl
theorem aAR:∀ {n:Nat} {b:Nat} (f g:Nat→Nat),b<n→(∀ i,i≠b→g i=f i)→sm n g+f b=sm n f+g b
 | n+1,b,f,g,hb,h=>by
  show sm n g+g n+f b=sm n f+f n+g b
  by_cases e:b=n
  ·subst e
   rw [eQ (n:=b) (f:=g) (g:=f) fun i hi=>h i (by omega)];omega
  ·have:=aAR (n:=n) f g (by omega) h
   rw [h n fun q=>e q.symm];omega
def cnt (n:Nat) (m:Nat→Nat) (z:Nat):Nat:=sm n fun b=>if m b=z+1 then 1 else 0
theorem aEc {n:Nat} {m:Nat→Nat} {b:Nat} (hb:b<n) (v z:Nat):cnt n (upf m b v) z+(if m b=z+1 then 1 else 0)=cnt n m z+if v=z+1 then 1 else 0:=by
 have:=aAR (b:=b) (fun b=>if m b=z+1 then 1 else 0) (fun c=>if upf m b v c=z+1 then 1 else 0) hb fun i hi=>by rw [yL _ _ hi]
 simp only [aDM] at this
 exact this
structure Cls (r:Nat→Nat→Bool) (m:Nat→Nat) (DL DR:Nat→Prop):Prop where
 c1:∀ a b,DL a→r a b=true→DR b
 c2:∀ b,DR b→m b≠0∧DL (m b-1)
def Mt (r:Nat→Nat→Bool) (m:Nat→Nat):Prop:=∀ b,m b≠0→r (m b-1) b=true
structure aMt (r:Nat→Nat→Bool) (n:Nat) (m:Nat→Nat) (a S S':Nat):Prop where
 lt:S'<2 ^ n
 up:∀ b,S.testBit b=true→S'.testBit b=true
 nb:∀ b,r a b=true→S'.testBit b=true
 cl:∀ b,S'.testBit b=true→S.testBit b=false→m b≠0∧∀ c,r (m b-1) c=true→S'.testBit c=true
structure aKv (r:Nat→Nat→Bool) (n:Nat) (m m':Nat→Nat) (a S:Nat):Prop where
 mt:Mt r m'
 old:∀ b,S.testBit b=true→m' b=m b
 ct:∀ z,cnt n m' z=cnt n m z+if z=a then 1 else 0
 av:∀ DL DR,Cls r m DL DR→¬DL a∧∀ b,DR b→m' b=m b
def FoR (r:Nat→Nat→Bool) (n:Nat) (x:Ar 8) (m:Nat→Nat) (a S:Nat) (y:Bool×Ar 8×Int):Prop:=
 (y.1=false∧y.2.1=x∧∃ S':Nat,y.2.2=(S':Int)∧aMt r n m a S S')∨(y.1=true∧∃ m',RA y.2.1 m'∧aKv r n m m' a S)
section
variable {o:aG} {n:Nat} {t:Ar 8} {r:Nat→Nat→Bool}
theorem aLX {S b:Nat} (hb:b<n) (h:S.testBit b=false):pc n S<n:=by
 refine Nat.lt_of_le_of_ne (aIt n S) fun q=>?_
 rw [aBO.1 q b hb] at h;cases h
theorem wX (h:OV o n t r):∀ (k a S:Nat) (x:Ar 8) (m:Nat→Nat),RA x m→Mt r m→a<n→S<2 ^ n→n-pc n S<k→∃ y,oE k (a:Int) o t x (S:Int)=some y∧FoR r n x m a S y
 | 0,_,_,_,_,_,_,_,_,hk=>absurd hk (Nat.not_lt_zero _)
 | k+1,a,S,x,m,hx,hm,ha,hS,hk=>by
  have n8:=h.n8
  have hN:=h.N
  have p8:=nP n8
  show ∃ y,rG (oE k) (a:Int) o t x (S:Int)=some y∧FoR r n x m a S y
  unfold rG
  obtain ⟨y,e,hy⟩:=mP (body:=pU (a:Int) o t (oE k)) (fun s=>∃ b Q:Nat,s=((b:Int),(Q:Int),x)∧b≤n∧Q<2 ^ n∧(∀ c,S.testBit c=true→Q.testBit c=true)∧(∀ c,c<b→r a c=true→Q.testBit c=true)∧∀ c,Q.testBit c=true→S.testBit c=false→m c≠0∧∀ d,r (m c-1) d=true→Q.testBit d=true) (fun s=>n-s.1.toNat)
   (fun y=>match y with | .inl s=>s.2.2=x∧∃ S':Nat,s.2.1=(S':Int)∧aMt r n m a S S' | .inr y=>y.1=true∧∃ m',RA y.2.1 m'∧aKv r n m m' a S)
   (fun s ⟨b,Q,hs,hb,hQ,q1,q2,q3⟩=>by
    subst hs
    unfold pU
    simp only [bY,aBK]
    by_cases cb:b<n
    ·have nxt:∀ Q':Nat,Q'<2 ^ n→(∀ c,Q.testBit c=true→Q'.testBit c=true)→(r a b=true→Q'.testBit b=true)→(∀ c,Q'.testBit c=true→Q.testBit c=false→m c≠0∧∀ d,r (m c-1) d=true→Q'.testBit d=true)→(∃ s',(some (.nx (wr ((b:Int)+1),(Q':Int),x)):Option (Ct (Int×Int×(Ar 8)) (Bool×(Ar 8)×Int)))=some (.nx s')∧(∃ b Q:Nat,s'=((b:Int),(Q:Int),x)∧b≤n∧Q<2 ^ n∧(∀ c,S.testBit c=true→Q.testBit c=true)∧(∀ c,c<b→r a c=true→Q.testBit c=true)∧∀ c,Q.testBit c=true→S.testBit c=false→m c≠0∧∀ d,r (m c-1) d=true→Q.testBit d=true)∧n-s'.1.toNat<n-(b:Int).toNat):=fun Q' g1 g2 g3 g4=>by
      rw [fC (by omega) (by omega)]
      refine ⟨_,rfl,⟨b+1,Q',by rw [show ((b+1:Nat):Int)=(b:Int)+1 by omega],cb,g1,fun c hc=>g2 c (q1 c hc),fun c hc hr=>?_,fun c hc hs=>?_⟩,by simp only;omega⟩
      ·by_cases e:c<b
       ·exact g2 c (q2 c e hr)
       ·obtain rfl:c=b:=by omega
        exact g3 hr
      ·cases e:Q.testBit c
       ·exact g4 c hc e
       ·obtain ⟨z1,z2⟩:=q3 c e hs
        exact ⟨z1,fun d hd=>g2 d (z2 d hd)⟩
     rw [if_pos (by omega),kR _ (by omega),kR _ (by omega),aH2 h.tb (by omega) (by omega),qO,tA]
     by_cases cr:r a b=true
     ·rw [if_pos cr,kR _ (by omega),aJT (by omega) (by omega),tA]
      by_cases cq:Q.testBit b=true
      ·rw [if_pos cq]
       exact .inl (nxt Q hQ (fun _ g=>g) (fun _=>cq) fun c g1 g2=>by rw [g1] at g2;cases g2)
      ·have cq':=Bool.eq_false_iff.2 cq
       have spb:=nP (k:=b) (by omega)
       have hQb:Q+2 ^ b<2 ^ n:=by
        rw [← aCA cq']
        exact Nat.or_lt_two_pow hQ (Nat.pow_lt_pow_right (by omega) cb)
       have hab:=aCn cq'
       have hpc:=aGL cb cq'
       have hpl:=aLX cb cq'
       have sub:∀ z,S.testBit z=true→(Q+2 ^ b).testBit z=true:=fun z hz=>by rw [hab,q1 z hz];rfl
       have Sb:S.testBit b=false:=by
        cases e:S.testBit b
        ·rfl
        ·exact absurd (q1 b e) cq
       have hQS:pc n S≤pc n Q:=aDv fun i _=>by
        cases e:S.testBit i
        ·exact Nat.zero_le _
        ·rw [q1 i e];exact Nat.le_refl _
       rw [if_neg cq,kR _ (by omega),kR _ (by omega),hx b (by omega),aEx]
       simp only [aII (show b≤60 by omega),aK3 (show Q<4611686018427387904 by omega) (show 2 ^ b<4611686018427387904 by omega),aCA cq']
       by_cases cm:m b=0
       ·rw [if_pos (by omega),aCs,kR _ (by omega),fC (by omega) (by omega)]
        refine .inr (.inr ⟨_,rfl,rfl,upf m b (a+1),aFs hx (by omega) (a+1),fun c hc=>?_,fun c hc=>?_,fun z=>?_,fun DL DR hD=>⟨fun g=>?_,fun c hc=>?_⟩⟩)
        ·by_cases e:c=b
         ·subst e;rw [aDM];exact cr
         ·rw [yL _ _ e] at hc ⊢;exact hm c hc
        ·rw [yL _ _ fun e=>by rw [e,Sb] at hc;cases hc]
        ·have:=aEc (m:=m) cb (a+1) z
         rw [cm,if_neg (by omega),Nat.add_zero] at this
         rw [this]
         by_cases e:z=a
         ·rw [if_pos (by omega),if_pos e]
         ·rw [if_neg (by omega),if_neg e]
        ·exact (hD.c2 b (hD.c1 a b g cr)).1 cm
        ·rw [yL _ _ fun e=>(hD.c2 c hc).1 (by rw [e];exact cm)]
       ·have hmb:=hm b cm
        have hlt:=h.lt _ _ hmb
        rw [if_neg (by omega),kR _ (by omega),fC (by omega) (by omega),show ((m b:Nat):Int)-1=((m b-1:Nat):Int) by omega]
        obtain ⟨y,ey,hy⟩:=wX h k (m b-1) (Q+2 ^ b) x m hx hm hlt.1 hQb (by omega)
        rw [ey,gF]
        obtain ⟨ok,x',Z⟩:=y
        rcases hy with ⟨f1,f2,S',f3,f4⟩ | ⟨f1,m1,f2,f3⟩
        ·simp only at f1 f2 f3
         subst f1 f2 f3
         simp only [aAO]
         refine .inl (nxt S' f4.lt (fun c hc=>f4.up c (by rw [hab,hc];rfl)) (fun _=>f4.up b (by rw [hab,decide_eq_true rfl,Bool.or_true])) fun c g1 g2=>?_)
         by_cases e:c=b
         ·subst e;exact ⟨cm,f4.nb⟩
         ·exact f4.cl c g1 (by rw [hab,g2,decide_eq_false e];rfl)
        ·simp only at f1 f2
         subst f1
         simp only [aCs]
         have m1b:m1 b=m b:=f3.old b (by rw [hab,decide_eq_true rfl,Bool.or_true])
         rw [kR _ (by omega),fC (by omega) (by omega)]
         refine .inr (.inr ⟨_,rfl,rfl,upf m1 b (a+1),aFs f2 (by omega) (a+1),fun c hc=>?_,fun c hc=>?_,fun z=>?_,fun DL DR hD=>?_⟩)
         ·by_cases e:c=b
          ·subst e;rw [aDM];exact cr
          ·rw [yL _ _ e] at hc ⊢;exact f3.mt c hc
         ·rw [yL _ _ (fun e=>by rw [e,Sb] at hc;cases hc),f3.old c (sub c hc)]
         ·have g1:=aEc (m:=m1) cb (a+1) z
          have g2:=f3.ct z
          rw [m1b] at g1
          by_cases e1:m b=z+1
          ·rw [if_pos (by omega)] at g1 g2
           by_cases e:z=a
           ·rw [if_pos (by omega)] at g1;rw [if_pos e];omega
           ·rw [if_neg (by omega)] at g1;rw [if_neg e];omega
          ·rw [if_neg e1] at g1
           rw [if_neg (by omega)] at g2
           by_cases e:z=a
           ·rw [if_pos (by omega)] at g1;rw [if_pos e];omega
           ·rw [if_neg (by omega)] at g1;rw [if_neg e];omega
         ·obtain ⟨v1,v2⟩:=f3.av DL DR hD
          refine ⟨fun g=>v1 (hD.c2 b (hD.c1 a b g cr)).2,fun c hc=>?_⟩
          rw [yL _ _ fun e=>v1 (by rw [← e];exact (hD.c2 c hc).2)]
          exact v2 c hc
     ·rw [if_neg cr,aCs]
      exact .inl (nxt Q hQ (fun _ g=>g) (fun g=>absurd g cr) fun c g1 g2=>by rw [g1] at g2;cases g2)
    ·rw [if_neg (by omega)]
     exact .inr (.inl ⟨_,rfl,rfl,Q,rfl,hQ,q1,fun c hc=>q2 c (by have:=(h.lt _ _ hc).2;omega) hc,q3⟩)) (0,(S:Int),x) ⟨0,S,rfl,Nat.zero_le _,hS,fun _ g=>g,fun c hc=>absurd hc (Nat.not_lt_zero _),fun c g1 g2=>by rw [g1] at g2;cases g2⟩ (by simp only;omega)
  rw [e,gF]
  cases y with
  | inl s=>
   obtain ⟨y1,S',y2,y3⟩:=hy
   rw [jP]
   exact ⟨_,rfl,.inl ⟨rfl,y1,S',y2,y3⟩⟩
  | inr y=>
   rw [aBM]
   exact ⟨_,rfl,.inr hy⟩
structure Mat (r:Nat→Nat→Bool) (n:Nat) (m:Nat→Nat):Prop where
 mt:Mt r m
 one:∀ z,cnt n m z≤1
 cov:∃ DL DR,Cls r m DL DR∧∀ z,z<n→cnt n m z=0→DL z
theorem aFL (h:OV o n t r):∃ s m,lp (eS o (t,true)) FU (0,0,(Ar.zero 8))=some (.inl s)∧RA s.2.2 m∧Mat r n m:=by
 have n8:=h.n8
 have hN:=h.N
 obtain ⟨s,e,h1,m,h2,h3,h4,h5,DL,DR,h6,h7⟩:=jT (body:=eS o (t,true)) (fun a s=>s.1=(a:Int)∧∃ m,RA s.2.2 m∧Mt r m∧(∀ z,cnt n m z≤1)∧(∀ z,a≤z→cnt n m z=0)∧∃ DL DR,Cls r m DL DR∧∀ z,z<a→cnt n m z=0→DL z) n (by omega)
  (fun a s ha ⟨hs,m,g1,g2,g3,g4,DL,DR,g5,g6⟩=>by
   obtain ⟨u,v,x⟩:=s
   simp only at hs g1
   subst hs
   obtain ⟨y,ey,hy⟩:=wX h 10 a 0 x m g1 g2 ha (Nat.two_pow_pos n) (by omega)
   unfold eS
   simp only [bY]
   rw [if_pos (by omega),show (0:Int)=((0:Nat):Int) from rfl,ey,gF,fC (by omega) (by omega)]
   refine ⟨_,rfl,by simp only;omega,?_⟩
   simp only
   rcases hy with ⟨f1,f2,S',f3,f4⟩ | ⟨f1,m1,f2,f3⟩
   ·refine ⟨m,by rw [f2];exact g1,g2,g3,fun z hz=>g4 z (by omega),fun z=>DL z∨z=a∨∃ b,S'.testBit b=true∧m b=z+1,fun b=>DR b∨S'.testBit b=true,⟨fun z b hz hr=>?_,fun b hb=>?_⟩,fun z hz hc=>?_⟩
    ·rcases hz with hz | rfl | ⟨c,c1,c2⟩
     ·exact .inl (g5.c1 z b hz hr)
     ·exact .inr (f4.nb b hr)
     ·refine .inr ((f4.cl c c1 (Nat.zero_testBit c)).2 b ?_)
      rw [c2];exact hr
    ·rcases hb with hb | hb
     ·exact ⟨(g5.c2 b hb).1,.inl (g5.c2 b hb).2⟩
     ·have:=(f4.cl b hb (Nat.zero_testBit b)).1
      exact ⟨this,.inr (.inr ⟨b,hb,by omega⟩)⟩
    ·by_cases e:z=a
     ·exact .inr (.inl e)
     ·exact .inl (g6 z (by omega) hc)
   ·refine ⟨m1,f2,f3.mt,fun z=>?_,fun z hz=>?_,DL,DR,⟨g5.c1,fun b hb=>?_⟩,fun z hz hc=>?_⟩
    ·rw [f3.ct]
     by_cases e:z=a
     ·rw [if_pos e,e,g4 a (Nat.le_refl _)];omega
     ·rw [if_neg e];exact g3 z
    ·rw [f3.ct,if_neg (by omega),g4 z (by omega)]
    ·rw [(f3.av DL DR g5).2 b hb];exact g5.c2 b hb
    ·have:=f3.ct z
     by_cases e:z=a
     ·rw [if_pos e] at this;omega
     ·rw [if_neg e] at this;exact g6 z (by omega) (by omega)) (fun s ⟨hs,_⟩=>by
   unfold eS
   simp only [bY]
   rw [if_neg (by omega)]) (0,0,Ar.zero 8) ⟨rfl,fun _=>0,aDR,fun b hb=>absurd rfl hb,fun z=>by
    unfold cnt
    rw [eQ (g:=fun _=>0) fun i _=>if_neg (show ¬(0:Nat)=z+1 by omega),oH];omega,fun z _=>by
    unfold cnt
    rw [eQ (g:=fun _=>0) fun i _=>if_neg (show ¬(0:Nat)=z+1 by omega),oH],fun _=>False,fun _=>False,⟨fun _ _ g=>g.elim,fun _ g=>g.elim⟩,fun z hz=>absurd hz (Nat.not_lt_zero _)⟩
 exact ⟨s,m,e,h2,h3,h4,DL,DR,h6,h7⟩
def aAX (n:Nat) (m:Nat→Nat):Nat:=sm n fun b=>if m b=0 then 1 else 0
theorem aEo {n:Nat} {f g h:Nat→Nat} (e:∀ i,i<n→f i+g i=h i):sm n f+sm n g=sm n h:=by
 rw [← aBa];exact eQ e
theorem aHo (h:OV o n t r) {m:Nat→Nat} (hm:Mat r n m):∃ s,s<2 ^ n∧(∀ a b,s.testBit a=true→s.testBit b=true→r a b=false)∧aAX n m≤pc n s:=by
 obtain ⟨DL,DR,hD,hU⟩:=hm.cov
 have dec:∀ P:Nat→Prop,∃ f:Nat→Bool,∀ x,f x=true↔P x:=fun P=>by
  classical
  exact ⟨fun x=>decide (P x),fun x=>decide_eq_true_iff⟩
 obtain ⟨dl,hdl⟩:=dec DL
 obtain ⟨dr,hdr⟩:=dec DR
 have build:∀ (f:Nat→Bool) (k:Nat),∃ s,s<2 ^ k∧∀ i,s.testBit i=(decide (i<k)&&f i):=fun f k=>by
  induction k with
  | zero=>exact ⟨0,by decide,fun i=>by simp⟩
  | succ k ih=>
   obtain ⟨s,s1,s2⟩:=ih
   cases e:f k
   ·refine ⟨s,Nat.lt_of_lt_of_le s1 (Nat.pow_le_pow_right (by omega) (by omega)),fun i=>?_⟩
    rw [s2]
    by_cases q:i=k
    ·subst q;rw [e,Bool.and_false,Bool.and_false]
    ·congr 1;rw [Bool.eq_iff_iff,decide_eq_true_eq,decide_eq_true_eq];omega
   ·have sk:s.testBit k=false:=by rw [s2,decide_eq_false (Nat.lt_irrefl k)];rfl
    refine ⟨s+2 ^ k,by rw [Nat.pow_succ];omega,fun i=>?_⟩
    rw [aCn sk,s2]
    by_cases q:i=k
    ·subst q;rw [decide_eq_true rfl,decide_eq_true (Nat.lt_succ_self i),e,Bool.or_true];rfl
    ·rw [decide_eq_false q,Bool.or_false]
     congr 1;rw [Bool.eq_iff_iff,decide_eq_true_eq,decide_eq_true_eq];omega
 obtain ⟨s,s1,s2⟩:=build (fun i=>dl i && !dr i) n
 refine ⟨s,s1,fun a b ha hb=>Bool.eq_false_iff.2 fun q=>?_,?_⟩
 ·rw [s2,Bool.and_eq_true,Bool.and_eq_true] at ha hb
  have:=(hdr b).2 (hD.c1 a b ((hdl a).1 ha.2.1) q)
  rw [this] at hb
  exact absurd hb.2.2 (by decide)
 ·-- counting
  have mlt:∀ b,m b≠0→m b-1<n:=fun b hb=>(h.lt _ _ (hm.mt b hb)).1
  have each:∀ b (w:Nat→Nat),m b≠0→sm n (fun z=>w z * if m b=z+1 then 1 else 0)=w (m b-1):=fun b w hb=>by
   have:sm n (fun z=>w z * if m b=z+1 then 1 else 0)=sm n fun z=>if z=m b-1 then w (m b-1) else 0:=eQ fun z _=>by
    by_cases e:m b=z+1
    ·rw [if_pos e,if_pos (by omega),Nat.mul_one,show m b-1=z by omega]
    ·rw [if_neg e,if_neg (by omega),Nat.mul_zero]
   rw [this]
   have ind:=aAR (b:=m b-1) (n:=n) (fun _=>0) (fun z=>if z=m b-1 then w (m b-1) else 0) (mlt b hb) fun i hi=>if_neg hi
   rw [oH] at ind
   simp only [if_pos trivial] at ind
   omega
  have zero:∀ b (w:Nat→Nat),m b=0→sm n (fun z=>w z * if m b=z+1 then 1 else 0)=0:=fun b w hb=>by
   rw [eQ (g:=fun _=>0) fun z _=>by rw [hb,if_neg (by omega),Nat.mul_zero],oH]
  have swap:∀ w:Nat→Nat,sm n (fun z=>w z * cnt n m z)=sm n fun b=>if m b=0 then 0 else w (m b-1):=fun w=>by
   have e1:sm n (fun z=>w z * cnt n m z)=sm n fun z=>sm n fun b=>w z * if m b=z+1 then 1 else 0:=eQ fun z _=>by
    unfold cnt
    have mul:∀ (k:Nat) (f:Nat→Nat) (c:Nat),c * sm k f=sm k fun i=>c * f i:=fun k f c=>by
     induction k with
     | zero=>rfl
     | succ k ih=>show c * (sm k f+f k)=sm k (fun i=>c * f i)+c * f k;rw [Nat.mul_add,ih]
    exact mul _ _ _
   rw [e1,aDI]
   refine eQ fun b _=>?_
   by_cases e:m b=0
   ·rw [if_pos e,zero b w e]
   ·rw [if_neg e,each b w e]
  have a1:=swap fun _=>1
  have a2:=swap fun z=>(dl z).toNat
  have f1:aAX n m+sm n (fun b=>if m b=0 then 0 else 1)=n:=by
   have:=aEo (n:=n) (f:=fun b=>if m b=0 then 1 else 0) (g:=fun b=>if m b=0 then 0 else 1) (h:=fun _=>1) fun i _=>by split<;>rfl
   rw [aCE] at this
   exact this
  have f2:sm n (fun z=>(dl z).toNat * cnt n m z)+sm n (fun z=>(!dl z).toNat)=sm n fun z=>1 * cnt n m z:=by
   refine aEo fun z hz=>?_
   cases e:dl z
   ·have:cnt n m z≠0:=fun q=>by have:=(hdl z).2 (hU z hz q);rw [e] at this;cases this
    have:=hm.one z
    simp;omega
   ·simp
  have f3:sm n (fun z=>(dl z).toNat)+sm n (fun z=>(!dl z).toNat)=n:=by
   have:=aEo (n:=n) (f:=fun z=>(dl z).toNat) (g:=fun z=>(!dl z).toNat) (h:=fun _=>1) fun i _=>by cases dl i<;>rfl
   rw [aCE] at this;exact this
  have f4:sm n (fun b=>(dr b).toNat)≤sm n fun b=>if m b=0 then 0 else (dl (m b-1)).toNat:=aDv fun b _=>by
   cases e:dr b
   ·exact Nat.zero_le _
   ·obtain ⟨g1,g2⟩:=hD.c2 b ((hdr b).1 e)
    rw [if_neg g1,(hdl _).2 g2];exact Nat.le_refl _
  have f5:sm n (fun z=>(dl z).toNat)≤pc n s+sm n fun b=>(dr b).toNat:=by
   unfold pc
   rw [← aBa]
   refine aDv fun z hz=>?_
   rw [s2,decide_eq_true hz]
   cases dl z<;>cases dr z<;>simp
  omega
end
theorem aGM:∀ {n a b:Nat} (f:Nat→Nat),a<n→b<n→a≠b→f a+f b≤sm n f
 | n+1,a,b,f,ha,hb,hne=>by
  show f a+f b≤sm n f+f n
  have one:∀ {n x:Nat},x<n→f x≤sm n f:=fun {n x} hx=>by
   have:=aAR (b:=x) (n:=n) (fun i=>if i=x then 0 else f i) f hx fun i hi=>(if_neg hi).symm
   simp only [if_pos trivial] at this
   omega
  by_cases e1:a=n
  ·subst e1
   have:=one (n:=a) (x:=b) (by omega);omega
  ·by_cases e2:b=n
   ·subst e2
    have:=one (n:=b) (x:=a) (by omega);omega
   ·have:=aGM (n:=n) f (by omega) (by omega) hne;omega
theorem aDC {n:Nat} (p:Nat→Bool):∀ (F:List Nat),F.Nodup→(∀ x,x∈F→x<n)→F.countP p=sm n fun x=>(decide (x∈F)&&p x).toNat
 | [],_,_=>by
  rw [eQ (g:=fun _=>0) fun i _=>by simp,oH];rfl
 | a::F,hd,hl=>by
  obtain ⟨h1,h2⟩:=List.nodup_cons.1 hd
  have ih:=aDC p F h2 fun x hx=>hl x (List.mem_cons_of_mem _ hx)
  have:=aAR (b:=a) (n:=n) (fun x=>(decide (x∈F)&&p x).toNat) (fun x=>(decide (x∈a::F)&&p x).toNat) (hl a (List.mem_cons_self ..)) fun i hi=>by
   have:decide (i∈a::F)=decide (i∈F):=by rw [Bool.eq_iff_iff,decide_eq_true_eq,decide_eq_true_eq,List.mem_cons];exact ⟨fun q=>q.resolve_left hi,.inr⟩
   rw [this]
  rw [List.countP_cons,ih]
  rw [decide_eq_false h1,decide_eq_true (List.mem_cons_self ..)] at this
  simp only [Bool.false_and,Bool.true_and,Bool.toNat_false,Nat.add_zero] at this
  rw [this]
  cases p a<;>simp
def pM (C:List (List Nat)):List (List Int):=C.map mK
theorem pY {C:List (List Nat)} {k:Nat} (h:k<C.length):(pM C).getD k default=mK (C.getD k default):=by
 rw [dU (by unfold pM;rw [List.length_map];exact h),dU h];simp [pM]
theorem fS (C:List (List Nat)):(pM C).length=C.length:=List.length_map _
structure aLi (r:Nat→Nat→Bool) (n:Nat) (C:List (List Nat)):Prop where
 ne:∀ c,c∈C→c≠[]
 ch:∀ c,c∈C→c.Pairwise fun x y=>r x y=true
 nd:C.flatten.Nodup
 al:∀ x,x∈C.flatten↔x<n
theorem aGr {C:List (List Nat)} {k:Nat} (hk:k<C.length) (x:Nat):(C.set k (C.getD k default++[x])).flatten.Perm (C.flatten++[x]):=by
 have e1:C=C.take k++C.getD k default::C.drop (k+1):=by
  rw [dU hk,← List.drop_eq_getElem_cons hk,List.take_append_drop]
 have e2:C.set k (C.getD k default++[x])=C.take k++(C.getD k default++[x])::C.drop (k+1):=by
  rw [List.set_eq_take_append_cons_drop,if_pos hk]
 rw [e2]
 conv=>rhs;rw [e1]
 rw [List.flatten_append,List.flatten_cons,List.flatten_append,List.flatten_cons,List.append_assoc,List.append_assoc]
 refine List.Perm.append_left _ ?_
 rw [List.append_assoc]
 refine List.Perm.append_left _ ?_
 exact List.perm_append_comm
theorem aI6 {C:List (List Nat)} {f:List Nat→Nat} (h:∀ c,c∈C→f c≤1):(C.map f).sum≤C.length:=by
 induction C with
 | nil=>exact Nat.le_refl _
 | cons c C ih=>
  rw [List.map_cons,List.sum_cons,List.length_cons]
  have:=h c (List.mem_cons_self ..)
  have:=ih fun d hd=>h d (List.mem_cons_of_mem _ hd)
  omega
theorem aCQ {r:Nat→Nat→Bool} {n:Nat} {C:List (List Nat)} (h:aLi r n C) {s:Nat} (hs:∀ a b,s.testBit a=true→s.testBit b=true→r a b=false):pc n s≤C.length:=by
 have e:=aDC (n:=n) (fun x=>s.testBit x) C.flatten h.nd fun x hx=>(h.al x).1 hx
 have e2:(sm n fun x=>(decide (x∈C.flatten)&&s.testBit x).toNat)=pc n s:=eQ fun x hx=>by rw [decide_eq_true ((h.al x).2 hx),Bool.true_and]
 rw [e2,List.countP_flatten] at e
 rw [← e]
 refine aI6 fun c hc=>?_
 have hp:=h.ch c hc
 clear e e2 hc
 induction c with
 | nil=>exact Nat.zero_le _
 | cons a c ih=>
  obtain ⟨h1,h2⟩:=List.pairwise_cons.1 hp
  rw [List.countP_cons]
  cases ea:s.testBit a
  ·have:=ih h2;simpa using this
  ·have z:c.countP (fun x=>s.testBit x)=0:=List.countP_eq_zero.2 fun b hb q=>by
    have:=hs a b ea q
    rw [h1 b hb] at this;cases this
   rw [z];simp
theorem aKK {C:List (List Nat)} (h:∀ c,c∈C→c≠[]):C.length≤C.flatten.length:=by
 induction C with
 | nil=>exact Nat.le_refl _
 | cons c C ih=>
  rw [List.flatten_cons,List.length_append,List.length_cons]
  have:=List.length_pos_iff.2 (h c (List.mem_cons_self ..))
  have:=ih fun d hd=>h d (List.mem_cons_of_mem _ hd)
  omega
section
variable {o:aG} {n:Nat} {t:Ar 8} {r:Nat→Nat→Bool}
theorem aF6 {l:List Nat} (h:Ln n r l):l.Nodup:=(aE7 _ rfl h).imp fun q=>q.1
structure Bld (r:Nat→Nat→Bool) (m:Nat→Nat) (l:List Nat) (place:GM Int) (C:List (List Nat)):Prop where
 ne:∀ c,c∈C→c≠[]
 ch:∀ c,c∈C→c.Pairwise fun x y=>r x y=true
 pm:C.flatten.Perm l
 ct:C.length=l.countP fun x=>m x==0
 pl:∀ y,y∈l→place.has (y:Int)=true∧∃ k:Nat,place.get (y:Int) 0=(k:Int)∧k<C.length∧y∈C.getD k default∧((∀ z,z∈l→m z≠y+1)→∃ w,C.getD k default=w++[y])
 no:place.has (-1)=false
theorem aGh (h:OV o n t r):∃ C m,fN o=some (pM C,0)∧aLi r n C∧Mat r n m∧C.length=aAX n m:=by
 have n8:=h.n8
 have hN:=h.N
 obtain ⟨ls,el,l1,l2,_⟩:=aIc h
 obtain ⟨sc,m,ec,hra,hM⟩:=aFL h
 have lnd:=aF6 l1
 obtain ⟨s,e,h1,C,h2,hB⟩:=jT (body:=fX sc.2.2 (mK ls)) (fun i s=>s.1=(i:Int)∧∃ C,s.2.2=pM C∧Bld r m (ls.take i) s.2.1 C) ls.length (by omega)
  (fun i s hi ⟨hs,C,hC,hB⟩=>by
   obtain ⟨u,place,out⟩:=s
   simp only at hs hC hB
   subst hs hC
   obtain ⟨q1,q2,q3⟩:=aJc l1 hi
   have hts:=oZ hi
   generalize hx:ls.getD i default=x at q2 q3 hts
   have xno:x ∉ ls.take i:=by
    have:=q3.1
    rwa [sJ q1,decide_eq_false_iff_not] at this
   have Clen:C.length≤i:=by
    rw [hB.ct]
    have:=List.countP_le_length (p:=fun x=>m x==0) (l:=ls.take i)
    rw [List.length_take] at this;omega
   have klt:∀ c,c∈C→c.length≤n:=fun c hc=>by
    have:c.length≤C.flatten.length:=(List.sublist_flatten_of_mem hc).length_le
    rw [hB.pm.length_eq,List.length_take] at this;omega
   have hmx:m x≤8:=by
    by_cases z:m x=0
    ·omega
    ·have:=(h.lt _ _ (hM.mt x z)).1;omega
   unfold fX
   simp only [bY,bN]
   rw [if_pos (by omega),aAi (by rw [bN];exact hi),fP hi,hx,kR _ (by omega),hra x (by omega),fC (by omega) (by omega)]
   by_cases cm:m x=0
   ·rw [cm,show ((0:Nat):Int)-1 = -1 from rfl,hB.no,Bool.not_false,aCs,fS,kR _ (by omega)]
    unfold fV
    have e0:(pM C++[[]]).length=C.length+1:=by rw [List.length_append,fS];rfl
    have e1:(pM C++[[]]).getD (C.length:Int).toNat default=[]:=by
     rw [Int.toNat_natCast,← fS C];simp [List.getD_eq_getElem?_getD]
    rw [e0,kR _ (by omega),kR _ (by omega),e1,aHY (by simp only [List.length_nil,List.length_cons];omega),fC (by omega) (by omega)]
    have e2:(pM C++[[]]).set (C.length:Int).toNat ([]++[(x:Int)])=pM (C++[[x]]):=by
     rw [Int.toNat_natCast,← fS C,List.set_append_right _ _ (Nat.le_refl _),Nat.sub_self]
     unfold pM;rw [List.map_append];rfl
    rw [e2]
    refine ⟨_,rfl,by simp only;omega,C++[[x]],rfl,?_⟩
    have gold:∀ k,k<C.length→(C++[[x]]).getD k default=C.getD k default:=fun k hk=>by
     rw [List.getD_eq_getElem?_getD,List.getElem?_append_left hk,List.getD_eq_getElem?_getD]
    rw [hts]
    refine ⟨fun c hc=>?_,fun c hc=>?_,?_,?_,fun y hy=>?_,?_⟩
    ·rcases List.mem_append.1 hc with hc | hc
     ·exact hB.ne c hc
     ·rw [List.mem_singleton.1 hc];simp
    ·rcases List.mem_append.1 hc with hc | hc
     ·exact hB.ch c hc
     ·rw [List.mem_singleton.1 hc];exact List.pairwise_singleton _ _
    ·rw [List.flatten_append];exact hB.pm.append_right _
    ·rw [List.length_append,List.countP_append,hB.ct,List.countP_cons,cm];rfl
    ·rcases List.mem_append.1 hy with hy | hy
     ·have hne:(y:Int)≠(x:Int):=fun q=>xno (by rw [← show y=x by omega];exact hy)
      obtain ⟨p1,k,p2,p3,p4,p5⟩:=hB.pl y hy
      refine ⟨by rw [GM.has_put_ne hne];exact p1,k,by rw [GM.get_put_ne hne];exact p2,by rw [List.length_append];omega,by rw [gold k p3];exact p4,fun g=>?_⟩
      rw [gold k p3];exact p5 fun z hz=>g z (List.mem_append_left _ hz)
     ·rw [List.mem_singleton.1 hy]
      refine ⟨GM.has_put,C.length,GM.get_put,by rw [List.length_append];simp,?_,fun _=>⟨[],?_⟩⟩
      ·simp [List.getD_eq_getElem?_getD]
      ·simp [List.getD_eq_getElem?_getD]
    ·rw [GM.has_put_ne (by omega)];exact hB.no
   ·have hxy:=hM.mt x cm
    generalize hy:m x-1=y at hxy
    have my:m x=y+1:=by omega
    have yin:y∈ls.take i:=by
     have:=q3.2 y hxy
     rwa [sJ q1,decide_eq_true_eq] at this
    obtain ⟨p1,k,p2,p3,p4,p5⟩:=hB.pl y yin
    have uniq:∀ z,z∈ls.take i→m z≠y+1:=fun z hz q=>by
     have hzx:z≠x:=fun e=>xno (e ▸ hz)
     have:=aGM (n:=n) (fun b=>if m b=y+1 then 1 else 0) (aF9 q1 z hz) q2 hzx
     rw [if_pos q,if_pos my] at this
     have:=hM.one y
     unfold cnt at this;omega
    obtain ⟨w,hw⟩:=p5 uniq
    have cin:C.getD k default∈C:=iD p3
    have ek:((k:Int)).toNat=k:=Int.toNat_natCast k
    rw [my,show ((y+1:Nat):Int)-1=(y:Int) by omega,p1,Bool.not_true,aAO,p2]
    unfold fV
    rw [fS,kR _ (by omega),kR _ (by omega),ek,pY p3,aHY (by rw [bN];have:=klt _ cin;simp only [List.length_cons,List.length_nil];omega),fC (by omega) (by omega)]
    have e2:(pM C).set k (mK (C.getD k default)++[(x:Int)])=pM (C.set k (C.getD k default++[x])):=by
     unfold pM;rw [List.map_set,aAz];rfl
    rw [e2]
    refine ⟨_,rfl,by simp only;omega,_,rfl,?_⟩
    have upx:∀ v,v∈C.getD k default→r v x=true:=fun v hv=>by
     have hp:=hB.ch _ cin
     rw [hw] at hv hp
     rcases List.mem_append.1 hv with hv | hv
     ·exact h.tr _ _ _ ((List.pairwise_append.1 hp).2.2 v hv y (List.mem_singleton.2 rfl)) hxy
     ·rw [List.mem_singleton.1 hv];exact hxy
    rw [hts]
    refine ⟨fun c hc=>?_,fun c hc=>?_,?_,?_,fun y' hy'=>?_,?_⟩
    ·rcases List.mem_or_eq_of_mem_set hc with hc | rfl
     ·exact hB.ne c hc
     ·simp
    ·rcases List.mem_or_eq_of_mem_set hc with hc | rfl
     ·exact hB.ch c hc
     ·refine List.pairwise_append.2 ⟨hB.ch _ cin,List.pairwise_singleton _ _,fun v hv z hz=>?_⟩
      rw [List.mem_singleton.1 hz];exact upx v hv
    ·exact (aGr p3 x).trans (hB.pm.append_right _)
    ·rw [List.length_set,List.countP_append,hB.ct,List.countP_cons,show (m x==0)=false from beq_false_of_ne cm];rfl
    ·rcases List.mem_append.1 hy' with hy' | hy'
     ·have hne:(y':Int)≠(x:Int):=fun q=>xno (by rw [← show y'=x by omega];exact hy')
      obtain ⟨s1,k',s2,s3,s4,s5⟩:=hB.pl y' hy'
      refine ⟨by rw [GM.has_put_ne hne];exact s1,k',by rw [GM.get_put_ne hne];exact s2,by rw [List.length_set];exact s3,?_,fun g=>?_⟩
      ·rw [tZ p3]
       by_cases e:k'=k
       ·subst e;rw [if_pos rfl];exact List.mem_append_left _ s4
       ·rw [if_neg e];exact s4
      ·obtain ⟨w',hw'⟩:=s5 fun z hz=>g z (List.mem_append_left _ hz)
       have yy:y'≠y:=fun e=>g x (List.mem_append_right _ (List.mem_singleton.2 rfl)) (by rw [e];exact my)
       rw [tZ p3]
       by_cases e:k'=k
       ·subst e
        rw [hw] at hw'
        have:=(List.append_inj' hw' rfl).2
        exact absurd (by simpa using this.symm) yy
       ·rw [if_neg e];exact ⟨w',hw'⟩
     ·rw [List.mem_singleton.1 hy']
      refine ⟨GM.has_put,k,GM.get_put,by rw [List.length_set];exact p3,?_,fun _=>⟨C.getD k default,?_⟩⟩
      ·rw [tZ p3,if_pos rfl];exact List.mem_append_right _ (List.mem_singleton.2 rfl)
      ·rw [tZ p3,if_pos rfl]
    ·rw [GM.has_put_ne (by omega)];exact hB.no) (fun s ⟨hs,_⟩=>by
   unfold fX
   simp only [bY,bN]
   rw [if_neg (by omega)]) (0,GM.mt Int,[]) ⟨rfl,[],rfl,⟨fun c hc=>(by cases hc),fun c hc=>(by cases hc),List.Perm.nil,rfl,fun y hy=>(by rw [List.take_zero] at hy;cases hy),GM.has_mt⟩⟩
 rw [List.take_length] at hB
 have all:∀ x,x∈C.flatten↔x<n:=fun x=>by
  rw [hB.pm.mem_iff]
  exact ⟨aF9 l1 x,aE5 l1 l2⟩
 have ct:C.length=aAX n m:=by
  rw [hB.ct,aDC (n:=n) _ ls lnd (aF9 l1)]
  refine eQ fun x hx=>?_
  rw [decide_eq_true (aE5 l1 l2 hx),Bool.true_and]
  by_cases e:m x=0
  ·rw [e,if_pos rfl];rfl
  ·rw [show (m x==0)=false from beq_false_of_ne e,if_neg e];rfl
 have cl:C.length≤8:=by
  have:=aKK hB.ne
  rw [hB.pm.length_eq] at this;omega
 unfold fN
 rw [h.rd,gF,qO,aCs,ec,gF,jP,hN]
 simp only
 rw [el,gF,e,gF,jP,h2,kR _ (by rw [fS];exact cl)]
 exact ⟨C,m,rfl,⟨hB.ne,hB.ch,(hB.pm.nodup_iff).2 lnd,all⟩,hM,ct⟩
end
def cS (s:Nat):List Nat:=(List.range 8).filter fun x=>s.testBit x
theorem aDn:((List.range 256).all fun s=>decide (fU (s:Int)=some (mK (cS s))))=true:=by kernel_rfl
theorem aFt {s:Nat} (h:s<256):fU (s:Int)=some (mK (cS s)):=by
 have:=List.all_eq_true.1 aDn s (List.mem_range.2 h)
 exact of_decide_eq_true this
def aFw:List Nat→List Nat→Bool
 | a::l,b::m=>if a=b then aFw l m else decide (a<b)
 | _,_=>false
def btr (l best:List Nat):Bool:=decide (best.length<l.length)||(decide (l.length=best.length)&&aFw l best)
theorem aDH {l m:List Nat} {k:Nat} (h1:k<l.length) (h2:k<m.length):aFw (l.drop k) (m.drop k)=if l.getD k default=m.getD k default then aFw (l.drop (k+1)) (m.drop (k+1)) else decide (l.getD k default<m.getD k default):=by
 rw [List.drop_eq_getElem_cons h1,List.drop_eq_getElem_cons h2,dU h1,dU h2];rfl
theorem aEG (a b:Nat):dL (a:Int) (b:Int)=some (if a<b then -1 else if b<a then 1 else 0):=by
 unfold dL fE
 rw [gF,gF,show ((a:Int) != (a:Int))=false by simp,show ((b:Int) != (b:Int))=false by simp,aAO,aAO,bY,bY]
 by_cases c:a<b
 ·rw [if_pos (by omega),if_pos c]
 ·rw [if_neg (by omega),if_neg c]
  by_cases d:b<a
  ·rw [if_pos (by omega),if_pos d]
  ·rw [if_neg (by omega),if_neg d]
theorem aDk (l m:List Nat) (he:l.length=m.length) (hl:l.length≤1000):∃ v,bU (mK l) (mK m)=some v∧(v<0↔aFw l m=true):=by
 obtain ⟨y,e,hy⟩:=mP (body:=cO (mK l) (mK m)) (fun s=>∃ k:Nat,s=(k:Int)∧k≤l.length∧aFw l m=aFw (l.drop k) (m.drop k)) (fun s=>l.length-s.toNat)
  (fun y=>match y with | .inl _=>aFw l m=false | .inr v=>(v<0↔aFw l m=true))
  (fun s ⟨k,hs,hk,hq⟩=>by
   subst hs
   unfold cO
   simp only [bY,bN]
   by_cases c:k<l.length
   ·rw [if_pos (by omega),aAi (by rw [bN];exact c),fP c,if_neg (by omega),aAi (by rw [bN];omega),fP (by omega),aEG,gF,aA3]
    rw [aDH c (by omega)] at hq
    by_cases c1:l.getD k default<m.getD k default
    ·rw [if_pos c1,if_neg (by omega)]
     rw [if_neg (by omega),decide_eq_true c1] at hq
     exact .inr (.inr ⟨_,rfl,by rw [hq];decide⟩)
    ·by_cases c2:m.getD k default<l.getD k default
     ·rw [if_neg c1,if_pos c2,if_neg (by omega)]
      rw [if_neg (by omega),decide_eq_false c1] at hq
      exact .inr (.inr ⟨_,rfl,by rw [hq];decide⟩)
     ·rw [if_neg c1,if_neg c2,if_pos rfl,fC (by omega) (by omega)]
      rw [if_pos (by omega)] at hq
      exact .inl ⟨_,rfl,⟨k+1,by omega,c,hq⟩,by omega⟩
   ·rw [if_neg (by omega)]
    refine .inr (.inl ⟨_,rfl,?_⟩)
    rw [hq,List.drop_of_length_le (by omega)];rfl) 0 ⟨0,rfl,Nat.zero_le _,rfl⟩ (by omega)
 unfold bU
 rw [e,gF]
 cases y with
 | inl s=>
  have hy:aFw l m=false:=hy
  rw [jP,bY,bN,bN,if_neg (by omega)]
  exact ⟨_,rfl,by rw [hy];decide⟩
 | inr v=>rw [aBM];exact ⟨_,rfl,hy⟩
theorem aBU (l m:List Nat) (hl:l.length≤1000):∃ v,bU (mK l) (mK m)=some v:=by
 obtain ⟨y,e,_⟩:=mP (body:=cO (mK l) (mK m)) (fun s=>∃ k:Nat,s=(k:Int)∧k≤l.length) (fun s=>l.length-s.toNat) (fun _=>True)
  (fun s ⟨k,hs,hk⟩=>by
   subst hs
   unfold cO
   simp only [bY,bN]
   by_cases c:k<l.length
   ·rw [if_pos (by omega),aAi (by rw [bN];exact c),fP c]
    by_cases d:k<m.length
    ·rw [if_neg (by omega),aAi (by rw [bN];omega),fP (by omega),aEG,gF,aA3]
     generalize (if l.getD k default<m.getD k default then (-1:Int) else if m.getD k default<l.getD k default then 1 else 0)=w
     by_cases ww:w=0
     ·rw [if_pos ww]
      rw [fC (by omega) (by omega)]
      exact .inl ⟨_,rfl,⟨k+1,rfl,c⟩,by omega⟩
     ·rw [if_neg ww]
      exact .inr (.inr ⟨_,rfl,trivial⟩)
    ·rw [if_pos (by omega)]
     exact .inr (.inr ⟨_,rfl,trivial⟩)
   ·rw [if_neg (by omega)]
    exact .inr (.inl ⟨_,rfl,trivial⟩)) 0 ⟨0,rfl,Nat.zero_le _⟩ (by omega)
 unfold bU
 rw [e,gF]
 cases y with
 | inl s=>
  rw [jP,bY]
  split<;>exact ⟨_,rfl⟩
 | inr v=>rw [aBM];exact ⟨_,rfl⟩
theorem aJH (a b:Int):iQ [a,b]=some (if a=0 then b else a):=by
 have step:∀ (n:Nat) (s:Int),lp (cZ [a,b]) (n+1) s=bd (cZ [a,b] s) fun c=>ctK c (lp (cZ [a,b]) n) (fun s=>some (.inl s)) fun r=>some (.inr r):=fun n s=>rfl
 unfold iQ
 rw [show FU=18446744073709551613+1+1+1 by rw [aEh],step]
 have b0:cZ [a,b] 0=some (if a=0 then .nx 1 else .rt a):=by
  unfold cZ
  rw [bY,if_pos (by simp),aMm (by decide) (by simp),aA3]
  show (if a=0 then some (Ct.nx (wr (0+1))) else some (Ct.rt a))=_
  rw [fC (by omega) (by omega)]
  split<;>rfl
 have b1:cZ [a,b] 1=some (if b=0 then .nx 2 else .rt b):=by
  unfold cZ
  rw [bY,if_pos (by simp),aMm (by decide) (by simp),aA3]
  show (if b=0 then some (Ct.nx (wr (1+1))) else some (Ct.rt b))=_
  rw [fC (by omega) (by omega)]
  split<;>rfl
 have b2:cZ [a,b] 2=some (.bk 2):=by
  unfold cZ
  rw [bY,if_neg (by simp)]
 rw [b0,gF]
 by_cases c:a=0
 ·rw [if_pos c,if_pos c,aFC,step,b1,gF]
  by_cases d:b=0
  ·rw [if_pos d,aFC,step,b2,gF,aHQ,gF,jP,d]
  ·rw [if_neg d,aHM,gF,aBM]
 ·rw [if_neg c,if_neg c,aHM,gF,aBM]
def aDA (n:Nat) (r:Nat→Nat→Bool) (s:Nat):Bool:=(List.range n).all fun b => !s.testBit b||(List.range n).all fun a => !(s.testBit a&&r a b)
def Ant (r:Nat→Nat→Bool) (s:Nat):Prop:=∀ a b,s.testBit a=true→s.testBit b=true→r a b=false
theorem zM {n:Nat} {r:Nat→Nat→Bool} (lt:∀ a b,r a b=true→a<n∧b<n) {s:Nat}:aDA n r s=true↔Ant r s:=by
 unfold aDA Ant
 simp only [List.all_eq_true,List.mem_range,Bool.or_eq_true,Bool.not_eq_true']
 constructor
 ·intro h a b ha hb
  cases hr:r a b
  ·rfl
  ·obtain ⟨h1,h2⟩:=lt a b hr
   rcases h b h2 with g | g
   ·rw [hb] at g;cases g
   ·have:=g a h1
    rw [ha,hr] at this;cases this
 ·intro h b _
  cases hb:s.testBit b
  ·exact .inl rfl
  ·refine .inr fun a _=>?_
   cases ha:s.testBit a
   ·rfl
   ·rw [h a b ha hb];rfl
def tI (n:Nat) (r:Nat→Nat→Bool) (k:Nat):List Nat:=(List.range k).foldl (fun best s=>if (aDA n r s&&btr (cS s) best)=true then cS s else best) []
theorem aAP (n:Nat) (r:Nat→Nat→Bool) (k:Nat):tI n r (k+1)=if (aDA n r k&&btr (cS k) (tI n r k))=true then cS k else tI n r k:=by
 unfold tI
 rw [List.range_succ,List.foldl_append];rfl
theorem tG (s:Nat):(cS s).length≤8:=by
 have:=List.length_filter_le (fun x=>s.testBit x) (List.range 8)
 rwa [List.length_range] at this
theorem aCq (n:Nat) (r:Nat→Nat→Bool):∀ k,(tI n r k).length≤8
 | 0=>Nat.zero_le _
 | k+1=>by
  rw [aAP]
  split
  ·exact tG k
  ·exact aCq n r k
section
variable {o:aG} {n:Nat} {t:Ar 8} {r:Nat→Nat→Bool}
theorem aBy (h:OV o n t r):dN o=some (mK (tI n r (2 ^ n)),0):=by
 have n8:=h.n8
 have hN:=h.N
 have p8:=nP n8
 obtain ⟨s,e,h1,h2⟩:=jT (body:=dW o (t,true)) (fun p s=>s.2=(p:Int)∧s.1=mK (tI n r p)) (2 ^ n) (by omega)
  (fun p s hp ⟨hs,hq⟩=>by
   obtain ⟨u,v⟩:=s
   simp only at hs hq
   subst hs hq
   have bl:=tG p
   have sl:=aCq n r p
   obtain ⟨s,e,_,q,q1,q2,q3⟩:=jT (body:=dV (t,true) (mK (cS p))) (fun k s=>s.2=(k:Int)∧∃ q:Nat,s.1=(q:Int)∧q<256∧∀ a,q.testBit a=((cS p).take k).any fun x=>r a x) (cS p).length (by omega)
    (fun k s hk ⟨hs,q,h2,h3,h4⟩=>by
     obtain ⟨i,j⟩:=s
     simp only at hs h2
     subst hs h2
     have hb8:(cS p).getD k default<8:=List.mem_range.1 (List.mem_filter.1 (iD hk)).1
     obtain ⟨z,z1,z2,z3⟩:=h.tb ((cS p).getD k default) hb8
     unfold dV
     simp only [bY,bN]
     rw [if_pos (by omega),aAi (by rw [bN];exact hk),fP hk,kR _ (by omega),z1,aK3 (by omega) (by omega),fC (by omega) (by omega)]
     refine ⟨_,rfl,by simp only;omega,q|||z,rfl,Nat.or_lt_two_pow (n:=8) h3 z2,fun a=>?_⟩
     rw [Nat.testBit_or,h4,z3,oZ hk,List.any_append];simp) (fun s ⟨hs,_⟩=>by
     unfold dV
     simp only [bY,bN]
     rw [if_neg (by omega)]) (0,0) ⟨rfl,0,rfl,by omega,fun a=>by simp⟩
   rw [List.take_length] at q3
   have key:(((q&&&p:Nat):Int)==0)=aDA n r p:=by
    rw [Bool.eq_iff_iff,beq_iff_eq,zM h.lt,show (((q&&&p:Nat):Int)=0↔q&&&p=0) by omega]
    constructor
    ·intro g a b ha hb
     cases hr:r a b
     ·rfl
     ·exfalso
      have:(q&&&p).testBit a=true:=by
       rw [Nat.testBit_and,ha,Bool.and_true,q3,List.any_eq_true]
       exact ⟨b,List.mem_filter.2 ⟨List.mem_range.2 (by have:=(h.lt a b hr).2;omega),hb⟩,hr⟩
      rw [g,Nat.zero_testBit] at this;cases this
    ·intro g
     refine aEF fun i=>?_
     rw [Nat.testBit_and,Nat.zero_testBit]
     cases hi:p.testBit i
     ·rw [Bool.and_false]
     ·rw [Bool.and_true,q3,List.any_eq_false]
      intro x hx
      rw [g i x hi (List.mem_filter.1 hx).2];decide
   unfold dW
   simp only [bY,aBK]
   rw [hN,aII (by omega),if_pos (by omega),aFt (by omega),gF,e,gF,jP,q1,aKG (by omega) (by omega),key,tA,fC (by omega) (by omega),bN,bN,aEG,gF]
   have fin:∀ (Q:Prop) [Decidable Q],(Q↔(aDA n r p&&btr (cS p) (tI n r p))=true)→∃ s',(if Q then some (.nx (mK (cS p),(p:Int)+1)) else some (.nx (mK (tI n r p),(p:Int)+1)):Option (Ct ((List Int)×Int) ((List Int)×Int)))=some (.nx s')∧s'.2=((p+1:Nat):Int)∧s'.1=mK (tI n r (p+1)):=fun Q _ hc=>by
    rw [aAP]
    by_cases z:Q
    ·rw [if_pos z,if_pos (hc.1 z)];exact ⟨_,rfl,by simp only;omega,rfl⟩
    ·rw [if_neg z,if_neg fun q=>z (hc.2 q)];exact ⟨_,rfl,by simp only;omega,rfl⟩
   by_cases c:aDA n r p=true
   ·rw [if_pos c]
    by_cases c1:(tI n r p).length=(cS p).length
    ·obtain ⟨v,ev,hv⟩:=aDk (cS p) (tI n r p) c1.symm (by omega)
     rw [ev,gF,aIA,aJH,gF,if_neg (show ¬(tI n r p).length<(cS p).length by omega),if_neg (show ¬(cS p).length<(tI n r p).length by omega),if_pos rfl]
     refine fin _ ?_
     unfold btr
     rw [c,decide_eq_false (show ¬(tI n r p).length<(cS p).length by omega),decide_eq_true c1.symm,Bool.true_and,Bool.false_or,Bool.true_and,hv]
    ·have any:∃ v,bU (mK (cS p)) (mK (tI n r p))=some v:=aBU _ _ (by omega)
     obtain ⟨v,ev⟩:=any
     rw [ev,gF,aIA,aJH,gF]
     refine fin _ ?_
     unfold btr
     rw [c,decide_eq_false (show ¬(cS p).length=(tI n r p).length by omega),Bool.true_and,Bool.false_and,Bool.or_false,decide_eq_true_eq]
     by_cases c2:(tI n r p).length<(cS p).length
     ·rw [if_pos c2,if_neg (by omega)];omega
     ·rw [if_neg c2,if_pos (show (cS p).length<(tI n r p).length by omega),if_neg (by omega)];omega
   ·rw [if_neg c,aAO,aAP,Bool.eq_false_iff.2 c,Bool.false_and,if_neg (by decide)]
    exact ⟨_,rfl,by simp only;omega,rfl⟩) (fun s ⟨hs,_⟩=>by
   unfold dW
   simp only [bY]
   rw [hN,aII (by omega),if_neg (by omega)]) ([],0) ⟨rfl,rfl⟩
 unfold dN
 rw [h.rd,gF,qO,aCs,hN,kR _ (by omega),e,gF,jP,h2]
theorem aFa (n:Nat) (r:Nat→Nat→Bool):∀ k,∃ s,aDA n r s=true∧tI n r k=cS s∧(s=0∨s<k)
 | 0=>⟨0,by unfold aDA;simp,by unfold cS;simp [tI],.inl rfl⟩
 | k+1=>by
  rw [aAP]
  by_cases c:(aDA n r k&&btr (cS k) (tI n r k))=true
  ·rw [if_pos c]
   rw [Bool.and_eq_true] at c
   exact ⟨k,c.1,rfl,.inr (Nat.lt_succ_self k)⟩
  ·rw [if_neg c]
   obtain ⟨s,h1,h2,h3⟩:=aFa n r k
   exact ⟨s,h1,h2,h3.imp id fun q=>by omega⟩
theorem aCB (n:Nat) (r:Nat→Nat→Bool):∀ k s,s<k→aDA n r s=true→(cS s).length≤(tI n r k).length
 | 0,_,h,_=>absurd h (Nat.not_lt_zero _)
 | k+1,s,h,ha=>by
  rw [aAP]
  by_cases e:s=k
  ·subst e
   rw [ha,Bool.true_and]
   by_cases c:btr (cS s) (tI n r s)=true
   ·rw [if_pos c];exact Nat.le_refl _
   ·rw [if_neg c]
    unfold btr at c
    refine Nat.le_of_not_lt fun q=>c ?_
    rw [decide_eq_true q,Bool.true_or]
  ·have ih:=aCB n r k s (by omega) ha
   by_cases c:(aDA n r k&&btr (cS k) (tI n r k))=true
   ·rw [if_pos c]
    rw [Bool.and_eq_true] at c
    have c2:=c.2
    unfold btr at c2
    rw [Bool.or_eq_true,Bool.and_eq_true,decide_eq_true_eq,decide_eq_true_eq] at c2
    omega
   ·rw [if_neg c];exact ih
theorem vF {s:Nat} (n8:n≤8) (h:s<2 ^ n):(cS s).length=pc n s:=by
 have e:∀ k,((List.range k).filter fun x=>s.testBit x).length=pc k s:=fun k=>by
  induction k with
  | zero=>rfl
  | succ k ih=>
   rw [List.range_succ,List.filter_append,List.length_append,ih,aDd]
   show _=pc k s+(s.testBit k).toNat
   cases s.testBit k<;>rfl
 have e2:∀ d,pc (n+d) s=pc n s:=fun d=>by
  induction d with
  | zero=>rfl
  | succ d ih=>
   show pc (n+d) s+(s.testBit (n+d)).toNat=_
   rw [ih,Nat.testBit_lt_two_pow (Nat.lt_of_lt_of_le h (Nat.pow_le_pow_right (by omega) (by omega)))];rfl
 unfold cS
 rw [e,show 8=n+(8-n) by omega,e2]
end
theorem aHi:kK=some true:=by kernel_rfl
end Go.Proofs.YtlmboonbfhkfnaaDoor
