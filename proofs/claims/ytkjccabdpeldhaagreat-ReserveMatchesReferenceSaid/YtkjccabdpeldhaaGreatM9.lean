import Derived.Test.YtkjccabdpeldhaaGreatM8
import Derived.Test.YtkjccabdpeldhaaGreatM6
import Derived.Test.YtkjccabdpeldhaaGreatM7
import Derived.Test.YtkjccabdpeldhaaGreatM5
import Derived.KernelRfl
import Derived.Test.YtkjccabdpeldhaaGreatM4
set_option linter.unusedVariables false
set_option linter.unusedSimpArgs false
set_option linter.unusedSectionVars false
namespace Go.Proofs.YtkjccabdpeldhaaGreat
open Go Go.Eng
set_option maxRecDepth 100000
set_option maxHeartbeats 0
set_option maxRecDepth 100000
structure CN (M:Nat) (n:bG) (l:List Int):Prop where
 N:n.N=(M:Int)+1
 M8:1≤M∧M≤8
 el:n.Edges.length≤28
 eg:∀ e∈n.Edges,(0≤e.From∧e.From<n.N)∧(0≤e.To∧e.To<n.N)∧0≤e.Capacity∧e.Capacity≤10000
 ll:l.length=M+1
 lv:∀ i,i<M→0≤l.getD i default∧l.getD i default≤1000
def aCt (es:List dE) (nd i:Nat):Bool:=nd.testBit (es.getD i default).From.toNat && !nd.testBit (es.getD i default).To.toNat
def uD (es:List dE) (nd:Nat):List Nat:=(List.range es.length).filter (aCt es nd)
def sG (es:List dE) (i:Nat):Int:=(es.getD i default).Capacity
def uH (l:List Int) (nd:Nat):Nat→Int
 | 0=>0
 | k+1=>uH l nd k+(if nd.testBit k then l.getD k default else 0)
def mgN (M:Nat) (n:bG) (l:List Int) (f nd:Nat):Int:=fP f ((uD n.Edges nd).map (sG n.Edges))-uH l nd M
def orL:List Int→Nat
 | []=>0
 | e::l=>2 ^ e.toNat|||orL l
theorem aKw:∀ (l l':List Int),orL (l++l')=orL l|||orL l'
 | [],l'=>by simp [orL]
 | e::l,l'=>by rw [List.cons_append,orL,orL,aKw l l',Nat.or_assoc]
theorem aN4 (l:List Int) (h:∀ e∈l,0≤e) (i:Nat):(orL l).testBit i=decide ((i:Int)∈l):=by
 induction l with
 | nil=>simp [orL]
 | cons e l ih=>
  have:=h e List.mem_cons_self
  rw [orL,Nat.testBit_or,ih fun e he=>h e (List.mem_cons_of_mem _ he),Nat.testBit_two_pow]
  rw [Bool.eq_iff_iff]
  simp only [Bool.or_eq_true,decide_eq_true_eq,List.mem_cons]
  constructor
  ·rintro (q | q)
   ·left;omega
   ·exact .inr q
  ·rintro (q | q)
   ·left;omega
   ·exact .inr q
theorem aHx {l:List Int} {B:Nat} (h:∀ e∈l,0≤e∧e<(B:Int)):orL l<2 ^ B:=by
 induction l with
 | nil=>exact Nat.two_pow_pos B
 | cons e l ih=>
  have:=h e List.mem_cons_self
  exact Nat.or_lt_two_pow (Nat.pow_lt_pow_right (by omega) (by omega)) (ih fun e he=>h e (List.mem_cons_of_mem _ he))
def srt (n:bG) (nd:Nat):List Int:=sortN n ((uD n.Edges nd).map fun i:Nat=>(i:Int))
def aOk (M:Nat) (n:bG) (l:List Int) (f nd:Nat):vD:=⟨(nd:Int),((orL ((srt n nd).take f):Nat):Int),mgN M n l f nd⟩
section
variable {M:Nat} {n:bG} {l:List Int} (h:CN M n l)
include h
theorem aCR {i:Nat} (hi:i<n.Edges.length):(0≤(n.Edges.getD i default).From∧(n.Edges.getD i default).From<n.N)∧(0≤(n.Edges.getD i default).To∧(n.Edges.getD i default).To<n.N)∧0≤(n.Edges.getD i default).Capacity∧(n.Edges.getD i default).Capacity≤10000:=h.eg _ (bV hi)
theorem aN3 {nd:Nat} (hnd:nd<4611686018427387904) (σ:Type) (g:σ):∃ x,lp (gI σ n ((nd:Int),g)) FU ([],0)=some (.inl (((uD n.Edges nd).map fun i:Nat=>(i:Int)),x)):=by
 have hel:=h.el
 have hN:=h.N
 have hM:=h.M8
 obtain ⟨s',e,h1,h2⟩:=dD (body:=gI σ n ((nd:Int),g)) (fun k x=>x.2=(k:Int)∧x.1=((List.range k).filter (aCt n.Edges nd)).map fun i:Nat=>(i:Int)) n.Edges.length (by omega) (fun k x hk ⟨h1,h2⟩=>by
  obtain ⟨a,i⟩:=x
  simp only at h1 h2
  subst h1 h2
  obtain ⟨⟨f1,f2⟩,⟨t1,t2⟩,_⟩:=aCR h hk
  unfold gI
  simp only [aZ,iK]
  obtain ⟨f,hf⟩:∃ f:Nat,(n.Edges.getD k default).From=(f:Int):=⟨_,(Int.toNat_of_nonneg f1).symm⟩
  obtain ⟨t,ht⟩:∃ t:Nat,(n.Edges.getD k default).To=(t:Int):=⟨_,(Int.toNat_of_nonneg t1).symm⟩
  have hlen:((List.range k).filter (aCt n.Edges nd)).length≤k:=Nat.le_trans (List.length_filter_le _ _) (by simp)
  rw [if_pos (by omega),lB hk,kN _ f1,hf,ht,aIQ (by omega) (by omega) (by omega),kN _ (by omega),aRK (by omega) (by omega) (by omega),Int.toNat_natCast,bT (by omega) (by omega)]
  have hp:aCt n.Edges nd k=(nd.testBit f && !nd.testBit t):=by unfold aCt;rw [hf,ht];rfl
  rw [List.range_succ,List.filter_append,List.filter_cons,List.filter_nil]
  cases b1:nd.testBit f
  ·rw [b1,Bool.false_and] at hp
   rw [dN,dN,hp]
   exact ⟨_,rfl,rfl,by simp⟩
  ·cases b2:nd.testBit t
   ·rw [b1,b2] at hp
    rw [eE,Bool.not_false,eE,wZ,aCu (by simp;omega),hp]
    exact ⟨_,rfl,rfl,by simp⟩
   ·rw [b1,b2] at hp
    rw [eE,Bool.not_true,dN,hp]
    exact ⟨_,rfl,rfl,by simp⟩) (fun x ⟨h1,h2⟩=>by
  unfold gI
  simp only [aZ]
  rw [if_neg (by omega)]) ([],0) ⟨rfl,by simp⟩
 exact ⟨s'.2,by rw [e];unfold uD;rw [← h2]⟩
theorem aHh (nd:Nat):aFj n ((uD n.Edges nd).map fun i:Nat=>(i:Int))=true:=by
 have hel:=h.el
 refine wL.2 ⟨fun e he=>?_,fun i hi=>?_,?_⟩
 ·have:=h.eg e he;omega
 ·obtain ⟨j,hj,rfl⟩:=List.mem_map.1 hi
  have:=List.mem_range.1 (List.mem_filter.1 hj).1
  omega
 ·rw [List.length_map]
  have:(uD n.Edges nd).length≤n.Edges.length:=Nat.le_trans (List.length_filter_le _ _) (by simp)
  omega
theorem yG {nd:Nat} {i:Int} (hi:i∈srt n nd):∃ j:Nat,i=(j:Int)∧j<n.Edges.length∧aCt n.Edges nd j=true:=by
 have:=((tA (aHh h nd)).1.mem_iff).1 hi
 obtain ⟨j,hj,rfl⟩:=List.mem_map.1 this
 obtain ⟨h1,h2⟩:=List.mem_filter.1 hj
 exact ⟨j,rfl,List.mem_range.1 h1,h2⟩
theorem aKt (nd:Nat):(srt n nd).length=(uD n.Edges nd).length:=by
 unfold srt;rw [zX,List.length_map]
theorem aCJ (nd:Nat):(srt n nd).length≤28:=by
 have hel:=h.el
 rw [aKt h]
 exact Nat.le_trans (Nat.le_trans (List.length_filter_le _ _) (by simp)) hel
theorem aCp {nd:Nat} {x:Int} (hx:x∈(srt n nd).map (jH n)):0≤x∧x≤10000:=by
 obtain ⟨i,hi,rfl⟩:=List.mem_map.1 hx
 obtain ⟨j,rfl,hj,_⟩:=yG h hi
 have:=(aCR h hj).2.2
 unfold jH;rw [Int.toNat_natCast];exact this
theorem aDT (f nd:Nat):fP 0 (((srt n nd).drop f).map (jH n))=fP f ((uD n.Edges nd).map (sG n.Edges)):=by
 obtain ⟨h1,h2⟩:=tA (aHh h nd)
 have h3:((srt n nd).map (jH n)).Pairwise (fun x y=>y≤x):=by rw [List.pairwise_map];exact h2
 rw [List.map_drop,← vU f h3 fun x hx=>(aCp h hx).1]
 have h4:=h1.map (jH n)
 rw [List.map_map] at h4
 exact vA h4 f
theorem aHu {f nd:Nat} {L:List Int} (hL:∀ x∈L,x∈srt n nd):0≤fP 0 ((L.drop f).map (jH n))∧fP 0 ((L.drop f).map (jH n))≤L.length * 10000:=by
 have h1:∀ x∈(L.drop f).map (jH n),0≤x∧x≤10000:=fun x hx=>by
  obtain ⟨i,hi,rfl⟩:=List.mem_map.1 hx
  exact aCp h (List.mem_map.2 ⟨i,hL i (List.mem_of_mem_drop hi),rfl⟩)
 refine ⟨aAB 0 fun x hx=>(h1 x hx).1,?_⟩
 have:=yY (B:=10000) fun x hx=>(h1 x hx).2
 rw [List.length_map,List.length_drop] at this
 omega
theorem aN7 {f nd:Nat} (σ:Type) (y:Int):∃ x,lp (gJ σ n (f:Int) (srt n nd) (((uD n.Edges nd).map fun i:Nat=>(i:Int)),y)) FU (0,(⟨(nd:Int),0,0⟩:vD))=some (.inl (x,(⟨(nd:Int),((orL ((srt n nd).take f):Nat):Int),fP f ((uD n.Edges nd).map (sG n.Edges))⟩:vD))):=by
 have hel:=h.el
 have hlen:=aKt h nd
 have hlen2:=aCJ h nd
 generalize hm:srt n nd=m at hlen hlen2
 have hmem:∀ {i:Int},i∈m→∃ j:Nat,i=(j:Int)∧j<n.Edges.length∧aCt n.Edges nd j=true:=fun hi=>yG h (by rw [hm];exact hi)
 obtain ⟨s',e,h1,h2⟩:=dD (body:=gJ σ n (f:Int) m (((uD n.Edges nd).map fun i:Nat=>(i:Int)),y)) (fun k x=>x.1=(k:Int)∧x.2=(⟨(nd:Int),((orL ((m.take k).take f):Nat):Int),fP 0 (((m.take k).drop f).map (jH n))⟩:vD)) m.length (by omega) (fun k x hk ⟨h1,h2⟩=>by
  obtain ⟨i,c⟩:=x
  simp only at h1 h2
  subst h1 h2
  obtain ⟨j,hj,hj2,_⟩:=hmem (bV hk)
  have hcap:=(aCR h hj2).2.2
  have hTl:(m.take k).length=k:=by rw [List.length_take];omega
  have hor:orL ((m.take k).take f)<2 ^ 28:=aHx fun e he=>by
   obtain ⟨a,rfl,ha,_⟩:=hmem (List.mem_of_mem_take (List.mem_of_mem_take he));omega
  have hrb:=aHu h (f:=f) (nd:=nd) (L:=m.take k) (fun x hx=>by rw [hm];exact List.mem_of_mem_take hx)
  rw [hTl] at hrb
  unfold gJ
  simp only [aZ,iK,List.length_map]
  rw [if_pos (by omega),kN _ (by omega),bT (x:=(k:Int)+1) (by omega) (by omega),Int.toNat_natCast,hj,List.take_succ_eq_append_getElem hk,← dC hk,hj]
  by_cases q:k<f
  ·rw [if_pos (by omega),kN _ (by omega),kI (by omega)]
   refine ⟨_,rfl,rfl,?_⟩
   generalize m.take k=T at hTl hor
   have e1:(T++[(j:Int)]).take f=T.take f++[(j:Int)]:=by
    rw [List.take_of_length_le (l:=T++[(j:Int)]) (by simp;omega),List.take_of_length_le (l:=T) (by omega)]
   have e2:(T++[(j:Int)]).drop f=[]:=List.drop_of_length_le (by simp;omega)
   have e3:T.drop f=[]:=List.drop_of_length_le (by omega)
   have hj3:2 ^ j<2 ^ 28:=Nat.pow_lt_pow_right (by omega) (by omega)
   obtain ⟨z,hz⟩:∃ z:Nat,z=2 ^ j:=⟨_,rfl⟩
   have h2j:(2:Int) ^ j=(z:Int):=by rw [hz];norm_cast
   rw [e1,e2,e3,aKw,h2j,aDB (by omega) (by omega) (by omega) (by omega)]
   rw [Int.toNat_natCast,Int.toNat_natCast]
   simp [orL,← hz,fP]
  ·rw [if_neg (by omega),lB hj2]
   have e1:(m.take k++[(j:Int)]).take f=(m.take k).take f:=List.take_append_of_le_length (by omega)
   have e2:(m.take k++[(j:Int)]).drop f=(m.take k).drop f++[(j:Int)]:=List.drop_append_of_le_length (by omega)
   rw [e1,e2,List.map_append,vC,bT (by omega) (by omega)]
   refine ⟨_,rfl,rfl,?_⟩
   simp [fP,jH]) (fun x ⟨h1,h2⟩=>by
  unfold gJ
  simp only [aZ,List.length_map]
  rw [if_neg (by omega)]) (0,⟨(nd:Int),0,0⟩) ⟨rfl,by simp [orL,fP]⟩
 subst hm
 rw [List.take_length,aDT h] at h2
 exact ⟨s'.1,by rw [e,← h2]⟩
theorem aGR (nd:Nat):∀ k,k≤M→0≤uH l nd k∧uH l nd k≤k * 1000
 | 0,_=>by simp [uH]
 | k+1,hk=>by
  have h1:=aGR nd k (by omega)
  have h2:=h.lv k (by omega)
  simp only [uH];split<;>omega
theorem aHL (f nd:Nat):0≤fP f ((uD n.Edges nd).map (sG n.Edges))∧fP f ((uD n.Edges nd).map (sG n.Edges))≤280000:=by
 rw [← aDT h]
 have:=aHu h (f:=f) (nd:=nd) (L:=srt n nd) (fun _ hx=>hx)
 have:=aCJ h nd
 omega
theorem aNe {nd:Nat} (hnd:nd<4611686018427387904) (σ:Type) (g:σ) {a b:Int} (hb:0≤b∧b≤280000):∃ x,lp (gF σ n l ((nd:Int),g)) FU (0,(⟨(nd:Int),a,b⟩:vD))=some (.inl (x,(⟨(nd:Int),a,b-uH l nd M⟩:vD))):=by
 have hN:=h.N
 have hM:=h.M8
 have hll:=h.ll
 have hw:wr (n.N-1)=(M:Int):=by rw [bT (by omega) (by omega)];omega
 obtain ⟨s',e,h1,h2⟩:=dD (body:=gF σ n l ((nd:Int),g)) (fun k x=>x.1=(k:Int)∧x.2=(⟨(nd:Int),a,b-uH l nd k⟩:vD)) M (by omega) (fun k x hk ⟨h1,h2⟩=>by
  obtain ⟨i,c⟩:=x
  simp only at h1 h2
  subst h1 h2
  have h3:=aGR h nd k (by omega)
  have h4:=h.lv k hk
  unfold gF
  simp only [aZ,iK]
  rw [hw,if_pos (by omega),kN _ (by omega),aIQ (by omega) (by omega) (by omega),Int.toNat_natCast,bT (x:=(k:Int)+1) (by omega) (by omega)]
  simp only [uH]
  cases hbit:nd.testBit k
  ·rw [dN]
   exact ⟨_,rfl,rfl,by simp⟩
  ·rw [eE,lB (by omega),bT (by omega) (by omega)]
   exact ⟨_,rfl,rfl,by simp;omega⟩) (fun x ⟨h1,h2⟩=>by
  unfold gF
  simp only [aZ]
  rw [hw,if_neg (by omega)]) (0,⟨(nd:Int),a,b⟩) ⟨rfl,by simp [uH]⟩
 exact ⟨s'.1,by rw [e,← h2]⟩
theorem aHZ (f:Nat):∃ nd,1≤nd∧nd<2 ^ M∧jG n l (f:Int)=some (aOk M n l f nd)∧∀ nd',1≤nd'→nd'<2 ^ M→mgN M n l f nd≤mgN M n l f nd':=by
 have hN:=h.N
 have hM:=h.M8
 have hw:wr (n.N-1)=(M:Int):=by rw [bT (by omega) (by omega)];omega
 have hp:(2:Int) ^ M=((2 ^ M:Nat):Int):=by norm_cast
 have hp1:1≤2 ^ M:=Nat.two_pow_pos M
 have hp0:2≤2 ^ M:=Nat.pow_le_pow_right (n:=2) (by omega) (i:=1) hM.1
 have hp2:2 ^ M≤2 ^ 8:=Nat.pow_le_pow_right (by omega) hM.2
 obtain ⟨s',e,h1,h2,h3⟩:=dD (body:=iU vD n (f:Int) l lZ) (fun k x=>x.1=((k+1:Nat):Int)∧(k=0→x.2=(⟨0,0,0⟩:vD))∧(0<k→∃ nd,1≤nd∧nd≤k∧x.2=aOk M n l f nd∧∀ nd',1≤nd'→nd'≤k→mgN M n l f nd≤mgN M n l f nd')) (2 ^ M-1) (by omega) (fun k x hk ⟨h1,h2,h3⟩=>by
  obtain ⟨i,c⟩:=x
  simp only at h1 h2 h3
  subst h1
  unfold iU
  simp only [aZ]
  obtain ⟨x1,e1⟩:=aN3 h (nd:=k+1) (by omega) vD c
  have hsl:sortN n ((uD n.Edges (k+1)).map fun i:Nat=>(i:Int))=srt n (k+1):=rfl
  obtain ⟨x2,e2⟩:=aN7 h (f:=f) (nd:=k+1) vD x1
  obtain ⟨x3,e3⟩:=aNe h (nd:=k+1) (by omega) vD c (a:=((orL ((srt n (k+1)).take f):Nat):Int)) (aHL h f (k+1))
  rw [hw,kN _ (by omega),kI (by omega),hp,if_pos (by omega),e1,bL,eJ,kN _ (aHh h (k+1))]
  simp only [wZ,hsl]
  rw [e2,bL,eJ]
  simp only
  rw [e3,bL,eJ]
  simp only
  have hcut:(⟨((k+1:Nat):Int),((orL ((srt n (k+1)).take f):Nat):Int),fP f ((uD n.Edges (k+1)).map (sG n.Edges))-uH l (k+1) M⟩:vD)=aOk M n l f (k+1):=rfl
  rw [hcut,bT (by omega) (by omega)]
  by_cases q:k=0
  ·subst q
   rw [h2 rfl]
   unfold lZ
   simp only [iK,beq_self_eq_true,Bool.and_self,eE,bL]
   refine ⟨_,rfl,rfl,fun h=>by omega,fun _=>⟨1,by omega,by omega,rfl,fun nd' a b=>?_⟩⟩
   have:nd'=1:=by omega
   subst this;exact Int.le_refl _
  ·obtain ⟨nd,a1,a2,rfl,a4⟩:=h3 (by omega)
   unfold lZ
   have hz:((aOk M n l f nd).nodes_f==0)=false:=by
    show (((nd:Nat):Int)==0)=false
    simp;omega
   simp only [iK,hz,Bool.false_and,dN,aZ]
   have hm1:(aOk M n l f (k+1)).margin_f=mgN M n l f (k+1):=rfl
   have hm2:(aOk M n l f nd).margin_f=mgN M n l f nd:=rfl
   rw [hm1,hm2]
   by_cases q2:mgN M n l f (k+1)<mgN M n l f nd
   ·rw [if_pos q2,bL]
    refine ⟨_,rfl,rfl,fun h=>by omega,fun _=>⟨k+1,by omega,by omega,rfl,fun nd' b1 b2=>?_⟩⟩
    by_cases q3:nd'=k+1
    ·subst q3;exact Int.le_refl _
    ·have:=a4 nd' b1 (by omega);omega
   ·rw [if_neg q2,bL]
    refine ⟨_,rfl,rfl,fun h=>by omega,fun _=>⟨nd,by omega,by omega,rfl,fun nd' b1 b2=>?_⟩⟩
    by_cases q3:nd'=k+1
    ·subst q3;omega
    ·exact a4 nd' b1 (by omega)) (fun x ⟨h1,_,_⟩=>by
  unfold iU
  simp only [aZ]
  rw [hw,kN _ (by omega),kI (by omega),hp,if_neg (by omega)]) (1,⟨0,0,0⟩) ⟨rfl,fun _=>rfl,fun h=>by omega⟩
 obtain ⟨nd,a1,a2,a3,a4⟩:=h3 (by omega)
 refine ⟨nd,a1,by omega,?_,fun nd' b1 b2=>a4 nd' b1 (by omega)⟩
 unfold jG lW
 rw [e,bL,eJ,bL,a3]
end
def jO (r:aD) (s:Nat):bG:=⟨r.Net.N+1,lvE r s⟩
def lsu (r:aD):List Int:=r.Urgent++[-(yI r.Urgent r.Urgent.length)]
def mgR (r:aD) (s nd:Nat):Int:=mgN r.Urgent.length (jO r s) (lsu r) r.Faults.toNat nd
def Car (r:aD) (s:Nat):Prop:=∀ e,e<r.Net.Edges.length→0≤aC7 r s e
def qS (r:aD) (s:Nat):Prop:=Car r s∧∀ nd,1≤nd→nd<2 ^ r.Urgent.length→0≤mgR r s nd
theorem wC {α:Type} {l l':List α} {d:α} {n:Nat} (h:n<l.length):(l++l').getD n d=l.getD n d:=by
 rw [List.getD_eq_getElem?_getD,List.getD_eq_getElem?_getD,List.getElem?_append_left h]
theorem wP {α:Type} {l l':List α} {d:α} {n:Nat} (h:l.length≤n):(l++l').getD n d=l'.getD (n-l.length) d:=by
 rw [List.getD_eq_getElem?_getD,List.getD_eq_getElem?_getD,List.getElem?_append_right h]
theorem yS (r:aD) (s:Nat):(lvE r s).length=r.Net.Edges.length+r.Centres.length:=by simp [lvE,adj,aGw]
theorem aE9 {r:aD} {s i:Nat} (h:i<r.Net.Edges.length):(lvE r s).getD i default=⟨(r.Net.Edges.getD i default).From,(r.Net.Edges.getD i default).To,aC7 r s i⟩:=by
 unfold lvE
 rw [wC (by rw [pU];exact h),uC h]
 rfl
theorem aDG {r:aD} {s j:Nat} (h:j<r.Centres.length):(lvE r s).getD (r.Net.Edges.length+j) default=⟨(j:Int),r.Net.N,r.Centres.getD j default⟩:=by
 unfold lvE
 rw [wP (by rw [pU];omega),pU,Nat.add_sub_cancel_left]
 have:j<(aGw r r.Centres.length).length:=by simp [aGw];exact h
 rw [dC this]
 simp [aGw]
theorem aIY {r:aD} (h:RV r) {s e:Nat} (he:e<r.Net.Edges.length):aC7 r s e≤10000:=by
 have:=aCT h s e r.Calls.length (Nat.le_refl _)
 have:=aHJ h he
 unfold aC7;omega
theorem aBR {r:aD} {j:Nat} (h:j<r.Urgent.length):(lsu r).getD j default=r.Urgent.getD j default:=by
 unfold lsu;rw [wC h]
theorem aEH {r:aD} (h:RV r) {s:Nat} (hc:Car r s):CN r.Urgent.length (jO r s) (lsu r):=by
 have hn:=h.n
 have hul:=h.ul
 have hcl:=h.cl
 have hel:=h.el
 refine ⟨by simp only [jO];omega,by omega,by simp only [jO];rw [yS];omega,fun e he=>?_,by simp [lsu],fun i hi=>?_⟩
 ·obtain ⟨i,hi,e1⟩:=List.getElem_of_mem he
  simp only [jO] at hi e1 ⊢
  rw [← dC hi] at e1
  rw [yS] at hi
  by_cases q:i<r.Net.Edges.length
  ·rw [aE9 q] at e1
   subst e1
   have:=(h.eg _ (bV q))
   have h1:=hc i q
   have h2:=aIY h (s:=s) q
   simp only;omega
  ·obtain ⟨j,rfl⟩:∃ j,i=r.Net.Edges.length+j:=⟨i-r.Net.Edges.length,by omega⟩
   have hj:j<r.Centres.length:=by omega
   rw [aDG hj] at e1
   subst e1
   have:=h.cv _ (bV hj)
   simp only;omega
 ·rw [aBR hi]
  exact h.uv _ (bV hi)
theorem aFh {r:aD} (h:RV r) {s:Nat} (hs:s<2 ^ r.Calls.length):eM r (s:Int)=some true:=by
 unfold eM
 have hk:=h.kl
 have hp2:2 ^ r.Calls.length≤2 ^ 8:=Nat.pow_le_pow_right (by omega) hk
 have hp:(2:Int) ^ r.Calls.length=((2 ^ r.Calls.length:Nat):Int):=by norm_cast
 generalize 2 ^ r.Calls.length=z at hp hp2 hs
 simp only [iK]
 rw [aBf h,bL,eE,kN _ (by omega),kI (by omega),hp,bT (by omega) (by omega),sM,bL,decide_eq_true (by omega),decide_eq_true (by omega)]
 rfl
theorem aBu {r:aD} (h:RV r) {s:Nat} (hs:s<2 ^ r.Calls.length):s<4611686018427387904:=by
 have hk:=h.kl
 have hp2:2 ^ r.Calls.length≤2 ^ 8:=Nat.pow_le_pow_right (by omega) hk
 omega
theorem aB4 {r:aD} (h:RV r) {s:Nat} (hs:s<2 ^ r.Calls.length) :
  (¬ Car r s∧dV r s=some (⟨0,[]⟩,[],330))∨(Car r s∧dV r s=some (jO r s,lsu r,0)):=by
 unfold dV
 rw [aFh h hs,bL]
 simp only [iK,eE]
 rcases aEJ h (aBu h hs) with ⟨e,he,h1,h2⟩ | ⟨h1,h2⟩
 ·refine .inl ⟨fun hc=>by have:=hc e he;omega,?_⟩
  rw [h2,bL,aZ,if_neg (by simp only;omega)]
 ·refine .inr ⟨h1,?_⟩
  rw [h2,bL,aZ,if_pos (by simp only;omega)]
  rfl
theorem aBe {r:aD} (h:RV r) {s:Nat} (hs:s<2 ^ r.Calls.length) :
  (¬ Car r s∧cW r s=some (0,330))∨(Car r s∧∃ nd,1≤nd∧nd<2 ^ r.Urgent.length∧cW r s=some (mgR r s nd,0)∧∀ nd',1≤nd'→nd'<2 ^ r.Urgent.length→mgR r s nd≤mgR r s nd'):=by
 unfold cW
 rcases aB4 h hs with ⟨h1,h2⟩ | ⟨h1,h2⟩
 ·refine .inl ⟨h1,?_⟩
  rw [h2,bL,fR,if_neg (by simp only;omega)]
 ·refine .inr ⟨h1,?_⟩
  obtain ⟨nd,a1,a2,a3,a4⟩:=aHZ (aEH h h1) r.Faults.toNat
  refine ⟨nd,a1,a2,?_,a4⟩
  rw [Int.toNat_of_nonneg h.ft.1] at a3
  rw [h2,bL,fR,if_pos rfl,a3,bL]
  rfl
theorem aB3 {r:aD} (h:RV r) {s:Nat} (hs:s<2 ^ r.Calls.length):∃ b,cS r s=some b∧(b=true↔qS r s):=by
 unfold cS
 simp only [iK]
 rcases aBe h hs with ⟨h1,h2⟩ | ⟨h1,nd,a1,a2,h2,h3⟩
 ·rw [h2,bL]
  exact ⟨false,by rw [iL,if_neg (by simp only;omega)],by simp [qS,h1]⟩
 ·rw [h2,bL]
  refine ⟨decide (mgR r s nd≥0),by rw [iL,if_pos rfl],?_⟩
  rw [decide_eq_true_iff]
  exact ⟨fun q=>⟨h1,fun nd' b1 b2=>by have:=h3 nd' b1 b2;omega⟩,fun q=>q.2 nd a1 a2⟩
theorem aBE {r:aD} (h:RV r) {s:Nat} (hs:s<4611686018427387904) (c:Int) :
  (∃ e:Nat,e<r.Net.Edges.length∧aC7 r s e<0∧eQ r c s=some (⟨c,(e:Int),0,0⟩,true)) ∨
  (Car r s∧∃ nd,1≤nd∧nd<2 ^ r.Urgent.length∧eQ r c s=some (⟨c,-1,((orL ((srt (jO r s) nd).take r.Faults.toNat):Nat):Int),(nd:Int)⟩,decide (mgR r s nd<0))∧∀ nd',1≤nd'→nd'<2 ^ r.Urgent.length→mgR r s nd≤mgR r s nd'):=by
 unfold eQ
 rcases aEJ h hs with ⟨e,he,h1,h2⟩ | ⟨h1,h2⟩
 ·refine .inl ⟨e,he,h1,?_⟩
  rw [h2,bL,aZ,if_pos (by simp only;omega)]
 ·refine .inr ⟨h1,?_⟩
  obtain ⟨nd,a1,a2,a3,a4⟩:=aHZ (aEH h h1) r.Faults.toNat
  refine ⟨nd,a1,a2,?_,a4⟩
  rw [Int.toNat_of_nonneg h.ft.1] at a3
  rw [h2,bL,aZ,if_neg (by simp only;omega)]
  simp only [jO,lsu] at a3 ⊢
  rw [a3,bL]
  rfl
theorem aIs {r:aD} (h:RV r) {s:Nat} (hs:s<4611686018427387904) (c:Int):∃ d b,eQ r c s=some (d,b)∧d.Call=c∧(b=true↔¬ qS r s):=by
 rcases aBE h hs c with ⟨e,he,h1,h2⟩ | ⟨h1,nd,a1,a2,h2,h3⟩
 ·exact ⟨_,_,h2,rfl,⟨fun _ q=>by have:=q.1 e he;omega,fun _=>rfl⟩⟩
 ·refine ⟨_,_,h2,rfl,?_⟩
  rw [decide_eq_true_iff]
  refine ⟨fun q q2=>by have:=q2.2 nd a1 a2;omega,fun q=>?_⟩
  refine Int.not_le.1 fun q3=>q ⟨h1,fun nd' b1 b2=>?_⟩
  have:=h3 nd' b1 b2;omega
structure Le (r:aD) (s:Nat) (r':aD) (s':Nat):Prop where
 el:r'.Net.Edges.length=r.Net.Edges.length
 en:∀ i,i<r.Net.Edges.length→(r'.Net.Edges.getD i default).From=(r.Net.Edges.getD i default).From∧(r'.Net.Edges.getD i default).To=(r.Net.Edges.getD i default).To
 n:r'.Net.N=r.Net.N
 cp:∀ i,i<r.Net.Edges.length→aC7 r s i≤aC7 r' s' i
 cn:∀ j,j<r.Centres.length→r.Centres.getD j default≤r'.Centres.getD j default
 ur:∀ j,j<r.Urgent.length→r'.Urgent.getD j default≤r.Urgent.getD j default
 ft:r'.Faults≤r.Faults
theorem aF2 {l:List Int} (h:∀ x∈l,0≤x) {a b:Nat} (hab:a≤b):fP b l≤fP a l:=by
 induction b with
 | zero => have : a = 0 := by omega
           subst this;exact Int.le_refl _
 | succ b ih=>
  by_cases e:a=b+1
  ·subst e;exact Int.le_refl _
  ·exact Int.le_trans (aBN b h) (ih (by omega))
theorem aFC {es es':List dE} (hl:es'.length=es.length) (h:∀ i,i<es.length→(es'.getD i default).From=(es.getD i default).From∧(es'.getD i default).To=(es.getD i default).To) (nd:Nat):uD es' nd=uD es nd:=by
 unfold uD
 rw [hl]
 refine List.filter_congr fun i hi=>?_
 obtain ⟨h1,h2⟩:=h i (List.mem_range.1 hi)
 unfold aCt;rw [h1,h2]
theorem aHB {es:List dE} {nd i:Nat} (h:i∈uD es nd):i<es.length:=List.mem_range.1 (List.mem_filter.1 h).1
theorem aJ1 {l l':List Int} {nd:Nat}:∀ k,(∀ j,j<k→l'.getD j default≤l.getD j default)→uH l' nd k≤uH l nd k
 | 0,_=>Int.le_refl _
 | k+1,h=>by
  have h1:=aJ1 (nd:=nd) k fun j hj=>h j (by omega)
  have h2:=h k (by omega)
  simp only [uH];split<;>omega
theorem Le.ends {r r':aD} {s s':Nat} (h:RV r) (h':RV r') (k:Le r s r' s'):(lvE r' s').length=(lvE r s).length∧∀ i,i<(lvE r s).length→((lvE r' s').getD i default).From=((lvE r s).getD i default).From∧((lvE r' s').getD i default).To=((lvE r s).getD i default).To∧((lvE r s).getD i default).Capacity≤((lvE r' s').getD i default).Capacity:=by
 have e1:=h.cl;have e2:=h'.cl;have e3:=k.n;have e4:=k.el
 refine ⟨by rw [yS,yS];omega,fun i hi=>?_⟩
 rw [yS] at hi
 by_cases q:i<r.Net.Edges.length
 ·rw [aE9 q,aE9 (by omega)]
  exact ⟨(k.en i q).1,(k.en i q).2,k.cp i q⟩
 ·obtain ⟨j,rfl⟩:∃ j,i=r.Net.Edges.length+j:=⟨i-r.Net.Edges.length,by omega⟩
  rw [aDG (by omega),← e4,aDG (by omega)]
  exact ⟨rfl,e3,k.cn j (by omega)⟩
theorem Le.mg {r r':aD} {s s':Nat} (h:RV r) (h':RV r') (k:Le r s r' s') (hc:Car r s) (nd:Nat):mgR r s nd≤mgR r' s' nd:=by
 have e1:=h.ul;have e2:=h'.ul;have e3:=k.n
 obtain ⟨hl,he⟩:=k.ends h h'
 have hN:=aEH h hc
 unfold mgR mgN
 simp only [jO]
 rw [aFC hl fun i hi=>⟨(he i hi).1,(he i hi).2.1⟩]
 have hu:r'.Urgent.length=r.Urgent.length:=by omega
 rw [hu]
 have h1:uH (lsu r') nd r.Urgent.length≤uH (lsu r) nd r.Urgent.length:=aJ1 _ fun j hj=>by
  rw [aBR hj,aBR (by omega)];exact k.ur j hj
 have h2:fP r'.Faults.toNat ((uD (lvE r s) nd).map (sG (lvE r s)))≤fP r'.Faults.toNat ((uD (lvE r s) nd).map (sG (lvE r' s'))):=uQ _ fun i hi=>(he i (aHB hi)).2.2
 have h3:fP r.Faults.toNat ((uD (lvE r s) nd).map (sG (lvE r s)))≤fP r'.Faults.toNat ((uD (lvE r s) nd).map (sG (lvE r s))):=by
  refine aF2 (fun x hx=>?_) (by have:=k.ft;omega)
  obtain ⟨i,hi,rfl⟩:=List.mem_map.1 hx
  exact (aCR hN (aHB hi)).2.2.1
 omega
theorem Le.safe {r r':aD} {s s':Nat} (h:RV r) (h':RV r') (k:Le r s r' s') (hs:qS r s):qS r' s':=by
 have e1:=h.ul;have e2:=h'.ul;have e3:=k.n;have e4:=k.el
 refine ⟨fun e he=>?_,fun nd a b=>?_⟩
 ·have:=hs.1 e (by omega)
  have:=k.cp e (by omega)
  omega
 ·have h1:=hs.2 nd a (by rwa [show r.Urgent.length=r'.Urgent.length by omega])
  have h2:=k.mg h h' hs.1 nd
  omega
theorem aMu {r:aD} (h:RV r) {s s':Nat} (hss:∀ i,i<r.Calls.length→s'.testBit i=true→s.testBit i=true) (e:Nat):∀ k,k≤r.Calls.length→vP r.Calls s' e k≤vP r.Calls s e k
 | 0,_=>Int.le_refl _
 | k+1,hk=>by
  have h1:=aMu h hss e k (by omega)
  have h2:=(h.kv _ (bV (l:=r.Calls) (k:=k) (by omega))).1
  have h3:=hss k (by omega)
  simp only [vP]
  by_cases q:s'.testBit k=true∧(e:Int)∈(r.Calls.getD k default).Edges
  ·rw [if_pos q,if_pos ⟨h3 q.1,q.2⟩];omega
  ·rw [if_neg q];split<;>omega
theorem Le.sub {r:aD} (h:RV r) {s s':Nat} (hss:∀ i,i<r.Calls.length→s'.testBit i=true→s.testBit i=true):Le r s r s' where
 el:=rfl
 en _ _:=⟨rfl,rfl⟩
 n:=rfl
 cp i _:=by have:=aMu h hss i r.Calls.length (Nat.le_refl _);unfold aC7;omega
 cn _ _:=Int.le_refl _
 ur _ _:=Int.le_refl _
 ft:=Int.le_refl _
theorem qS.sub {r:aD} (h:RV r) {s s':Nat} (hs:qS r s) (hss:∀ i,i<r.Calls.length→s'.testBit i=true→s.testBit i=true):qS r s':=(Le.sub h hss).safe h h hs
theorem aBi (c n:Int) (hc:okI c) (hn:0<n):iQ c n=some (oI c n):=by
 unfold iQ
 simp only [iK,zE,decide_eq_true_eq]
 rw [kN _ (by simpa using Int.ne_of_gt hn),kN _ (by simpa using Int.ne_of_gt hn)]
 rw [← aLC c n hc.1 hc.2 hn]
 split<;>rfl
theorem rG (c n:Int) (hc:okI c) (hn:0<n):dX c n=some (oI c n):=aBi c n hc hn
theorem sW (c n:Int) (hc:okI c) (hn:0<n):fO c n=some (oI c n):=aBi c n hc hn
theorem aG2 {α:Type} [Inhabited α] {ok:α→Prop} {l:List α} (h:okL ok l) {k:Nat} (hk:k<l.length):ok (l.getD k default):=h.1 _ (bV hk)
structure NV (n:bG):Prop where
 nn:2≤n.N∧n.N≤6
 el:n.Edges.length≤14
 eg:∀ e∈n.Edges,(0≤e.From∧e.From<n.N)∧(0≤e.To∧e.To<n.N)∧e.From≠e.To∧0≤e.Capacity∧e.Capacity≤19
theorem aNN {a b n:Int} (ha:0≤a∧a<n) (hb:0≤b∧b<n-1):let t:=Int.tmod (a+1+b) n;(0≤t∧t<n)∧a≠t:=by
 have hn:0<n:=by omega
 simp only
 rw [Int.tmod_eq_emod_of_nonneg (by omega)]
 by_cases q:a+1+b<n
 ·rw [Int.emod_eq_of_lt (by omega) q];omega
 ·have:(a+1+b) % n=a+1+b-n:=by
   rw [← Int.sub_emod_right,Int.emod_eq_of_lt (by omega) (by omega)]
  rw [this];omega
theorem aIR {a0:Int} (h0:0≤a0∧a0≤4) {es:List (Int×Int×Int)} (he:∀ e∈es,aCE e) (hl:es.length≤14):∃ n,pS a0 es=some n∧NV n:=by
 unfold pS
 have hp:oI a0 6=a0:=by unfold oI;rw [if_neg (by omega)];exact Int.emod_eq_of_lt (by omega) (by omega)
 rw [sW a0 6 ⟨by omega,by omega⟩ (by omega),bL,hp,bT (by omega) (by omega)]
 obtain ⟨s,e,h1,h2,h3,h4⟩:=dD (body:=nY es) (fun k s=>s.1=(k:Int)∧s.2.N=2+a0∧s.2.Edges.length=k∧∀ e∈s.2.Edges,(0≤e.From∧e.From<2+a0)∧(0≤e.To∧e.To<2+a0)∧e.From≠e.To∧0≤e.Capacity∧e.Capacity≤19) es.length (by omega) (fun k s hk ⟨h1,h2,h3,h4⟩=>by
  obtain ⟨i,N,E⟩:=s
  simp only at h1 h2 h3 h4
  subst h1 h2
  obtain ⟨o1,o2,o3⟩:=he _ (bV hk)
  obtain ⟨p1,p2⟩:=lN (es.getD k default).1 (n:=2+a0) (by omega)
  obtain ⟨q1,q2⟩:=lN (es.getD k default).2.1 (n:=2+a0-1) (by omega)
  obtain ⟨r1,r2⟩:=lN (es.getD k default).2.2 (n:=20) (by omega)
  unfold nY
  simp only [iK,aZ]
  rw [if_pos (by omega),if_pos (by omega)]
  simp only [lB hk]
  rw [sW _ _ o1 (by omega),bL,bT (by omega) (by omega),sW _ _ o2 (by omega),bL,kN _ (by omega),sW _ _ o3 (by omega),bL,wZ,aCu (by simp;omega),bT (by omega) (by omega)]
  generalize oI (es.getD k default).1 (2+a0)=u at *
  generalize oI (es.getD k default).2.1 (2+a0-1)=v at *
  generalize oI (es.getD k default).2.2 20=w at *
  obtain ⟨t1,t2⟩:=aNN (a:=u) (b:=v) (n:=2+a0) ⟨p1,p2⟩ ⟨q1,q2⟩
  rw [bT (x:=u+1) (by omega) (by omega),bT (x:=u+1+v) (by omega) (by omega)]
  refine ⟨_,rfl,rfl,rfl,by simp [h3],fun e he=>?_⟩
  simp only at he
  rcases List.mem_append.1 he with he | he
  ·exact h4 e he
  ·rw [List.mem_singleton.1 he]
   exact ⟨⟨p1,p2⟩,t1,t2,r1,by simp only;omega⟩) (fun s ⟨h1,_⟩=>by
  unfold nY
  simp only [iK,aZ]
  rw [if_neg (by omega),dN]) (0,⟨2+a0,[]⟩) ⟨rfl,rfl,rfl,by simp⟩
 rw [e,bL,eJ]
 exact ⟨_,rfl,by omega,by omega,by rw [h2];exact h4⟩
structure MV (r:aD):Prop extends RV r where
 n2:2≤r.Net.N∧r.Net.N≤6
 e14:r.Net.Edges.length≤14
 c20:∀ e∈r.Net.Edges,e.Capacity≤19
 u5:∀ u∈r.Urgent,u≤5
 c40:∀ u∈r.Centres,u≤39
 k5:r.Calls.length≤5
 a6:∀ o∈r.Calls,o.Amount≤6
structure PW (n:bG) (k:Nat) (at_:Int) (l:List Int):Prop where
 len:l.length≤k
 pos:0<k→0<l.length
 rg:∀ e∈l,0≤e∧e<(n.Edges.length:Int)
 nd:l.Nodup
 go:∀ i,i+1<l.length→(n.Edges.getD (l.getD i default).toNat default).To=(n.Edges.getD (l.getD (i+1) default).toNat default).From
 at_:0<l.length→(n.Edges.getD (l.getD (l.length-1) default).toNat default).To=at_
theorem aNM {s:Int×Int×bI} (hl:s.2.2.Edges.length≤3) (y:Int):∃ x,lp (gM s y) FU (false,0)=some (.inl (decide (y∈s.2.2.Edges),x)):=by
 obtain ⟨s',e,h1,h2⟩:=dD (body:=gM s y) (fun k x=>x.2=(k:Int)∧x.1=decide (y∈s.2.2.Edges.take k)) s.2.2.Edges.length (by omega) (fun k x hk ⟨h1,h2⟩=>by
  obtain ⟨b,i⟩:=x
  simp only at h1 h2
  subst h1 h2
  unfold gM
  simp only [iK,aZ]
  rw [if_pos (by omega),bT (by omega) (by omega),List.take_succ_eq_append_getElem hk,← dC hk,lB hk]
  by_cases q:y∈s.2.2.Edges.take k
  ·rw [if_pos q]
   exact ⟨_,rfl,rfl,by simp [q]⟩
  ·rw [if_neg q]
   refine ⟨_,rfl,rfl,?_⟩
   simp only [List.mem_append,q,false_or,List.mem_singleton]
   rw [Bool.eq_iff_iff,beq_iff_eq,decide_eq_true_iff]
   exact eq_comm) (fun x ⟨h1,_⟩=>by
  unfold gM
  simp only [aZ]
  rw [if_neg (by omega)]) (false,0) ⟨rfl,by simp⟩
 rw [List.take_length] at h2
 exact ⟨s'.2,by rw [e,← h2]⟩
theorem aNW {r:aD} {i:Int} (hr:NV r.Net) (hne:0<r.Net.Edges.length) {e4:Int×Int×Int×Int} (ho:aK1 e4) {a:Int}:∃ x y l,lp (lM e4 (i,r)) FU (-1,0,(⟨[],a⟩:bI))=some (.inl (x,y,(⟨l,a⟩:bI)))∧WV r.Net l:=by
 have hel:=hr.el
 obtain ⟨s',e,h1,h2,h3⟩:=dD (body:=lM e4 (i,r)) (fun k x=>x.2.1=(k:Int)∧x.2.2.Amount=a∧PW r.Net k x.1 x.2.2.Edges) 3 (by omega) (fun k x hk ⟨h1,h2,h3⟩=>by
  obtain ⟨t,j,l,am⟩:=x
  simp only at h1 h2 h3
  subst h1 h2
  have hpk:okI (([e4.1,e4.2.1,e4.2.2.1,e4.2.2.2]:List Int).getD k default):=by
   obtain ⟨o1,o2,o3,o4⟩:=ho
   match k,hk with
   | 0,_=>exact o1
   | 1,_=>exact o2
   | 2,_=>exact o3
  unfold lM
  simp only [iK,aZ,Int.toNat_natCast]
  rw [if_pos (by omega),kN _ (by omega),rG _ _ hpk (by omega),bL,bT (by omega) (by omega)]
  obtain ⟨p1,p2⟩:=lN (([e4.1,e4.2.1,e4.2.2.1,e4.2.2.2]:List Int).getD k default) (n:=(r.Net.Edges.length:Int)) (by omega)
  generalize oI (([e4.1,e4.2.1,e4.2.2.1,e4.2.2.2]:List Int).getD k default) (r.Net.Edges.length:Int)=z at p1 p2
  have hlen:=h3.len
  have stay:0<k→PW r.Net (k+1) t l:=fun hk0=>⟨by omega,fun _=>h3.pos hk0,h3.rg,h3.nd,h3.go,h3.at_⟩
  have go:(0<k→(r.Net.Edges.getD z.toNat default).From=t)→∃ s',(bd (lp (gM (t,(k:Int),(⟨l,am⟩:bI)) z) FU (false,0)) fun c37=>smK c37 (fun s38=>cn (!s38.1) (lt ([z]:List Int) fun l42=>ap l l42 fun l43=>ix r.Net.Edges default z fun e44=>some (.nx (e44.To,((k:Int)+1),(⟨l43,am⟩:bI)))) (some (.nx (t,((k:Int)+1),(⟨l,am⟩:bI))))) (fun r39=>some (.rt r39)):Option (Ct (Int×Int×bI) aD))=some (.nx s')∧s'.2.1=((k+1:Nat):Int)∧s'.2.2.Amount=am∧PW r.Net (k+1) s'.1 s'.2.2.Edges:=fun hgo=>by
   obtain ⟨x,e⟩:=aNM (s:=(t,(k:Int),(⟨l,am⟩:bI))) (by simp only;omega) z
   rw [e,bL,eJ,iD]
   simp only [aZ]
   by_cases q:z∈l
   ·rw [if_pos q]
    have hk0:0<k:=by
     have:=List.length_pos_of_mem q
     omega
    exact ⟨_,rfl,rfl,rfl,stay hk0⟩
   ·rw [if_neg q,wZ,aCu (by simp;omega),aGu p1 p2]
    refine ⟨_,rfl,rfl,rfl,?_⟩
    simp only
    refine ⟨by simp;omega,fun _=>by simp,fun e he=>?_,?_,fun i hi=>?_,fun _=>?_⟩
    ·rcases List.mem_append.1 he with he | he
     ·exact h3.rg e he
     ·rw [List.mem_singleton.1 he];exact ⟨p1,p2⟩
    ·rw [List.nodup_append]
     refine ⟨h3.nd,by simp,fun a ha b hb=>?_⟩
     rw [List.mem_singleton.1 hb]
     exact fun e=>q (e ▸ ha)
    ·rw [List.length_append,List.length_singleton] at hi
     by_cases q2:i+1<l.length
     ·rw [wC (by omega),wC q2]
      exact h3.go i q2
     ·have:i+1=l.length:=by omega
      rw [wC (by omega),wP (by omega),this,Nat.sub_self]
      have h4:=h3.at_ (by omega)
      rw [show l.length-1=i by omega] at h4
      rw [h4]
      exact (hgo (by omega)).symm
    ·rw [List.length_append,List.length_singleton,wP (by omega),Nat.add_sub_cancel,Nat.sub_self]
     rfl
  by_cases q:(k:Int)>0
  ·rw [if_pos q,aGu p1 p2,fR]
   by_cases q2:(r.Net.Edges.getD z.toNat default).From=t
   ·rw [if_pos q2]
    exact go fun _=>q2
   ·rw [if_neg q2]
    exact ⟨_,rfl,rfl,rfl,stay (by omega)⟩
  ·rw [if_neg q,dN]
   exact go fun hk0=>by omega) (fun x ⟨h1,_⟩=>by
  unfold lM
  simp only [aZ]
  rw [if_neg (by omega)]) (-1,0,⟨[],a⟩) ⟨rfl,rfl,by simp,fun h=>by omega,by simp,by simp,fun i h=>by simp at h,fun h=>by simp at h⟩
 obtain ⟨x,y,l,am⟩:=s'
 simp only at h1 h2 h3
 subst h2
 exact ⟨x,y,l,e,⟨h3.pos (by omega),by have:=h3.len;omega⟩,h3.rg,h3.nd,h3.go⟩
theorem aNr (a0:qN) (o:xC a0):∃ r,pL a0=some r∧MV r:=by
 obtain ⟨o1,o2,o3,o4,o5,o6⟩:=o
 unfold pL
 obtain ⟨p1,p2⟩:=lN a0.Nodes (n:=5) (by omega)
 obtain ⟨f1,f2⟩:=lN a0.Faults (n:=3) (by omega)
 rw [rG _ _ o1 (by omega),bL,aN0 (by omega) (by simp only [aA9];split<;>omega) (by simp only [aA9];split<;>omega)]
 obtain ⟨n,e1,hn⟩:=aIR (a0:=oI a0.Nodes 5) ⟨p1,by omega⟩ (es:=sub a0.Edges 0 (aA9 (a0.Edges.length:Int) 14)) (fun e he=>o2.1 e (List.mem_of_mem_take (by simpa [sub] using he))) (by simp only [sub,aA9];split<;>simp<;>omega)
 have hnn:=hn.nn
 have hne:=hn.el
 rw [e1,bL,rG _ _ o5 (by omega),bL]
 generalize oI a0.Faults 3=F at *
 obtain ⟨s,e2,h1,h2,h3,h4,h5,h6,h7',h8,h9⟩:=dD (body:=nP a0) (fun k s=>s.1=(k:Int)∧s.2.Net=n∧s.2.Faults=F∧s.2.Calls=[]∧s.2.Urgent.length=k∧s.2.Centres.length=k∧(∀ u∈s.2.Urgent,0≤u∧u≤5)∧(∀ u∈s.2.Centres,0≤u∧u≤39)∧True) n.N.toNat (by omega) (fun k s hk ⟨h1,h2,h3,h4,h5,h6,h7,h8,_⟩=>by
  obtain ⟨i,N,U,C,F',K⟩:=s
  simp only at h1 h2 h3 h4 h5 h6 h7 h8
  subst h1 h2 h3 h4
  unfold nP
  simp only [iK,aZ]
  rw [if_pos (by omega)]
  have fin:∀ u c:Int,(0≤u∧u≤5)→(0≤c∧c≤39)→∃ s',(lt ([u]:List Int) fun l14=>ap U l14 fun l15=>lt ([c]:List Int) fun l16=>ap C l16 fun l17=>some (.nx ((wr ((k:Int)+1)),(⟨N,l15,l17,F',[]⟩:aD))):Option (Ct (Int×aD) aD))=some (.nx s')∧s'.1=((k+1:Nat):Int)∧s'.2.Net=N∧s'.2.Faults=F'∧s'.2.Calls=[]∧s'.2.Urgent.length=k+1∧s'.2.Centres.length=k+1∧(∀ u∈s'.2.Urgent,0≤u∧u≤5)∧(∀ u∈s'.2.Centres,0≤u∧u≤39)∧True:=fun u c hu hc=>by
   rw [wZ,aCu (by simp;omega),wZ,aCu (by simp;omega),bT (by omega) (by omega)]
   refine ⟨_,rfl,rfl,rfl,rfl,rfl,by simp [h5],by simp [h6],fun x hx=>?_,fun x hx=>?_,trivial⟩
   ·rcases List.mem_append.1 hx with hx | hx
    ·exact h7 x hx
    ·rw [List.mem_singleton.1 hx];exact hu
   ·rcases List.mem_append.1 hx with hx | hx
    ·exact h8 x hx
    ·rw [List.mem_singleton.1 hx];exact hc
  have ru:∀ f:Int→Option (Ct (Int×aD) aD),(∀ u,0≤u∧u≤5→∃ s',f u=some (.nx s')∧s'.1=((k+1:Nat):Int)∧s'.2.Net=N∧s'.2.Faults=F'∧s'.2.Calls=[]∧s'.2.Urgent.length=k+1∧s'.2.Centres.length=k+1∧(∀ u∈s'.2.Urgent,0≤u∧u≤5)∧(∀ u∈s'.2.Centres,0≤u∧u≤39)∧True)→∃ s',(if (k:Int)<(a0.Urgent.length:Int) then ix a0.Urgent default (k:Int) fun e8=>bd (dX e8 6) fun y9=>f y9 else f 0)=some (.nx s')∧s'.1=((k+1:Nat):Int)∧s'.2.Net=N∧s'.2.Faults=F'∧s'.2.Calls=[]∧s'.2.Urgent.length=k+1∧s'.2.Centres.length=k+1∧(∀ u∈s'.2.Urgent,0≤u∧u≤5)∧(∀ u∈s'.2.Centres,0≤u∧u≤39)∧True:=fun f hf=>by
   by_cases q:k<a0.Urgent.length
   ·obtain ⟨z1,z2⟩:=lN (a0.Urgent.getD k default) (n:=6) (by omega)
    rw [if_pos (by omega),lB q,rG _ _ (aG2 o3 q) (by omega),bL]
    exact hf _ ⟨z1,by omega⟩
   ·rw [if_neg (by omega)]
    exact hf _ (by omega)
  refine ru _ fun u hu=>?_
  by_cases q:k<a0.Centres.length
  ·obtain ⟨z1,z2⟩:=lN (a0.Centres.getD k default) (n:=40) (by omega)
   rw [if_pos (by omega),lB q,rG _ _ (aG2 o4 q) (by omega),bL]
   exact fin _ _ hu ⟨z1,by omega⟩
  ·rw [if_neg (by omega)]
   exact fin _ _ hu (by omega)) (fun s ⟨h1,h2,_⟩=>by
  unfold nP
  simp only [aZ]
  rw [h2,if_neg (by omega)]) (0,⟨n,[],[],F,[]⟩) ⟨rfl,rfl,rfl,rfl,rfl,rfl,by simp,by simp,trivial⟩
 rw [e2,bL,eJ]
 obtain ⟨i,N,U,C,F',K⟩:=s
 simp only at h1 h2 h3 h4 h5 h6 h7' h8
 subst h2 h3 h4
 obtain ⟨s,e3,h1,⟨h2,h3,h4,h5,h6,h7⟩,_⟩:=dD (body:=nX a0) (fun k s=>s.1=(k:Int)∧(s.2.Net=N∧s.2.Faults=F'∧s.2.Urgent=U∧s.2.Centres=C∧s.2.Calls.length=k∧∀ o∈s.2.Calls,(1≤o.Amount∧o.Amount≤6)∧WV N o.Edges)∧True) (if 0<N.Edges.length then min a0.Calls.length 5 else 0) (by split<;>omega) (fun k s hk ⟨g1,⟨g2,g3,g4,g5,g6,g7⟩,_⟩=>by
  obtain ⟨i,N',U',C',F,K⟩:=s
  simp only at g1 g2 g3 g4 g5 g6 g7
  subst g1 g2 g3 g4 g5
  have hne0:0<N'.Edges.length:=by
   by_cases q:0<N'.Edges.length
   ·exact q
   ·rw [if_neg q] at hk;omega
  rw [if_pos hne0] at hk
  have hk1:k<a0.Calls.length:=by omega
  have oc:=aG2 o6 hk1
  obtain ⟨z1,z2⟩:=lN (a0.Calls.getD k default).2.2.2 (n:=6) (by omega)
  unfold nX
  simp only [iK,aZ]
  rw [if_pos (by omega),if_pos (by omega),if_pos (by omega),lB hk1,rG _ _ oc.2.2.2 (by omega),bL,bT (x:=1+oI (a0.Calls.getD k default).2.2.2 6) (by omega) (by omega)]
  obtain ⟨x,y,l,e,hw⟩:=aNW (r:=⟨N',U',C',F,K⟩) (i:=(k:Int)) hn hne0 oc (a:=1+oI (a0.Calls.getD k default).2.2.2 6)
  rw [e,bL,eJ,wZ,aCu (by simp;omega),bT (by omega) (by omega)]
  refine ⟨_,rfl,rfl,⟨rfl,rfl,rfl,rfl,by simp [g6],fun o ho=>?_⟩,trivial⟩
  rcases List.mem_append.1 ho with ho | ho
  ·exact g7 o ho
  ·rw [List.mem_singleton.1 ho]
   exact ⟨by simp only;omega,hw⟩) (fun s ⟨h1,⟨h2,_⟩,_⟩=>by
  unfold nX
  simp only [iK,aZ]
  rw [h2]
  by_cases q1:s.1<(a0.Calls.length:Int)
  ·rw [if_pos q1]
   by_cases q2:s.1<5
   ·rw [if_pos q2]
    have:¬ 0<N.Edges.length:=fun q=>by rw [if_pos q] at h1;omega
    rw [if_neg (by omega)]
   ·rw [if_neg q2,dN]
  ·rw [if_neg q1,dN]) (0,⟨N,U,C,F',[]⟩) ⟨rfl,⟨rfl,rfl,rfl,rfl,rfl,by simp⟩,trivial⟩
 rw [e3,bL,eJ]
 refine ⟨_,rfl,?_⟩
 have hk5:s.2.Calls.length≤5:=by rw [h6];split<;>omega
 refine { n:=by rw [h2];omega,el:=by rw [h2];omega,eg:=fun e he=>?_,ul:=by rw [h2,h4];omega,uv:=fun u hu=>?_,cl:=by rw [h2,h5];omega,cv:=fun u hu=>?_,ft:=by rw [h3];omega,kl:=by omega,kv:=fun o ho=>?_,n2:=by rw [h2];exact hnn,e14:=by rw [h2];exact hne,c20:=fun e he=>?_,u5:=fun u hu=>?_,c40:=fun u hu=>?_,k5:=hk5,a6:=fun o ho=>(h7 o ho).1.2 }
 ·rw [h2] at he ⊢;have:=hn.eg e he;omega
 ·rw [h4] at hu;have:=h7' u hu;omega
 ·rw [h5] at hu;have:=h8 u hu;omega
 ·rw [h2];have:=h7 o ho;exact ⟨by omega,this.2⟩
 ·rw [h2] at he;exact (hn.eg e he).2.2.2.2
 ·rw [h4] at hu;exact (h7' u hu).2
 ·rw [h5] at hu;exact (h8 u hu).2
theorem aOa {r:aD} (h1:r.Net.Edges.length≤1000) (h2:r.Urgent.length≤1000) (h3:r.Centres.length≤1000) (h4:r.Calls.length≤1000) (h5:∀ o∈r.Calls,o.Edges.length≤1000):nG r=some r:=by
 unfold nG
 simp only [wZ]
 rw [kN _ (by omega),kN _ (by omega),kN _ (by omega)]
 obtain ⟨s,e,q1,q2⟩:=dD (body:=nR r) (fun k s=>s.1=(k:Int)∧s.2=(⟨(⟨r.Net.N,r.Net.Edges⟩:bG),r.Urgent,r.Centres,r.Faults,r.Calls.take k⟩:aD)) r.Calls.length (by omega) (fun k s hk ⟨q1,q2⟩=>by
  obtain ⟨i,R⟩:=s
  simp only at q1 q2
  subst q1 q2
  have:=h5 _ (bV hk)
  unfold nR
  simp only [aZ,wZ]
  rw [if_pos (by omega)]
  simp only [lB hk]
  rw [aCu (by rw [List.length_nil];omega),aCu (by rw [List.length_take,List.length_singleton];omega),bT (by omega) (by omega)]
  refine ⟨_,rfl,rfl,?_⟩
  rw [List.take_succ_eq_append_getElem hk,← dC hk,List.nil_append]) (fun s ⟨q1,_⟩=>by
  unfold nR
  simp only [aZ]
  rw [if_neg (by omega)]) (0,_) ⟨rfl,rfl⟩
 rw [List.take_length] at q2
 rw [List.take_zero] at e
 rw [e,bL,eJ,q2]
theorem RV.copy {r:aD} (h:RV r):nG r=some r:=by
 have h1:=h.el;have h2:=h.ul;have h3:=h.cl;have h4:=h.kl;have h5:=h.n
 exact aOa (by omega) (by omega) (by omega) (by omega) fun o ho=>by have:=(h.kv o ho).2.len;omega
open Classical in
noncomputable def qE (r:aD):Nat→Nat
 | 0=>0
 | k+1=>if qS r (qE r k|||2 ^ k) then qE r k|||2 ^ k else qE r k
theorem sY (r:aD):∀ k i,k≤i→(qE r k).testBit i=false
 | 0,i,_=>by simp [qE]
 | k+1,i,h=>by
  simp only [qE]
  split
  ·rw [Nat.testBit_or,sY r k i (by omega),Nat.testBit_two_pow];simp;omega
  ·exact sY r k i (by omega)
theorem sZ (r:aD):∀ k i,i<k→(qE r k).testBit i=(qE r (i+1)).testBit i
 | 0,i,h=>by omega
 | k+1,i,h=>by
  by_cases e:i=k
  ·subst e;rfl
  ·have h1:=sZ r k i (by omega)
   rw [← h1]
   conv=>lhs;simp only [qE]
   split
   ·rw [Nat.testBit_or,Nat.testBit_two_pow]
    have:decide (k=i)=false:=by simp;omega
    rw [this,Bool.or_false]
   ·rfl
theorem aCX (r:aD):∀ k,qE r k<2 ^ k
 | 0=>by simp [qE]
 | k+1=>by
  have h:=aCX r k
  have h2:2 ^ k<2 ^ (k+1):=Nat.pow_lt_pow_right (by omega) (by omega)
  simp only [qE]
  split
  ·exact Nat.or_lt_two_pow (by omega) h2
  ·omega
theorem aH6 {r:aD} (h:qS r 0):∀ k,qS r (qE r k)
 | 0=>h
 | k+1=>by
  simp only [qE]
  split
  ·assumption
  ·exact aH6 h k
theorem aKc {r:aD} (k:Nat):(qE r (k+1)).testBit k=true↔qS r (qE r k|||2 ^ k):=by
 simp only [qE]
 split
 ·rename_i q;simp [q,Nat.testBit_or,Nat.testBit_two_pow]
 ·rename_i q
  rw [sY r k k (Nat.le_refl _)]
  simp [q]
theorem aKX (r:aD) {k m:Nat} (h:m≤k):∀ i,(qE r m).testBit i=(decide (i<m)&&(qE r k).testBit i):=fun i=>by
 by_cases q:i<m
 ·rw [decide_eq_true q,Bool.true_and,sZ r m i q,sZ r k i (by omega)]
 ·rw [decide_eq_false q,Bool.false_and,sY r m i (by omega)]
noncomputable def aF5 (r:aD) (i:Nat):bS:=((eQ r (i:Int) ((qE r i|||2 ^ i:Nat):Int)).getD default).1
noncomputable def aFL (r:aD) (k:Nat):List bS:=((List.range k).filter fun i => !(qE r r.Calls.length).testBit i).map (aF5 r)
theorem aHC {r:aD} (h:RV r):(¬ qS r 0∧dP r=some (⟨0,[]⟩,330))∨(qS r 0∧dP r=some (⟨((qE r r.Calls.length:Nat):Int),aFL r r.Calls.length⟩,0)):=by
 have hkl:=h.kl
 unfold dP
 obtain ⟨b,hb,hs⟩:=aB3 h (s:=0) (Nat.two_pow_pos _)
 rw [show ((0:Nat):Int)=0 from rfl] at hb
 rw [hb,bL,iD]
 cases b
 ·rw [dN]
  exact .inl ⟨fun q=>by simpa using hs.2 q,rfl⟩
 ·rw [eE]
  refine .inr ⟨hs.1 rfl,?_⟩
  obtain ⟨s,e,h1,h2⟩:=dD (body:=jT r) (fun k s=>s.1=(k:Int)∧s.2=(⟨((qE r k:Nat):Int),aFL r k⟩:bQ)) r.Calls.length (by omega) (fun k s hk ⟨h1,h2⟩=>by
   obtain ⟨i,A⟩:=s
   simp only at h1 h2
   subst h1 h2
   have hlt:=aCX r k
   have hp8:2 ^ k≤2 ^ 8:=Nat.pow_le_pow_right (by omega) (by omega)
   have hp:(2:Int) ^ k=((2 ^ k:Nat):Int):=by norm_cast
   have hor:bor .i64 ((qE r k:Nat):Int) (aAw .i64 1 (k:Int))=((qE r k|||2 ^ k:Nat):Int):=by
    rw [kI (by omega),hp,aDB (by omega) (by omega) (by omega) (by omega),Int.toNat_natCast,Int.toNat_natCast]
   have hlt2:qE r k|||2 ^ k<2 ^ 9:=Nat.or_lt_two_pow (by omega) (by omega)
   obtain ⟨d,b,e,hc,hi⟩:=aIs h (s:=qE r k|||2 ^ k) (by omega) (k:Int)
   have hw:aF5 r k=d:=by unfold aF5;rw [e];rfl
   have hdl:(aFL r k).length≤k:=by
    unfold aFL;rw [List.length_map]
    exact Nat.le_trans (List.length_filter_le _ _) (by simp)
   have hbit:(qE r r.Calls.length).testBit k=true↔b=false:=by
    rw [sZ r _ k hk,aKc,← Bool.not_eq_true,hi]
    exact ⟨fun q q2=>q2 q,fun q=>Classical.byContradiction q⟩
   unfold jT
   simp only [aZ,iK,hor]
   rw [if_pos (by omega),kN _ (by omega),e,bL,bT (by omega) (by omega)]
   cases b
   ·rw [dN,kN _ (by omega)]
    refine ⟨_,rfl,rfl,?_⟩
    have hs:qS r (qE r k|||2 ^ k):=Classical.byContradiction fun q=>by simpa using hi.2 q
    simp only [aFL,List.range_succ,List.filter_append,List.filter_cons,List.filter_nil,hbit.2 rfl,Bool.not_true,qE,if_pos hs]
    simp
   ·rw [eE,wZ,aCu (by simp;omega)]
    refine ⟨_,rfl,rfl,?_⟩
    have hs:=hi.1 rfl
    have hb0:(qE r r.Calls.length).testBit k=false:=by
     cases q:(qE r r.Calls.length).testBit k
     ·rfl
     ·have:=hbit.1 q;simp at this
    simp only [aFL,List.range_succ,List.filter_append,List.filter_cons,List.filter_nil,hb0,Bool.not_false,qE,if_neg hs]
    simp [hw]) (fun s ⟨h1,_⟩=>by
   unfold jT
   simp only [aZ]
   rw [if_neg (by omega)]) (0,⟨0,[]⟩) ⟨rfl,by simp [qE,aFL]⟩
  rw [e,bL,eJ,h2]
theorem aIf {α:Type} [Inhabited α] {l:List α} {i j:Nat} {x:α} (hj:j<l.length):(l.set i x).getD j default=if i=j then x else l.getD j default:=by
 rw [dC (by rw [List.length_set];exact hj),List.getElem_set,dC hj]
section
variable {r:aD} (h:RV r)
include h
end
theorem aPm {r:aD} (h:RV r) {s:Nat} (hs:s<2 ^ r.Calls.length) (hp:qS r s):cS r (s:Int)=some true:=by
 obtain ⟨b,e,hb⟩:=aB3 h hs
 rw [e,hb.2 hp]
theorem aOS (cs:List bI) (e:Nat):∀ k,vP cs 0 e k=0
 | 0=>rfl
 | k+1=>by simp [vP,aOS cs e k]
theorem aOb {r:aD} (h:RV r):Car r 0:=fun e he=>by
 have:=aHJ h he
 unfold aC7;rw [aOS];omega
theorem rK {a b m n:Nat} (ha:a<256) (hm:m<256):(256 * b+a)&&&(256 * n+m)=256 * (b&&&n)+(a&&&m):=by
 have hlt:a&&&m<2 ^ 8:=Nat.lt_of_le_of_lt Nat.and_le_left ha
 refine Nat.eq_of_testBit_eq fun i=>?_
 rw [Nat.testBit_and,show (256:Nat)=2 ^ 8 from rfl,Nat.testBit_two_pow_mul_add b (show a<2 ^ 8 from ha),Nat.testBit_two_pow_mul_add n (show m<2 ^ 8 from hm),Nat.testBit_two_pow_mul_add _ hlt]
 split
 ·rw [Nat.testBit_and]
 ·rw [Nat.testBit_and]
def t1 (a:Nat):Nat:=((a / 2)&&&85)+(a&&&85)
def t2 (a:Nat):Nat:=((t1 a / 4)&&&51)+(t1 a&&&51)
def t3 (a:Nat):Nat:=(t2 a / 16+t2 a)&&&15
def aAU (a:Nat):Nat:=(List.range 8).countP a.testBit
theorem uO:∀ a:Fin 256,t1 a.val≤170∧t2 a.val≤68∧t2 a.val % 16≤4∧t3 a.val=aAU a.val:=by decide +kernel
theorem aML:∀ (a:Fin 256) (e:Fin 2),((a.val / 2+128 * e.val)&&&85)=((a.val / 2)&&&85):=by decide +kernel
theorem aNX:∀ (a:Fin 256) (e:Fin 4),((a.val / 4+64 * e.val)&&&51)=((a.val / 4)&&&51):=by decide +kernel
theorem aSJ:∀ (a:Fin 69) (e:Fin 5),((a.val / 16+16 * e.val+a.val)&&&15)=((a.val / 16+a.val)&&&15):=by decide +kernel
theorem st1 {a b n:Nat} (ha:a<256):(((256 * b+a) / 2)&&&(256 * n+85))+((256 * b+a)&&&(256 * n+85))=256 * (((b / 2)&&&n)+(b&&&n))+t1 a:=by
 have e:(256 * b+a) / 2=256 * (b / 2)+(a / 2+128 * (b % 2)):=by omega
 have:=aML ⟨a,ha⟩ ⟨b % 2,by omega⟩
 simp only at this
 rw [e,rK (by omega) (by omega),rK ha (by omega),this]
 unfold t1;omega
theorem st2 {a b n:Nat} (ha:a<256):(((256 * b+t1 a) / 4)&&&(256 * n+51))+((256 * b+t1 a)&&&(256 * n+51))=256 * (((b / 4)&&&n)+(b&&&n))+t2 a:=by
 have h1:=(uO ⟨a,ha⟩).1
 simp only at h1
 have e:(256 * b+t1 a) / 4=256 * (b / 4)+(t1 a / 4+64 * (b % 4)):=by omega
 have:=aNX ⟨t1 a,by omega⟩ ⟨b % 4,by omega⟩
 simp only at this
 rw [e,rK (by omega) (by omega),rK (by omega) (by omega),this]
 unfold t2;omega
theorem st3 {a b n:Nat} (ha:a<256) (hb:b % 16≤4):((256 * b+t2 a) / 16+(256 * b+t2 a))&&&(256 * n+15)=256 * ((b / 16+b)&&&n)+t3 a:=by
 have h1:=(uO ⟨a,ha⟩).2.1
 simp only at h1
 have e:(256 * b+t2 a) / 16+(256 * b+t2 a)=256 * (b / 16+b)+(t2 a / 16+16 * (b % 16)+t2 a):=by omega
 have:=aSJ ⟨t2 a,by omega⟩ ⟨b % 16,by omega⟩
 simp only at this
 rw [e,rK (by omega) (by omega),this]
 unfold t3;omega
theorem xU {d:Nat} (hd:d<256):t1 d≤170∧t2 d≤68∧t2 d % 16≤4∧t3 d=aAU d:=uO ⟨d,hd⟩
theorem aEB (a:Nat):aAU a≤8:=by
 unfold aAU
 exact Nat.le_trans List.countP_le_length (by simp)
theorem aAc {a b:Nat} (ha:a<2 ^ 64) (hb:b<2 ^ 64):zF .u64 (a:Int) (b:Int)=((a&&&b:Nat):Int):=by
 show IntKind.u64.wrap _=_
 have e1:(BitVec.ofInt IntKind.u64.bits (a:Int)).toNat=a:=by
  show (BitVec.ofInt 64 (a:Int)).toNat=a
  rw [BitVec.toNat_ofInt];omega
 have e2:(BitVec.ofInt IntKind.u64.bits (b:Int)).toNat=b:=by
  show (BitVec.ofInt 64 (b:Int)).toNat=b
  rw [BitVec.toNat_ofInt];omega
 rw [BitVec.toNat_and,e1,e2]
 have:a&&&b≤a:=Nat.and_le_left
 show ((a&&&b:Nat):Int) % 18446744073709551616=_
 omega
theorem vG {a:Nat} (ha:a<2 ^ 64):IntKind.u64.wrap (a:Int)=(a:Int):=by
 show (a:Int) % 18446744073709551616=_
 omega
theorem aAE {a k:Nat} (hk:k≤60):zD .u64 (a:Int) (k:Int)=((a / 2 ^ k:Nat):Int):=by
 show (a:Int).fdiv (2 ^ (min (k:Int).toNat 64))=_
 rw [Int.toNat_natCast,Nat.min_eq_left (by omega),Int.fdiv_eq_ediv_of_nonneg _ (Int.le_of_lt (two_pow_pos k))]
 norm_cast
theorem z1 {d n:Nat} (hd:d<256):((d / 2)&&&(256 * n+85))+(d&&&(256 * n+85))=t1 d:=by
 have:=st1 (a:=d) (b:=0) (n:=n) hd
 simpa using this
theorem z2 {d n:Nat} (hd:d<256):((t1 d / 4)&&&(256 * n+51))+(t1 d&&&(256 * n+51))=t2 d:=by
 have:=st2 (a:=d) (b:=0) (n:=n) hd
 simpa using this
theorem z3 {d n:Nat} (hd:d<256):(t2 d / 16+t2 d)&&&(256 * n+15)=t3 d:=by
 have:=st3 (a:=d) (b:=0) (n:=n) hd (by omega)
 simpa using this
theorem q1 {a b c d:Nat} (ha:a<256) (hb:b<256) (hc:c<256) (hd:d<256):((256 * (256 * (256 * d+c)+b)+a) / 2&&&6148914691236517205)+((256 * (256 * (256 * d+c)+b)+a)&&&6148914691236517205)=256 * (256 * (256 * t1 d+t1 c)+t1 b)+t1 a:=by
 rw [show 6148914691236517205=256 * (256 * (256 * (256 * 1431655765+85)+85)+85)+85 from rfl,st1 ha,st1 hb,st1 hc,z1 hd]
theorem q2 {a b c d:Nat} (ha:a<256) (hb:b<256) (hc:c<256) (hd:d<256):((256 * (256 * (256 * t1 d+t1 c)+t1 b)+t1 a) / 4&&&3689348814741910323)+((256 * (256 * (256 * t1 d+t1 c)+t1 b)+t1 a)&&&3689348814741910323)=256 * (256 * (256 * t2 d+t2 c)+t2 b)+t2 a:=by
 rw [show 3689348814741910323=256 * (256 * (256 * (256 * 858993459+51)+51)+51)+51 from rfl,st2 ha,st2 hb,st2 hc,z2 hd]
theorem q3 {a b c d:Nat} (ha:a<256) (hb:b<256) (hc:c<256) (hd:d<256):((256 * (256 * (256 * t2 d+t2 c)+t2 b)+t2 a) / 16+(256 * (256 * (256 * t2 d+t2 c)+t2 b)+t2 a))&&&1085102592571150095=256 * (256 * (256 * t3 d+t3 c)+t3 b)+t3 a:=by
 have b3:=(xU hb).2.2.1
 have c3:=(xU hc).2.2.1
 have d3:=(xU hd).2.2.1
 rw [show 1085102592571150095=256 * (256 * (256 * (256 * 252645135+15)+15)+15)+15 from rfl,st3 ha (by omega),st3 hb (by omega),st3 hc (by omega),z3 hd]
theorem aG0 {a:Nat} (ha:a<4611686018427387904):zF .i64 (wr (a:Int)) 127=((a % 128:Nat):Int):=by
 rw [bT (by omega) (by omega),aBh (by omega) (by omega) (by omega) (by omega),Int.toNat_natCast]
 have:a&&&127=a % 2 ^ 7:=Nat.and_two_pow_sub_one_eq_mod a 7
 rw [show Int.toNat 127=127 from rfl,this]
theorem aMT {a b c d:Nat} (ha:a<256) (hb:b<256) (hc:c<256) (hd:d<256):cF ((256 * (256 * (256 * d+c)+b)+a:Nat):Int)=some ((aAU a+aAU b+aAU c+aAU d:Nat):Int):=by
 obtain ⟨a1,a2,a3,a4⟩:=xU ha
 obtain ⟨b1,b2,b3,b4⟩:=xU hb
 obtain ⟨c1,c2,c3,c4⟩:=xU hc
 obtain ⟨d1,d2,d3,d4⟩:=xU hd
 have ca:=aEB a;have cb:=aEB b;have cc:=aEB c;have cd:=aEB d
 have r1:=q1 ha hb hc hd
 have r2:=q2 ha hb hc hd
 have r3:=q3 ha hb hc hd
 unfold cF fW
 generalize hx:256 * (256 * (256 * d+c)+b)+a=x at r1
 have hx1:x<2 ^ 32:=by omega
 have s1:zD .u64 (x:Int) 1=((x / 2:Nat):Int):=aAE (k:=1) (by omega)
 have e1:zF .u64 ((x / 2:Nat):Int) 6148914691236517205=((x / 2&&&6148914691236517205:Nat):Int):=aAc (b:=6148914691236517205) (by omega) (by omega)
 have e2:zF .u64 (x:Int) 6148914691236517205=((x&&&6148914691236517205:Nat):Int):=aAc (b:=6148914691236517205) (by omega) (by omega)
 generalize hy:256 * (256 * (256 * t1 d+t1 c)+t1 b)+t1 a=y at r1 r2
 have hy1:y<2 ^ 32:=by omega
 have s2:zD .u64 (y:Int) 2=((y / 4:Nat):Int):=aAE (k:=2) (by omega)
 have e3:zF .u64 ((y / 4:Nat):Int) 3689348814741910323=((y / 4&&&3689348814741910323:Nat):Int):=aAc (b:=3689348814741910323) (by omega) (by omega)
 have e4:zF .u64 (y:Int) 3689348814741910323=((y&&&3689348814741910323:Nat):Int):=aAc (b:=3689348814741910323) (by omega) (by omega)
 generalize hz:256 * (256 * (256 * t2 d+t2 c)+t2 b)+t2 a=z at r2 r3
 have hz1:z<2 ^ 32:=by omega
 have s3:zD .u64 (z:Int) 4=((z / 16:Nat):Int):=aAE (k:=4) (by omega)
 have e5:zF .u64 ((z / 16+z:Nat):Int) 1085102592571150095=((z / 16+z&&&1085102592571150095:Nat):Int):=aAc (b:=1085102592571150095) (by omega) (by omega)
 rw [a4,b4,c4,d4] at r3
 generalize hv:256 * (256 * (256 * aAU d+aAU c)+aAU b)+aAU a=v at r3
 have hv1:v<2 ^ 28:=by omega
 have s4:zD .u64 (v:Int) 8=((v / 256:Nat):Int):=aAE (k:=8) (by omega)
 have s5:zD .u64 ((v+v / 256:Nat):Int) 16=(((v+v / 256) / 65536:Nat):Int):=aAE (k:=16) (by omega)
 have s6:zD .u64 ((v+v / 256+(v+v / 256) / 65536:Nat):Int) 32=(((v+v / 256+(v+v / 256) / 65536) / 4294967296:Nat):Int):=aAE (k:=32) (by omega)
 simp only [s1,e1,e2]
 rw [← Int.natCast_add,r1,vG (by omega),s2,e3,e4,← Int.natCast_add,r2,vG (by omega),s3,← Int.natCast_add,vG (by omega),e5,r3,s4,← Int.natCast_add,vG (by omega),s5,← Int.natCast_add,vG (by omega),s6,← Int.natCast_add,vG (by omega),aG0 (by omega),bL]
 generalize aAU a=A at *
 generalize aAU b=B at *
 generalize aAU c=C at *
 generalize aAU d=D at *
 have k1:v / 256=256 * (256 * D+C)+B:=by omega
 have k2:(v+v / 256) / 65536=256 * D+(C+D):=by omega
 have k3:v+v / 256+(v+v / 256) / 65536=16777216 * D+65536 * (C+D)+256 * (B+C+D)+(A+B+C+D):=by omega
 have k4:(v+v / 256+(v+v / 256) / 65536) / 4294967296=0:=by omega
 congr 2
 rw [k4,k3]
 omega
theorem aCr {y a k:Nat} (ha:a<256):(List.range (8+k)).countP (256 * y+a).testBit=aAU a+(List.range k).countP y.testBit:=by
 rw [List.range_add,List.countP_append,List.countP_map]
 unfold aAU
 congr 1
 ·refine List.countP_congr fun i hi=>?_
  have hi:=List.mem_range.1 hi
  rw [show (256:Nat)=2 ^ 8 from rfl,Nat.testBit_two_pow_mul_add _ (show a<2 ^ 8 from ha),if_pos hi]
 ·refine List.countP_congr fun i hi=>?_
  simp only [Function.comp]
  rw [show (256:Nat)=2 ^ 8 from rfl,Nat.testBit_two_pow_mul_add _ (show a<2 ^ 8 from ha),if_neg (by omega),Nat.add_sub_cancel_left]
def aIr (F:Nat):Nat:=(List.range 32).countP F.testBit
theorem aMj {F:Nat} (hF:F<2 ^ 32):cF (IntKind.u64.wrap (F:Int))=some ((aIr F:Nat):Int):=by
 rw [vG (by omega)]
 have e:F=256 * (256 * (256 * (F / 16777216)+F / 65536 % 256)+F / 256 % 256)+F % 256:=by omega
 have h:=aMT (a:=F % 256) (b:=F / 256 % 256) (c:=F / 65536 % 256) (d:=F / 16777216) (by omega) (by omega) (by omega) (by omega)
 rw [← e] at h
 rw [h]
 have:aIr F=aAU (F % 256)+aAU (F / 256 % 256)+aAU (F / 65536 % 256)+aAU (F / 16777216):=by
  unfold aIr
  conv=>lhs;rw [e]
  rw [show 32=8+24 from rfl,aCr (by omega),show 24=8+16 from rfl,aCr (by omega),show 16=8+8 from rfl,aCr (by omega)]
  unfold aAU
  omega
 rw [this]
theorem aBP {α:Type} {c:α→Int} {p:α→Bool}:∀ {l:List α} {k:Nat},(∀ x∈l,0≤c x)→l.countP p≤k→fP k (l.map c)≤fP 0 (l.map fun x=>if p x then 0 else c x)
 | [],k,_,_=>by simp [lT]
 | a::l,k,h,hk=>by
  have h':=fun x hx=>h x (List.mem_cons_of_mem a hx)
  have h0:=h a List.mem_cons_self
  rw [List.countP_cons] at hk
  rw [List.map_cons,List.map_cons,oE]
  cases hp:p a
  ·rw [hp] at hk
   have ih:=aBP (l:=l) (k:=k) h' (by simpa using hk)
   cases k with
   | zero=>rw [oE];simp only [Bool.false_eq_true,if_false];omega
   | succ k=>rw [nF];simp only [Bool.false_eq_true,if_false];omega
  ·rw [hp] at hk
   simp only [if_true] at hk ⊢
   cases k with
   | zero=>omega
   | succ k=>
    have ih:=aBP (p:=p) (l:=l) (k:=k) h' (by omega)
    rw [nF];omega
theorem aMR (l:List Int):aIr (orL l)≤l.length:=by
 have key:∀ (x:Nat) (y:Nat) (n:Nat),(List.range n).countP (2 ^ x|||y).testBit≤1+(List.range n).countP y.testBit:=fun x y n=>by
  have h1:∀ m,(List.range m).countP (2 ^ x|||y).testBit≤(List.range m).countP (fun i=>decide (i=x))+(List.range m).countP y.testBit:=fun m=>by
   induction m with
   | zero=>simp
   | succ m ih=>
    rw [List.range_succ,List.countP_append,List.countP_append,List.countP_append]
    simp only [List.countP_cons,List.countP_nil,Nat.testBit_or,Nat.testBit_two_pow]
    by_cases q:m=x
    ·subst q;simp;split<;>omega
    ·have:decide (x=m)=false:=by simp;omega
     rw [this]
     simp only [Bool.false_or,q]
     simp
     omega
  have h2:∀ m,(List.range m).countP (fun i=>decide (i=x))≤1:=fun m=>by
   have h3:∀ m,(List.range m).countP (fun i=>decide (i=x))=if x<m then 1 else 0:=fun m=>by
    induction m with
    | zero=>simp
    | succ m ih=>
     rw [List.range_succ,List.countP_append,ih]
     simp only [List.countP_cons,List.countP_nil]
     by_cases q:m=x
     ·subst q;simp
     ·simp only [q,decide_false,Bool.false_eq_true,if_false]
      by_cases q2:x<m
      ·rw [if_pos q2,if_pos (show x<m+1 by omega)]
      ·rw [if_neg q2,if_neg (show ¬ x<m+1 by omega)]
   rw [h3];split<;>omega
  have:=h1 n
  have:=h2 n
  omega
 induction l with
 | nil=>simp [orL,aIr,List.countP_eq_zero]
 | cons e l ih=>
  have:=key e.toNat (orL l) 32
  unfold aIr at *
  rw [orL,List.length_cons]
  omega
def wo (n:bG) (F:Nat):bG:=⟨n.N,(List.range n.Edges.length).map fun i=>if F.testBit i then ⟨(n.Edges.getD i default).From,(n.Edges.getD i default).To,0⟩ else n.Edges.getD i default⟩
def woK (n:bG) (F k:Nat):List dE:=(List.range n.Edges.length).map fun i=>if i<k∧F.testBit i=true then ⟨(n.Edges.getD i default).From,(n.Edges.getD i default).To,0⟩ else n.Edges.getD i default
theorem rA (n:bG) (F k:Nat):(woK n F k).length=n.Edges.length:=by simp [woK]
theorem tG {n:bG} {F k i:Nat} (h:i<n.Edges.length):(woK n F k).getD i default=if i<k∧F.testBit i=true then ⟨(n.Edges.getD i default).From,(n.Edges.getD i default).To,0⟩ else n.Edges.getD i default:=by
 rw [dC (by rw [rA];exact h)]
 simp [woK]
theorem aC8 (n:bG) (F:Nat):(wo n F).Edges.length=n.Edges.length:=by simp [wo]
theorem aJW {n:bG} {F i:Nat} (h:i<n.Edges.length):(wo n F).Edges.getD i default=if F.testBit i then ⟨(n.Edges.getD i default).From,(n.Edges.getD i default).To,0⟩ else n.Edges.getD i default:=by
 rw [dC (by rw [aC8];exact h)]
 simp [wo]
theorem aAe {n:bG} {F:Nat} (hl:n.Edges.length≤40) (hF:F<4611686018427387904):iT n (F:Int)=some (wo n F):=by
 unfold iT
 rw [kN _ (by omega),wZ]
 obtain ⟨s,e,h1,h2⟩:=dD (body:=fX (F:Int) n.Edges) (fun k s=>s.1=(k:Int)∧s.2=(⟨n.N,woK n F k⟩:bG)) n.Edges.length (by omega) (fun k s hk ⟨h1,h2⟩=>by
  obtain ⟨i,R⟩:=s
  simp only at h1 h2
  subst h1 h2
  unfold fX
  simp only [aZ,iK]
  rw [if_pos (by omega),kN _ (by omega),aIQ (by omega) (by omega) (by omega),Int.toNat_natCast,bT (by omega) (by omega)]
  cases hb:F.testBit k
  ·rw [dN]
   refine ⟨_,rfl,rfl,?_⟩
   simp only [bG.mk.injEq,true_and]
   refine List.map_congr_left fun i hi=>?_
   have:(i<k∧F.testBit i=true)↔(i<k+1∧F.testBit i=true):=by
    constructor
    ·rintro ⟨a,b⟩;exact ⟨by omega,b⟩
    ·rintro ⟨a,b⟩
     refine ⟨?_,b⟩
     by_cases q:i=k
     ·subst q;rw [hb] at b;simp at b
     ·omega
   simp only [this]
  ·rw [eE,kN _ (by rw [rA];omega),aQ4,Int.toNat_natCast]
   refine ⟨_,rfl,rfl,?_⟩
   simp only [bG.mk.injEq,true_and]
   refine List.ext_getElem (by rw [List.length_set,rA,rA]) fun i hi1 hi2=>?_
   rw [rA] at hi2
   rw [List.getElem_set]
   split
   ·rename_i q;subst q
    rw [← dC,tG hk,tG hk,if_neg (by omega),if_pos ⟨by omega,hb⟩]
   ·rename_i q
    rw [← dC,← dC,tG hi2,tG hi2]
    have:(i<k∧F.testBit i=true)↔(i<k+1∧F.testBit i=true):=by
     constructor
     ·rintro ⟨a,b⟩;exact ⟨by omega,b⟩
     ·rintro ⟨a,b⟩;exact ⟨by omega,b⟩
    simp only [this]) (fun s ⟨h1,h2⟩=>by
  unfold fX
  simp only [aZ]
  rw [if_neg (by omega)]) (0,⟨n.N,n.Edges⟩) ⟨rfl,by
   simp only [bG.mk.injEq,true_and]
   refine List.ext_getElem (by rw [rA]) fun i hi1 hi2=>?_
   rw [← dC,← dC,tG hi1,if_neg (by omega)]⟩
 rw [e,bL,eJ,h2]
 show some (⟨n.N,woK n F n.Edges.length⟩:bG)=some (wo n F)
 unfold wo woK
 simp only [Option.some.injEq,bG.mk.injEq,true_and]
 refine List.map_congr_left fun i hi=>?_
 have:=List.mem_range.1 hi
 simp only [this,true_and]
structure FV (n:bG):Prop where
 nn:1≤n.N∧n.N≤12
 el:n.Edges.length≤40
 eg:∀ e∈n.Edges,(0≤e.From∧e.From<n.N)∧(0≤e.To∧e.To<n.N)∧e.From≠e.To∧0≤e.Capacity∧e.Capacity≤10000
theorem FV.valid {n:bG} (h:FV n):hU n=some true:=aAN ⟨by have:=h.nn;omega,h.nn.2⟩ h.el h.eg
theorem FV.wo {n:bG} (h:FV n) (F:Nat):FV (wo n F) where
 nn:=h.nn
 el:=by rw [aC8];exact h.el
 eg e he:=by
  obtain ⟨i,hi,rfl⟩:=List.getElem_of_mem he
  rw [aC8] at hi
  rw [← dC,aJW hi]
  have:=h.eg _ (bV hi)
  split
  ·exact ⟨this.1,this.2.1,this.2.2.1,by simp,by simp⟩
  ·exact this
theorem aJC {r:aD} (h:RV r) {s:Nat} (hc:Car r s):FV (jO r s):=by
 have hn:=h.n;have hul:=h.ul;have hcl:=h.cl;have hel:=h.el
 refine ⟨by simp only [jO];omega,by simp only [jO];rw [yS];omega,fun e he=>?_⟩
 obtain ⟨i,hi,e1⟩:=List.getElem_of_mem he
 simp only [jO] at hi e1 ⊢
 rw [← dC hi] at e1
 rw [yS] at hi
 by_cases q:i<r.Net.Edges.length
 ·rw [aE9 q] at e1
  subst e1
  have:=(h.eg _ (bV q))
  have h1:=hc i q
  have h2:=aIY h (s:=s) q
  simp only
  exact ⟨⟨this.1.1,by omega⟩,⟨this.2.1.1,by omega⟩,this.2.2.1,h1,h2⟩
 ·obtain ⟨j,rfl⟩:∃ j,i=r.Net.Edges.length+j:=⟨i-r.Net.Edges.length,by omega⟩
  have hj:j<r.Centres.length:=by omega
  rw [aDG hj] at e1
  subst e1
  have:=h.cv _ (bV hj)
  simp only
  exact ⟨⟨by omega,by omega⟩,⟨by omega,by omega⟩,by omega,this.1,this.2⟩
theorem aGI {n:bG} (h:FV n) {S:Nat} (hS:S<4611686018427387904):gU n (S:Int)=some (fP 0 ((uD n.Edges S).map (sG n.Edges))):=by
 have hel:=h.el;have hn:=h.nn
 unfold gU iI
 obtain ⟨s,e,h1,h2,_⟩:=dD (body:=eT Int n (S:Int) (jS n)) (fun k s=>s.1=(k:Int)∧s.2=fP 0 (((List.range k).filter (aCt n.Edges S)).map (sG n.Edges))∧0≤s.2∧s.2≤k * 10000) n.Edges.length (by omega) (fun k s hk ⟨h1,h2,h3,h4⟩=>by
  obtain ⟨i,g⟩:=s
  simp only at h1 h2 h3 h4
  subst h1
  obtain ⟨⟨f1,f2⟩,⟨t1,t2⟩,_,c1,c2⟩:=h.eg _ (bV hk)
  unfold eT
  simp only [aZ,iK]
  obtain ⟨f,hf⟩:∃ f:Nat,(n.Edges.getD k default).From=(f:Int):=⟨_,(Int.toNat_of_nonneg f1).symm⟩
  obtain ⟨t,ht⟩:∃ t:Nat,(n.Edges.getD k default).To=(t:Int):=⟨_,(Int.toNat_of_nonneg t1).symm⟩
  rw [if_pos (by omega),lB hk,kN _ f1,hf,ht,aIQ (by omega) (by omega) (by omega),kN _ (by omega),aRK (by omega) (by omega) (by omega),Int.toNat_natCast,bT (by omega) (by omega)]
  have hp:aCt n.Edges S k=(S.testBit f && !S.testBit t):=by unfold aCt;rw [hf,ht];rfl
  rw [List.range_succ,List.filter_append,List.filter_cons,List.filter_nil]
  cases b1:S.testBit f
  ·rw [b1,Bool.false_and] at hp
   rw [dN,hp]
   exact ⟨_,rfl,rfl,by simpa using h2,h3,by simp only;omega⟩
  ·cases b2:S.testBit t
   ·rw [b1,b2] at hp
    rw [eE,Bool.not_false,eE,hp]
    unfold jS
    rw [lB hk,bL,bT (by omega) (by omega)]
    refine ⟨_,rfl,rfl,?_,by simp only;omega,by simp only;omega⟩
    simp only [Bool.true_and,Bool.not_false,if_true,List.map_append,List.map_cons,List.map_nil]
    rw [vC,← h2]
    simp [fP,sG]
   ·rw [b1,b2] at hp
    rw [eE,Bool.not_true,dN,hp]
    exact ⟨_,rfl,rfl,by simpa using h2,h3,by simp only;omega⟩) (fun s ⟨h1,_⟩=>by
  unfold eT
  simp only [aZ]
  rw [if_neg (by omega)]) (0,0) ⟨rfl,by simp [fP],by simp,by simp⟩
 rw [e,bL,eJ,bL,h2]
 rfl
structure SV (n:bG) (l:List Int):Prop where
 ll:(l.length:Int)=n.N
 lv:∀ x∈l,-100000≤x∧x≤100000
 z:yI l l.length=0
theorem aId {l:List Int} (h:∀ x∈l,-100000≤x∧x≤100000):∀ k,k≤l.length → -(k * 100000)≤yI l k∧yI l k≤k * 100000
 | 0,_=>by simp [yI]
 | k+1,hk=>by
  have h1:=aId h k (by omega)
  have h2:=h _ (bV (l:=l) (k:=k) (by omega))
  simp only [yI];omega
theorem aHo {l:List Int} (nd:Nat) (h:∀ x∈l,-100000≤x∧x≤100000):∀ k,k≤l.length → -(k * 100000)≤uH l nd k∧uH l nd k≤k * 100000
 | 0,_=>by simp [uH]
 | k+1,hk=>by
  have h1:=aHo nd h k (by omega)
  have h2:=h _ (bV (l:=l) (k:=k) (by omega))
  simp only [uH];split<;>omega
theorem aGY {n:bG} {l:List Int} (hn:FV n) (hl:SV n l):gT n l=some true:=by
 have hN:=hn.nn;have hll:=hl.ll
 unfold gT
 simp only [iK]
 obtain ⟨s,e,h1,h2⟩:=dD (body:=gA l) (fun k s=>s.2=(k:Int)∧s.1=yI l k) l.length (by omega) (fun k s hk ⟨h1,h2⟩=>by
  obtain ⟨g,i⟩:=s
  simp only at h1 h2
  subst h1 h2
  have hb:=hl.lv _ (bV hk)
  have hs:=aId hl.lv k (by omega)
  unfold gA
  simp only [aZ]
  rw [if_pos (by omega),lB hk,aB7,bL,decide_eq_true hb.1,decide_eq_true hb.2]
  simp only [Bool.and_self,Bool.not_true,dN]
  rw [bT (by omega) (by omega),bT (by omega) (by omega)]
  exact ⟨_,rfl,rfl,rfl⟩) (fun s ⟨h1,_⟩=>by
  unfold gA
  simp only [aZ]
  rw [if_neg (by omega)]) (0,0) ⟨rfl,rfl⟩
 rw [hn.valid,bL,e,bL,eJ,h2,hl.z,show ((l.length:Int) != n.N)=false by rw [hll];simp,Bool.not_true,dN,dN]
 rfl
theorem aGh {n:bG} {l:List Int} (hn:FV n) (hl:SV n l) (S:Int) :
  cV n l ⟨false,[],S⟩=some (if 0≤S∧S<2 ^ l.length then decide (uH l S.toNat l.length>fP 0 ((uD n.Edges S.toNat).map (sG n.Edges))) else false):=by
 have hN:=hn.nn;have hll:=hl.ll
 have hp:(2:Int) ^ l.length=((2 ^ l.length:Nat):Int):=by norm_cast
 have hp12:2 ^ l.length≤2 ^ 12:=Nat.pow_le_pow_right (by omega) (by omega)
 have hp1:=Nat.two_pow_pos l.length
 obtain ⟨z,hz⟩:∃ z:Nat,z=2 ^ l.length:=⟨_,rfl⟩
 rw [← hz] at hp hp12 hp1
 unfold cV
 rw [aGY hn hl,bL]
 simp only [Bool.not_true,dN,iK,List.length_nil]
 rw [show decide (((0:Nat):Int)>0)=false by decide,dN,kN _ (by omega),← hll,kI (by omega),hp,bT (by omega) (by omega),aB7,bL,iD]
 by_cases q:0≤S∧S<(z:Int)
 ·rw [if_pos q,decide_eq_true q.1,decide_eq_true (by omega),Bool.and_self,eE]
  obtain ⟨T,rfl⟩:∃ T:Nat,S=(T:Int):=⟨_,(Int.toNat_of_nonneg q.1).symm⟩
  rw [Int.toNat_natCast]
  obtain ⟨s,e,h1,h2⟩:=dD (body:=eU l ⟨false,[],(T:Int)⟩) (fun k s=>s.2=(k:Int)∧s.1=uH l T k) l.length (by omega) (fun k s hk ⟨h1,h2⟩=>by
   obtain ⟨g,i⟩:=s
   simp only at h1 h2
   subst h1 h2
   have hb:=hl.lv _ (bV hk)
   have hs:=aHo T hl.lv k (by omega)
   unfold eU
   simp only [aZ,iK]
   rw [if_pos (by omega),lB hk,kN _ (by omega),aIQ (by omega) (by omega) (by omega),Int.toNat_natCast,bT (x:=(k:Int)+1) (by omega) (by omega),bT (x:=uH l T k+_) (by omega) (by omega)]
   cases hbit:T.testBit k
   ·rw [dN]
    exact ⟨_,rfl,rfl,by simp [uH,hbit]⟩
   ·rw [eE]
    exact ⟨_,rfl,rfl,by simp [uH,hbit]⟩) (fun s ⟨h1,_⟩=>by
   unfold eU
   simp only [aZ]
   rw [if_neg (by omega)]) (0,0) ⟨rfl,rfl⟩
  rw [e,bL,eJ,aGI hn (by omega),bL,h2]
 ·rw [if_neg q]
  by_cases q2:0≤S
  ·rw [decide_eq_false (p:=S≤(z:Int)-1) (by omega),Bool.and_false,dN]
  ·rw [decide_eq_false q2,Bool.false_and,dN]
theorem aQU {r:aD} (h:RV r) (s:Nat):SV (jO r s) (lsu r):=by
 have hn:=h.n;have hul:=h.ul
 have hb:=aAk h r.Urgent.length (Nat.le_refl _)
 refine ⟨by simp only [lsu,jO,List.length_append,List.length_singleton];omega,fun x hx=>?_,?_⟩
 ·rcases List.mem_append.1 hx with q | q
  ·have:=h.uv x q;omega
  ·rw [List.mem_singleton.1 q];omega
 ·have h1:∀ k,k≤r.Urgent.length→yI (lsu r) k=yI r.Urgent k:=fun k=>by
   induction k with
   | zero=>exact fun _=>rfl
   | succ k ih=>intro hk;simp only [yI];rw [ih (by omega),aBR (by omega)]
  have h2:(lsu r).length=r.Urgent.length+1:=by simp [lsu]
  rw [h2]
  simp only [yI]
  rw [h1 _ (Nat.le_refl _)]
  have:(lsu r).getD r.Urgent.length default = -(yI r.Urgent r.Urgent.length):=by
   unfold lsu;rw [wP (Nat.le_refl _),Nat.sub_self];rfl
  rw [this];omega
theorem aI1 {r:aD} (h:RV r) (S:Nat):∀ k,k≤r.Urgent.length→0≤uH (lsu r) S k∧uH (lsu r) S k≤yI r.Urgent k
 | 0,_=>by simp [uH,yI]
 | k+1,hk=>by
  have h1:=aI1 h S k (by omega)
  have h2:=h.uv _ (bV (l:=r.Urgent) (k:=k) (by omega))
  simp only [uH,yI]
  rw [aBR (by omega)]
  split<;>omega
theorem aH3 {r:aD} (S:Nat):uH (lsu r) S (lsu r).length=uH (lsu r) S r.Urgent.length+(if S.testBit r.Urgent.length then -(yI r.Urgent r.Urgent.length) else 0):=by
 have h2:(lsu r).length=r.Urgent.length+1:=by simp [lsu]
 have:(lsu r).getD r.Urgent.length default = -(yI r.Urgent r.Urgent.length):=by
  unfold lsu;rw [wP (Nat.le_refl _),Nat.sub_self];rfl
 rw [h2]
 simp only [uH]
 rw [this]
theorem aJY {n:bG} (F S:Nat):(uD (wo n F).Edges S).map (sG (wo n F).Edges)=(uD n.Edges S).map fun i=>if F.testBit i then 0 else sG n.Edges i:=by
 have:uD (wo n F).Edges S=uD n.Edges S:=aFC (aC8 n F) (fun i hi=>by rw [aJW hi];split<;>exact ⟨rfl,rfl⟩) S
 rw [this]
 refine List.map_congr_left fun i hi=>?_
 unfold sG
 rw [aJW (aHB hi)]
 split<;>rfl
theorem aJX {es:List dE} (hl:es.length≤32) (F S:Nat):(uD es S).countP F.testBit≤aIr F:=by
 unfold uD aIr
 exact Nat.le_trans (List.Sublist.countP_le List.filter_sublist) (List.Sublist.countP_le (List.range_sublist.2 hl))
theorem aNd {r:aD} (h:RV r) {s F S:Nat} (hc:Car r s) (hS:S<2 ^ (lsu r).length) (hF:aIr F≤r.Faults.toNat) (hx:uH (lsu r) S (lsu r).length>fP 0 ((uD (wo (jO r s) F).Edges S).map (sG (wo (jO r s) F).Edges))):¬ qS r s:=by
 intro hs
 have hfv:=(aJC h hc)
 have hl32:(jO r s).Edges.length≤32:=by
  have:=h.el;have:=h.n;have:=h.cl
  simp only [jO];rw [yS];omega
 have hnn:∀ x∈uD (jO r s).Edges S,0≤sG (jO r s).Edges x:=fun x hx=>(hfv.eg _ (bV (aHB hx))).2.2.2.1
 rw [aJY] at hx
 have hr0:0≤fP 0 ((uD (jO r s).Edges S).map fun i=>if F.testBit i then 0 else sG (jO r s).Edges i):=aAB 0 fun x hx=>by
  obtain ⟨i,hi,rfl⟩:=List.mem_map.1 hx
  have:=hnn i hi
  split<;>omega
 have hu:=aI1 h S r.Urgent.length (Nat.le_refl _)
 rw [aH3] at hx
 cases hb:S.testBit r.Urgent.length
 ·rw [hb] at hx
  simp only [Bool.false_eq_true,if_false,Int.add_zero] at hx
  have h2:(lsu r).length=r.Urgent.length+1:=by simp [lsu]
  rw [h2] at hS
  have hS2:S<2 ^ r.Urgent.length:=by
   rcases Nat.lt_or_ge S (2 ^ r.Urgent.length) with q | q
   ·exact q
   ·have:=Nat.testBit_eq_decide_div_mod_eq (x:=S) (i:=r.Urgent.length)
    rw [hb] at this
    have h3:S / 2 ^ r.Urgent.length=1:=by
     rw [Nat.pow_succ] at hS
     refine Nat.div_eq_of_lt_le (by omega) (by omega)
    rw [h3] at this
    simp at this
  have hS1:1≤S:=by
   rcases Nat.eq_zero_or_pos S with q | q
   ·subst q
    have:∀ k,uH (lsu r) 0 k=0:=fun k=>by
     induction k with
     | zero=>rfl
     | succ k ih=>simp [uH,ih]
    rw [this] at hx;omega
   ·exact q
  have hm:=hs.2 S hS1 hS2
  unfold mgR mgN at hm
  have:=aBP (c:=sG (jO r s).Edges) (p:=F.testBit) (l:=uD (jO r s).Edges S) (k:=r.Faults.toNat) hnn (Nat.le_trans (aJX hl32 F S) hF)
  omega
 ·rw [hb] at hx
  simp only [if_true] at hx
  omega
theorem aEu {r:aD} (h:RV r) {s nd:Nat} (hc:Car r s) (h2:nd<2 ^ r.Urgent.length) (hm:mgR r s nd<0):uH (lsu r) nd (lsu r).length>fP 0 ((uD (wo (jO r s) (orL ((srt (jO r s) nd).take r.Faults.toNat))).Edges nd).map (sG (wo (jO r s) (orL ((srt (jO r s) nd).take r.Faults.toNat))).Edges)):=by
 have hC:=aEH h hc
 have hb:nd.testBit r.Urgent.length=false:=Nat.testBit_lt_two_pow h2
 rw [aH3,hb,aJY]
 simp only [Bool.false_eq_true,if_false,Int.add_zero]
 generalize hg:r.Faults.toNat=f
 have hm2:fP f ((uD (jO r s).Edges nd).map (sG (jO r s).Edges))-uH (lsu r) nd r.Urgent.length<0:=by rw [← hg];exact hm
 rw [← aDT hC] at hm2
 have hp:=(tA (aHh hC nd)).1
 have hbit:∀ i:Nat,(i:Int)∈(srt (jO r s) nd).take f→(orL ((srt (jO r s) nd).take f)).testBit i=true:=fun i hi=>by
  rw [aN4 _ (fun e he=>by obtain ⟨j,rfl,_⟩:=yG hC (List.mem_of_mem_take he);omega)]
  simpa using hi
 generalize orL ((srt (jO r s) nd).take f)=F at hbit
 have e1:fP 0 ((uD (jO r s).Edges nd).map fun i=>if F.testBit i then 0 else sG (jO r s).Edges i)=fP 0 ((srt (jO r s) nd).map fun i:Int=>if F.testBit i.toNat then 0 else jH (jO r s) i):=by
  have:=hp.map (fun i:Int=>if F.testBit i.toNat then 0 else jH (jO r s) i)
  rw [List.map_map] at this
  exact (vA this 0).symm
 rw [e1]
 have e2:fP 0 ((srt (jO r s) nd).map fun i:Int=>if F.testBit i.toNat then 0 else jH (jO r s) i)=fP 0 (((srt (jO r s) nd).take f).map fun i:Int=>if F.testBit i.toNat then 0 else jH (jO r s) i)+fP 0 (((srt (jO r s) nd).drop f).map fun i:Int=>if F.testBit i.toNat then 0 else jH (jO r s) i):=by
  rw [← vC,← List.map_append,List.take_append_drop]
 have e3:fP 0 (((srt (jO r s) nd).take f).map fun i:Int=>if F.testBit i.toNat then 0 else jH (jO r s) i)≤0:=by
  have:((srt (jO r s) nd).take f).map (fun i:Int=>if F.testBit i.toNat then 0 else jH (jO r s) i)=((srt (jO r s) nd).take f).map fun _=>0:=List.map_congr_left fun i hi=>by
   obtain ⟨j,rfl,_⟩:=yG hC (List.mem_of_mem_take hi)
   rw [Int.toNat_natCast,hbit j hi];rfl
  rw [this]
  have:=yY (B:=0) (l:=((srt (jO r s) nd).take f).map fun _=>(0:Int)) (fun x hx=>by obtain ⟨_,_,rfl⟩:=List.mem_map.1 hx;omega)
  omega
 have e4:fP 0 (((srt (jO r s) nd).drop f).map fun i:Int=>if F.testBit i.toNat then 0 else jH (jO r s) i)≤fP 0 (((srt (jO r s) nd).drop f).map (jH (jO r s))):=uQ 0 fun i hi=>by
  have:=(aCp hC (List.mem_map.2 ⟨i,List.mem_of_mem_drop hi,rfl⟩)).1
  split<;>omega
 omega
theorem aHc {l:List Int} (hl:l.length≤1000) (e:Int):fK l e=some (decide (e∈l)):=by
 unfold fK dI
 obtain ⟨o,h1,h⟩:=wW (l:=l) (by omega) (G:=fun x=>some (e==x)) (p:=fun x=>e==x) (fun _ _=>rfl)
 have e2:(fun s:Int=>cn (decide (s<(l.length:Int))) (ix l default s fun e2=>bd (some (e==e2)) fun y3=>cn y3 (some (.rt s)) (some (.nx (wr (s+1))))) (some (.bk s)):Int→Option (Ct Int Int))=dO l e:=by
  funext s;unfold dO;simp only [bL]
 rw [e2] at h1
 rw [h1,bL]
 rcases h with ⟨⟨x,rfl⟩,h⟩ | ⟨i,rfl,hi,h,_⟩
 ·rw [eJ,bL,decide_eq_false (by omega)]
  have:e ∉ l:=fun hm=>by have:=h e hm;simp at this
  rw [decide_eq_false this]
 ·rw [tT,bL,decide_eq_true (by omega)]
  have h:e=l.getD i default:=by simpa using h
  rw [decide_eq_true (by rw [h];exact bV hi)]
section
variable {r:aD} (h:RV r)
include h
theorem aMo {s e:Nat} {d:bS} (hs:s<4611686018427387904) (he:d.Edge=(e:Int)):∃ x,lp (bK r d (s:Int)) FU (0,0)=some (.inl (vP r.Calls s e r.Calls.length,x)):=by
 have hkl:=h.kl
 obtain ⟨z,e1,h1,h2⟩:=dD (body:=bK r d (s:Int)) (fun k x=>x.2=(k:Int)∧x.1=vP r.Calls s e k) r.Calls.length (by omega) (fun k x hk ⟨h1,h2⟩=>by
  obtain ⟨g,i⟩:=x
  simp only at h1 h2
  subst h1 h2
  have hb:=aCT h s e k (by omega)
  obtain ⟨⟨a1,a2⟩,w⟩:=h.kv _ (bV hk)
  have hwl:=w.len
  unfold bK
  simp only [aZ,iK]
  rw [if_pos (by omega),lB hk,kN _ (by omega),aIQ (by omega) (by omega) (by omega),Int.toNat_natCast,bT (x:=(k:Int)+1) (by omega) (by omega),bT (x:=vP r.Calls s e k+_) (by omega) (by omega),aHc (by omega),he]
  simp only [vP,bL]
  cases hbit:s.testBit k
  ·rw [dN,dN]
   exact ⟨_,rfl,rfl,by simp⟩
  ·rw [eE]
   by_cases q:(e:Int)∈(r.Calls.getD k default).Edges
   ·rw [decide_eq_true q,eE]
    exact ⟨_,rfl,rfl,by rw [if_pos ⟨rfl,q⟩]⟩
   ·rw [decide_eq_false q,dN]
    exact ⟨_,rfl,rfl,by rw [if_neg fun q2=>q q2.2];simp⟩) (fun x ⟨h1,_⟩=>by
  unfold bK
  simp only [aZ]
  rw [if_neg (by omega)]) (0,0) ⟨rfl,rfl⟩
 exact ⟨z.2,by rw [e1,← h2]⟩
theorem aNz {all:Nat} (hall:all<4611686018427387904) {F S:Int} (hF:okI F):∃ b,(bd (eP r (all:Int)) fun y26=>cn (decide (y26.2.2≥0)) (some false) (bd (dB y26.1 F) fun y27=>
  cn (y27.2==0) (bd (cF (IntKind.u64.wrap F)) fun y30=>
  cn (decide (y30≤r.Faults)) (bd (cV y27.1 y26.2.1 (⟨false,[],S⟩:lG)) fun y31=>some y31) (some false)) (some false)):Option Bool)=some b∧(b=true→¬ qS r all) ∧
  ((Car r all∧∃ nd,nd<2 ^ r.Urgent.length∧mgR r all nd<0∧F=((orL ((srt (jO r all) nd).take r.Faults.toNat):Nat):Int)∧S=(nd:Int))→b=true):=by
 have hft:=h.ft
 rcases aEJ h hall with ⟨e,he,h1,h2⟩ | ⟨h1,h2⟩
 ·refine ⟨false,?_,by simp,fun ⟨q,_⟩=>by have:=q e he;omega⟩
  rw [h2,bL,aZ,if_pos (by simp only;omega)]
 ·have hfv:FV (jO r all):=aJC h h1
  have hC:=aEH h h1
  have hel:(jO r all).Edges.length≤28:=hC.el
  have hp:(2:Int) ^ (jO r all).Edges.length=((2 ^ (jO r all).Edges.length:Nat):Int):=by norm_cast
  have hp28:2 ^ (jO r all).Edges.length≤2 ^ 28:=Nat.pow_le_pow_right (by omega) hel
  have hp1:=Nat.two_pow_pos (jO r all).Edges.length
  have hw:dB (jO r all) F=if 0≤F∧F<2 ^ (jO r all).Edges.length then some (wo (jO r all) F.toNat,0) else some (⟨0,[]⟩,270):=by
   unfold dB
   simp only [iK]
   rw [hp]
   generalize 2 ^ (jO r all).Edges.length=z at *
   rw [hfv.valid,bL,Bool.not_true,dN,kN _ (by omega),kI (by omega),hp,bT (by omega) (by omega),aB7,bL,iD]
   by_cases q:0≤F∧F<(z:Int)
   ·rw [if_pos q,decide_eq_true q.1,decide_eq_true (by omega),Bool.and_self,eE]
    obtain ⟨T,rfl⟩:∃ T:Nat,F=(T:Int):=⟨_,(Int.toNat_of_nonneg q.1).symm⟩
    rw [Int.toNat_natCast,aAe (by omega) (by omega),bL]
   ·rw [if_neg q]
    by_cases q2:0≤F
    ·rw [decide_eq_false (p:=F≤(z:Int)-1) (by omega),Bool.and_false,dN]
    ·rw [decide_eq_false q2,Bool.false_and,dN]
  rw [h2,bL,aZ,if_neg (by simp only;omega)]
  show ∃ b,(bd (dB (jO r all) F) fun y27=>cn (y27.2==0) (bd (cF (IntKind.u64.wrap F)) fun y30=>cn (decide (y30≤r.Faults)) (bd (cV y27.1 (lsu r) (⟨false,[],S⟩:lG)) fun y31=>some y31) (some false)) (some false):Option Bool)=some b∧_
  rw [hw]
  have hin:(Car r all∧∃ nd,nd<2 ^ r.Urgent.length∧mgR r all nd<0∧F=((orL ((srt (jO r all) nd).take r.Faults.toNat):Nat):Int)∧S=(nd:Int))→0≤F∧F<2 ^ (jO r all).Edges.length:=by
   rintro ⟨_,nd,_,_,rfl,_⟩
   rw [hp]
   have:orL ((srt (jO r all) nd).take r.Faults.toNat)<2 ^ (jO r all).Edges.length:=aHx fun e he=>by
    obtain ⟨j,rfl,hj,_⟩:=yG hC (List.mem_of_mem_take he);omega
   omega
  by_cases q:0≤F∧F<2 ^ (jO r all).Edges.length
  ·rw [if_pos q,bL,iL,if_pos rfl]
   obtain ⟨T,rfl⟩:∃ T:Nat,F=(T:Int):=⟨_,(Int.toNat_of_nonneg q.1).symm⟩
   rw [Int.toNat_natCast]
   rw [hp] at q
   rw [aMj (by omega),bL,aZ]
   by_cases q2:((aIr T:Nat):Int)≤r.Faults
   ·rw [if_pos q2,aGh (hfv.wo T) (by have:=aQU h all;exact ⟨this.ll,this.lv,this.z⟩),bL]
    refine ⟨_,rfl,fun hb=>?_,?_⟩
    ·by_cases q3:0≤S∧S<2 ^ (lsu r).length
     ·rw [if_pos q3,decide_eq_true_iff] at hb
      have hp3:(2:Int) ^ (lsu r).length=((2 ^ (lsu r).length:Nat):Int):=by norm_cast
      rw [hp3] at q3
      exact aNd h h1 (by omega) (by omega) hb
     ·rw [if_neg q3] at hb;simp at hb
    ·rintro ⟨_,nd,n1,n2,n3,rfl⟩
     have n3:T=orL ((srt (jO r all) nd).take r.Faults.toNat):=by omega
     subst n3
     have hlen:(lsu r).length=r.Urgent.length+1:=by simp [lsu]
     have hp4:2 ^ r.Urgent.length<2 ^ (lsu r).length:=Nat.pow_lt_pow_right (by omega) (by omega)
     have hp3:(2:Int) ^ (lsu r).length=((2 ^ (lsu r).length:Nat):Int):=by norm_cast
     rw [if_pos (by rw [hp3];omega),decide_eq_true_iff,Int.toNat_natCast]
     exact aEu h h1 n1 n2
   ·rw [if_neg q2]
    refine ⟨false,rfl,by simp,?_⟩
    rintro ⟨_,nd,_,_,n3,_⟩
    exfalso
    have n3:T=orL ((srt (jO r all) nd).take r.Faults.toNat):=by omega
    have h4:=aMR ((srt (jO r all) nd).take r.Faults.toNat)
    rw [List.length_take] at h4
    rw [n3] at q2
    omega
  ·rw [if_neg q,bL,iL,if_neg (by simp only;omega)]
   exact ⟨false,rfl,by simp,fun hx=>absurd (hin hx) q⟩
end
def aL5 (r:aD) (all:Nat) (d:bS):Prop:=(∃ e:Nat,e<r.Net.Edges.length∧aC7 r all e<0∧d.Edge=(e:Int)∧d.Failed=0∧d.Set=0)∨(d.Edge = -1∧Car r all∧∃ nd,nd<2 ^ r.Urgent.length∧mgR r all nd<0∧d.Failed=((orL ((srt (jO r all) nd).take r.Faults.toNat):Nat):Int)∧d.Set=(nd:Int))
section
variable {r:aD} (h:RV r)
include h
theorem aGE {all:Nat} (hall:all<4611686018427387904) {d:bS} (hF:okI d.Failed):∃ b,(cn (d.Edge != (-1)) (bd (cL d.Edge 0 (wr ((r.Net.Edges.length:Int)-1))) fun y12=>cn (!y12) (cn true (some false) (bd (lp (bK r d (all:Int)) FU (0,0)) fun c21=>smK c21 (fun s22=>
  ix r.Net.Edges default d.Edge fun e24=>some (decide (s22.1>e24.Capacity))) (fun r23=>some r23))) (cn (!((d.Call==d.Call)&&((d.Edge==d.Edge)&&((d.Failed ==
  0)&&(d.Set==0))))) (some false) (bd (lp (bK r d (all:Int)) FU (0,0)) fun c21=>smK c21 (fun s22=>
  ix r.Net.Edges default d.Edge fun e24=>some (decide (s22.1>e24.Capacity))) (fun r23=>some r23)))) (bd (eP r (all:Int)) fun y26=>cn (decide (y26.2.2≥0)) (some false) (bd (dB y26.1 d.Failed) fun y27=>
  cn (y27.2==0) (bd (cF (IntKind.u64.wrap (d.Failed))) fun y30=>
  cn (decide (y30≤r.Faults)) (bd (cV y27.1 y26.2.1 (⟨false,[],d.Set⟩:lG)) fun y31=>some y31) (some false)) (some false))):Option Bool)=some b∧(b=true→¬ qS r all)∧(aL5 r all d→b=true):=by
 have hel:=h.el
 by_cases q:d.Edge = -1
 ·rw [fR,if_pos q]
  obtain ⟨b,e1,e2,e3⟩:=aNz h hall (S:=d.Set) hF
  refine ⟨b,e1,e2,?_⟩
  rintro (⟨e,_,_,q2,_⟩ | ⟨_,q2⟩)
  ·omega
  ·exact e3 q2
 ·rw [fR,if_neg q,bT (by omega) (by omega),sM,bL,iD]
  by_cases q2:0≤d.Edge∧d.Edge<(r.Net.Edges.length:Int)
  ·obtain ⟨e,he⟩:∃ e:Nat,d.Edge=(e:Int):=⟨_,(Int.toNat_of_nonneg q2.1).symm⟩
   rw [decide_eq_true q2.1,decide_eq_true (by omega),Bool.and_self,eE]
   have hel2:e<r.Net.Edges.length:=by omega
   obtain ⟨x,e1⟩:=aMo h (s:=all) (e:=e) (d:=d) hall he
   by_cases q3:d.Failed=0∧d.Set=0
   ·rw [show (!((d.Call==d.Call)&&((d.Edge==d.Edge)&&((d.Failed==0)&&(d.Set==0)))))=false by simp [q3.1,q3.2],dN,e1,bL,eJ,he,lB hel2]
    have hcap:aC7 r all e=(r.Net.Edges.getD e default).Capacity-vP r.Calls all e r.Calls.length:=rfl
    refine ⟨_,rfl,fun hb hs=>?_,?_⟩
    ·have:=hs.1 e hel2
     have hb:vP r.Calls all e r.Calls.length>(r.Net.Edges.getD e default).Capacity:=by simpa using hb
     omega
    ·rintro (⟨e',he',hc',q4,_⟩ | ⟨q4,_⟩)
     ·have:e'=e:=by omega
      subst this
      rw [decide_eq_true_iff]
      simp only
      omega
     ·omega
   ·rw [show (!((d.Call==d.Call)&&((d.Edge==d.Edge)&&((d.Failed==0)&&(d.Set==0)))))=true by
     simp only [beq_self_eq_true,Bool.true_and,Bool.not_eq_true',Bool.and_eq_false_iff,beq_eq_false_iff_ne]
     by_cases q4:d.Failed=0
     ·exact .inr fun q5=>q3 ⟨q4,q5⟩
     ·exact .inl q4,eE]
    refine ⟨false,rfl,by simp,?_⟩
    rintro (⟨_,_,_,_,q4,q5⟩ | ⟨q4,_⟩)
    ·exact absurd ⟨q4,q5⟩ q3
    ·omega
  ·have:(decide (0≤d.Edge)&&decide (d.Edge≤(r.Net.Edges.length:Int)-1))=false:=by
    rw [Bool.and_eq_false_iff,decide_eq_false_iff_not,decide_eq_false_iff_not];omega
   rw [this,dN,eE]
   refine ⟨false,rfl,by simp,?_⟩
   rintro (⟨e,he,_,q4,_⟩ | ⟨q4,_⟩)<;>omega
theorem aPI {s:Nat} (hs:s<2 ^ r.Calls.length) {d:bS} (hF:okI d.Failed) (hC:okI d.Call):∃ b,bC r (s:Int) d=some b∧(∀ i:Nat,d.Call=(i:Int)→b=true→¬ qS r (s|||2 ^ i))∧(∀ i:Nat,d.Call=(i:Int)→i<r.Calls.length→s.testBit i=false→aL5 r (s|||2 ^ i) d→b=true):=by
 have hkl:=h.kl
 have hs8:2 ^ r.Calls.length≤2 ^ 8:=Nat.pow_le_pow_right (by omega) hkl
 unfold bC
 simp only [iK]
 rw [aFh h hs,bL,Bool.not_true,dN,bT (by omega) (by omega),sM,bL]
 by_cases q : -1≤d.Call∧d.Call<(r.Calls.length:Int)
 ·rw [decide_eq_true q.1,decide_eq_true (by omega),Bool.and_self,Bool.not_true,dN]
  by_cases q2:d.Call≥0
  ·obtain ⟨i,hi⟩:∃ i:Nat,d.Call=(i:Int):=⟨_,(Int.toNat_of_nonneg q2).symm⟩
   have hp:(2:Int) ^ i=((2 ^ i:Nat):Int):=by norm_cast
   have hi8:2 ^ i≤2 ^ 8:=Nat.pow_le_pow_right (by omega) (by omega)
   have hip:=Nat.two_pow_pos i
   have hor:bor .i64 (s:Int) (aAw .i64 1 (i:Int))=((s|||2 ^ i:Nat):Int):=by
    rw [kI (by omega),hp,aDB (by omega) (by omega) (by omega) (by omega),Int.toNat_natCast,Int.toNat_natCast]
   have hall:s|||2 ^ i<4611686018427387904:=by
    have:s|||2 ^ i<2 ^ 9:=Nat.or_lt_two_pow (by omega) (by omega)
    omega
   obtain ⟨b,e1,e2,e3⟩:=aGE h hall (d:=d) hF
   rw [decide_eq_true q2,eE,kN _ q2,decide_eq_false (p:=d.Call<0) (by omega)]
   have hor2:bor .i64 (s:Int) (aAw .i64 1 d.Call)=((s|||2 ^ i:Nat):Int):=by rw [hi];exact hor
   simp only [hor2]
   by_cases q3:s|||2 ^ i=s
   ·rw [q3,show (!(((s:Nat):Int)==(s:Int))==false)=true by simp,eE,eE]
    refine ⟨false,rfl,by simp,fun j hj hj2 hb=>?_⟩
    have:j=i:=by omega
    subst this
    have:=congrArg (fun x=>Nat.testBit x j) q3
    simp only [Nat.testBit_or,Nat.testBit_two_pow_self,Bool.or_true] at this
    rw [hb] at this;simp at this
   ·have:(((s|||2 ^ i:Nat):Int)==(s:Int))=false:=by
     rw [beq_eq_false_iff_ne];omega
    rw [this,show (!(false==false))=false by rfl,dN,dN,dN]
    refine ⟨b,e1,fun j hj=>?_,fun j hj _ _ hr=>?_⟩
    ·have:j=i:=by omega
     subst this;exact e2
    ·have:j=i:=by omega
     subst this;exact e3 hr
  ·rw [decide_eq_false q2,dN,decide_eq_true (p:=d.Call<0) (by omega),show (!(((s:Nat):Int)==(s:Int))==true)=false by simp,dN,eE]
   obtain ⟨b,e1,_⟩:=aGE h (all:=s) (by omega) (d:=d) hF
   rw [fR]
   by_cases q3:(s:Int)=0
   ·rw [if_pos q3]
    exact ⟨b,e1,fun j hj=>by omega,fun j hj=>by omega⟩
   ·rw [if_neg q3]
    exact ⟨false,rfl,fun j hj=>by omega,fun j hj=>by omega⟩
 ·have:(decide (-1≤d.Call)&&decide (d.Call≤(r.Calls.length:Int)-1))=false:=by
   rw [Bool.and_eq_false_iff,decide_eq_false_iff_not,decide_eq_false_iff_not];omega
  rw [this,Bool.not_false,eE]
  exact ⟨false,rfl,by simp,fun j hj _ _ _=>by omega⟩
end
def okD (d:bS):Prop:=okI d.Call∧okI d.Failed
theorem aOp {r:aD} {s k:Nat} (hk:k≤r.Calls.length) (h:∀ j,j<k→s.testBit j=(qE r r.Calls.length).testBit j):s&&&(2 ^ k-1)=qE r k:=by
 refine Nat.eq_of_testBit_eq fun i=>?_
 rw [Nat.testBit_and,Nat.testBit_two_pow_sub_one,aKX r hk i,Bool.and_comm]
 by_cases q:i<k
 ·rw [h i q]
 ·rw [decide_eq_false q];rfl
theorem aHz {α β:Type} {x:α} {l:List α} {f:List α→Option β} (_hl:l.length<1048576):slc (x::l) 1 ((x::l).length:Int) f=f l:=by
 rw [aN0 (by omega) (by rw [List.length_cons];omega) (Int.le_refl _)]
 congr 1
 simp [sub]
section
variable {r:aD} (h:RV r)
include h
theorem aGS {s k:Nat} (hs:s<2 ^ r.Calls.length) (hk:k<r.Calls.length):zF .i64 (s:Int) (wr (aAw .i64 1 (k:Int)-1))=((s&&&(2 ^ k-1):Nat):Int):=by
 have hkl:=h.kl
 have hs8:2 ^ r.Calls.length≤2 ^ 8:=Nat.pow_le_pow_right (by omega) hkl
 have hp:(2:Int) ^ k=((2 ^ k:Nat):Int):=by norm_cast
 have hp8:2 ^ k≤2 ^ 8:=Nat.pow_le_pow_right (by omega) (by omega)
 have hp1:=Nat.two_pow_pos k
 rw [kI (by omega),hp,bT (by omega) (by omega),aBh (by omega) (by omega) (by omega) (by omega),Int.toNat_natCast,show ((2 ^ k:Nat):Int)-1=((2 ^ k-1:Nat):Int) by omega,Int.toNat_natCast]
theorem aFU {k:Nat} (hk:k<r.Calls.length) (hns:¬ qS r (qE r k|||2 ^ k)):(aF5 r k).Call=(k:Int)∧okD (aF5 r k)∧aL5 r (qE r k|||2 ^ k) (aF5 r k):=by
 have hkl:=h.kl
 have hp8:2 ^ k≤2 ^ 8:=Nat.pow_le_pow_right (by omega) (by omega)
 have hlt:=aCX r k
 have hlt2:qE r k|||2 ^ k<2 ^ 9:=Nat.or_lt_two_pow (by omega) (by omega)
 rcases aBE h (s:=qE r k|||2 ^ k) (by omega) (k:Int) with ⟨e,he,h1,h2⟩ | ⟨h1,nd,a1,a2,h2,h3⟩
 ·have hw:aF5 r k=⟨(k:Int),(e:Int),0,0⟩:=by unfold aF5;rw [h2];rfl
  rw [hw]
  exact ⟨rfl,⟨⟨by simp only;omega,by simp only;omega⟩,⟨by simp,by simp⟩⟩,.inl ⟨e,he,h1,rfl,rfl,rfl⟩⟩
 ·have hw:aF5 r k=⟨(k:Int),-1,((orL ((srt (jO r (qE r k|||2 ^ k)) nd).take r.Faults.toNat):Nat):Int),(nd:Int)⟩:=by unfold aF5;rw [h2];rfl
  have hm:mgR r (qE r k|||2 ^ k) nd<0:=Int.not_le.1 fun q3=>hns ⟨h1,fun nd' b1 b2=>by have:=h3 nd' b1 b2;omega⟩
  have hF:orL ((srt (jO r (qE r k|||2 ^ k)) nd).take r.Faults.toNat)<2 ^ 28:=aHx fun e he=>by
   obtain ⟨j,rfl,hj,_⟩:=yG (aEH h h1) (List.mem_of_mem_take he)
   have:=(aEH h h1).el
   omega
  rw [hw]
  exact ⟨rfl,⟨⟨by simp only;omega,by simp only;omega⟩,⟨by simp only;omega,by simp only;omega⟩⟩,.inr ⟨rfl,h1,nd,a2,hm,rfl,rfl⟩⟩
theorem aQi:(∀ d∈aFL r r.Calls.length,okD d)∧(aFL r r.Calls.length).length≤8:=by
 have hkl:=h.kl
 refine ⟨fun d hd=>?_,?_⟩
 ·unfold aFL at hd
  obtain ⟨k,hk,rfl⟩:=List.mem_map.1 hd
  obtain ⟨hk1,hk2⟩:=List.mem_filter.1 hk
  have hk1:=List.mem_range.1 hk1
  refine (aFU h hk1 fun hs=>?_).2.1
  have:=(aKc k).2 hs
  rw [← sZ r _ k hk1] at this
  rw [this] at hk2;simp at hk2
 ·unfold aFL
  rw [List.length_map]
  exact Nat.le_trans (Nat.le_trans (List.length_filter_le _ _) (by simp)) hkl
theorem aKz (h0:qS r 0):eN r ⟨((qE r r.Calls.length:Nat):Int),aFL r r.Calls.length⟩=some true:=by
 have hkl:=h.kl
 have hs:=aCX r r.Calls.length
 have hsm:=aBu h hs
 have hS:=aH6 h0 r.Calls.length
 unfold eN
 rw [aPm h hs hS,bL,Bool.not_true,dN]
 obtain ⟨z,e,h1,h2⟩:=dD (body:=gB r ⟨((qE r r.Calls.length:Nat):Int),aFL r r.Calls.length⟩) (fun k x=>x.2=(k:Int)∧x.1=(((List.range r.Calls.length).drop k).filter fun i => !(qE r r.Calls.length).testBit i).map (aF5 r)) r.Calls.length (by omega) (fun k x hk ⟨h1,h2⟩=>by
  obtain ⟨R,i⟩:=x
  simp only at h1 h2
  subst h1
  have hdrop:(List.range r.Calls.length).drop k=k::(List.range r.Calls.length).drop (k+1):=by
   rw [List.drop_eq_getElem_cons (by simpa using hk)];simp
  rw [hdrop,List.filter_cons] at h2
  unfold gB
  simp only [aZ,iK]
  rw [if_pos (by omega),kN _ (by omega),aIQ (by omega) (by omega) (by omega),Int.toNat_natCast,bT (x:=(k:Int)+1) (by omega) (by omega)]
  cases hbit:(qE r r.Calls.length).testBit k
  ·rw [hbit] at h2
   simp only [Bool.not_false,if_true,List.map_cons] at h2
   have hns:¬ qS r (qE r k|||2 ^ k):=fun hs=>by
    have:=(aKc k).2 hs
    rw [← sZ r _ k hk,hbit] at this;simp at this
   obtain ⟨w1,⟨w2,w3⟩,w4⟩:=aFU h hk hns
   have hlen:((((List.range r.Calls.length).drop (k+1)).filter fun i => !(qE r r.Calls.length).testBit i).map (aF5 r)).length≤8:=by
    rw [List.length_map]
    exact Nat.le_trans (List.length_filter_le _ _) (by simp;omega)
   generalize ((((List.range r.Calls.length).drop (k+1)).filter fun i => !(qE r r.Calls.length).testBit i).map (aF5 r))=R' at h2 hlen
   subst h2
   have hz:(((aF5 r k::R').length:Int)==0)=false:=by rw [beq_eq_false_iff_ne,List.length_cons];omega
   rw [dN,hz,dN,aGu (Int.le_refl 0) (by rw [List.length_cons];omega)]
   have hd0:(aF5 r k::R').getD (Int.toNat 0) default=aF5 r k:=rfl
   rw [hd0,fR,if_pos w1,kN _ (by omega),aGu (Int.le_refl 0) (by rw [List.length_cons];omega),hd0,aGS h hs hk,aOp (Nat.le_of_lt hk) (fun _ _=>rfl)]
   obtain ⟨b,e3,_,e5⟩:=aPI h (s:=qE r k) (Nat.lt_of_lt_of_le (aCX r k) (Nat.pow_le_pow_right (by omega) (by omega))) (d:=aF5 r k) w3 w2
   have hb:=e5 k w1 hk (sY r k k (Nat.le_refl _)) w4
   subst hb
   rw [e3,bL,Bool.not_true,dN,aHz (by omega)]
   exact ⟨_,rfl,rfl,rfl⟩
  ·rw [hbit] at h2
   simp only [Bool.not_true,Bool.false_eq_true,if_false] at h2
   rw [eE]
   exact ⟨_,rfl,rfl,h2⟩) (fun x ⟨h1,_⟩=>by
  unfold gB
  simp only [aZ]
  rw [if_neg (by omega)]) (aFL r r.Calls.length,0) ⟨rfl,by simp [aFL]⟩
 rw [e,bL,eJ,h2,List.drop_of_length_le (by simp)]
 rfl
end
end Go.Proofs.YtkjccabdpeldhaaGreat
namespace Go.Proofs.YtkjccabdpeldhaaGreat.Fl
open Go Go.Eng
set_option maxRecDepth 100000
theorem aIf {l:List Int} {k j:Nat} {v:Int} (hk:k<l.length):(l.set k v).getD j 0=if j=k then v else l.getD j 0:=by
 simp only [List.getD_eq_getElem?_getD,List.getElem?_set]
 by_cases e:k=j
 ·subst e;simp [hk]
 ·rw [if_neg e,if_neg (fun h=>e h.symm)]
theorem eR {α:Type} [Inhabited α] {l:List α} {k:Nat} (h:k<l.length):l.getD k default=l[k]:=by simp [h]
theorem aGL (a b c:Int):fY a b c=some (decide (b≤a)&&decide (a≤c)):=by
 unfold fY
 simp only [iK,aZ]
 by_cases h:b≤a
 ·rw [if_pos h];simp [h]
 ·rw [if_neg h];simp [h]
structure EV (N:Int) (e:dE):Prop where
 fr:0≤e.From∧e.From<N
 to:0≤e.To∧e.To<N
 ne:e.From≠e.To
 cp:0≤e.Capacity∧e.Capacity≤10000
instance (N:Int) (e:dE):Decidable (EV N e):=decidable_of_iff ((0≤e.From∧e.From<N)∧(0≤e.To∧e.To<N)∧e.From≠e.To∧0≤e.Capacity∧e.Capacity≤10000)
 ⟨fun h=>⟨h.1,h.2.1,h.2.2.1,h.2.2.2⟩,fun h=>⟨h.fr,h.to,h.ne,h.cp⟩⟩
structure NV (n:bG):Prop where
 nn:0≤n.N∧n.N≤12
 el:n.Edges.length≤40
 ev:∀ e∈n.Edges,EV n.N e
instance (n:bG):Decidable (NV n):=decidable_of_iff ((0≤n.N∧n.N≤12)∧n.Edges.length≤40∧∀ e∈n.Edges,EV n.N e) ⟨fun h=>⟨h.1,h.2.1,h.2.2⟩,fun h=>⟨h.nn,h.el,h.ev⟩⟩
theorem aQN {n:bG} (h0:0≤n.N∧n.N≤12) (e:dE):gO e n=some (!decide (EV n.N e)):=by
 unfold gO
 simp only [iK,aGL,bL,iD]
 simp only [zE,Bool.and_eq_true,decide_eq_true_eq,beq_iff_eq]
 rw [bT (by omega) (by omega)]
 have key:∀ p:Bool,(p=true↔EV n.N e)→(some (!p):Option Bool)=some (!decide (EV n.N e)):=fun p hp=>by
  congr 2
  cases hd:decide (EV n.N e) with
  | true=>exact hp.2 (by simpa using hd)
  | false=>
   cases hq:p with
   | false=>rfl
   | true=>exact absurd (hp.1 hq) (by simpa using hd)
 by_cases h1:0≤e.From∧e.From≤n.N-1
 ·rw [if_pos h1]
  by_cases h2:0≤e.To∧e.To≤n.N-1
  ·rw [if_pos h2]
   by_cases h3:e.From=e.To
   ·rw [if_pos h3];exact key false ⟨fun h=>(Bool.false_ne_true h).elim,fun h=>absurd h3 h.ne⟩
   ·rw [if_neg h3]
    refine key _ ⟨fun h=>?_,fun h=>?_⟩
    ·simp only [Bool.and_eq_true,decide_eq_true_eq] at h
     exact ⟨by omega,by omega,h3,h⟩
    ·have:=h.cp;simp only [Bool.and_eq_true,decide_eq_true_eq];omega
  ·rw [if_neg h2];exact key false ⟨fun h=>(Bool.false_ne_true h).elim,fun h=>by have:=h.to;omega⟩
 ·rw [if_neg h1];exact key false ⟨fun h=>(Bool.false_ne_true h).elim,fun h=>by have:=h.fr;omega⟩
theorem aK2 {n:bG} (h0:0≤n.N∧n.N≤12) {E:List dE} (hl:E.length≤1000):cH E n=some (!decide (∀ e∈E,EV n.N e)):=by
 obtain ⟨o,e,ho⟩:=mJ (body:=cP E n) (fun i:Int=>(0≤i∧i≤(E.length:Int))∧∀ j:Nat,(j:Int)<i→EV n.N (E.getD j default)) (fun i=>((E.length:Int)-i).toNat)
  (fun o=>match o with
   | .inl _=>∀ e∈E,EV n.N e
   | .inr r=>0≤r∧¬ ∀ e∈E,EV n.N e) (fun i hi=>by
   obtain ⟨⟨i0,i1⟩,hi⟩:=hi
   unfold cP
   rw [aZ]
   by_cases h:i<(E.length:Int)
   ·rw [if_pos h,aGu i0 h,aQN h0,bL,iD]
    have hlt:i.toNat<E.length:=by omega
    by_cases hb:EV n.N (E.getD i.toNat default)
    ·rw [decide_eq_true hb,eE,bT (by omega) (by omega)]
     refine .inl ⟨_,rfl,⟨by omega,fun j hj=>?_⟩,by omega⟩
     by_cases e:(j:Int)=i
     ·rw [show j=i.toNat by omega];exact hb
     ·exact hi j (by omega)
    ·rw [decide_eq_false hb,dN]
     refine .inr (.inr ⟨_,rfl,i0,fun hall=>hb ?_⟩)
     rw [eR hlt]
     exact hall _ (List.getElem_mem hlt)
   ·rw [if_neg h]
    refine .inr (.inl ⟨_,rfl,fun e he=>?_⟩)
    obtain ⟨j,hj,rfl⟩:=List.getElem_of_mem he
    have:=hi j (by omega)
    rwa [eR hj] at this)
  0 ⟨by omega,fun j hj=>by omega⟩ (by omega)
 unfold cH dM
 rw [e,bL]
 match o,ho with
 | .inl _,ho=>rw [eJ,bL,decide_eq_true ho];rfl
 | .inr r,ho=>rw [tT,bL,decide_eq_false ho.2];simp [ho.1]
theorem valid_iff (n:bG):hU n=some (decide (NV n)):=by
 unfold hU
 simp only [iK,aGL,bL,iD]
 simp only [zE,Bool.and_eq_true,decide_eq_true_eq]
 by_cases h0:0≤n.N∧n.N≤12
 ·rw [if_pos h0]
  by_cases h1:(n.Edges.length:Int)>40
  ·rw [if_pos h1,decide_eq_false fun h:NV n=>by have:=h.el;omega]
  ·rw [if_neg h1,aK2 h0 (by omega),bL,Bool.not_not]
   congr 1
   simp only [decide_eq_decide]
   exact ⟨fun h=>⟨h0,by omega,h⟩,fun h=>h.ev⟩
 ·rw [if_neg h0]
  simp only [if_true]
  rw [decide_eq_false fun h:NV n=>h0 h.nn]
def okA (E:List dE) (l:List Int):Prop:=l.length=E.length∧∀ i,i<E.length→0≤l.getD i 0∧l.getD i 0≤(E.getD i default).Capacity
def aCe:List dE→List Int→Nat→Int
 | e::E,x::l,v=>((if e.From=(v:Int) then x else 0)-(if e.To=(v:Int) then x else 0))+aCe E l v
 | _,_,_=>0
theorem aEv:∀ (E:List dE) (l:List Int),E.length=l.length→∀ (e:dE) (x:Int) (v:Nat),aCe (E++[e]) (l++[x]) v=aCe E l v+((if e.From=(v:Int) then x else 0)-(if e.To=(v:Int) then x else 0))
 | [],[],_,e,x,v=>by simp [aCe]
 | e'::E,x'::l,h,e,x,v=>by
  simp only [List.cons_append,aCe,aEv E l (by simpa using h) e x v];omega
 | [],_::_,h,_,_,_=>by simp at h
 | _::_,[],h,_,_,_=>by simp at h
theorem st_dd {α β:Type} (l:List α) (i:Int) (x:α) (f:List α→Option β):st l i x f=f (l.set i.toNat x):=by unfold st;rfl
instance (E:List dE) (l:List Int):Decidable (okA E l):=by unfold okA;infer_instance
theorem aGO {N:Int}:∀ {E:List dE} {l:List Int},(∀ e∈E,EV N e)→okA E l→∀ v,-((E.length:Int) * 10000)≤aCe E l v∧aCe E l v≤(E.length:Int) * 10000
 | [],_,_,_,v=>by simp [aCe]
 | _::_,[],_,⟨h,_⟩,v=>by simp at h
 | e::E,x::l,h,⟨h1,h2⟩,v=>by
  have hev:=(h e List.mem_cons_self).cp
  have hx:=h2 0 (by simp)
  simp only [List.getD_cons_zero] at hx
  have ih:=aGO (E:=E) (l:=l) (fun e he=>h e (List.mem_cons_of_mem _ he)) ⟨by simpa using h1,fun i hi=>by have:=h2 (i+1) (by simpa using hi);simpa using this⟩ v
  simp only [aCe,List.length_cons]
  split<;>split<;>omega
theorem aHp {E:List dE} {l:List Int} {k:Nat} (hl:l.length=E.length) (hk:k≤E.length) (h:∀ i,i<k→0≤l.getD i 0∧l.getD i 0≤(E.getD i default).Capacity):okA (E.take k) (l.take k):=by
 refine ⟨by simp only [List.length_take];omega,fun i hi=>?_⟩
 rw [List.length_take] at hi
 have:=h i (by omega)
 have e1:(l.take k).getD i 0=l.getD i 0:=by simp only [List.getD_eq_getElem?_getD];rw [List.getElem?_take_of_lt (by omega)]
 have e2:(E.take k).getD i default=E.getD i default:=by simp only [List.getD_eq_getElem?_getD];rw [List.getElem?_take_of_lt (by omega)]
 rw [e1,e2];exact this
theorem aB8 {l:List Int} {k j:Nat} {v:Int} (hk:k<l.length):(l.set k v).getD j default=if j=k then v else l.getD j default:=aIf hk
theorem aK3 {n:bG} (h:NV n) (l:List Int):∃ G:List Int,nH n l=some (if okA n.Edges l then (G,true) else ([],false))∧(okA n.Edges l→G.length=n.N.toNat∧∀ v,v<n.N.toNat→G.getD v default=aCe n.Edges l v):=by
 have hel:=h.el
 have hn:=h.nn
 by_cases hlen:l.length=n.Edges.length
 ·obtain ⟨o,e,ho⟩:=mJ (body:=qM n l) (fun z:Int×List Int=>∃ k:Nat,z.1=(k:Int)∧k≤n.Edges.length∧(∀ i,i<k→0≤l.getD i 0∧l.getD i 0≤(n.Edges.getD i default).Capacity)∧z.2.length=n.N.toNat∧∀ v,v<n.N.toNat→z.2.getD v default=aCe (n.Edges.take k) (l.take k) v)
   (fun z=>(n.Edges.length-z.1).toNat)
   (fun o=>match o with
    | .inl (_,G)=>okA n.Edges l∧G.length=n.N.toNat∧∀ v,v<n.N.toNat→G.getD v default=aCe n.Edges l v
    | .inr r=>¬ okA n.Edges l∧r=([],false)) (fun z hz=>by
    obtain ⟨i,G⟩:=z
    obtain ⟨k,rfl,hk,hr,hGl,hG⟩:=hz
    simp only at hGl hG ⊢
    unfold qM
    simp only [aZ]
    by_cases hlt:(k:Int)<(n.Edges.length:Int)
    ·have hk':k<n.Edges.length:=by omega
     rw [if_pos hlt,lB hk',lB (by omega),aGL,bL,iD,zE]
     have hmem:n.Edges.getD k default∈n.Edges:=by rw [eR hk'];exact List.getElem_mem hk'
     have hev:=h.ev _ hmem
     have hfr:=hev.fr;have hto:=hev.to;have hcp:=hev.cp;have hne:=hev.ne
     have htake:n.Edges.take (k+1)=n.Edges.take k++[n.Edges.getD k default]:=by rw [List.take_succ_eq_append_getElem hk',eR hk']
     have htakeL:l.take (k+1)=l.take k++[l.getD k default]:=by rw [List.take_succ_eq_append_getElem (by omega),eR (by omega)]
     have hgd:l.getD k default=l.getD k 0:=rfl
     by_cases hin:0≤l.getD k 0∧l.getD k 0≤(n.Edges.getD k default).Capacity
     ·rw [if_pos (by rw [hgd];simp only [Bool.and_eq_true,decide_eq_true_eq];exact hin)]
      have hbd:=fun v=>aGO (N:=n.N) (fun e he=>h.ev e (List.mem_of_mem_take he)) (aHp hlen (by omega) hr) v
      have hlt40:(((n.Edges.take k).length:Nat):Int)≤40:=by rw [List.length_take];omega
      have b1:=hbd (n.Edges.getD k default).From.toNat
      have b2:=hbd (n.Edges.getD k default).To.toNat
      rw [kN _ (by omega),lB (by omega),kN _ (by omega),st_dd,hG _ (by omega),bT (x:=aCe (n.Edges.take k) (l.take k) (n.Edges.getD k default).From.toNat+l.getD k default) (by rw [hgd];omega) (by rw [hgd];omega)]
      rw [kN _ (by rw [List.length_set];omega),lB (by omega),kN _ (by rw [List.length_set];omega),st_dd,aB8 (by omega),if_neg (by omega),hG _ (by omega),bT (x:=aCe (n.Edges.take k) (l.take k) (n.Edges.getD k default).To.toNat-l.getD k default) (by rw [hgd];omega) (by rw [hgd];omega),bT (x:=(k:Int)+1) (by omega) (by omega)]
      refine .inl ⟨_,rfl,⟨k+1,by simp only;omega,by omega,fun i hi=>?_,by simp only [List.length_set];exact hGl,fun v hv=>?_⟩,by simp only;omega⟩
      ·by_cases c:i=k
       ·subst c;exact hin
       ·exact hr i (by omega)
      ·simp only
       rw [aB8 (by rw [List.length_set];omega),aB8 (by omega),htake,htakeL,aEv _ _ (by simp only [List.length_take];omega)]
       by_cases c1:v=(n.Edges.getD k default).To.toNat
       ·rw [if_pos c1,if_neg (show ¬ (n.Edges.getD k default).From=(v:Int) by omega),if_pos (show (n.Edges.getD k default).To=(v:Int) by omega),c1];omega
       ·rw [if_neg c1,if_neg (show ¬ (n.Edges.getD k default).To=(v:Int) by omega)]
        by_cases c2:v=(n.Edges.getD k default).From.toNat
        ·rw [if_pos c2,if_pos (show (n.Edges.getD k default).From=(v:Int) by omega),c2];omega
        ·rw [if_neg c2,if_neg (show ¬ (n.Edges.getD k default).From=(v:Int) by omega),hG v hv];omega
     ·rw [if_neg (by rw [hgd];simp only [Bool.and_eq_true,decide_eq_true_eq];exact hin)]
      exact .inr (.inr ⟨_,rfl,fun hok=>hin (hok.2 k hk'),rfl⟩)
    ·rw [if_neg hlt]
     have hke:k=n.Edges.length:=by omega
     subst hke
     refine .inr (.inl ⟨_,rfl,⟨hlen,hr⟩,hGl,fun v hv=>?_⟩)
     have:=hG v hv
     rwa [List.take_length,← hlen,List.take_length] at this)
   (0,List.replicate n.N.toNat 0) ⟨0,rfl,by omega,fun i hi=>by omega,by simp,fun v hv=>by
    simp only [List.take_zero,aCe]
    simp only [List.getD_eq_getElem?_getD,List.getElem?_replicate]
    rw [if_pos hv];rfl⟩ (by simp only;omega)
  unfold nH
  rw [fR,if_pos (by omega),kN _ (by omega),wZ,e,bL]
  match o,ho with
  | .inl (_,G),⟨g1,g2,g3⟩=>exact ⟨G,by rw [eJ,if_pos g1],fun _=>⟨g2,g3⟩⟩
  | .inr r,⟨g1,g2⟩=>exact ⟨[],by rw [tT,if_neg g1,g2],fun q=>absurd q g1⟩
 ·refine ⟨[],?_,fun q=>absurd q.1 hlen⟩
  unfold nH
  rw [fR,if_neg (by omega),if_neg fun q:okA n.Edges l=>hlen q.1]
def wY:List dE→(Nat→Bool)→Int
 | [],_=>0
 | e::E,p=>(if (p e.From.toNat && !p e.To.toNat)=true then e.Capacity else 0)+wY E p
theorem aBg:∀ (E F:List dE) (p:Nat→Bool),wY (E++F) p=wY E p+wY F p
 | [],F,p=>by simp [wY]
 | e::E,F,p=>by simp only [List.cons_append,wY,aBg E F p];omega
theorem aGU:∀ {E:List dE},(∀ e∈E,0≤e.Capacity)→∀ p,0≤wY E p
 | [],_,_=>Int.le_refl _
 | e::E,h,p=>by
  have h1:=h e List.mem_cons_self
  have h2:=aGU (E:=E) (fun e he=>h e (List.mem_cons_of_mem _ he)) p
  simp only [wY];split<;>omega
theorem aGV:∀ {E:List dE} {B:Int},0≤B→(∀ e∈E,e.Capacity≤B)→∀ p,wY E p≤E.length * B
 | [],_,_,_,_=>by simp [wY]
 | e::E,B,hB,h,p=>by
  have h1:=h e List.mem_cons_self
  have h2:=aGV (E:=E) hB (fun e he=>h e (List.mem_cons_of_mem _ he)) p
  simp only [wY,List.length_cons]
  rw [show ((E.length+1:Nat):Int) * B=E.length * B+B by rw [Int.natCast_add,Int.add_mul];simp]
  split<;>omega
theorem aIl {n:bG} (h:NV n) {S:Nat} (hS:S<4611686018427387904) {σ:Type} (f:Int→σ→Option σ) (g:Nat→σ→σ) (I:Nat→σ→Prop) (h0:∀ s,I 0 s→True)
  (step:∀ k s,k<n.Edges.length→I k s→(((S.testBit (n.Edges.getD k default).From.toNat && !S.testBit (n.Edges.getD k default).To.toNat)=true→f (k:Int) s=some (g k s)∧I (k+1) (g k s))∧((S.testBit (n.Edges.getD k default).From.toNat && !S.testBit (n.Edges.getD k default).To.toNat)=false→I (k+1) s))) (s0:σ) (hI:I 0 s0) :
  ∃ s,iI n (S:Int) σ f s0=some s∧I n.Edges.length s:=by
 have hel:=h.el
 have hn:=h.nn
 obtain ⟨s',e,h1⟩:=dD (body:=eT σ n (S:Int) f) (fun k z=>z.1=(k:Int)∧I k z.2) n.Edges.length (by omega)
  (fun k z hk hz=>by
   obtain ⟨i,s⟩:=z
   obtain ⟨rfl,hs⟩:=hz
   simp only at hs
   unfold eT
   simp only [aZ,iK]
   have hev:=h.ev _ (by rw [eR hk];exact List.getElem_mem hk:n.Edges.getD k default∈n.Edges)
   have hfr:=hev.fr;have hto:=hev.to
   rw [if_pos (by omega),lB hk,kN _ hfr.1]
   obtain ⟨a,ha⟩:∃ a:Nat,(n.Edges.getD k default).From=(a:Int):=⟨_,(Int.toNat_of_nonneg hfr.1).symm⟩
   obtain ⟨b,hb⟩:∃ b:Nat,(n.Edges.getD k default).To=(b:Int):=⟨_,(Int.toNat_of_nonneg hto.1).symm⟩
   obtain ⟨st1,st2⟩:=step k s hk hs
   rw [ha,hb] at st1 st2
   rw [ha,hb,aIQ (by omega) (by omega) (by omega),kN _ (by omega:(0:Int)≤(b:Int)),aRK (by omega) (by omega) (by omega)]
   simp only [Int.toNat_natCast] at st1 st2 ⊢
   rw [bT (x:=(k:Int)+1) (by omega) (by omega)]
   cases c1:S.testBit a with
   | false=>
    rw [dN]
    exact ⟨_,rfl,by simp only;omega,st2 (by rw [c1];rfl)⟩
   | true=>
    rw [eE]
    cases c2:S.testBit b with
    | true=>
     simp only [Bool.not_true,dN]
     exact ⟨_,rfl,by simp only;omega,st2 (by rw [c1,c2];rfl)⟩
    | false=>
     obtain ⟨e1,e2⟩:=st1 (by rw [c1,c2];rfl)
     simp only [Bool.not_false,eE]
     rw [e1,bL]
     exact ⟨_,rfl,by simp only;omega,e2⟩)
  (fun z hz=>by
   obtain ⟨i,s⟩:=z
   obtain ⟨rfl,_⟩:=hz
   unfold eT
   simp only [aZ]
   rw [if_neg (by omega)])
  (0,s0) ⟨rfl,hI⟩
 refine ⟨s'.2,?_,h1.2⟩
 unfold iI
 rw [e,bL,eJ]
theorem aF7 {n:bG} (h:NV n) {S:Nat} (hS:S<4611686018427387904):gU n (S:Int)=some (wY n.Edges S.testBit):=by
 have hel:=h.el
 obtain ⟨s,e,hs⟩:=aIl h hS (jS n) (fun k s=>s+(n.Edges.getD k default).Capacity) (fun k s=>s=wY (n.Edges.take k) S.testBit) (fun _ _=>trivial)
  (fun k s hk hs=>by
   have hev:=h.ev _ (by rw [eR hk];exact List.getElem_mem hk:n.Edges.getD k default∈n.Edges)
   have hcp:=hev.cp
   have htake:n.Edges.take (k+1)=n.Edges.take k++[n.Edges.getD k default]:=by rw [List.take_succ_eq_append_getElem hk,eR hk]
   have c1:=aGU (E:=n.Edges.take k) (fun e he=>(h.ev e (List.mem_of_mem_take he)).cp.1) S.testBit
   have c2:=aGV (E:=n.Edges.take k) (B:=10000) (by omega) (fun e he=>(h.ev e (List.mem_of_mem_take he)).cp.2) S.testBit
   have c3:(n.Edges.take k).length≤40:=by rw [List.length_take];omega
   refine ⟨fun hb=>⟨?_,?_⟩,fun hb=>?_⟩
   ·unfold jS
    rw [lB hk,bT (by omega) (by omega)]
   ·rw [htake,aBg,hs];simp only [wY];rw [if_pos hb];omega
   ·rw [htake,aBg,hs];simp only [wY];rw [if_neg (by rw [hb];exact Bool.false_ne_true)];omega)
  0 rfl
 unfold gU
 rw [e,bL,hs,List.take_length]
structure aQ5 (n:bG) (s t:Nat) (v:Int) (C:Nat):Prop where
 lt:C<2 ^ n.N.toNat
 cs:C.testBit s=true
 ct:C.testBit t=false
 eq:v=wY n.Edges C.testBit
 le:∀ S:Nat→Bool,S s=true→S t=false→v≤wY n.Edges S
 mn:∀ S:Nat→Bool,S s=true→S t=false→wY n.Edges S=v→∀ x,C.testBit x=true→S x=true
 nn:0≤v
def wo (n:bG) (F:Nat):bG:=⟨n.N,(List.range n.Edges.length).map fun i=>if F.testBit i then ⟨(n.Edges.getD i default).From,(n.Edges.getD i default).To,0⟩ else n.Edges.getD i default⟩
def woK (n:bG) (F k:Nat):List dE:=(List.range n.Edges.length).map fun i=>if i<k∧F.testBit i=true then ⟨(n.Edges.getD i default).From,(n.Edges.getD i default).To,0⟩ else n.Edges.getD i default
theorem rA (n:bG) (F k:Nat):(woK n F k).length=n.Edges.length:=by simp [woK]
theorem tG {n:bG} {F k i:Nat} (h:i<n.Edges.length):(woK n F k).getD i default=if i<k∧F.testBit i=true then ⟨(n.Edges.getD i default).From,(n.Edges.getD i default).To,0⟩ else n.Edges.getD i default:=by
 rw [eR (by rw [rA];exact h)]
 simp [woK]
theorem aC8 (n:bG) (F:Nat):(wo n F).Edges.length=n.Edges.length:=by simp [wo]
theorem aAe {n:bG} {F:Nat} (hl:n.Edges.length≤40) (hF:F<4611686018427387904):iT n (F:Int)=some (wo n F):=by
 unfold iT
 rw [kN _ (by omega),wZ]
 obtain ⟨s,e,h1,h2⟩:=dD (body:=fX (F:Int) n.Edges) (fun k s=>s.1=(k:Int)∧s.2=(⟨n.N,woK n F k⟩:bG)) n.Edges.length (by omega) (fun k s hk ⟨h1,h2⟩=>by
  obtain ⟨i,R⟩:=s
  simp only at h1 h2
  subst h1 h2
  unfold fX
  simp only [aZ,iK]
  rw [if_pos (by omega),kN _ (by omega),aIQ (by omega) (by omega) (by omega),Int.toNat_natCast,bT (by omega) (by omega)]
  cases hb:F.testBit k
  ·rw [dN]
   refine ⟨_,rfl,rfl,?_⟩
   simp only [bG.mk.injEq,true_and]
   refine List.map_congr_left fun i hi=>?_
   have:(i<k∧F.testBit i=true)↔(i<k+1∧F.testBit i=true):=by
    constructor
    ·rintro ⟨a,b⟩;exact ⟨by omega,b⟩
    ·rintro ⟨a,b⟩
     refine ⟨?_,b⟩
     by_cases q:i=k
     ·subst q;rw [hb] at b;simp at b
     ·omega
   simp only [this]
  ·rw [eE,kN _ (by rw [rA];omega),st_dd,Int.toNat_natCast]
   refine ⟨_,rfl,rfl,?_⟩
   simp only [bG.mk.injEq,true_and]
   refine List.ext_getElem (by rw [List.length_set,rA,rA]) fun i hi1 hi2=>?_
   rw [rA] at hi2
   rw [List.getElem_set]
   split
   ·rename_i q;subst q
    rw [← eR,tG hk,tG hk,if_neg (by omega),if_pos ⟨by omega,hb⟩]
   ·rename_i q
    rw [← eR,← eR,tG hi2,tG hi2]
    have:(i<k∧F.testBit i=true)↔(i<k+1∧F.testBit i=true):=by
     constructor
     ·rintro ⟨a,b⟩;exact ⟨by omega,b⟩
     ·rintro ⟨a,b⟩;exact ⟨by omega,b⟩
    simp only [this]) (fun s ⟨h1,h2⟩=>by
  unfold fX
  simp only [aZ]
  rw [if_neg (by omega)]) (0,⟨n.N,n.Edges⟩) ⟨rfl,by
   simp only [bG.mk.injEq,true_and]
   refine List.ext_getElem (by rw [rA]) fun i hi1 hi2=>?_
   rw [← eR,← eR,tG hi1,if_neg (by omega)]⟩
 rw [e,bL,eJ,h2]
 show some (⟨n.N,woK n F n.Edges.length⟩:bG)=some (wo n F)
 unfold wo woK
 simp only [Option.some.injEq,bG.mk.injEq,true_and]
 refine List.map_congr_left fun i hi=>?_
 have:=List.mem_range.1 hi
 simp only [this,true_and]
theorem aOE {n:bG} {F:Nat} {e:dE} (h:e∈(wo n F).Edges):∃ e'∈n.Edges,e.From=e'.From∧e.To=e'.To∧(e.Capacity=0∨e.Capacity=e'.Capacity):=by
 simp only [wo,List.mem_map,List.mem_range] at h
 obtain ⟨i,hi,rfl⟩:=h
 refine ⟨n.Edges.getD i default,by rw [eR hi];exact List.getElem_mem hi,?_⟩
 split
 ·exact ⟨rfl,rfl,.inl rfl⟩
 ·exact ⟨rfl,rfl,.inr rfl⟩
theorem NV.wo {n:bG} (h:NV n) (F:Nat):NV (wo n F):=by
 refine ⟨h.nn,by rw [aC8];exact h.el,fun e he=>?_⟩
 obtain ⟨e',he',h1,h2,h3⟩:=aOE he
 have:=h.ev e' he'
 exact ⟨by rw [h1];exact this.fr,by rw [h2];exact this.to,by rw [h1,h2];exact this.ne,by rcases h3 with h3 | h3<;>rw [h3]<;>first | exact this.cp | exact ⟨Int.le_refl _,by decide⟩⟩
theorem Without_ok {n:bG} (h:NV n) {F:Nat} (hF:(F:Int)<2 ^ n.Edges.length):dB n (F:Int)=some (wo n F,0):=by
 have hel:=h.el
 have hp:(2:Int) ^ n.Edges.length≤2 ^ 40:=qX hel
 have hp0:=two_pow_pos n.Edges.length
 unfold dB
 simp only [iK,valid_iff,bL]
 rw [decide_eq_true h,Bool.not_true,dN,kN _ (by omega),kI (by omega),bT (by omega) (by omega),aGL,bL,decide_eq_true (show (0:Int)≤(F:Int) by omega),decide_eq_true (show (F:Int)≤2 ^ n.Edges.length-1 by omega)]
 simp only [Bool.and_self,Bool.not_true,dN]
 rw [aAe hel (by omega),bL]
def loP (es:List dE) (nd i:Nat):Bool:=nd.testBit (es.getD i default).From.toNat && !nd.testBit (es.getD i default).To.toNat
def loI (es:List dE) (nd:Nat):List Nat:=(List.range es.length).filter (loP es nd)
def lcI (es:List dE) (i:Nat):Int:=(es.getD i default).Capacity
def loR:List Int→Nat
 | []=>0
 | e::l=>2 ^ e.toNat|||loR l
theorem aN2 (l:List Int) (h:∀ e∈l,0≤e) (i:Nat):(loR l).testBit i=decide ((i:Int)∈l):=by
 induction l with
 | nil=>simp [loR]
 | cons e l ih=>
  have:=h e List.mem_cons_self
  rw [loR,Nat.testBit_or,ih fun e he=>h e (List.mem_cons_of_mem _ he),Nat.testBit_two_pow]
  rw [Bool.eq_iff_iff]
  simp only [Bool.or_eq_true,decide_eq_true_eq,List.mem_cons]
  constructor
  ·rintro (q | q)
   ·left;omega
   ·exact .inr q
  ·rintro (q | q)
   ·left;omega
   ·exact .inr q
def loS (n:bG) (nd:Nat):List Int:=sortN n ((loI n.Edges nd).map fun i:Nat=>(i:Int))
theorem aKv {α:Type} [Inhabited α] {l:List α} {k:Nat} (h:k<l.length):l.getD k default∈l:=by rw [eR h];exact List.getElem_mem h
theorem aMs {n:bG} (h:NV n) {i:Nat} (hi:i<n.Edges.length):EV n.N (n.Edges.getD i default):=h.ev _ (aKv hi)
section
variable {n:bG} (h:NV n)
include h
theorem aKd (nd:Nat):aFj n ((loI n.Edges nd).map fun i:Nat=>(i:Int))=true:=by
 have hel:=h.el
 refine wL.2 ⟨fun e he=>?_,fun i hi=>?_,?_⟩
 ·have:=(h.ev e he).cp;omega
 ·obtain ⟨j,hj,rfl⟩:=List.mem_map.1 hi
  have:=List.mem_range.1 (List.mem_filter.1 hj).1
  omega
 ·rw [List.length_map]
  have:(loI n.Edges nd).length≤n.Edges.length:=Nat.le_trans (List.length_filter_le _ _) (by simp)
  omega
theorem aGD {nd:Nat} {i:Int} (hi:i∈loS n nd):∃ j:Nat,i=(j:Int)∧j<n.Edges.length∧loP n.Edges nd j=true:=by
 have:=((tA (aKd h nd)).1.mem_iff).1 hi
 obtain ⟨j,hj,rfl⟩:=List.mem_map.1 this
 obtain ⟨h1,h2⟩:=List.mem_filter.1 hj
 exact ⟨j,rfl,List.mem_range.1 h1,h2⟩
theorem aI7 {nd:Nat} {x:Int} (hx:x∈(loS n nd).map (jH n)):0≤x∧x≤10000:=by
 obtain ⟨i,hi,rfl⟩:=List.mem_map.1 hx
 obtain ⟨j,rfl,hj,_⟩:=aGD h hi
 have:=(aMs h hj).cp
 unfold jH;rw [Int.toNat_natCast];exact this
theorem aLO (f nd:Nat):fP 0 (((loS n nd).drop f).map (jH n))=fP f ((loI n.Edges nd).map (lcI n.Edges)):=by
 obtain ⟨h1,h2⟩:=tA (aKd h nd)
 have h3:((loS n nd).map (jH n)).Pairwise (fun x y=>y≤x):=by rw [List.pairwise_map];exact h2
 rw [List.map_drop,← vU f h3 fun x hx=>(aI7 h hx).1]
 have h4:=h1.map (jH n)
 rw [List.map_map] at h4
 exact vA h4 f
end
def aOm (n:bG) (s t nd:Nat):Prop:=nd<2 ^ n.N.toNat∧nd.testBit s=true∧nd.testBit t=false
def wV (n:bG) (f nd:Nat):Int:=fP f ((loI n.Edges nd).map (lcI n.Edges))
def aLS (F:Nat):Nat:=(List.range 32).countP F.testBit
theorem aEV {α:Type} {c:α→Int} {p:α→Bool}:∀ {l:List α} {k:Nat},(∀ x∈l,0≤c x)→l.countP p≤k→fP k (l.map c)≤fP 0 (l.map fun x=>if p x then 0 else c x)
 | [],k,_,_=>by simp [lT]
 | a::l,k,h,hk=>by
  have h':=fun x hx=>h x (List.mem_cons_of_mem a hx)
  have h0:=h a List.mem_cons_self
  rw [List.countP_cons] at hk
  rw [List.map_cons,List.map_cons,oE]
  cases hp:p a
  ·rw [hp] at hk
   have ih:=aEV (l:=l) (k:=k) h' (by simpa using hk)
   cases k with
   | zero=>rw [oE];simp only [Bool.false_eq_true,if_false];omega
   | succ k=>rw [nF];simp only [Bool.false_eq_true,if_false];omega
  ·rw [hp] at hk
   simp only [if_true] at hk ⊢
   cases k with
   | zero=>omega
   | succ k=>
    have ih:=aEV (p:=p) (l:=l) (k:=k) h' (by omega)
    rw [nF];omega
theorem aNm (l:List Int):aLS (loR l)≤l.length:=by
 have key:∀ (x:Nat) (y:Nat) (n:Nat),(List.range n).countP (2 ^ x|||y).testBit≤1+(List.range n).countP y.testBit:=fun x y n=>by
  have h1:∀ m,(List.range m).countP (2 ^ x|||y).testBit≤(List.range m).countP (fun i=>decide (i=x))+(List.range m).countP y.testBit:=fun m=>by
   induction m with
   | zero=>simp
   | succ m ih=>
    rw [List.range_succ,List.countP_append,List.countP_append,List.countP_append]
    simp only [List.countP_cons,List.countP_nil,Nat.testBit_or,Nat.testBit_two_pow]
    by_cases q:m=x
    ·subst q;simp;split<;>omega
    ·have:decide (x=m)=false:=by simp;omega
     rw [this]
     simp only [Bool.false_or,q]
     simp
     omega
  have h2:∀ m,(List.range m).countP (fun i=>decide (i=x))≤1:=fun m=>by
   have h3:∀ m,(List.range m).countP (fun i=>decide (i=x))=if x<m then 1 else 0:=fun m=>by
    induction m with
    | zero=>simp
    | succ m ih=>
     rw [List.range_succ,List.countP_append,ih]
     simp only [List.countP_cons,List.countP_nil]
     by_cases q:m=x
     ·subst q;simp
     ·simp only [q,decide_false,Bool.false_eq_true,if_false]
      by_cases q2:x<m
      ·rw [if_pos q2,if_pos (show x<m+1 by omega)]
      ·rw [if_neg q2,if_neg (show ¬ x<m+1 by omega)]
   rw [h3];split<;>omega
  have:=h1 n
  have:=h2 n
  omega
 induction l with
 | nil=>simp [loR,aLS,List.countP_eq_zero]
 | cons e l ih=>
  have:=key e.toNat (loR l) 32
  unfold aLS at *
  rw [loR,List.length_cons]
  omega
theorem aH7 {α:Type} (g:α→dE) (p:Nat→Bool):∀ L:List α,wY (L.map g) p=fP 0 ((L.filter fun i=>p (g i).From.toNat && !p (g i).To.toNat).map fun i=>(g i).Capacity)
 | []=>rfl
 | a::L=>by
  have ih:=aH7 g p L
  simp only [List.map_cons,wY,List.filter_cons]
  split
  ·rw [List.map_cons,oE,ih]
  ·rw [ih];omega
theorem aIT (n:bG) (F nd:Nat):wY (wo n F).Edges nd.testBit=fP 0 ((loI n.Edges nd).map fun i=>if F.testBit i then 0 else lcI n.Edges i):=by
 unfold wo
 simp only
 rw [aH7]
 have e1:((List.range n.Edges.length).filter fun i=>nd.testBit (if F.testBit i then (⟨(n.Edges.getD i default).From,(n.Edges.getD i default).To,0⟩:dE) else n.Edges.getD i default).From.toNat && !nd.testBit (if F.testBit i then (⟨(n.Edges.getD i default).From,(n.Edges.getD i default).To,0⟩:dE) else n.Edges.getD i default).To.toNat)=loI n.Edges nd:=by
  unfold loI
  refine List.filter_congr fun i _=>?_
  unfold loP
  split<;>rfl
 rw [e1]
 congr 1
 refine List.map_congr_left fun i _=>?_
 split<;>rfl
theorem aLo {es:List dE} (hl:es.length≤32) (F S:Nat):(loI es S).countP F.testBit≤aLS F:=by
 unfold loI aLS
 refine Nat.le_trans (List.filter_sublist.countP_le) ?_
 exact (List.range_sublist.2 hl).countP_le
theorem aQD {n:bG} (h:NV n) (hl:n.Edges.length≤32) {f F:Nat} (hF:aLS F≤f) (nd:Nat):wV n f nd≤wY (wo n F).Edges nd.testBit:=by
 rw [aIT]
 exact aEV (fun i hi=>(aMs h (List.mem_range.1 (List.mem_filter.1 hi).1)).cp.1) (Nat.le_trans (aLo hl F nd) hF)
theorem aHk {l:List Int} {k:Nat} (h:l.length≤k):aLS (loR l)≤k:=Nat.le_trans (aNm l) h
theorem aMM {n:bG} (h:NV n) (hl:n.Edges.length≤32) (f nd:Nat):wY (wo n (loR ((loS n nd).take f))).Edges nd.testBit=wV n f nd:=by
 refine Int.le_antisymm ?_ (aQD h hl (aHk (by rw [List.length_take];omega)) nd)
 rw [aIT]
 have hp:=(tA (aKd h nd)).1
 have hbit:∀ i:Nat,(i:Int)∈(loS n nd).take f→(loR ((loS n nd).take f)).testBit i=true:=fun i hi=>by
  rw [aN2 _ (fun e he=>by obtain ⟨j,rfl,_⟩:=aGD h (List.mem_of_mem_take he);omega)]
  simpa using hi
 unfold wV
 rw [← aLO h]
 generalize loR ((loS n nd).take f)=F at hbit
 have e1:fP 0 ((loI n.Edges nd).map fun i=>if F.testBit i then 0 else lcI n.Edges i)=fP 0 ((loS n nd).map fun i:Int=>if F.testBit i.toNat then 0 else jH n i):=by
  have:=hp.map (fun i:Int=>if F.testBit i.toNat then 0 else jH n i)
  rw [List.map_map] at this
  exact (vA this 0).symm
 rw [e1]
 have e2:fP 0 ((loS n nd).map fun i:Int=>if F.testBit i.toNat then 0 else jH n i)=fP 0 (((loS n nd).take f).map fun i:Int=>if F.testBit i.toNat then 0 else jH n i)+fP 0 (((loS n nd).drop f).map fun i:Int=>if F.testBit i.toNat then 0 else jH n i):=by
  rw [← vC,← List.map_append,List.take_append_drop]
 have e3:fP 0 (((loS n nd).take f).map fun i:Int=>if F.testBit i.toNat then 0 else jH n i)≤0:=by
  have:((loS n nd).take f).map (fun i:Int=>if F.testBit i.toNat then 0 else jH n i)=((loS n nd).take f).map fun _=>0:=List.map_congr_left fun i hi=>by
   obtain ⟨j,rfl,_⟩:=aGD h (List.mem_of_mem_take hi)
   rw [Int.toNat_natCast,hbit j hi];rfl
  rw [this]
  have:=yY (B:=0) (l:=((loS n nd).take f).map fun _=>(0:Int)) (fun x hx=>by obtain ⟨_,_,rfl⟩:=List.mem_map.1 hx;omega)
  omega
 have e4:fP 0 (((loS n nd).drop f).map fun i:Int=>if F.testBit i.toNat then 0 else jH n i)≤fP 0 (((loS n nd).drop f).map (jH n)):=uQ 0 fun i hi=>by
  have:=(aI7 h (List.mem_map.2 ⟨i,List.mem_of_mem_drop hi,rfl⟩)).1
  split<;>omega
 omega
structure aCS (n:bG) (s t f nd:Nat):Prop where
 good:aOm n s t nd
 le:∀ nd',aOm n s t nd'→wV n f nd≤wV n f nd'
theorem aQ5.good {n:bG} {F s t C:Nat} {v:Int} (h:aQ5 (wo n F) s t v C):aOm n s t C:=⟨h.lt,h.cs,h.ct⟩
theorem aCS.least {n:bG} {s t f nd:Nat} (w:aCS n s t f nd) (h:NV n) (hl:n.Edges.length≤32) {F:Nat} (hF:aLS F≤f) {nd':Nat} (g:aOm n s t nd'):wV n f nd≤wY (wo n F).Edges nd'.testBit:=
 Int.le_trans (w.le nd' g) (aQD h hl hF nd')
theorem aCS.low {n:bG} {s t f nd:Nat} (w:aCS n s t f nd) (h:NV n) (hl:n.Edges.length≤32) {F C:Nat} {v:Int} (hF:aLS F≤f) (hM:aQ5 (wo n F) s t v C):wV n f nd≤v:=by
 rw [hM.eq];exact w.least h hl hF hM.good
theorem aCS.eq {n:bG} {s t f nd:Nat} (w:aCS n s t f nd) (h:NV n) (hl:n.Edges.length≤32) {C:Nat} {v:Int} (hM:aQ5 (wo n (loR ((loS n nd).take f))) s t v C):v=wV n f nd:=by
 refine Int.le_antisymm ?_ (w.low h hl (aHk (by rw [List.length_take];omega)) hM)
 rw [← aMM h hl]
 exact hM.le _ w.good.2.1 w.good.2.2
namespace Pc
theorem rK {a b m n:Nat} (ha:a<256) (hm:m<256):(256 * b+a)&&&(256 * n+m)=256 * (b&&&n)+(a&&&m):=by
 have hlt:a&&&m<2 ^ 8:=Nat.lt_of_le_of_lt Nat.and_le_left ha
 refine Nat.eq_of_testBit_eq fun i=>?_
 rw [Nat.testBit_and,show (256:Nat)=2 ^ 8 from rfl,Nat.testBit_two_pow_mul_add b (show a<2 ^ 8 from ha),Nat.testBit_two_pow_mul_add n (show m<2 ^ 8 from hm),Nat.testBit_two_pow_mul_add _ hlt]
 split
 ·rw [Nat.testBit_and]
 ·rw [Nat.testBit_and]
def t1 (a:Nat):Nat:=((a / 2)&&&85)+(a&&&85)
def t2 (a:Nat):Nat:=((t1 a / 4)&&&51)+(t1 a&&&51)
def t3 (a:Nat):Nat:=(t2 a / 16+t2 a)&&&15
def aAU (a:Nat):Nat:=(List.range 8).countP a.testBit
theorem uO:∀ a:Fin 256,t1 a.val≤170∧t2 a.val≤68∧t2 a.val % 16≤4∧t3 a.val=aAU a.val:=by decide +kernel
theorem aML:∀ (a:Fin 256) (e:Fin 2),((a.val / 2+128 * e.val)&&&85)=((a.val / 2)&&&85):=by decide +kernel
theorem aNX:∀ (a:Fin 256) (e:Fin 4),((a.val / 4+64 * e.val)&&&51)=((a.val / 4)&&&51):=by decide +kernel
theorem st1 {a b n:Nat} (ha:a<256):(((256 * b+a) / 2)&&&(256 * n+85))+((256 * b+a)&&&(256 * n+85))=256 * (((b / 2)&&&n)+(b&&&n))+t1 a:=by
 have e:(256 * b+a) / 2=256 * (b / 2)+(a / 2+128 * (b % 2)):=by omega
 have:=aML ⟨a,ha⟩ ⟨b % 2,by omega⟩
 simp only at this
 rw [e,rK (by omega) (by omega),rK ha (by omega),this]
 unfold t1;omega
theorem st2 {a b n:Nat} (ha:a<256):(((256 * b+t1 a) / 4)&&&(256 * n+51))+((256 * b+t1 a)&&&(256 * n+51))=256 * (((b / 4)&&&n)+(b&&&n))+t2 a:=by
 have h1:=(uO ⟨a,ha⟩).1
 simp only at h1
 have e:(256 * b+t1 a) / 4=256 * (b / 4)+(t1 a / 4+64 * (b % 4)):=by omega
 have:=aNX ⟨t1 a,by omega⟩ ⟨b % 4,by omega⟩
 simp only at this
 rw [e,rK (by omega) (by omega),rK (by omega) (by omega),this]
 unfold t2;omega
theorem z2 {d n:Nat} (hd:d<256):((t1 d / 4)&&&(256 * n+51))+(t1 d&&&(256 * n+51))=t2 d:=by
 have:=st2 (a:=d) (b:=0) (n:=n) hd
 simpa using this
theorem q2 {a b c d:Nat} (ha:a<256) (hb:b<256) (hc:c<256) (hd:d<256):((256 * (256 * (256 * t1 d+t1 c)+t1 b)+t1 a) / 4&&&3689348814741910323)+((256 * (256 * (256 * t1 d+t1 c)+t1 b)+t1 a)&&&3689348814741910323)=256 * (256 * (256 * t2 d+t2 c)+t2 b)+t2 a:=by
 rw [show 3689348814741910323=256 * (256 * (256 * (256 * 858993459+51)+51)+51)+51 from rfl,st2 ha,st2 hb,st2 hc,z2 hd]
end Pc
instance (n:bG) (s t c:Nat):Decidable (aOm n s t c):=by unfold aOm;infer_instance
def sp (l:List Int) (i:Nat):Int:=l.getD i default
theorem aMA {l:List Int} {i:Nat} (h:l.length≤i):sp l i=0:=by
 unfold sp;rw [List.getD_eq_getElem?_getD,List.getElem?_eq_none h];rfl
theorem aKC {f:Nat→Int} {n:Nat}:∀ {m:Nat},n≤m→(∀ i,n≤i→i<m→f i=0)→sm m f=sm n f
 | 0, h, _ => by have : n = 0 := by omega
                 subst this;rfl
 | m+1,h,hz=>by
  by_cases q:n=m+1
  ·subst q;rfl
  ·have ih:=aKC (f:=f) (n:=n) (m:=m) (by omega) fun i h1 h2=>hz i h1 (by omega)
   have:=hz m (by omega) (by omega)
   show sm m f+f m=sm n f
   omega
theorem aGn {f:Nat→Int} {B:Int}:∀ {k:Nat},(∀ i,i<k → -B≤f i∧f i≤B) → -(k * B)≤sm k f∧sm k f≤k * B
 | 0,_=>by simp [sm]
 | k+1,h=>by
  have h1:=aGn (f:=f) (B:=B) (k:=k) fun i hi=>h i (by omega)
  have h2:=h k (by omega)
  have e:((k+1:Nat):Int) * B=k * B+B:=by rw [Int.natCast_add,Int.add_mul];simp
  show -(((k+1:Nat):Int) * B)≤sm k f+f k∧sm k f+f k≤((k+1:Nat):Int) * B
  omega
structure aIH (n:bG) (l:List Int):Prop where
 v:NV n
 ll:(l.length:Int)=n.N
 lv:∀ i,i<l.length → -100000≤sp l i∧sp l i≤100000
 z:sm l.length (sp l)=0
instance (n:bG) (l:List Int):Decidable (aIH n l):=decidable_of_iff (NV n∧(l.length:Int)=n.N∧(∀ i,i<l.length → -100000≤sp l i∧sp l i≤100000)∧sm l.length (sp l)=0) ⟨fun h=>⟨h.1,h.2.1,h.2.2.1,h.2.2.2⟩,fun h=>⟨h.v,h.ll,h.lv,h.z⟩⟩
theorem aGo (n:bG) (l:List Int):gT n l=some (decide (aIH n l)):=by
 unfold gT
 simp only [iK,valid_iff,bL]
 by_cases h0:NV n
 ·rw [decide_eq_true h0,Bool.not_true,dN]
  by_cases h1:(l.length:Int)=n.N
  ·have hn:=h0.nn
   rw [show ((l.length:Int) != n.N)=false by rw [h1];simp,dN]
   obtain ⟨o,e,ho⟩:=mJ (body:=gA l) (fun z:Int×Int=>∃ k:Nat,z.2=(k:Int)∧k≤l.length∧(∀ i,i<k → -100000≤sp l i∧sp l i≤100000)∧z.1=sm k (sp l)) (fun z=>((l.length:Int)-z.2).toNat)
    (fun o=>match o with
     | .inl z=>(∀ i,i<l.length → -100000≤sp l i∧sp l i≤100000)∧z.1=sm l.length (sp l)
     | .inr r=>r=false∧¬ ∀ i,i<l.length → -100000≤sp l i∧sp l i≤100000) (fun z hz=>by
     obtain ⟨g,i⟩:=z
     obtain ⟨k,rfl,hk,hr,rfl⟩:=hz
     unfold gA
     simp only [aZ]
     by_cases hlt:(k:Int)<(l.length:Int)
     ·rw [if_pos hlt,lB (by omega),aGL,bL,iD,zE]
      have hb:=aGn (f:=sp l) (B:=100000) (k:=k) hr
      by_cases hin : -100000≤sp l k∧sp l k≤100000
      ·rw [if_pos (by simp only [Bool.and_eq_true,decide_eq_true_eq];exact hin)]
       have hsp:l.getD k default=sp l k:=rfl
       rw [hsp,bT (x:=sm k (sp l)+sp l k) (by omega) (by omega),bT (x:=(k:Int)+1) (by omega) (by omega)]
       refine .inl ⟨_,rfl,⟨k+1,by simp only;omega,by omega,fun i hi=>?_,rfl⟩,by simp only;omega⟩
       by_cases c:i=k
       ·subst c;exact hin
       ·exact hr i (by omega)
      ·rw [if_neg (by simp only [Bool.and_eq_true,decide_eq_true_eq];exact hin)]
       exact .inr (.inr ⟨_,rfl,rfl,fun q=>hin (q k (by omega))⟩)
     ·rw [if_neg hlt]
      have hke:k=l.length:=by omega
      subst hke
      exact .inr (.inl ⟨_,rfl,hr,rfl⟩))
    (0,0) ⟨0,rfl,by omega,fun i hi=>by omega,rfl⟩ (by simp only;omega)
   rw [e,bL]
   match o,ho with
   | .inl z,⟨g1,g2⟩=>
    rw [eJ,g2]
    congr 1
    rw [Bool.eq_iff_iff]
    simp only [beq_iff_eq,decide_eq_true_eq]
    exact ⟨fun q=>⟨h0,h1,g1,q⟩,fun q=>q.z⟩
   | .inr r,⟨hr,g2⟩=>
    subst hr
    rw [tT,decide_eq_false fun q:aIH n l=>g2 q.lv]
  ·rw [show ((l.length:Int) != n.N)=true by simp [h1],eE,decide_eq_false fun q:aIH n l=>h1 q.ll]
 ·rw [decide_eq_false h0,Bool.not_false,eE,eE,decide_eq_false fun q:aIH n l=>h0 q.v]
def aMi (l:List Int) (S:Nat→Bool):Int:=sm 14 fun a=>if S a then sp l a else 0
structure aLd (n:bG) (l A:List Int):Prop where
 ok:okA n.Edges A
 eq:∀ v,v<n.N.toNat→aCe n.Edges A v=sp l v
theorem aSw {a b:List Int} (hl:a.length≤100000):iC a b=some (decide (a=b)):=by
 unfold iC
 rw [fR]
 by_cases h:(a.length:Int)=(b.length:Int)
 ·rw [if_pos h]
  obtain ⟨o,e,ho⟩:=mJ (body:=jC a b) (fun i:Int=>∃ k:Nat,i=(k:Int)∧k≤a.length∧∀ j,j<k→a.getD j default=b.getD j default) (fun i=>((a.length:Int)-i).toNat)
   (fun o=>match o with
    | .inl _=>∀ j,j<a.length→a.getD j default=b.getD j default
    | .inr r=>r=false∧a≠b) (fun i hi=>by
    obtain ⟨k,rfl,hk,hj⟩:=hi
    unfold jC
    simp only [aZ]
    by_cases hlt:(k:Int)<(a.length:Int)
    ·rw [if_pos hlt,lB (by omega),lB (by omega),fR]
     by_cases q:a.getD k default=b.getD k default
     ·rw [if_pos q,bT (by omega) (by omega)]
      refine .inl ⟨_,rfl,⟨k+1,by omega,by omega,fun j hj2=>?_⟩,by omega⟩
      by_cases c:j=k
      ·subst c;exact q
      ·exact hj j (by omega)
     ·rw [if_neg q]
      exact .inr (.inr ⟨_,rfl,rfl,fun e=>q (by rw [e])⟩)
    ·rw [if_neg hlt]
     exact .inr (.inl ⟨_,rfl,fun j hj2=>hj j (by omega)⟩))
   0 ⟨0,rfl,by omega,fun j hj=>by omega⟩ (by omega)
  rw [e,bL]
  match o,ho with
  | .inl _,ho=>
   rw [eJ,decide_eq_true]
   refine List.ext_getElem (by omega) fun j h1 h2=>?_
   have:=ho j h1
   rwa [eR h1,eR h2] at this
  | .inr r,⟨hr,g⟩=>
   subst hr
   rw [tT,decide_eq_false g]
 ·rw [if_neg h,decide_eq_false fun e=>h (by rw [e])]
def aAo (n:bG) (l:List Int) (u:lG):Prop:=aIH n l∧(if u.Met=true then aLd n l u.Amounts∧u.Set=0 else u.Amounts=[]∧0≤u.Set∧u.Set<2 ^ n.N.toNat∧aMi l u.Set.toNat.testBit>wY n.Edges u.Set.toNat.testBit)
theorem xD {b:Bool} {P:Prop} (h:b=true↔P):∃ c,(some b:Option Bool)=some c∧(c=true↔P):=⟨b,rfl,h⟩
theorem aDC (n:bG) (l:List Int) (u:lG) (hA:u.Amounts.length≤100000):∃ c,cV n l u=some c∧(c=true↔aAo n l u):=by
 obtain ⟨met,A,S⟩:=u
 unfold cV
 rw [aGo,bL]
 by_cases h:aIH n l
 ·have hn:=h.v.nn;have hll:=h.ll
  rw [decide_eq_true h,Bool.not_true,dN]
  simp only [iK]
  cases met with
  | true=>
   rw [eE]
   obtain ⟨G,eG,hG⟩:=aK3 h.v A
   rw [eG,bL]
   by_cases hok:okA n.Edges A
   ·obtain ⟨g1,g2⟩:=hG hok
    rw [if_pos hok]
    simp only [eE]
    have hiff:G=l↔aLd n l A:=by
     constructor
     ·rintro rfl
      exact ⟨hok,fun v hv=>(g2 v hv).symm⟩
     ·intro q
      refine List.ext_getElem (by omega) fun j h1 h2=>?_
      have e1:=g2 j (by omega)
      have e2:=q.eq j (by omega)
      unfold sp at e2
      rw [eR h1] at e1
      rw [eR h2] at e2
      omega
    rw [iL]
    by_cases q:S=0
    ·rw [if_pos q,aSw (by omega),bL]
     refine xD ?_
     rw [decide_eq_true_iff,hiff]
     unfold aAo
     simp only [if_true]
     exact ⟨fun z=>⟨h,z,q⟩,fun z=>z.2.1⟩
    ·rw [if_neg q]
     refine xD ⟨fun z=>(Bool.false_ne_true z).elim,fun z=>?_⟩
     unfold aAo at z
     simp only [if_true] at z
     exact absurd z.2.2 q
   ·rw [if_neg hok]
    simp only [dN]
    refine xD ⟨fun z=>(Bool.false_ne_true z).elim,fun z=>?_⟩
    unfold aAo at z
    simp only [if_true] at z
    exact absurd z.2.1.ok hok
  | false=>
   have hp0:=two_pow_pos n.N.toNat
   have hp1:(2:Int) ^ n.N.toNat≤2 ^ 12:=qX (by omega)
   have hsh:aAw .i64 1 n.N=2 ^ n.N.toNat:=by
    conv=>lhs;rw [show n.N=((n.N.toNat:Nat):Int) by omega]
    exact kI (by omega)
   have hno:∀ P:Prop,¬ P→(aAo n l ⟨false,A,S⟩→P)→∃ c,(some false:Option Bool)=some c∧(c=true↔aAo n l ⟨false,A,S⟩):=fun P hP hz=>
    xD ⟨fun z=>(Bool.false_ne_true z).elim,fun z=>absurd (hz z) hP⟩
   have hM:aAo n l ⟨false,A,S⟩↔A=[]∧0≤S∧S<2 ^ n.N.toNat∧aMi l S.toNat.testBit>wY n.Edges S.toNat.testBit:=by
    unfold aAo
    simp only [Bool.false_eq_true,if_false]
    exact ⟨fun z=>z.2,fun z=>⟨h,z⟩⟩
   rw [dN,aZ]
   by_cases c1:(A.length:Int)>0
   ·rw [if_pos c1,eE]
    exact hno (A=[]) (fun e=>by rw [e] at c1;simp at c1) fun z=>(hM.1 z).1
   ·rw [if_neg c1,kN _ hn.1,hsh,bT (by omega) (by omega),aGL,bL,iD,zE]
    have hA0:A=[]:=List.length_eq_zero_iff.1 (by omega)
    by_cases c2:0≤S∧S≤2 ^ n.N.toNat-1
    ·rw [if_pos (by simp only [Bool.and_eq_true,decide_eq_true_eq];exact c2)]
     obtain ⟨T,rfl⟩:∃ T:Nat,S=(T:Int):=⟨_,(Int.toNat_of_nonneg c2.1).symm⟩
     have hsp:∀ i,i<l.length → -100000≤(if T.testBit i then sp l i else 0)∧(if T.testBit i then sp l i else 0)≤100000:=fun i hi=>by
      have:=h.lv i hi;split<;>omega
     obtain ⟨s,e,h1,h2⟩:=dD (body:=eU l ⟨false,A,(T:Int)⟩) (fun k s=>s.2=(k:Int)∧s.1=sm k fun i=>if T.testBit i then sp l i else 0) l.length (by omega) (fun k s hk hs=>by
      obtain ⟨g,i⟩:=s
      obtain ⟨rfl,rfl⟩:=hs
      have hb:=aGn (B:=100000) (k:=k) fun i hi=>hsp i (by omega)
      have hv:=h.lv k hk
      have hspk:l.getD k default=sp l k:=rfl
      unfold eU
      simp only [aZ,iK]
      rw [if_pos (by omega),lB hk,hspk,kN _ (by omega),aIQ (by omega) (by omega) (by omega),Int.toNat_natCast,bT (x:=(k:Int)+1) (by omega) (by omega),bT (x:=_+sp l k) (by omega) (by omega)]
      cases hbit:T.testBit k
      ·rw [dN]
       exact ⟨_,rfl,by simp only;omega,by show (sm k fun i=>if T.testBit i then sp l i else 0)=sm k (fun i=>if T.testBit i then sp l i else 0)+(if T.testBit k then sp l k else 0);rw [hbit];simp⟩
      ·rw [eE]
       exact ⟨_,rfl,by simp only;omega,by show (sm k fun i=>if T.testBit i then sp l i else 0)+sp l k=sm k (fun i=>if T.testBit i then sp l i else 0)+(if T.testBit k then sp l k else 0);rw [hbit];simp⟩) (fun s hs=>by
      obtain ⟨h1,_⟩:=hs
      unfold eU
      simp only [aZ]
      rw [if_neg (by omega)]) (0,0) ⟨rfl,rfl⟩
     have hsum:s.1=aMi l T.testBit:=by
      rw [h2]
      unfold aMi
      exact (aKC (n:=l.length) (m:=14) (by omega) fun i q _=>by rw [aMA q];split<;>rfl).symm
     rw [e,bL,eJ,aF7 h.v (by omega),bL,hsum]
     refine xD ?_
     rw [decide_eq_true_iff,hM,Int.toNat_natCast]
     exact ⟨fun z=>⟨hA0,c2.1,by omega,z⟩,fun z=>z.2.2.2⟩
    ·rw [if_neg (by simp only [Bool.and_eq_true,decide_eq_true_eq];exact c2)]
     exact hno _ c2 fun z=>by have:=hM.1 z;omega
 ·rw [decide_eq_false h,Bool.not_false,eE]
  exact xD ⟨fun z=>(Bool.false_ne_true z).elim,fun z=>absurd z.1 h⟩
theorem aGH (a b c:Int):jA a b c=some (decide (b≤a)&&decide (a≤c)):=by
 unfold jA
 simp only [iK,aZ]
 by_cases h:a≥b
 ·rw [if_pos h];simp [show b≤a from h]
 ·rw [if_neg h];simp [show ¬ b≤a from h]
theorem refValid (n:bG):kD n=some (decide (NV n)):=by
 unfold kD
 simp only [iK,aGH,bL,iD]
 simp only [zE,Bool.and_eq_true,decide_eq_true_eq]
 by_cases h0:0≤n.N∧n.N≤12
 ·rw [if_pos h0]
  by_cases h1:(n.Edges.length:Int)>40
  ·rw [if_pos h1,decide_eq_false fun h:NV n=>by have:=h.el;omega]
  ·rw [if_neg h1]
   obtain ⟨o,e,ho⟩:=mJ (body:=oP n) (fun i:Int=>∃ k:Nat,i=(k:Int)∧k≤n.Edges.length∧∀ j,j<k→EV n.N (n.Edges.getD j default)) (fun i=>((n.Edges.length:Int)-i).toNat)
    (fun o=>match o with
     | .inl _=>NV n
     | .inr r=>r=false∧¬ NV n) (fun i hi=>by
     obtain ⟨k,rfl,hk,hj⟩:=hi
     unfold oP
     simp only [aZ,iK]
     by_cases hlt:(k:Int)<(n.Edges.length:Int)
     ·have hk2:k<n.Edges.length:=by omega
      rw [if_pos hlt,lB hk2]
      have hmem:n.Edges.getD k default∈n.Edges:=by rw [eR hk2];exact List.getElem_mem hk2
      generalize he:n.Edges.getD k default=ed at hmem
      simp only [aGH,bL,iD]
      simp only [zE,Bool.and_eq_true,decide_eq_true_eq,beq_iff_eq]
      rw [bT (x:=n.N-1) (by omega) (by omega)]
      have good:EV n.N ed→(∃ s',(some (Ct.nx (wr ((k:Int)+1))):Option (Ct Int Bool))=some (.nx s')∧(∃ m:Nat,s'=(m:Int)∧m≤n.Edges.length∧∀ j,j<m→EV n.N (n.Edges.getD j default))∧((n.Edges.length:Int)-s').toNat<((n.Edges.length:Int)-(k:Int)).toNat):=fun hev=>by
       rw [bT (by omega) (by omega)]
       refine ⟨_,rfl,⟨k+1,by omega,by omega,fun j hj2=>?_⟩,by omega⟩
       by_cases c:j=k
       ·subst c;rw [he];exact hev
       ·exact hj j (by omega)
      have bad:¬ EV n.N ed→∃ r,(some (Ct.rt false):Option (Ct Int Bool))=some (.rt r)∧r=false∧¬ NV n:=fun hev=>⟨_,rfl,rfl,fun q=>hev (q.ev ed hmem)⟩
      by_cases c1:0≤ed.From∧ed.From≤n.N-1
      ·rw [if_pos c1]
       by_cases c2:0≤ed.To∧ed.To≤n.N-1
       ·rw [if_pos c2]
        by_cases c3:ed.From=ed.To
        ·rw [if_pos c3]
         exact .inr (.inr (bad fun q=>q.ne c3))
        ·rw [if_neg c3]
         by_cases c4:0≤ed.Capacity∧ed.Capacity≤10000
         ·rw [if_pos c4]
          exact .inl (good ⟨by omega,by omega,c3,c4⟩)
         ·rw [if_neg c4]
          exact .inr (.inr (bad fun q=>c4 q.cp))
       ·rw [if_neg c2]
        exact .inr (.inr (bad fun q=>by have:=q.to;omega))
      ·rw [if_neg c1]
       exact .inr (.inr (bad fun q=>by have:=q.fr;omega))
     ·rw [if_neg hlt]
      refine .inr (.inl ⟨_,rfl,h0,by omega,fun e he=>?_⟩)
      obtain ⟨j,hj2,rfl⟩:=List.getElem_of_mem he
      have:=hj j (by omega)
      rwa [eR hj2] at this)
    0 ⟨0,rfl,by omega,fun j hj=>by omega⟩ (by omega)
   rw [e,bL]
   match o,ho with
   | .inl _,ho=>rw [eJ,decide_eq_true ho]
   | .inr r,⟨hr,ho⟩=>subst hr;rw [tT,decide_eq_false ho]
 ·rw [if_neg h0]
  simp only [if_true]
  rw [decide_eq_false fun h:NV n=>h0 h.nn]
theorem aIG {n:bG} (h:NV n) (l:List Int):kZ n l=some (decide (okA n.Edges l)):=by
 have hel:=h.el
 unfold kZ
 rw [fR]
 by_cases hlen:(l.length:Int)=(n.Edges.length:Int)
 ·rw [if_pos hlen]
  obtain ⟨o,e,ho⟩:=mJ (body:=lV n l) (fun i:Int=>∃ k:Nat,i=(k:Int)∧k≤n.Edges.length∧∀ j,j<k→0≤l.getD j 0∧l.getD j 0≤(n.Edges.getD j default).Capacity) (fun i=>((n.Edges.length:Int)-i).toNat)
   (fun o=>match o with
    | .inl _=>okA n.Edges l
    | .inr r=>r=false∧¬ okA n.Edges l) (fun i hi=>by
    obtain ⟨k,rfl,hk,hj⟩:=hi
    unfold lV
    simp only [aZ]
    by_cases hlt:(k:Int)<(l.length:Int)
    ·rw [if_pos hlt,lB (by omega),lB (by omega),aGH,bL,iD,zE]
     have hgd:l.getD k default=l.getD k 0:=rfl
     by_cases c:0≤l.getD k 0∧l.getD k 0≤(n.Edges.getD k default).Capacity
     ·rw [if_pos (by rw [hgd];simp only [Bool.and_eq_true,decide_eq_true_eq];exact c),bT (by omega) (by omega)]
      refine .inl ⟨_,rfl,⟨k+1,by omega,by omega,fun j hj2=>?_⟩,by omega⟩
      by_cases q:j=k
      ·subst q;exact c
      ·exact hj j (by omega)
     ·rw [if_neg (by rw [hgd];simp only [Bool.and_eq_true,decide_eq_true_eq];exact c)]
      exact .inr (.inr ⟨_,rfl,rfl,fun q=>c (q.2 k (by omega))⟩)
    ·rw [if_neg hlt]
     exact .inr (.inl ⟨_,rfl,by omega,fun j hj2=>hj j (by omega)⟩))
   0 ⟨0,rfl,by omega,fun j hj=>by omega⟩ (by omega)
  rw [e,bL]
  match o,ho with
  | .inl _,ho=>rw [eJ,decide_eq_true ho]
  | .inr r,⟨hr,ho⟩=>subst hr;rw [tT,decide_eq_false ho]
 ·rw [if_neg hlen,decide_eq_false fun q:okA n.Edges l=>by have:=q.1;omega]
theorem aL3 {n:bG} (h:NV n) {l:List Int} (hok:okA n.Edges l) (v:Nat):nS n l (v:Int)=some (aCe n.Edges l v):=by
 have hel:=h.el
 have hlen:=hok.1
 obtain ⟨s',e,h1,h2⟩:=dD (body:=mI n l (v:Int)) (fun k z=>z.2=(k:Int)∧z.1=aCe (n.Edges.take k) (l.take k) v) n.Edges.length (by omega) (fun k z hk hz=>by
  obtain ⟨g,i⟩:=z
  obtain ⟨rfl,rfl⟩:=hz
  have hx:=hok.2 k hk
  have hcp:=(h.ev (n.Edges.getD k default) (by rw [eR hk];exact List.getElem_mem hk)).cp
  have hbd:=aGO (N:=n.N) (fun e he=>h.ev e (List.mem_of_mem_take he)) (aHp hlen (Nat.le_of_lt hk) fun i hi=>hok.2 i (by omega)) v
  have hlt40:(((n.Edges.take k).length:Nat):Int)≤40:=by rw [List.length_take];omega
  have htake:n.Edges.take (k+1)=n.Edges.take k++[n.Edges.getD k default]:=by rw [List.take_succ_eq_append_getElem hk,eR hk]
  have htakeL:l.take (k+1)=l.take k++[l.getD k default]:=by rw [List.take_succ_eq_append_getElem (by omega),eR (by omega)]
  have hgd:l.getD k default=l.getD k 0:=rfl
  have hg:=aEv (n.Edges.take k) (l.take k) (by simp only [List.length_take];omega) (n.Edges.getD k default) (l.getD k default) v
  rw [← htake,← htakeL] at hg
  unfold mI
  simp only [aZ,iK]
  rw [if_pos (by omega),lB hk]
  simp only [lB hk,lB (show k<l.length by omega),iL]
  rw [bT (x:=(k:Int)+1) (by omega) (by omega)]
  generalize aCe (n.Edges.take k) (l.take k) v=G at *
  rw [hgd] at hg ⊢
  generalize l.getD k 0=x at *
  by_cases c1:(n.Edges.getD k default).From=(v:Int)
  ·rw [if_pos c1] at hg ⊢
   by_cases c2:(n.Edges.getD k default).To=(v:Int)
   ·rw [if_pos c2] at hg ⊢
    rw [bT (x:=G+x) (by omega) (by omega),bT (x:=G+x-x) (by omega) (by omega)]
    exact ⟨_,rfl,by simp only;omega,by simp only;rw [hg];omega⟩
   ·rw [if_neg c2] at hg ⊢
    rw [bT (x:=G+x) (by omega) (by omega)]
    exact ⟨_,rfl,by simp only;omega,by simp only;rw [hg];omega⟩
  ·rw [if_neg c1] at hg ⊢
   by_cases c2:(n.Edges.getD k default).To=(v:Int)
   ·rw [if_pos c2] at hg ⊢
    rw [bT (x:=G-x) (by omega) (by omega)]
    exact ⟨_,rfl,by simp only;omega,by simp only;rw [hg];omega⟩
   ·rw [if_neg c2] at hg ⊢
    exact ⟨_,rfl,by simp only;omega,by simp only;rw [hg];omega⟩) (fun z hz=>by
  obtain ⟨g,i⟩:=z
  obtain ⟨rfl,_⟩:=hz
  unfold mI
  simp only [aZ]
  rw [if_neg (by omega)]) (0,0) ⟨rfl,rfl⟩
 unfold nS
 rw [e,bL,eJ,h2,List.take_length,← hlen,List.take_length]
theorem aLP (a i:Nat):((a >>> i) % 2==1)=a.testBit i:=by
 rw [Nat.testBit_eq_decide_div_mod_eq,Nat.shiftRight_eq_div_pow]
 rfl
theorem aIe {a i:Nat} (hi:i≤60):lO (a:Int) (i:Int)=some (a.testBit i):=by
 unfold lO
 rw [kN _ (by omega),aBc (by omega) hi,Int.toNat_natCast,Int.tmod_eq_emod_of_nonneg (Int.natCast_nonneg _),show (2:Int)=((2:Nat):Int) from rfl,← Int.natCast_emod,← aLP]
 refine congrArg some ?_
 rw [Bool.eq_iff_iff];simp only [beq_iff_eq];omega
theorem aKg {n:bG} (h:NV n) (S:Nat):mH n (S:Int)=some (wY n.Edges S.testBit):=by
 have hel:=h.el;have hn:=h.nn
 obtain ⟨s',e,h1,h2⟩:=dD (body:=lC n (S:Int)) (fun k z=>z.2=(k:Int)∧z.1=wY (n.Edges.take k) S.testBit) n.Edges.length (by omega) (fun k z hk hz=>by
  obtain ⟨g,i⟩:=z
  obtain ⟨rfl,rfl⟩:=hz
  have hev:=h.ev (n.Edges.getD k default) (by rw [eR hk];exact List.getElem_mem hk)
  have hfr:=hev.fr;have hto:=hev.to;have hcp:=hev.cp
  have htake:n.Edges.take (k+1)=n.Edges.take k++[n.Edges.getD k default]:=by rw [List.take_succ_eq_append_getElem hk,eR hk]
  have c1:=aGU (E:=n.Edges.take k) (fun e he=>(h.ev e (List.mem_of_mem_take he)).cp.1) S.testBit
  have c2:=aGV (E:=n.Edges.take k) (B:=10000) (by omega) (fun e he=>(h.ev e (List.mem_of_mem_take he)).cp.2) S.testBit
  have c3:(n.Edges.take k).length≤40:=by rw [List.length_take];omega
  obtain ⟨a,ha⟩:∃ a:Nat,(n.Edges.getD k default).From=(a:Int):=⟨_,(Int.toNat_of_nonneg hfr.1).symm⟩
  obtain ⟨b,hb⟩:∃ b:Nat,(n.Edges.getD k default).To=(b:Int):=⟨_,(Int.toNat_of_nonneg hto.1).symm⟩
  have hnew:wY (n.Edges.take (k+1)) S.testBit=wY (n.Edges.take k) S.testBit+if (S.testBit a && !S.testBit b)=true then (n.Edges.getD k default).Capacity else 0:=by
   rw [htake,aBg]
   simp only [wY]
   rw [ha,hb]
   simp
  unfold lC
  simp only [aZ,iK]
  rw [if_pos (by omega),lB hk]
  simp only [lB hk]
  rw [ha,hb,aIe (by omega),bL,aIe (by omega),bL,bT (x:=(k:Int)+1) (by omega) (by omega),bT (x:=wY (n.Edges.take k) S.testBit+(n.Edges.getD k default).Capacity) (by omega) (by omega)]
  cases x1:S.testBit a with
  | false=>
   rw [x1] at hnew
   rw [dN,dN]
   exact ⟨_,rfl,by simp only;omega,by simp only;rw [hnew];simp⟩
  | true=>
   rw [eE]
   cases x2:S.testBit b with
   | false=>
    rw [x1,x2] at hnew
    simp only [Bool.not_false,eE]
    exact ⟨_,rfl,by simp only;omega,by simp only;rw [hnew];simp⟩
   | true=>
    rw [x1,x2] at hnew
    simp only [Bool.not_true,dN]
    exact ⟨_,rfl,by simp only;omega,by simp only;rw [hnew];simp⟩) (fun z hz=>by
  obtain ⟨g,i⟩:=z
  obtain ⟨rfl,_⟩:=hz
  unfold lC
  simp only [aZ]
  rw [if_neg (by omega)]) (0,0) ⟨rfl,rfl⟩
 unfold mH
 rw [e,bL,eJ,h2,List.take_length]
theorem aRA {n:bG} (h:NV n):aAw .i64 1 n.N=2 ^ n.N.toNat:=by
 have hN:=h.nn
 conv=>lhs;rw [show n.N=((n.N.toNat:Nat):Int) by omega]
 exact kI (by omega)
theorem Without_no {n:bG} {F:Int} (h:¬ (NV n∧0≤F∧F<2 ^ n.Edges.length)):dB n F=some (⟨0,[]⟩,270):=by
 unfold dB
 simp only [iK,valid_iff,bL]
 by_cases h0:NV n
 ·have hel:=h0.el
  have hp:(2:Int) ^ n.Edges.length≤2 ^ 40:=qX hel
  have hp0:=two_pow_pos n.Edges.length
  rw [decide_eq_true h0,Bool.not_true,dN,kN _ (by omega),kI (by omega),bT (by omega) (by omega),aGL,bL,iD,zE,if_neg]
  simp only [Bool.and_eq_true,decide_eq_true_eq]
  intro q
  exact h ⟨h0,q.1,by omega⟩
 ·rw [decide_eq_false h0,Bool.not_false,eE,eE]
theorem refWithout (n:bG) (F:Int):gR n F=dB n F:=by
 by_cases h:NV n∧0≤F∧F<2 ^ n.Edges.length
 ·obtain ⟨h0,h1,h2⟩:=h
  have hel:=h0.el
  have hp:(2:Int) ^ n.Edges.length≤2 ^ 40:=qX hel
  have hp0:=two_pow_pos n.Edges.length
  obtain ⟨G,rfl⟩:∃ G:Nat,F=(G:Int):=⟨_,(Int.toNat_of_nonneg h1).symm⟩
  rw [Without_ok h0 h2]
  unfold gR
  simp only [iK,refValid,bL]
  rw [decide_eq_true h0,Bool.not_true,dN,kN _ (by omega),kI (by omega),bT (by omega) (by omega),aGH,bL,decide_eq_true h1,decide_eq_true (show (G:Int)≤2 ^ n.Edges.length-1 by omega)]
  simp only [Bool.and_self,Bool.not_true,dN]
  obtain ⟨s',e,g1,g2⟩:=dD (body:=jR n (G:Int)) (fun k z=>z.1=(k:Int)∧z.2=⟨n.N,(List.range k).map fun i=>if G.testBit i then ⟨(n.Edges.getD i default).From,(n.Edges.getD i default).To,0⟩ else n.Edges.getD i default⟩) n.Edges.length (by omega) (fun k z hk hz=>by
   obtain ⟨i,m⟩:=z
   obtain ⟨rfl,rfl⟩:=hz
   unfold jR
   simp only [aZ,iK,wZ]
   rw [if_pos (by omega),lB hk,aIe (by omega),bL,aCu (by simp;omega),aCu (by simp;omega),bT (by omega) (by omega)]
   cases hb:G.testBit k with
   | false=>
    rw [dN]
    exact ⟨_,rfl,by simp only;omega,by simp [List.range_succ,hb]⟩
   | true=>
    rw [eE]
    exact ⟨_,rfl,by simp only;omega,by simp [List.range_succ,hb]⟩) (fun z hz=>by
   obtain ⟨i,m⟩:=z
   obtain ⟨rfl,_⟩:=hz
   unfold jR
   simp only [aZ]
   rw [if_neg (by omega)]) (0,⟨n.N,[]⟩) ⟨rfl,rfl⟩
  rw [e,bL,eJ,g2]
  rfl
 ·rw [Without_no h]
  unfold gR
  simp only [iK,refValid,bL]
  by_cases h0:NV n
  ·have hel:=h0.el
   have hp:(2:Int) ^ n.Edges.length≤2 ^ 40:=qX hel
   have hp0:=two_pow_pos n.Edges.length
   rw [decide_eq_true h0,Bool.not_true,dN,kN _ (by omega),kI (by omega),bT (by omega) (by omega),aGH,bL,iD,zE,if_neg]
   simp only [Bool.and_eq_true,decide_eq_true_eq]
   intro q
   exact h ⟨h0,q.1,by omega⟩
  ·rw [decide_eq_false h0,Bool.not_false,eE,eE]
theorem refSame (n:bG) (hl:n.Edges.length≤100000):pG n n=some true:=by
 unfold pG
 simp only [iK,bne_self_eq_false,dN]
 obtain ⟨s',e,-⟩:=dD (body:=nT n n) (fun k z=>z=(k:Int)) n.Edges.length (by omega) (fun k z hk hz=>by
  subst hz
  unfold nT
  simp only [aZ]
  rw [if_pos (by omega),lB hk,lB hk,bT (by omega) (by omega)]
  simp only [BEq.rfl,Bool.and_self,Bool.not_true,dN]
  exact ⟨_,rfl,by omega⟩) (fun z hz=>by
  subst hz
  unfold nT
  simp only [aZ]
  rw [if_neg (by omega)]) 0 rfl
 rw [e,bL,eJ]
theorem aHa (n:bG) (l:List Int):jV n l=some (decide (aIH n l)):=by
 unfold jV
 simp only [iK,refValid,bL]
 by_cases h0:NV n
 ·rw [decide_eq_true h0,Bool.not_true,dN]
  by_cases h1:(l.length:Int)=n.N
  ·have hn:=h0.nn
   rw [show ((l.length:Int) != n.N)=false by rw [h1];simp,dN]
   obtain ⟨o,e,ho⟩:=mJ (body:=kT l) (fun z:Int×Int=>∃ k:Nat,z.2=(k:Int)∧k≤l.length∧(∀ i,i<k → -100000≤sp l i∧sp l i≤100000)∧z.1=sm k (sp l)) (fun z=>((l.length:Int)-z.2).toNat)
    (fun o=>match o with
     | .inl z=>(∀ i,i<l.length → -100000≤sp l i∧sp l i≤100000)∧z.1=sm l.length (sp l)
     | .inr r=>r=false∧¬ ∀ i,i<l.length → -100000≤sp l i∧sp l i≤100000) (fun z hz=>by
     obtain ⟨g,i⟩:=z
     obtain ⟨k,rfl,hk,hr,rfl⟩:=hz
     unfold kT
     simp only [aZ]
     by_cases hlt:(k:Int)<(l.length:Int)
     ·rw [if_pos hlt,lB (by omega),aGH,bL,iD,zE]
      have hb:=aGn (f:=sp l) (B:=100000) (k:=k) hr
      by_cases hin : -100000≤sp l k∧sp l k≤100000
      ·rw [if_pos (by simp only [Bool.and_eq_true,decide_eq_true_eq];exact hin),lB (by omega)]
       have hsp:l.getD k default=sp l k:=rfl
       rw [hsp,bT (x:=sm k (sp l)+sp l k) (by omega) (by omega),bT (x:=(k:Int)+1) (by omega) (by omega)]
       refine .inl ⟨_,rfl,⟨k+1,by simp only;omega,by omega,fun i hi=>?_,rfl⟩,by simp only;omega⟩
       by_cases c:i=k
       ·subst c;exact hin
       ·exact hr i (by omega)
      ·rw [if_neg (by simp only [Bool.and_eq_true,decide_eq_true_eq];exact hin)]
       exact .inr (.inr ⟨_,rfl,rfl,fun q=>hin (q k (by omega))⟩)
     ·rw [if_neg hlt]
      have hke:k=l.length:=by omega
      subst hke
      exact .inr (.inl ⟨_,rfl,hr,rfl⟩))
    (0,0) ⟨0,rfl,by omega,fun i hi=>by omega,rfl⟩ (by simp only;omega)
   rw [e,bL]
   match o,ho with
   | .inl z,⟨g1,g2⟩=>
    rw [eJ,g2]
    congr 1
    rw [Bool.eq_iff_iff]
    simp only [beq_iff_eq,decide_eq_true_eq]
    exact ⟨fun q=>⟨h0,h1,g1,q⟩,fun q=>q.z⟩
   | .inr r,⟨hr,g2⟩=>
    subst hr
    rw [tT,decide_eq_false fun q:aIH n l=>g2 q.lv]
  ·rw [show ((l.length:Int) != n.N)=true by simp [h1],eE,decide_eq_false fun q:aIH n l=>h1 q.ll]
 ·rw [decide_eq_false h0,Bool.not_false,eE,eE,decide_eq_false fun q:aIH n l=>h0 q.v]
theorem aIp {n:bG} {l:List Int} (h:aIH n l) (S:Nat):lF n l (S:Int)=some (decide (aMi l S.testBit>wY n.Edges S.testBit)):=by
 have hn:=h.v.nn;have hll:=h.ll
 have hsp:∀ i,i<l.length → -100000≤(if S.testBit i then sp l i else 0)∧(if S.testBit i then sp l i else 0)≤100000:=fun i hi=>by
  have:=h.lv i hi;split<;>omega
 obtain ⟨s,e,h1,h2⟩:=dD (body:=jW n l (S:Int)) (fun k s=>s.2=(k:Int)∧s.1=sm k fun i=>if S.testBit i then sp l i else 0) l.length (by omega) (fun k s hk hs=>by
  obtain ⟨g,i⟩:=s
  obtain ⟨rfl,rfl⟩:=hs
  have hb:=aGn (B:=100000) (k:=k) fun i hi=>hsp i (by omega)
  have hv:=h.lv k hk
  have hspk:l.getD k default=sp l k:=rfl
  unfold jW
  simp only [aZ,iK]
  rw [if_pos (by omega),aIe (by omega),bL,bT (x:=(k:Int)+1) (by omega) (by omega),lB hk,hspk,bT (x:=_+sp l k) (by omega) (by omega)]
  cases hbit:S.testBit k
  ·rw [dN]
   exact ⟨_,rfl,by simp only;omega,by show (sm k fun i=>if S.testBit i then sp l i else 0)=sm k (fun i=>if S.testBit i then sp l i else 0)+(if S.testBit k then sp l k else 0);rw [hbit];simp⟩
  ·rw [eE]
   exact ⟨_,rfl,by simp only;omega,by show (sm k fun i=>if S.testBit i then sp l i else 0)+sp l k=sm k (fun i=>if S.testBit i then sp l i else 0)+(if S.testBit k then sp l k else 0);rw [hbit];simp⟩) (fun s hs=>by
  obtain ⟨h1,_⟩:=hs
  unfold jW
  simp only [aZ]
  rw [if_neg (by omega)]) (0,0) ⟨rfl,rfl⟩
 have hsum:s.1=aMi l S.testBit:=by
  rw [h2]
  unfold aMi
  exact (aKC (n:=l.length) (m:=14) (by omega) fun i q _=>by rw [aMA q];split<;>rfl).symm
 unfold lF
 rw [e,bL,eJ,aKg h.v,bL,hsum]
theorem refCheckMeet (n:bG) (l:List Int) (u:lG) (hA:u.Amounts.length≤100000):gL n l u=cV n l u:=by
 obtain ⟨c0,e0,h0⟩:=aDC n l u hA
 rw [e0]
 have done:∀ {P:Prop} {b:Bool},(b=true↔P)→(P↔aAo n l u)→(some b:Option Bool)=some c0:=fun h1 h2=>by
  congr 1;rw [Bool.eq_iff_iff,h1,h2,h0]
 obtain ⟨met,A,S⟩:=u
 simp only at hA
 unfold gL
 rw [aHa,bL]
 by_cases h:aIH n l
 ·have hn:=h.v.nn;have hll:=h.ll
  rw [decide_eq_true h,Bool.not_true,dN]
  simp only [iK]
  cases met with
  | true=>
   have hM:aAo n l ⟨true,A,S⟩↔aLd n l A∧S=0:=by
    unfold aAo
    simp only [if_true]
    exact ⟨fun z=>z.2,fun z=>⟨h,z⟩⟩
   have no:¬ (aLd n l A∧S=0)→(some false:Option Bool)=some c0:=fun q=>done (P:=False) ⟨fun z=>(Bool.false_ne_true z).elim,fun z=>z.elim⟩ ⟨fun z=>z.elim,fun z=>q (hM.1 z)⟩
   rw [Bool.not_true,dN,fR]
   by_cases q:S=0
   ·rw [if_pos q,aIG h.v,bL]
    by_cases hok:okA n.Edges A
    ·rw [decide_eq_true hok,Bool.not_true,dN]
     obtain ⟨o,e,ho⟩:=mJ (body:=kB n l ⟨true,A,S⟩) (fun i:Int=>∃ k:Nat,i=(k:Int)∧k≤n.N.toNat∧∀ v,v<k→aCe n.Edges A v=sp l v) (fun i=>(n.N-i).toNat)
      (fun o=>match o with
       | .inl _=>∀ v,v<n.N.toNat→aCe n.Edges A v=sp l v
       | .inr r=>r=false∧¬ ∀ v,v<n.N.toNat→aCe n.Edges A v=sp l v) (fun i hi=>by
       obtain ⟨k,rfl,hk,hj⟩:=hi
       unfold kB
       simp only [aZ]
       have hspk:l.getD k default=sp l k:=rfl
       by_cases hlt:(k:Int)<n.N
       ·have hkn:k<n.N.toNat:=by omega
        rw [if_pos hlt,aL3 h.v hok,bL,lB (by omega),hspk,fR]
        by_cases c:aCe n.Edges A k=sp l k
        ·rw [if_pos c,bT (by omega) (by omega)]
         refine .inl ⟨_,rfl,⟨k+1,by omega,hkn,fun v hv=>?_⟩,by omega⟩
         by_cases q:v=k
         ·subst q;exact c
         ·exact hj v (by omega)
        ·rw [if_neg c]
         exact .inr (.inr ⟨_,rfl,rfl,fun q=>c (q k hkn)⟩)
       ·rw [if_neg hlt]
        exact .inr (.inl ⟨_,rfl,fun v hv=>hj v (by omega)⟩))
      0 ⟨0,rfl,by omega,fun v hv=>by omega⟩ (by omega)
     rw [e,bL]
     match o,ho with
     | .inl _,ho=>
      rw [eJ]
      exact done (P:=True) ⟨fun _=>trivial,fun _=>rfl⟩ ⟨fun _=>hM.2 ⟨⟨hok,ho⟩,q⟩,fun _=>trivial⟩
     | .inr r,⟨hr,ho⟩=>
      subst hr
      rw [tT]
      exact no fun z=>ho z.1.eq
    ·rw [decide_eq_false hok,Bool.not_false,eE]
     exact no fun z=>hok z.1.ok
   ·rw [if_neg q,eE]
    exact no fun z=>q z.2
  | false=>
   have hp0:=two_pow_pos n.N.toNat
   have hp1:(2:Int) ^ n.N.toNat≤2 ^ 12:=qX (by omega)
   have hM:aAo n l ⟨false,A,S⟩↔A=[]∧0≤S∧S<2 ^ n.N.toNat∧aMi l S.toNat.testBit>wY n.Edges S.toNat.testBit:=by
    unfold aAo
    simp only [Bool.false_eq_true,if_false]
    exact ⟨fun z=>z.2,fun z=>⟨h,z⟩⟩
   have no:¬ (A=[]∧0≤S∧S<2 ^ n.N.toNat)→(some false:Option Bool)=some c0:=fun q=>done (P:=False) ⟨fun z=>(Bool.false_ne_true z).elim,fun z=>z.elim⟩ ⟨fun z=>z.elim,fun z=>q (by have:=hM.1 z;exact ⟨this.1,this.2.1,this.2.2.1⟩)⟩
   rw [Bool.not_false,eE,iL]
   by_cases c1:(A.length:Int)=0
   ·have hA0:A=[]:=List.length_eq_zero_iff.1 (by omega)
    rw [if_pos c1,kN _ hn.1,aRA h.v,bT (by omega) (by omega),aGH,bL,zE]
    by_cases c2:0≤S∧S≤2 ^ n.N.toNat-1
    ·rw [if_pos (by simp only [Bool.and_eq_true,decide_eq_true_eq];exact c2)]
     obtain ⟨T,rfl⟩:∃ T:Nat,S=(T:Int):=⟨_,(Int.toNat_of_nonneg c2.1).symm⟩
     rw [aIp h,bL]
     refine done decide_eq_true_iff ?_
     rw [hM,Int.toNat_natCast]
     exact ⟨fun z=>⟨hA0,c2.1,by omega,z⟩,fun z=>z.2.2.2⟩
    ·rw [if_neg (by simp only [Bool.and_eq_true,decide_eq_true_eq];exact c2)]
     exact no fun z=>c2 ⟨z.2.1,by omega⟩
   ·rw [if_neg c1]
    exact no fun z=>c1 (by rw [z.1];rfl)
 ·rw [decide_eq_false h,Bool.not_false,eE]
  exact done (P:=False) ⟨fun z=>(Bool.false_ne_true z).elim,fun z=>z.elim⟩ ⟨fun z=>z.elim,fun z=>h z.1⟩
end Go.Proofs.YtkjccabdpeldhaaGreat.Fl
namespace Go.Proofs.YtkjccabdpeldhaaGreat
open Go Go.Eng
set_option maxRecDepth 100000
theorem zO {body:Int→Option (Ct Int Bool)} (N:Nat) (hN:N<4611686018427387904) (p:Nat→Prop) (step:∀ k,k<N→(∀ j,j<k→p j)→(p k∧body (k:Int)=some (.nx ((k:Int)+1)))∨(¬ p k∧body (k:Int)=some (.rt false))) (stop:(∀ k,k<N→p k)→body (N:Int)=some (.bk (N:Int))) :
  ((∀ k,k<N→p k)∧lp body FU 0=some (.inl (N:Int)))∨((¬ ∀ k,k<N→p k)∧lp body FU 0=some (.inr false)):=by
 obtain ⟨o,e,ho⟩:=mJ (body:=body) (fun i:Int=>∃ k:Nat,i=(k:Int)∧k≤N∧∀ j,j<k→p j) (fun i=>((N:Int)-i).toNat)
  (fun o=>match o with
   | .inl x=>x=(N:Int)∧∀ k,k<N→p k
   | .inr r=>r=false∧¬ ∀ k,k<N→p k) (fun i hi=>by
   obtain ⟨k,rfl,hk,hj⟩:=hi
   by_cases q:k<N
   ·rcases step k q hj with ⟨h1,h2⟩ | ⟨h1,h2⟩
    ·refine .inl ⟨_,h2,⟨k+1,by omega,by omega,fun j hj2=>?_⟩,by omega⟩
     by_cases c:j=k
     ·subst c;exact h1
     ·exact hj j (by omega)
    ·exact .inr (.inr ⟨_,h2,rfl,fun h=>h1 (h k q)⟩)
   ·have:k=N:=by omega
    subst this
    exact .inr (.inl ⟨_,stop hj,rfl,hj⟩)) 0 ⟨0,rfl,by omega,fun j hj=>by omega⟩ (by omega)
 match o,ho with
 | .inl x,⟨h1,h2⟩=>exact .inl ⟨h2,by rw [e,h1]⟩
 | .inr r,⟨h1,h2⟩=>exact .inr ⟨h2,by rw [e,h1]⟩
theorem aJ0 {α:Type} [Inhabited α] {l:List α} (hl:l.length<1048577) {G:α→Option Bool} {bad:α→Prop} (h:∀ x∈l,∃ b,G x=some b∧(b=true↔bad x)) :
  ∃ o,lp (fun s:Int=>cn (decide (s<(l.length:Int))) (ix l default s fun e2=>bd (G e2) fun y3=>cn y3 (some (.rt s)) (some (.nx (wr (s+1))))) (some (.bk s))) FU 0=some o ∧
   ((∃ x,o=.inl x)∧(∀ x∈l,¬ bad x)∨∃ i:Nat,o=.inr (i:Int)∧¬ ∀ x∈l,¬ bad x):=by
 have h2:∀ x∈l,G x=some ((G x).getD false)∧((G x).getD false=true↔bad x):=fun x hx=>by
  obtain ⟨b,e,hb⟩:=h x hx
  rw [e];exact ⟨rfl,hb⟩
 obtain ⟨o,e,ho⟩:=wW hl (G:=G) (p:=fun x=>(G x).getD false) fun x hx=>(h2 x hx).1
 refine ⟨o,e,?_⟩
 rcases ho with ⟨h3,h4⟩ | ⟨i,h3,h4,h5,_⟩
 ·refine .inl ⟨h3,fun x hx hb=>?_⟩
  have:=h4 x hx
  rw [(h2 x hx).2.2 hb] at this;cases this
 ·exact .inr ⟨i,h3,fun hb=>hb _ (bV h4) ((h2 _ (bV h4)).2.1 h5)⟩
def aRf (n:bG) (l:List Int) (k:Nat):Prop:=(0≤l.getD k default∧l.getD k default<(n.Edges.length:Int))∧(∀ j,j<k→l.getD j default≠l.getD k default)∧∀ j,j+1=k→(n.Edges.getD (l.getD j default).toNat default).To=(n.Edges.getD (l.getD k default).toNat default).From
theorem aE2 (n:bG) (l:List Int):WV n l↔(1≤l.length∧l.length≤6)∧∀ k,k<l.length→aRf n l k:=by
 constructor
 ·intro h
  refine ⟨h.len,fun k hk=>⟨h.rg _ (bV hk),fun j hj e=>?_,fun j hj=>?_⟩⟩
  ·rw [dC hk,dC (show j<l.length by omega)] at e
   exact List.pairwise_iff_getElem.1 h.nd j k (by omega) hk hj e
  ·subst hj;exact h.go j hk
 ·rintro ⟨h1,h2⟩
  refine ⟨h1,fun e he=>?_,List.pairwise_iff_getElem.2 fun i j hi hj hij e=>?_,fun i hi=>(h2 _ hi).2.2 i rfl⟩
  ·obtain ⟨k,hk,rfl⟩:=List.getElem_of_mem he
   rw [← dC hk];exact (h2 k hk).1
  ·have:=(h2 j hj).2.1 i hij
   rw [dC hi,dC hj] at this
   exact this e
theorem aGQ {l:List Int} (hl:l.length<1048577) {k:Nat} (hk:k<l.length):∃ j:Nat,dI l (l.getD k default)=some (j:Int)∧(j=k↔∀ i,i<k→l.getD i default≠l.getD k default):=by
 unfold dI
 obtain ⟨o,e,h⟩:=wW (l:=l) hl (G:=fun x=>some (l.getD k default==x)) (p:=fun x=>l.getD k default==x) (fun _ _=>rfl)
 have e2:(fun s:Int=>cn (decide (s<(l.length:Int))) (ix l default s fun e2=>bd (some (l.getD k default==e2)) fun y3=>cn y3 (some (.rt s)) (some (.nx (wr (s+1))))) (some (.bk s)):Int→Option (Ct Int Int))=dO l (l.getD k default):=by
  funext s;unfold dO;simp only [bL]
 rw [e2] at e
 rw [e,bL]
 rcases h with ⟨_,h⟩ | ⟨i,rfl,hi,h,hm⟩
 ·have:=h _ (bV hk)
  simp at this
 ·have h:l.getD k default=l.getD i default:=by simpa using h
  refine ⟨i,by rw [tT],?_,?_⟩
  ·rintro rfl j hj e
   have:=hm j hj
   rw [e] at this;simp at this
  ·intro q
   rcases Nat.lt_trichotomy i k with c | c | c
   ·exact absurd h.symm (q i c)
   ·exact c
   ·have:=hm k c
    simp at this
theorem aJJ {n:bG} {l:List Int} (hl:l.length≤1000) (hn:n.Edges.length≤1000):∃ b,gW n l=some b∧(b=true↔WV n l):=by
 unfold gW
 rw [sM,bL,iD]
 by_cases c:1≤l.length∧l.length≤6
 ·rw [decide_eq_true (show (1:Int)≤(l.length:Int) by omega),decide_eq_true (show (l.length:Int)≤6 by omega),Bool.and_self,eE]
  rcases zO (body:=fJ n l) l.length (by omega) (aRf n l) (fun k hk hj=>by
   unfold fJ
   simp only [iK]
   rw [aZ,if_pos (by omega),lB hk,sM,bL,bT (x:=(n.Edges.length:Int)-1) (by omega) (by omega),iD]
   by_cases q1:0≤l.getD k default∧l.getD k default<(n.Edges.length:Int)
   ·rw [decide_eq_true q1.1,decide_eq_true (show l.getD k default≤(n.Edges.length:Int)-1 by omega),Bool.and_self,eE]
    obtain ⟨j,ej,hj2⟩:=aGQ (l:=l) (by omega) hk
    rw [ej,bL,fR]
    by_cases q2:j=k
    ·have h2:=hj2.1 q2
     rw [if_pos (by omega),aZ,bT (x:=(k:Int)+1) (by omega) (by omega)]
     by_cases q3:(k:Int)>0
     ·obtain ⟨m,rfl⟩:∃ m,k=m+1:=⟨k-1,by omega⟩
      have hm:=(hj m (by omega)).1
      rw [if_pos q3,bT (by omega) (by omega),show ((m+1:Nat):Int)-1=(m:Int) by omega,lB (by omega),aGu hm.1 hm.2,aGu q1.1 q1.2,fR]
      by_cases q4:(n.Edges.getD (l.getD m default).toNat default).To=(n.Edges.getD (l.getD (m+1) default).toNat default).From
      ·rw [if_pos q4]
       exact .inl ⟨⟨q1, h2, fun j hj => by have : j = m := by omega
                                           subst this;exact q4⟩,rfl⟩
      ·rw [if_neg q4]
       exact .inr ⟨fun h=>q4 (h.2.2 m rfl),rfl⟩
     ·rw [if_neg q3,dN]
      exact .inl ⟨⟨q1,h2,fun j hj=>by omega⟩,rfl⟩
    ·rw [if_neg (by omega),eE]
     exact .inr ⟨fun h=>q2 (hj2.2 h.2.1),rfl⟩
   ·have:(decide (0≤l.getD k default)&&decide (l.getD k default≤(n.Edges.length:Int)-1))=false:=by
     rw [Bool.and_eq_false_iff,decide_eq_false_iff_not,decide_eq_false_iff_not];omega
    rw [this,dN,eE]
    exact .inr ⟨fun h=>q1 h.1,rfl⟩) (fun _=>by
   unfold fJ
   rw [aZ,if_neg (by omega)]) with ⟨h1,h2⟩ | ⟨h1,h2⟩
  ·rw [h2,bL,eJ]
   exact ⟨true,rfl,by simp only [true_iff];exact (aE2 n l).2 ⟨c,h1⟩⟩
  ·rw [h2,bL,tT]
   exact ⟨false,rfl,by simp only [Bool.false_eq_true,false_iff];exact fun h=>h1 ((aE2 n l).1 h).2⟩
 ·have:(decide ((1:Int)≤(l.length:Int))&&decide ((l.length:Int)≤6))=false:=by
   rw [Bool.and_eq_false_iff,decide_eq_false_iff_not,decide_eq_false_iff_not];omega
  rw [this,dN]
  exact ⟨false,rfl,by simp only [Bool.false_eq_true,false_iff];exact fun h=>c h.len⟩
theorem aOg (a b c:Int):fN a b c=some (decide (b≤a)&&decide (a≤c)):=by
 unfold fN
 simp only [iK,aZ]
 split
 ·rename_i h;rw [decide_eq_true (show b≤a from h),Bool.true_and]
 ·rename_i h;rw [decide_eq_false (show ¬ b≤a from h),Bool.false_and]
theorem yU (a b c:Int):∃ x,fN a b c=some x∧(x=true↔b≤a∧a≤c):=⟨_,aOg a b c,by rw [Bool.and_eq_true,decide_eq_true_eq,decide_eq_true_eq]⟩
theorem aEY (a b c:Int):∃ x,cL a b c=some x∧(x=true↔b≤a∧a≤c):=⟨_,sM a b c,by rw [Bool.and_eq_true,decide_eq_true_eq,decide_eq_true_eq]⟩
theorem aKW {n:bG} {l:List Int} (hl:l.length≤1000) (hn:n.Edges.length≤1000):∃ b,qV n l=some b∧(b=true↔WV n l):=by
 unfold qV
 rcases zO (body:=pJ n l) l.length (by omega) (aRf n l) (fun k hk hj=>by
   unfold pJ
   simp only [iK]
   rw [aZ,if_pos (by omega),lB hk,aOg,bL,bT (x:=(n.Edges.length:Int)-1) (by omega) (by omega),iD]
   by_cases q1:0≤l.getD k default∧l.getD k default<(n.Edges.length:Int)
   ·rw [decide_eq_true q1.1,decide_eq_true (show l.getD k default≤(n.Edges.length:Int)-1 by omega),Bool.and_self,eE]
    rcases zO (body:=pP l (k:Int)) k (by omega) (fun j=>l.getD j default≠l.getD k default) (fun j hj _=>by
     unfold pP
     rw [aZ,if_pos (by omega),lB (by omega),lB hk,iL,bT (by omega) (by omega)]
     by_cases q:l.getD j default=l.getD k default
     ·rw [if_pos q];exact .inr ⟨fun h=>h q,rfl⟩
     ·rw [if_neg q];exact .inl ⟨q,rfl⟩) (fun _=>by
     unfold pP
     rw [aZ,if_neg (by omega)]) with ⟨h2,e2⟩ | ⟨h2,e2⟩
    ·rw [e2,bL,eJ,aZ,bT (x:=(k:Int)+1) (by omega) (by omega)]
     by_cases q3:(k:Int)>0
     ·obtain ⟨m,rfl⟩:∃ m,k=m+1:=⟨k-1,by omega⟩
      have hm:=(hj m (by omega)).1
      rw [if_pos q3,bT (by omega) (by omega),show ((m+1:Nat):Int)-1=(m:Int) by omega,lB (by omega),aGu hm.1 hm.2,lB hk,aGu q1.1 q1.2,fR]
      by_cases q4:(n.Edges.getD (l.getD m default).toNat default).To=(n.Edges.getD (l.getD (m+1) default).toNat default).From
      ·rw [if_pos q4]
       exact .inl ⟨⟨q1, h2, fun j hj => by have : j = m := by omega
                                           subst this;exact q4⟩,rfl⟩
      ·rw [if_neg q4]
       exact .inr ⟨fun h=>q4 (h.2.2 m rfl),rfl⟩
     ·rw [if_neg q3,dN]
      exact .inl ⟨⟨q1,h2,fun j hj=>by omega⟩,rfl⟩
    ·rw [e2,bL,tT]
     exact .inr ⟨fun h=>h2 h.2.1,rfl⟩
   ·have:(decide (0≤l.getD k default)&&decide (l.getD k default≤(n.Edges.length:Int)-1))=false:=by
     rw [Bool.and_eq_false_iff,decide_eq_false_iff_not,decide_eq_false_iff_not];omega
    rw [this,dN]
    exact .inr ⟨fun h=>q1 h.1,rfl⟩) (fun _=>by
   unfold pJ
   rw [aZ,if_neg (by omega)]) with ⟨h1,h2⟩ | ⟨h1,h2⟩
 ·rw [h2,bL,eJ]
  obtain ⟨x,ex,hx⟩:=yU (l.length:Int) 1 6
  rw [ex,bL]
  refine ⟨x,rfl,?_⟩
  rw [hx,aE2]
  constructor
  ·rintro ⟨a,b⟩;exact ⟨⟨by omega,by omega⟩,h1⟩
  ·rintro ⟨⟨a,b⟩,_⟩;exact ⟨by omega,by omega⟩
 ·rw [h2,bL,tT]
  exact ⟨false,rfl,by simp only [Bool.false_eq_true,false_iff];exact fun h=>h1 ((aE2 n l).1 h).2⟩
structure RB (r:aD):Prop where
 el:r.Net.Edges.length≤1000
 ul:r.Urgent.length≤1000
 cl:r.Centres.length≤1000
 kl:r.Calls.length≤1000
 ke:∀ o∈r.Calls,o.Edges.length≤1000
theorem aHi {l:List Int} {B:Int} (hl:l.length≤1000):∃ b,bW l B=some b∧(b=false↔∀ u∈l,0≤u∧u≤B):=by
 unfold bW dU
 obtain ⟨o,e,ho⟩:=aJ0 (l:=l) (by omega) (G:=fun e=>dA e B) (bad:=fun u=>¬ (0≤u∧u≤B)) fun u hu=>by
  unfold dA
  obtain ⟨x,ex,hx⟩:=aEY u 0 B
  rw [ex,bL]
  refine ⟨!x,rfl,?_⟩
  rw [← hx];cases x<;>simp
 have e2:(fun s:Int=>cn (decide (s<(l.length:Int))) (ix l default s fun e2=>bd (dA e2 B) fun y3=>cn y3 (some (.rt s)) (some (.nx (wr (s+1))))) (some (.bk s)):Int→Option (Ct Int Int))=cT l B:=by
  funext s;unfold cT;rfl
 rw [e2] at e
 rw [e,bL]
 rcases ho with ⟨⟨x,rfl⟩,h⟩ | ⟨i,rfl,h⟩
 ·rw [eJ,bL]
  exact ⟨_,rfl,iff_of_true rfl fun u hu=>Classical.not_not.1 (h u hu)⟩
 ·rw [tT,bL]
  refine ⟨_,rfl,?_⟩
  rw [decide_eq_false_iff_not]
  exact iff_of_false (by omega) fun q=>h fun u hu hn=>hn (q u hu)
theorem aJH {r:aD} (hb:RB r):∃ b,bX r.Calls r=some b∧(b=false↔∀ o∈r.Calls,(1≤o.Amount∧o.Amount≤10000)∧WV r.Net o.Edges):=by
 unfold bX cR
 have hkl:=hb.kl
 obtain ⟨o,e,ho⟩:=aJ0 (l:=r.Calls) (by omega) (G:=fun e=>dW e r) (bad:=fun o=>¬ ((1≤o.Amount∧o.Amount≤10000)∧WV r.Net o.Edges)) fun o ho=>by
  unfold dW
  simp only [iK]
  obtain ⟨x,ex,hx⟩:=aEY o.Amount 1 10000
  obtain ⟨y,ey,hy⟩:=aJJ (n:=r.Net) (hb.ke o ho) hb.el
  rw [ex,bL,iD]
  rw [← hx,← hy]
  cases x
  ·rw [dN];exact ⟨true,rfl,by simp⟩
  ·rw [eE,ey,bL];exact ⟨_,rfl,by cases y<;>simp⟩
 have e2:(fun s:Int=>cn (decide (s<(r.Calls.length:Int))) (ix r.Calls default s fun e2=>bd (dW e2 r) fun y3=>cn y3 (some (.rt s)) (some (.nx (wr (s+1))))) (some (.bk s)):Int→Option (Ct Int Int))=cE r.Calls r:=by
  funext s;unfold cE;rfl
 rw [e2] at e
 rw [e,bL]
 rcases ho with ⟨⟨x,rfl⟩,h⟩ | ⟨i,rfl,h⟩
 ·rw [eJ,bL]
  exact ⟨_,rfl,iff_of_true rfl fun u hu=>Classical.not_not.1 (h u hu)⟩
 ·rw [tT,bL]
  refine ⟨_,rfl,?_⟩
  rw [decide_eq_false_iff_not]
  exact iff_of_false (by omega) fun q=>h fun u hu hn=>hn (q u hu)
def RV0 (r:aD):Prop:=Fl.NV r.Net∧(1≤r.Net.N∧r.Net.N≤8)∧r.Net.Edges.length≤20∧(0≤r.Faults∧r.Faults≤2)∧r.Calls.length≤8∧(r.Urgent.length:Int)=r.Net.N∧(r.Centres.length:Int)=r.Net.N
theorem aJh (r:aD):RV r↔RV0 r∧((∀ u∈r.Urgent,0≤u∧u≤1000)∧∀ u∈r.Centres,0≤u∧u≤10000)∧∀ o∈r.Calls,(1≤o.Amount∧o.Amount≤10000)∧WV r.Net o.Edges:=by
 constructor
 ·intro h
  exact ⟨⟨⟨⟨by have:=h.n;omega,by have:=h.n;omega⟩,by have:=h.el;omega,fun e he=>by have:=h.eg e he;exact ⟨this.1,this.2.1,this.2.2.1,this.2.2.2⟩⟩,h.n,h.el,h.ft,h.kl,h.ul,h.cl⟩,⟨h.uv,h.cv⟩,h.kv⟩
 ·rintro ⟨⟨h1,h2,h3,h4,h5,h6,h7⟩,⟨h8,h9⟩,h10⟩
  exact ⟨h2,h3,fun e he=>by have:=h1.ev e he;exact ⟨this.fr,this.to,this.ne,this.cp⟩,h6,h8,h7,h9,h4,h5,h10⟩
theorem valid_iff {r:aD} (hb:RB r):∃ b,dF r=some b∧(b=true↔RV r):=by
 by_cases h:RV r
 ·exact ⟨true,aBf h,iff_of_true rfl h⟩
 ·refine ⟨false,?_,iff_of_false (by simp) h⟩
  rw [aJh] at h
  unfold dF
  simp only [iK,Fl.valid_iff,bL,iD,sM]
  by_cases c1:Fl.NV r.Net
  case neg=>rw [decide_eq_false c1,dN,eE]
  rw [decide_eq_true c1,eE]
  by_cases c2:1≤r.Net.N∧r.Net.N≤8
  case neg=>rw [show (decide (1≤r.Net.N)&&decide (r.Net.N≤8))=false by rw [Bool.and_eq_false_iff,decide_eq_false_iff_not,decide_eq_false_iff_not];omega,dN,eE]
  rw [decide_eq_true c2.1,decide_eq_true c2.2,Bool.and_self,eE,aZ]
  by_cases c3:r.Net.Edges.length≤20
  case neg=>rw [if_pos (by omega),eE]
  rw [if_neg (by omega)]
  by_cases c4:0≤r.Faults∧r.Faults≤2
  case neg=>rw [show (decide (0≤r.Faults)&&decide (r.Faults≤2))=false by rw [Bool.and_eq_false_iff,decide_eq_false_iff_not,decide_eq_false_iff_not];omega,dN,eE]
  rw [decide_eq_true c4.1,decide_eq_true c4.2,Bool.and_self,eE]
  by_cases c5:r.Calls.length≤8
  case neg=>rw [decide_eq_true (show (r.Calls.length:Int)>8 by omega),eE]
  rw [decide_eq_false (show ¬ (r.Calls.length:Int)>8 by omega),dN,fR]
  by_cases c6:(r.Urgent.length:Int)=r.Net.N
  case neg=>rw [if_neg c6,eE]
  rw [if_pos c6]
  obtain ⟨x,ex,hx⟩:=aHi (l:=r.Urgent) (B:=1000) hb.ul
  obtain ⟨y,ey,hy⟩:=aHi (l:=r.Centres) (B:=10000) hb.cl
  obtain ⟨z,ez,hz⟩:=aJH hb
  rw [ex,bL]
  cases x
  case true=>rw [eE,eE]
  rw [dN,fR]
  by_cases c7:(r.Centres.length:Int)=r.Net.N
  case neg=>rw [if_neg c7,eE]
  rw [if_pos c7,ey,bL]
  cases y
  case true=>rw [eE]
  rw [dN,ez,bL]
  cases z
  ·exact absurd ⟨⟨c1,c2,c3,c4,c5,c6,c7⟩,⟨hx.1 rfl,hy.1 rfl⟩,hz.1 rfl⟩ h
  ·rfl
theorem RV0.loops {r:aD} (h0:RV0 r) (hb:RB r):∃ b,(bd (lp (kO r) FU 0) fun c13=>smK c13 (fun _=>
  bd (lp (kP r) FU 0) fun c23=>smK c23 (fun _=>some true) (fun r25=>some r25)) (fun r15=>some r15))=some b∧(b=true↔RV r):=by
 have hrv:=aJh r
 obtain ⟨h1,h2,h3,h4,h5,h6,h7⟩:=h0
 have e1:=zO (body:=kO r) r.Urgent.length (by omega) (fun k=>(0≤r.Urgent.getD k default∧r.Urgent.getD k default≤1000)∧(0≤r.Centres.getD k default∧r.Centres.getD k default≤10000)) (fun k hk _=>by
  unfold kO
  simp only [iK]
  obtain ⟨x,ex,hx⟩:=yU (r.Urgent.getD k default) 0 1000
  obtain ⟨y,ey,hy⟩:=yU (r.Centres.getD k default) 0 10000
  rw [aZ,if_pos (by omega),lB hk,ex,bL,iD,bT (x:=(k:Int)+1) (by omega) (by omega)]
  cases x
  ·rw [dN,eE]
   exact .inr ⟨fun q=>Bool.false_ne_true (hx.2 q.1),rfl⟩
  ·rw [eE,lB (by omega),ey,bL]
   cases y
   ·rw [Bool.not_false,eE]
    exact .inr ⟨fun q=>Bool.false_ne_true (hy.2 q.2),rfl⟩
   ·rw [Bool.not_true,dN]
    exact .inl ⟨⟨hx.1 rfl,hy.1 rfl⟩,rfl⟩) (fun _=>by
  unfold kO
  rw [aZ,if_neg (by omega)])
 rcases e1 with ⟨g1,e1⟩ | ⟨g1,e1⟩
 ·rw [e1,bL,eJ]
  have e2:=zO (body:=kP r) r.Calls.length (by omega) (fun k=>(1≤(r.Calls.getD k default).Amount∧(r.Calls.getD k default).Amount≤10000)∧WV r.Net (r.Calls.getD k default).Edges) (fun k hk _=>by
   unfold kP
   simp only [iK]
   obtain ⟨x,ex,hx⟩:=yU (r.Calls.getD k default).Amount 1 10000
   obtain ⟨y,ey,hy⟩:=aKW (n:=r.Net) (hb.ke _ (bV hk)) hb.el
   rw [aZ,if_pos (by omega),lB hk,ex,bL,iD,bT (x:=(k:Int)+1) (by omega) (by omega)]
   cases x
   ·rw [dN,eE]
    exact .inr ⟨fun q=>Bool.false_ne_true (hx.2 q.1),rfl⟩
   ·rw [eE,lB hk,ey,bL]
    cases y
    ·rw [Bool.not_false,eE]
     exact .inr ⟨fun q=>Bool.false_ne_true (hy.2 q.2),rfl⟩
    ·rw [Bool.not_true,dN]
     exact .inl ⟨⟨hx.1 rfl,hy.1 rfl⟩,rfl⟩) (fun _=>by
   unfold kP
   rw [aZ,if_neg (by omega)])
  rcases e2 with ⟨g2,e2⟩ | ⟨g2,e2⟩
  ·rw [e2,bL,eJ]
   refine ⟨true,rfl,iff_of_true rfl (hrv.2 ⟨⟨h1,h2,h3,h4,h5,h6,h7⟩,⟨fun u hu=>?_,fun u hu=>?_⟩,fun o ho=>?_⟩)⟩
   ·obtain ⟨k,hk,rfl⟩:=List.getElem_of_mem hu
    rw [← dC hk];exact (g1 k hk).1
   ·obtain ⟨k,hk,rfl⟩:=List.getElem_of_mem hu
    rw [← dC hk];exact (g1 k (by omega)).2
   ·obtain ⟨k,hk,rfl⟩:=List.getElem_of_mem ho
    rw [← dC hk];exact g2 k hk
  ·rw [e2,bL,tT]
   exact ⟨false,rfl,iff_of_false (by simp) fun q=>g2 fun k hk=>q.kv _ (bV hk)⟩
 ·rw [e1,bL,tT]
  exact ⟨false,rfl,iff_of_false (by simp) fun q=>g1 fun k hk=>⟨q.uv _ (bV hk),q.cv _ (bV (by omega))⟩⟩
theorem aCG {r:aD} (hb:RB r):∃ b,iO r=some b∧(b=true↔RV r):=by
 by_cases h0:RV0 r
 ·obtain ⟨b,e,hb2⟩:=h0.loops hb
  obtain ⟨h1,h2,h3,h4,h5,h6,h7⟩:=h0
  refine ⟨b,?_,hb2⟩
  unfold iO
  simp only [iK,Fl.refValid,bL,iD,aOg]
  rw [decide_eq_true h1,decide_eq_true h2.1,decide_eq_true h2.2,decide_eq_true h4.1,decide_eq_true h4.2,decide_eq_false (show ¬ (r.Net.Edges.length:Int)>20 by omega),decide_eq_false (show ¬ (r.Calls.length:Int)>8 by omega),fR,if_pos h6,fR,if_pos h7]
  simp only [Bool.and_self,eE,dN]
  exact e
 ·refine ⟨false,?_,iff_of_false (by simp) fun q=>h0 ((aJh r).1 q).1⟩
  unfold iO
  simp only [iK,Fl.refValid,bL,iD,aOg]
  by_cases c1:Fl.NV r.Net
  case neg=>rw [decide_eq_false c1,dN,eE]
  rw [decide_eq_true c1,eE]
  by_cases c2:1≤r.Net.N∧r.Net.N≤8
  case neg=>rw [show (decide (1≤r.Net.N)&&decide (r.Net.N≤8))=false by rw [Bool.and_eq_false_iff,decide_eq_false_iff_not,decide_eq_false_iff_not];omega,dN,eE]
  rw [decide_eq_true c2.1,decide_eq_true c2.2,Bool.and_self,eE,aZ]
  by_cases c3:r.Net.Edges.length≤20
  case neg=>rw [if_pos (by omega),eE]
  rw [if_neg (by omega),fR]
  by_cases c6:(r.Urgent.length:Int)=r.Net.N
  case neg=>rw [if_neg c6,eE]
  rw [if_pos c6,fR]
  by_cases c7:(r.Centres.length:Int)=r.Net.N
  case neg=>rw [if_neg c7,eE]
  rw [if_pos c7]
  by_cases c4:0≤r.Faults∧r.Faults≤2
  case neg=>rw [show (decide (0≤r.Faults)&&decide (r.Faults≤2))=false by rw [Bool.and_eq_false_iff,decide_eq_false_iff_not,decide_eq_false_iff_not];omega,dN,eE]
  rw [decide_eq_true c4.1,decide_eq_true c4.2,Bool.and_self,eE]
  by_cases c5:r.Calls.length≤8
  case neg=>rw [decide_eq_true (show (r.Calls.length:Int)>8 by omega),eE]
  exact absurd ⟨c1,c2,c3,c4,c5,c6,c7⟩ h0
theorem tmb {s i:Nat} (hi:i≤60):(Int.tmod (zD .i64 (s:Int) (i:Int)) 2==1)=s.testBit i:=by
 rw [aBc (by omega) hi,Int.toNat_natCast,Int.tmod_eq_emod_of_nonneg (Int.natCast_nonneg _),Nat.shiftRight_eq_div_pow,Nat.testBit_eq_decide_div_mod_eq]
 rw [Bool.eq_iff_iff,beq_iff_eq,decide_eq_true_iff]
 generalize s / 2 ^ i=q
 omega
theorem aIy {s i:Nat} (hi:i≤60):jM (s:Int) (i:Int)=some (s.testBit i):=by
 unfold jM
 simp only
 rw [kN _ (by omega),tmb hi]
section
variable {r:aD} (h:RV r)
include h
theorem aQT {s i c:Nat} (hc:c<r.Calls.length) {u:Int} (hu:0≤u∧u≤1000000) (g:Int) :
  ∃ x,lp (nB r (s:Int) (i:Int) (g,(c:Int))) FU (u,0)=some (.inl (u+(if s.testBit c=true∧(i:Int)∈(r.Calls.getD c default).Edges then (r.Calls.getD c default).Amount else 0),x)):=by
 have hk8:=h.kl
 obtain ⟨⟨a1,a2⟩,w⟩:=h.kv _ (bV hc)
 have hl:=w.len
 obtain ⟨z,e,h1,h2⟩:=dD (body:=nB r (s:Int) (i:Int) (g,(c:Int))) (fun k z=>z.2=(k:Int)∧z.1=u+(if s.testBit c=true∧(i:Int)∈(r.Calls.getD c default).Edges.take k then (r.Calls.getD c default).Amount else 0)) (r.Calls.getD c default).Edges.length (by omega) (fun k z hk ⟨h1,h2⟩=>by
  obtain ⟨v,j⟩:=z
  simp only at h1 h2
  subst h1 h2
  unfold nB
  simp only [iK]
  rw [lB hc,aZ,if_pos (by omega),aIy (by omega),bL]
  have hnd:(i:Int)=(r.Calls.getD c default).Edges.getD k default→(i:Int) ∉ (r.Calls.getD c default).Edges.take k:=fun hz hm=>by
   obtain ⟨j,hj,e⟩:=List.getElem_of_mem hm
   rw [List.length_take] at hj
   rw [List.getElem_take,hz,dC hk] at e
   exact List.pairwise_iff_getElem.1 w.nd j k (by omega) hk (by omega) e
  have htk:(r.Calls.getD c default).Edges.take (k+1)=(r.Calls.getD c default).Edges.take k++[(r.Calls.getD c default).Edges.getD k default]:=by
   rw [List.take_succ_eq_append_getElem hk,← dC hk]
  rw [htk]
  simp only [List.mem_append,List.mem_singleton]
  cases hb:s.testBit c
  ·rw [dN,dN,bT (x:=(k:Int)+1) (by omega) (by omega)]
   refine ⟨_,rfl,by simp only;omega,?_⟩
   simp
  ·rw [eE,lB hc,lB hk,iL,bT (x:=(k:Int)+1) (by omega) (by omega)]
   by_cases q:(r.Calls.getD c default).Edges.getD k default=(i:Int)
   ·rw [if_pos q,lB hc]
    have hno:=hnd q.symm
    refine ⟨_,rfl,by simp only;omega,?_⟩
    simp only [hno,q,and_false,if_false,true_and,or_true,if_true,Int.add_zero]
    rw [bT (by omega) (by omega)]
   ·rw [if_neg q]
    refine ⟨_,rfl,by simp only;omega,?_⟩
    have:¬ (i:Int)=(r.Calls.getD c default).Edges.getD k default:=fun e=>q e.symm
    simp only [this,or_false]) (fun z ⟨h1,h2⟩=>by
  unfold nB
  simp only [iK]
  rw [lB hc,aZ,if_neg (by omega)]) (u,0) ⟨rfl,by simp⟩
 rw [List.take_length] at h2
 exact ⟨z.2,by rw [e,← h2]⟩
theorem aMv (s i:Nat):nA r (s:Int) (i:Int)=some (vP r.Calls s i r.Calls.length):=by
 have hk8:=h.kl
 obtain ⟨z,e,h1,h2⟩:=dD (body:=pO r (s:Int) (i:Int)) (fun k z=>z.2=(k:Int)∧z.1=vP r.Calls s i k) r.Calls.length (by omega) (fun k z hk ⟨h1,h2⟩=>by
  obtain ⟨v,j⟩:=z
  simp only at h1 h2
  subst h1 h2
  have hb:=aCT h s i k (by omega)
  unfold pO
  obtain ⟨x,e⟩:=aQT h (s:=s) (i:=i) hk (u:=vP r.Calls s i k) (by omega) (vP r.Calls s i k)
  rw [aZ,if_pos (by omega),e,bL,eJ,bT (x:=(k:Int)+1) (by omega) (by omega)]
  refine ⟨_,rfl,by simp only;omega,?_⟩
  simp only [vP]) (fun z ⟨h1,h2⟩=>by
  unfold pO
  rw [aZ,if_neg (by omega)]) (0,0) ⟨rfl,by simp [vP]⟩
 unfold nA
 rw [e,bL,eJ,h2]
theorem aFo (s:Nat):(Car r s∧kG r (s:Int)=some (jO r s,lsu r,true))∨(¬ Car r s∧kG r (s:Int)=some (⟨0,[]⟩,[],false)):=by
 have hn:=h.n;have hel:=h.el;have hul:=h.ul;have hcl:=h.cl
 have hcapb:∀ k,k<r.Net.Edges.length → -80000≤aC7 r s k∧aC7 r s k≤10000:=fun k hk=>by
  have h1:=aHJ h hk
  have h2:=aCT h s k r.Calls.length (Nat.le_refl _)
  have hk8:=h.kl
  unfold aC7;omega
 have e1:(Car r s∧∃ x,lp (lL r (s:Int)) FU (0,(⟨0,[]⟩:bG),(⟨r.Net.N+1,[]⟩:bG))=some (.inl (x,(⟨0,[]⟩:bG),(⟨r.Net.N+1,adj r.Net.Edges fun e=>vP r.Calls s e r.Calls.length⟩:bG))))∨(¬ Car r s∧lp (lL r (s:Int)) FU (0,(⟨0,[]⟩:bG),(⟨r.Net.N+1,[]⟩:bG))=some (.inr (⟨0,[]⟩,[],false))):=by
  obtain ⟨o,e,ho⟩:=mJ (body:=lL r (s:Int)) (fun z:Int×bG×bG=>∃ k:Nat,z=((k:Int),(⟨0,[]⟩:bG),(⟨r.Net.N+1,(adj r.Net.Edges fun e=>vP r.Calls s e r.Calls.length).take k⟩:bG))∧k≤r.Net.Edges.length∧∀ j,j<k→0≤aC7 r s j) (fun z=>((r.Net.Edges.length:Int)-z.1).toNat)
   (fun o=>match o with
    | .inl z=>Car r s∧z.2=((⟨0,[]⟩:bG),(⟨r.Net.N+1,adj r.Net.Edges fun e=>vP r.Calls s e r.Calls.length⟩:bG))
    | .inr x=>¬ Car r s∧x=(⟨0,[]⟩,[],false)) (fun z hz=>by
    obtain ⟨k,rfl,hk,hj⟩:=hz
    unfold lL
    by_cases q:k<r.Net.Edges.length
    ·have hc:=hcapb k q
     have hcd:aC7 r s k=(r.Net.Edges.getD k default).Capacity-vP r.Calls s k r.Calls.length:=rfl
     rw [aZ,if_pos (by simp only;omega),lB q,aMv h,bL,bT (x:=(r.Net.Edges.getD k default).Capacity-_) (by omega) (by omega),aZ]
     by_cases q2:aC7 r s k<0
     ·rw [if_pos (by omega)]
      exact .inr (.inr ⟨_,rfl,fun hcar=>by have:=hcar k q;omega,rfl⟩)
     ·rw [if_neg (by omega),wZ,aCu (by rw [List.length_take];simp;omega),bT (x:=(k:Int)+1) (by omega) (by omega)]
      refine .inl ⟨_,rfl,⟨k+1,?_,by omega,fun j hj2=>?_⟩,by simp only;omega⟩
      ·have hka:k<(adj r.Net.Edges fun e=>vP r.Calls s e r.Calls.length).length:=by rw [pU];exact q
       rw [List.take_succ_eq_append_getElem hka,← dC hka,uC q]
       rfl
      ·by_cases c:j=k
       ·subst c;omega
       ·exact hj j (by omega)
    ·have:k=r.Net.Edges.length:=by omega
     subst this
     rw [aZ,if_neg (by simp only;omega)]
     refine .inr (.inl ⟨_,rfl,fun e he=>hj e he,?_⟩)
     rw [List.take_of_length_le (by rw [pU];exact Nat.le_refl _)])
   (0,⟨0,[]⟩,⟨r.Net.N+1,[]⟩) ⟨0,by simp,by omega,fun j hj=>by omega⟩ (by simp only;omega)
  match o,ho with
  | .inl z,⟨h1,h2⟩=>exact .inl ⟨h1,z.1,by rw [e,← h2]⟩
  | .inr x,⟨h1,h2⟩=>exact .inr ⟨h1,by rw [e,h2]⟩
 unfold kG
 rw [bT (x:=r.Net.N+1) (by omega) (by omega)]
 rcases e1 with ⟨h1,x,e1⟩ | ⟨h1,e1⟩
 ·refine .inl ⟨h1,?_⟩
  rw [e1,bL,eJ]
  obtain ⟨z,e,h2,h3,h4,h5⟩:=dD (body:=oB r) (fun k z=>z.2.2.1=(k:Int)∧z.1=r.Urgent.take k∧z.2.1=yI r.Urgent k∧z.2.2.2=(⟨r.Net.N+1,(adj r.Net.Edges fun e=>vP r.Calls s e r.Calls.length)++aGw r k⟩:bG)) r.Urgent.length (by omega) (fun k z hk ⟨h2,h3,h4,h5⟩=>by
   obtain ⟨a,b,c,d⟩:=z
   simp only at h2 h3 h4 h5
   subst h2 h3 h4 h5
   have hsb:=aAk h k (by omega)
   have hu:=h.uv _ (bV hk)
   have hcen:aGw r (k+1)=aGw r k++[⟨(k:Int),r.Net.N,r.Centres.getD k default⟩]:=by
    unfold aGw;rw [List.range_succ,List.map_append];rfl
   unfold oB
   rw [aZ,if_pos (by simp only;omega)]
   simp only
   rw [lB (by omega),wZ,aCu (by rw [List.length_append,pU];simp [aGw];omega),lB hk,wZ,aCu (by rw [List.length_take];simp;omega),lB hk,bT (x:=(k:Int)+1) (by omega) (by omega),bT (x:=yI r.Urgent k+_) (by omega) (by omega)]
   refine ⟨_,rfl,by simp only;omega,?_,by simp only [yI],?_⟩
   ·simp only
    rw [List.take_succ_eq_append_getElem hk,← dC hk]
   ·simp only
    rw [hcen,List.append_assoc]) (fun z ⟨h2,_⟩=>by
   unfold oB
   rw [aZ,if_neg (by omega)]) ([],0,0,⟨r.Net.N+1,adj r.Net.Edges fun e=>vP r.Calls s e r.Calls.length⟩) ⟨rfl,by simp,rfl,by simp [aGw]⟩
  have hsb:=aAk h r.Urgent.length (Nat.le_refl _)
  rw [List.take_length] at h3
  rw [e,bL,eJ,wZ,h3,aCu (by simp;omega),h4,h5,bT (by omega) (by omega)]
  have hcu:r.Urgent.length=r.Centres.length:=by omega
  unfold jO lsu lvE
  rw [show 0-yI r.Urgent r.Urgent.length = -(yI r.Urgent r.Urgent.length) by omega,hcu]
 ·refine .inr ⟨h1,?_⟩
  rw [e1,bL,tT]
end
theorem yV:∀ {l:List Int} (k:Nat) {a:Int},(∀ x∈l,x≤a)→0≤a→fP k l≤a+fP (k+1) l
 | [],k,a,_,ha=>by rw [lT,lT];omega
 | x::l,0,a,h,ha=>by
  have ih:=yV (l:=l) 0 (fun y hy=>h y (List.mem_cons_of_mem _ hy)) ha
  have hx:=h x List.mem_cons_self
  rw [oE,nF];omega
 | x::l,k+1,a,h,ha=>by
  have ih:=yV (l:=l) k (fun y hy=>h y (List.mem_cons_of_mem _ hy)) ha
  have ih2:=yV (l:=l) (k+1) (fun y hy=>h y (List.mem_cons_of_mem _ hy)) ha
  have hx:=h x List.mem_cons_self
  rw [nF,nF];omega
theorem aK8 {l l':List Int} (k:Nat) {a:Int} (hp:l.Perm (a::l')) (h:∀ x∈l,x≤a) (ha:0≤a):fP (k+1) l=fP k l'∧fP 0 l=a+fP 0 l':=by
 have:=yV (l:=l') k (fun x hx=>h x (hp.mem_iff.2 (List.mem_cons_of_mem _ hx))) ha
 rw [vA hp,vA hp,nF,oE]
 exact ⟨by omega,rfl⟩
theorem aCU {p p':Nat→Bool} {m:Nat} (hm:p m=true) (hm':p' m=false) (ho:∀ i,i≠m→p' i=p i):∀ E,m<E→((List.range E).filter p).Perm (m::(List.range E).filter p')
 | 0,h=>absurd h (by omega)
 | E+1,h=>by
  rw [List.range_succ,List.filter_append,List.filter_append]
  by_cases e:m=E
  ·subst e
   have h1:(List.range m).filter p'=(List.range m).filter p:=List.filter_congr fun i hi=>ho i (by have:=List.mem_range.1 hi;omega)
   rw [h1]
   simp only [List.filter_cons,hm,hm',List.filter_nil,if_true,Bool.false_eq_true,if_false,List.append_nil]
   exact List.perm_append_comm
  ·have ih:=aCU hm hm' ho E (by omega)
   have h1:[E].filter p'=[E].filter p:=List.filter_congr fun i hi=>by rw [List.mem_singleton.1 hi];exact ho E fun q=>e q.symm
   rw [h1]
   exact ih.append_right _
def qQ (u:List Bool):List Nat:=(List.range u.length).filter fun i => !u.getD i default
theorem aBV {u:List Bool} {k j:Nat} {v:Bool} (hk:k<u.length):(u.set k v).getD j default=if j=k then v else u.getD j default:=by
 by_cases e:j=k
 ·subst e;simp [hk]
 ·rw [if_neg e,List.getD_eq_getElem?_getD,List.getD_eq_getElem?_getD,List.getElem?_set_ne (fun q=>e q.symm)]
theorem aPs (a:Nat):aRF (a:Int) 0=(a:Int):=by unfold aRF;split<;>omega
section
variable {M:Nat} {n:bG} {l:List Int} (h:CN M n l)
include h
theorem aQI {nd:Nat}:∃ x u,lp (jB n (nd:Int)) FU (0,0,List.replicate n.Edges.length false)=some (.inl (fP 0 ((uD n.Edges nd).map (sG n.Edges)),x,u))∧u.length=n.Edges.length∧qQ u=uD n.Edges nd:=by
 have hel:=h.el;have hN:=h.N;have hM:=h.M8
 obtain ⟨z,e,h1,h2,h3,h4⟩:=dD (body:=jB n (nd:Int)) (fun k z=>z.2.1=(k:Int)∧z.1=fP 0 (((List.range k).filter (aCt n.Edges nd)).map (sG n.Edges))∧z.2.2.length=n.Edges.length∧(∀ i,z.2.2.getD i default=(decide (i<k) && !aCt n.Edges nd i))∧0≤z.1∧z.1≤k * 10000) n.Edges.length (by omega) (fun k z hk ⟨h1,h2,h3,h4,h5⟩=>by
  obtain ⟨a,b,u⟩:=z
  simp only at h1 h2 h3 h4 h5
  subst h1
  obtain ⟨⟨f1,f2⟩,⟨t1,t2⟩,c1,c2⟩:=aCR h hk
  obtain ⟨f,hf⟩:∃ f:Nat,(n.Edges.getD k default).From=(f:Int):=⟨_,(Int.toNat_of_nonneg f1).symm⟩
  obtain ⟨t,ht⟩:∃ t:Nat,(n.Edges.getD k default).To=(t:Int):=⟨_,(Int.toNat_of_nonneg t1).symm⟩
  have hp:aCt n.Edges nd k=(nd.testBit f && !nd.testBit t):=by unfold aCt;rw [hf,ht];rfl
  have hr:(List.range (k+1)).filter (aCt n.Edges nd)=(List.range k).filter (aCt n.Edges nd)++if aCt n.Edges nd k=true then [k] else []:=by
   rw [List.range_succ,List.filter_append,List.filter_cons,List.filter_nil]
  unfold jB
  simp only [iK]
  rw [aZ,if_pos (by omega),lB hk,hf,ht,aIy (by omega),bL,bT (x:=(k:Int)+1) (by omega) (by omega)]
  have other:aCt n.Edges nd k=false→∃ s',gd ((0:Int)≤(k:Int)∧(k:Int)<(u.length:Int)) (st u (k:Int) true fun l11=>(some (.nx (a,(k:Int)+1,l11)):Option (Ct (Int×Int×List Bool) Int)))=some (.nx s')∧(s'.2.1=((k+1:Nat):Int)∧s'.1=fP 0 (((List.range (k+1)).filter (aCt n.Edges nd)).map (sG n.Edges))∧s'.2.2.length=n.Edges.length∧(∀ i,s'.2.2.getD i default=(decide (i<k+1) && !aCt n.Edges nd i))∧0≤s'.1∧s'.1≤((k+1:Nat):Int) * 10000):=fun hno=>by
   rw [kN _ (by omega),aQ4,Int.toNat_natCast]
   refine ⟨_,rfl,by simp only;omega,?_,by simp only;rw [List.length_set];exact h3,fun i=>?_,h5.1,by simp only;omega⟩
   ·simp only
    rw [hr,hno,h2];simp
   ·simp only
    rw [aBV (by omega),h4 i]
    by_cases q:i=k
    ·subst q;rw [if_pos rfl,hno];simp
    ·rw [if_neg q]
     by_cases q2:i<k
     ·rw [decide_eq_true q2,decide_eq_true (show i<k+1 by omega)]
     ·rw [decide_eq_false q2,decide_eq_false (show ¬ i<k+1 by omega)]
  cases hb:nd.testBit f
  ·rw [dN,dN]
   exact other (by rw [hp,hb];rfl)
  ·rw [eE,aIy (by omega),bL]
   cases hb2:nd.testBit t
   ·rw [Bool.not_false,eE]
    have hyes:aCt n.Edges nd k=true:=by rw [hp,hb,hb2];rfl
    rw [bT (by omega) (by omega)]
    refine ⟨_,rfl,by simp only;omega,?_,h3,fun i=>?_,by simp only;omega,by simp only;omega⟩
    ·simp only
     rw [hr,hyes,if_pos rfl,List.map_append,vC,← h2]
     simp [oE,lT,sG]
    ·simp only
     rw [h4 i]
     by_cases q:i=k
     ·subst q;rw [hyes];simp
     ·by_cases q2:i<k
      ·rw [decide_eq_true q2,decide_eq_true (show i<k+1 by omega)]
      ·rw [decide_eq_false q2,decide_eq_false (show ¬ i<k+1 by omega)]
   ·rw [Bool.not_true,dN]
    exact other (by rw [hp,hb,hb2];rfl)) (fun z ⟨h1,_⟩=>by
  unfold jB
  simp only [iK]
  rw [aZ,if_neg (by omega)]) (0,0,List.replicate n.Edges.length false) ⟨rfl,by simp [lT],by simp,fun i=>by
   simp only [Nat.not_lt_zero,decide_false,Bool.false_and,List.getD_eq_getElem?_getD,List.getElem?_replicate]
   split<;>rfl,by simp,by simp⟩
 refine ⟨z.2.1,z.2.2,by rw [e,show fP 0 ((uD n.Edges nd).map (sG n.Edges))=z.1 from h2.symm],h3,?_⟩
 unfold qQ uD
 rw [h3]
 refine List.filter_congr fun i hi=>?_
 rw [h4.1 i,decide_eq_true (List.mem_range.1 hi)];simp
theorem aPu {u:List Bool} (hu:u.length=n.Edges.length) (a b:Int):∃ x,(qQ u=[]∧lp (gV n (a,b,u)) FU (-1,0)=some (.inl (-1,x)))∨∃ m:Nat,m∈qQ u∧(∀ j∈qQ u,sG n.Edges j≤sG n.Edges m)∧lp (gV n (a,b,u)) FU (-1,0)=some (.inl ((m:Int),x)):=by
 have hel:=h.el
 obtain ⟨z,e,h1,h2⟩:=dD (body:=gV n (a,b,u)) (fun k z=>z.2=(k:Int)∧((z.1 = -1∧∀ j,j<k→u.getD j default=true)∨∃ m:Nat,z.1=(m:Int)∧m<k∧u.getD m default=false∧∀ j,j<k→u.getD j default=false→sG n.Edges j≤sG n.Edges m)) n.Edges.length (by omega) (fun k z hk ⟨h1,h2⟩=>by
  obtain ⟨v,i⟩:=z
  simp only at h1 h2
  subst h1
  unfold gV
  simp only [iK]
  rw [aZ,if_pos (by omega),kN _ (by omega),Int.toNat_natCast,bT (x:=(k:Int)+1) (by omega) (by omega),iD]
  cases hb:u.getD k default
  ·rw [dN,aZ]
   rcases h2 with ⟨rfl,h2⟩ | ⟨m,rfl,h3,h4,h5⟩
   ·rw [if_pos (by omega),eE]
    refine ⟨_,rfl,by simp only;omega,.inr ⟨k,rfl,by omega,hb,fun j hj hj2=>?_⟩⟩
    by_cases q:j=k
    ·subst q;exact Int.le_refl _
    ·rw [h2 j (by omega)] at hj2;cases hj2
   ·rw [if_neg (by omega),lB hk,aPs,lB (by omega),aZ]
    by_cases q:(n.Edges.getD k default).Capacity>(n.Edges.getD m default).Capacity
    ·rw [if_pos q]
     refine ⟨_,rfl,by simp only;omega,.inr ⟨k,rfl,by omega,hb,fun j hj hj2=>?_⟩⟩
     by_cases q2:j=k
     ·subst q2;exact Int.le_refl _
     ·have:=h5 j (by omega) hj2
      unfold sG at *;omega
    ·rw [if_neg q]
     refine ⟨_,rfl,by simp only;omega,.inr ⟨m,rfl,by omega,h4,fun j hj hj2=>?_⟩⟩
     by_cases q2:j=k
     ·subst q2;unfold sG;omega
     ·exact h5 j (by omega) hj2
  ·rw [eE,dN]
   refine ⟨_,rfl,by simp only;omega,?_⟩
   rcases h2 with ⟨h2,h3⟩ | ⟨m,h3,h4,h5,h6⟩
   ·refine .inl ⟨h2,fun j hj=>?_⟩
    by_cases q:j=k
    ·subst q;exact hb
    ·exact h3 j (by omega)
   ·refine .inr ⟨m,h3,by omega,h5,fun j hj hj2=>?_⟩
    by_cases q:j=k
    ·subst q;rw [hb] at hj2;cases hj2
    ·exact h6 j (by omega) hj2) (fun z ⟨h1,_⟩=>by
  unfold gV
  rw [aZ,if_neg (by omega)]) (-1,0) ⟨rfl,.inl ⟨rfl,fun j hj=>by omega⟩⟩
 refine ⟨z.2,?_⟩
 have hmem:∀ j,j∈qQ u↔j<n.Edges.length∧u.getD j default=false:=fun j=>by
  unfold qQ
  rw [List.mem_filter,List.mem_range,hu];simp
 rcases h2 with ⟨h2,h3⟩ | ⟨m,h3,h4,h5,h6⟩
 ·refine .inl ⟨?_,by rw [e,← h2]⟩
  refine List.eq_nil_iff_forall_not_mem.2 fun j hj=>?_
  obtain ⟨q1,q2⟩:=(hmem j).1 hj
  rw [h3 j q1] at q2;cases q2
 ·exact .inr ⟨m,(hmem m).2 ⟨h4,h5⟩,fun j hj=>h6 j ((hmem j).1 hj).1 ((hmem j).1 hj).2,by rw [e,← h3]⟩
theorem aQy {u:List Bool} (hu:u.length=n.Edges.length) (f:Nat) (hf:f≤10) {S:Int} (hS:S=fP 0 ((qQ u).map (sG n.Edges))):∃ x u',lp (jK n) FU ((f:Int),S,u)=some (.inl (x,fP f ((qQ u).map (sG n.Edges)),u')):=by
 have hel:=h.el
 have hbd:∀ v:List Bool,v.length=n.Edges.length→(∀ x∈(qQ v).map (sG n.Edges),0≤x∧x≤10000)∧0≤fP 0 ((qQ v).map (sG n.Edges))∧fP 0 ((qQ v).map (sG n.Edges))≤280000:=fun v hv=>by
  have h1:∀ x∈(qQ v).map (sG n.Edges),0≤x∧x≤10000:=fun x hx=>by
   obtain ⟨i,hi,rfl⟩:=List.mem_map.1 hx
   have:=List.mem_range.1 (List.mem_filter.1 hi).1
   exact (aCR h (show i<n.Edges.length by omega)).2.2
  have h2:=aAB 0 (l:=(qQ v).map (sG n.Edges)) fun x hx=>(h1 x hx).1
  have h3:=yY (B:=10000) (l:=(qQ v).map (sG n.Edges)) fun x hx=>(h1 x hx).2
  have h4:((qQ v).map (sG n.Edges)).length≤28:=by
   rw [List.length_map]
   exact Nat.le_trans (List.length_filter_le _ _) (by rw [List.length_range];omega)
  exact ⟨h1,h2,by omega⟩
 obtain ⟨z,e,h1,h2⟩:=dD (body:=jK n) (fun k z=>z.1=((f-k:Nat):Int)∧z.2.2.length=n.Edges.length∧z.2.1=fP 0 ((qQ z.2.2).map (sG n.Edges))∧fP f ((qQ u).map (sG n.Edges))=fP (f-k) ((qQ z.2.2).map (sG n.Edges))) f (by omega) (fun k z hk ⟨h1,h2,h3,h4⟩=>by
  obtain ⟨a,b,v⟩:=z
  simp only at h1 h2 h3 h4
  subst h1
  have hb:=hbd v h2
  unfold jK
  simp only [iK]
  rw [aZ,if_pos (by omega)]
  obtain ⟨x,⟨g1,g2⟩ | ⟨m,g1,g2,g3⟩⟩:=aPu h h2 ((f-k:Nat):Int) b
  ·rw [g2,bL,eJ,aZ,if_neg (by simp only;omega),bT (by omega) (by omega)]
   refine ⟨_,rfl,by simp only;omega,h2,h3,?_⟩
   simp only
   rw [h4,g1];simp [lT]
  ·have hm:m<n.Edges.length:=by have:=List.mem_range.1 (List.mem_filter.1 g1).1;omega
   have hmu:v.getD m default=false:=by have:=(List.mem_filter.1 g1).2;simpa using this
   rw [g3,bL,eJ,aZ,if_pos (by simp only;omega),kN _ (by simp only;omega),aQ4,lB hm,Int.toNat_natCast]
   have hlen:(v.set m true).length=n.Edges.length:=by rw [List.length_set];exact h2
   have hperm:(qQ v).Perm (m::qQ (v.set m true)):=by
    unfold qQ
    rw [List.length_set]
    exact aCU (by simp only [hmu];rfl) (by simp only [aBV (show m<v.length by omega)];simp) (fun i hi=>by simp only [aBV (show m<v.length by omega),if_neg hi]) _ (by omega)
   have hp2:=hperm.map (sG n.Edges)
   rw [List.map_cons] at hp2
   have hcm:=hb.1 (sG n.Edges m) (List.mem_map.2 ⟨m,g1,rfl⟩)
   have hcap:sG n.Edges m=(n.Edges.getD m default).Capacity:=rfl
   have hmx:=aK8 (f-(k+1)) hp2 (fun y hy=>by
    obtain ⟨j,hj,rfl⟩:=List.mem_map.1 hy
    exact g2 j hj) hcm.1
   have hf1:f-k=f-(k+1)+1:=by omega
   rw [hf1] at h4
   rw [bT (x:=((f-k:Nat):Int)-1) (by omega) (by omega),bT (x:=b-_) (by omega) (by omega)]
   refine ⟨_,rfl,by simp only;omega,hlen,?_,?_⟩
   ·simp only;omega
   ·simp only;rw [h4,hmx.1]) (fun z ⟨h1,_⟩=>by
  unfold jK
  rw [aZ,if_neg (by omega)]) ((f:Int),S,u) ⟨by simp,hu,hS,by simp⟩
 obtain ⟨h2,h3,h4⟩:=h2
 refine ⟨z.1,z.2.2,?_⟩
 rw [e,h4,Nat.sub_self,← h3]
theorem aQJ {nd:Nat} {S:Int} (hS:0≤S∧S≤280000):∃ x,lp (jJ n l (nd:Int)) FU (S,0)=some (.inl (S-uH l nd M,x)):=by
 have hel:=h.el;have hN:=h.N;have hM:=h.M8;have hll:=h.ll
 obtain ⟨z,e,h1,h2⟩:=dD (body:=jJ n l (nd:Int)) (fun k z=>z.2=(k:Int)∧z.1=S-uH l nd k) M (by omega) (fun k z hk ⟨h1,h2⟩=>by
  obtain ⟨a,b⟩:=z
  simp only at h1 h2
  subst h1 h2
  have hb:=aGR h nd k (by omega)
  have hlv:=h.lv k hk
  unfold jJ
  simp only [iK]
  rw [bT (x:=(k:Int)+1) (by omega) (by omega),aZ,if_pos (by omega),aIy (by omega),bL]
  cases hbit:nd.testBit k
  ·rw [dN]
   refine ⟨_,rfl,by simp only;omega,?_⟩
   simp [uH,hbit]
  ·rw [eE,lB (by omega),bT (by omega) (by omega)]
   refine ⟨_,rfl,by simp only;omega,?_⟩
   simp only [uH,hbit,if_true];omega) (fun z ⟨h1,_⟩=>by
  unfold jJ
  rw [h1,bT (by omega) (by omega),aZ,if_neg (by omega)]
  rw [← h1]) (S,0) ⟨rfl,by simp [uH]⟩
 exact ⟨z.2,by rw [e,← h2]⟩
theorem aJy {f nd:Nat} (hf:f≤10):iP n l (f:Int) (nd:Int)=some (mgN M n l f nd):=by
 have hel:=h.el
 have hr:=aHL h f nd
 obtain ⟨x1,u,e1,hu,hfr⟩:=aQI h (nd:=nd)
 obtain ⟨x2,u',e2⟩:=aQy h hu f hf (S:=fP 0 ((uD n.Edges nd).map (sG n.Edges))) (by rw [hfr])
 rw [hfr] at e2
 obtain ⟨x3,e3⟩:=aQJ h (nd:=nd) hr
 unfold iP
 rw [kN _ (by omega),wZ,Int.toNat_natCast,e1,bL,eJ]
 simp only
 rw [e2,bL,eJ]
 simp only
 rw [e3,bL,eJ]
 rfl
end
theorem aLR {k:Nat} (h:k≤8):aAw .i64 1 (k:Int)=((2 ^ k:Nat):Int)∧2 ^ k≤256∧0<2 ^ k:=by
 have hp:(2:Int) ^ k=((2 ^ k:Nat):Int):=by norm_cast
 refine ⟨by rw [kI (by omega),hp],?_,Nat.two_pow_pos k⟩
 have:2 ^ k≤2 ^ 8:=Nat.pow_le_pow_right (by omega) h
 omega
def InS (r:aD) (s:Int):Prop:=0≤s∧s<((2 ^ r.Calls.length:Nat):Int)
section
variable {r:aD} (hb:RB r)
include hb
theorem aLi (h:¬ RV r):dF r=some false:=by
 obtain ⟨b,e,hx⟩:=valid_iff hb
 cases b
 ·exact e
 ·exact absurd (hx.1 rfl) h
theorem aJp (h:¬ RV r) (s:Int):eM r s=some false:=by
 unfold eM
 simp only [iK]
 rw [aLi hb h,bL,dN]
theorem aFW (s:Int):∃ b,eM r s=some b∧(b=true↔RV r∧InS r s):=by
 by_cases h:RV r
 ·have hk:=aLR h.kl
  unfold eM
  simp only [iK]
  rw [aBf h,bL,eE]
  obtain ⟨x,ex,hx⟩:=aEY s 0 (((2 ^ r.Calls.length:Nat):Int)-1)
  rw [kN _ (by omega),hk.1,bT (by omega) (by omega),ex,bL]
  refine ⟨x,rfl,?_⟩
  rw [hx]
  exact ⟨fun q=>⟨h,q.1,by omega⟩,fun q=>⟨q.2.1,by have:=q.2.2;omega⟩⟩
 ·exact ⟨false,aJp hb h s,iff_of_false (by simp) fun q=>h q.1⟩
theorem aFx (s:Int):∃ b,pE r s=some b∧(b=true↔RV r∧InS r s):=by
 obtain ⟨v,ev,hv⟩:=aCG hb
 unfold pE
 simp only [iK]
 rw [ev,bL]
 by_cases h:RV r
 ·have hk:=aLR h.kl
  rw [hv.2 h,eE]
  obtain ⟨x,ex,hx⟩:=yU s 0 (((2 ^ r.Calls.length:Nat):Int)-1)
  rw [kN _ (by omega),hk.1,bT (by omega) (by omega),ex,bL]
  refine ⟨x,rfl,?_⟩
  rw [hx]
  exact ⟨fun q=>⟨h,q.1,by omega⟩,fun q=>⟨q.2.1,by have:=q.2.2;omega⟩⟩
 ·cases v
  ·rw [dN];exact ⟨false,rfl,iff_of_false (by simp) fun q=>h q.1⟩
  ·exact absurd (hv.1 rfl) h
theorem aBl {s:Int} (h:¬ (RV r∧InS r s)):dV r s=some (⟨0,[]⟩,[],330):=by
 obtain ⟨b,e,hx⟩:=aFW hb s
 unfold dV
 simp only [iK]
 rw [e,bL]
 cases b
 ·rw [dN]
 ·exact absurd (hx.1 rfl) h
theorem InS.nat {s:Int} (h:InS r s):∃ k:Nat,s=(k:Int)∧k<2 ^ r.Calls.length:=⟨s.toNat,(Int.toNat_of_nonneg h.1).symm,by have:=h.1;have:=h.2;omega⟩
theorem aKP (s:Int):nE r s=dV r s:=by
 obtain ⟨b,e,hx⟩:=aFx hb s
 unfold nE
 rw [e,bL,iD]
 by_cases h:RV r∧InS r s
 ·rw [hx.2 h,eE]
  obtain ⟨k,rfl,hk⟩:=InS.nat hb h.2
  rcases aFo h.1 k with ⟨h1,h2⟩ | ⟨h1,h2⟩
  ·rw [h2,bL,Bool.not_true,dN]
   rcases aB4 h.1 hk with ⟨h3,_⟩ | ⟨_,h4⟩
   ·exact absurd h1 h3
   ·rw [h4]
  ·rw [h2,bL,Bool.not_false,eE]
   rcases aB4 h.1 hk with ⟨_,h4⟩ | ⟨h3,_⟩
   ·rw [h4]
   ·exact absurd h3 h1
 ·cases b
  ·rw [dN,aBl hb h]
  ·exact absurd (hx.1 rfl) h
theorem aBT {s:Int} (h:¬ (RV r∧InS r s)):cW r s=some (0,330):=by
 unfold cW
 rw [aBl hb h,bL,fR,if_neg (by simp only;omega)]
theorem aHV (s:Int):lP r s=cW r s:=by
 unfold lP
 rw [aKP hb]
 by_cases h:RV r∧InS r s
 ·obtain ⟨hr,hs⟩:=h
  obtain ⟨k,rfl,hk⟩:=InS.nat hb hs
  rcases aB4 hr hk with ⟨h1,h2⟩ | ⟨h1,h2⟩
  ·rcases aBe hr hk with ⟨_,h3⟩ | ⟨h3,_⟩
   ·rw [h2,bL,h3,fR,if_neg (by simp only;omega)]
   ·exact absurd h3 h1
  ·rcases aBe hr hk with ⟨h3,_⟩ | ⟨_,nd,n1,n2,h3,h4⟩
   ·exact absurd h1 h3
   ·have hC:=aEH hr h1
    have hft:=hr.ft;have hn:=hr.n;have hul:=hr.ul
    have hf:r.Faults=(r.Faults.toNat:Int):=(Int.toNat_of_nonneg hft.1).symm
    have hmar:∀ nd:Nat,iP (jO r k) (lsu r) r.Faults (nd:Int)=some (mgR r k nd):=fun nd=>by
     have:=aJy hC (f:=r.Faults.toNat) (nd:=nd) (by omega)
     rw [← hf] at this;exact this
    have hN:r.Net.N=(r.Urgent.length:Int):=hul.symm
    have hsh:=aLR (k:=r.Urgent.length) (by omega)
    have hm1:=hmar 1
    rw [show ((1:Nat):Int)=1 from rfl] at hm1
    rw [h2,bL,fR,if_pos rfl]
    simp only
    rw [hm1,bL]
    obtain ⟨o,e,ho⟩:=mJ (body:=oV r (jO r k,lsu r,0)) (fun z:Int×Int=>∃ j:Nat,z.2=(j:Int)∧2≤j∧j≤2 ^ r.Urgent.length∧(∃ nd',1≤nd'∧nd'<j∧z.1=mgR r k nd')∧∀ nd',1≤nd'→nd'<j→z.1≤mgR r k nd') (fun z=>2 ^ r.Urgent.length-z.2.toNat)
     (fun o=>match o with
      | .inl z=>z.1=mgR r k nd
      | .inr _=>False) (fun z hz=>by
      obtain ⟨a,b⟩:=z
      obtain ⟨j,h5,h6,h7,⟨m,m1,m2,m3⟩,h8⟩:=hz
      simp only at h5 m3 h8
      subst h5
      unfold oV
      simp only
      rw [kN _ (by omega),hN,hsh.1,aZ]
      by_cases q:j<2 ^ r.Urgent.length
      ·rw [if_pos (by omega),hmar,bL,bT (by omega) (by omega)]
       refine .inl ⟨_,rfl,⟨j+1,by simp only;omega,by omega,by omega,?_,fun nd' g1 g2=>?_⟩,by simp only;omega⟩
       ·simp only
        by_cases c:a≤mgR r k j
        ·exact ⟨m,m1,by omega,by unfold aA9;split<;>omega⟩
        ·exact ⟨j,by omega,by omega,by unfold aA9;split<;>omega⟩
       ·simp only
        by_cases c:nd'=j
        ·subst c;unfold aA9;split<;>omega
        ·have:=h8 nd' g1 (by omega)
         unfold aA9;split<;>omega
      ·rw [if_neg (by omega)]
       refine .inr (.inl ⟨_,rfl,?_⟩)
       simp only
       have g1:=h8 nd n1 (by omega)
       have g2:=h4 m m1 (by omega)
       omega)
     (mgR r k 1,2) ⟨2,rfl,by omega,by
      have:2 ^ 1≤2 ^ r.Urgent.length:=Nat.pow_le_pow_right (by omega) (by omega)
      omega,⟨1,by omega,by omega,rfl⟩,fun nd' g1 g2=>by
      have:nd'=1:=by omega
      subst this;exact Int.le_refl _⟩ (by simp only;omega)
    rw [e,bL,h3]
    match o,ho with
    | .inl z,ho=>rw [eJ,ho]
 ·rw [aBl hb h,bL,aBT hb h,fR,if_neg (by simp only;omega)]
theorem aDJ (s:Int):kH r s=cS r s:=by
 unfold kH cS
 rw [aHV hb]
theorem aFs {s:Int} (h:¬ (RV r∧InS r s)):cS r s=some false:=by
 unfold cS
 rw [aBT hb h,bL]
 simp only [iK]
 rw [iL,if_neg (by omega)]
omit hb in
theorem aIi:∀ k:Fin 9,∀ s:Fin 512,s.val.testBit k.val=false→s.val|||2 ^ k.val=s.val+2 ^ k.val:=by decide +kernel
omit hb in
theorem aME {s k:Nat} (hs:s.testBit k=false) (hlt:s<2 ^ 9) (hk:k≤8):wr ((s:Int)+aAw .i64 1 (k:Int))=((s|||2 ^ k:Nat):Int):=by
 have hsh:=aLR hk
 have e:s|||2 ^ k=s+2 ^ k:=aIi ⟨k,by omega⟩ ⟨s,by omega⟩ hs
 rw [hsh.1,bT (by omega) (by omega),e];omega
theorem aHd:(RV r∧qS r 0∧iJ r=some (((qE r r.Calls.length:Nat):Int),true))∨(¬ (RV r∧qS r 0)∧iJ r=some (0,false)):=by
 unfold iJ
 rw [aDJ hb]
 by_cases h:RV r
 ·have hkl:=h.kl
  obtain ⟨b,e,hs⟩:=aB3 h (s:=0) (Nat.two_pow_pos _)
  rw [show ((0:Nat):Int)=0 from rfl] at e
  rw [e,bL,iD]
  cases b
  ·exact .inr ⟨fun q=>Bool.false_ne_true (hs.2 q.2),dN _ _⟩
  ·refine .inl ⟨h,hs.1 rfl,?_⟩
   rw [eE]
   obtain ⟨z,e2,h1,h2⟩:=dD (body:=iY r) (fun k z=>z.2=(k:Int)∧z.1=((qE r k:Nat):Int)) r.Calls.length (by omega) (fun k z hk ⟨h1,h2⟩=>by
    obtain ⟨a,b⟩:=z
    simp only at h1 h2
    subst h1 h2
    have hlt:=aCX r k
    have hp9:2 ^ k≤2 ^ 8:=Nat.pow_le_pow_right (by omega) (by omega)
    have hlt2:qE r k|||2 ^ k<2 ^ r.Calls.length:=Nat.lt_of_lt_of_le (Nat.or_lt_two_pow (Nat.lt_trans hlt (Nat.pow_lt_pow_right (by omega) (Nat.lt_succ_self k))) (Nat.pow_lt_pow_right (by omega) (Nat.lt_succ_self k))) (Nat.pow_le_pow_right (by omega) hk)
    have hadd:=aME (sY r k k (Nat.le_refl _)) (by omega) (show k≤8 by omega)
    obtain ⟨c,e3,hc⟩:=aB3 h hlt2
    unfold iY
    simp only [iK]
    rw [aZ,if_pos (by omega),kN _ (by omega),hadd,aDJ hb,e3,bL,bT (by omega) (by omega)]
    cases c
    ·rw [dN]
     refine ⟨_,rfl,by simp only;omega,?_⟩
     simp only [qE]
     rw [if_neg fun q=>by have:=hc.2 q;cases this]
    ·rw [eE,kN _ (by omega)]
     refine ⟨_,rfl,by simp only;omega,?_⟩
     simp only [qE]
     rw [if_pos (hc.1 rfl)]) (fun z ⟨h1,_⟩=>by
    unfold iY
    rw [aZ,if_neg (by omega)]) (0,0) ⟨rfl,rfl⟩
   rw [e2,bL,eJ,h2]
 ·rw [aFs hb fun q=>h q.1,bL,Bool.not_false,eE]
  exact .inr ⟨fun q=>h q.1,rfl⟩
end
end Go.Proofs.YtkjccabdpeldhaaGreat
