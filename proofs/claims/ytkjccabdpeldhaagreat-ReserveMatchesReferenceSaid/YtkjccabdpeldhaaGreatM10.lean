import Derived.Test.YtkjccabdpeldhaaGreatM9
import Derived.Test.YtkjccabdpeldhaaGreatM8
import Derived.Test.YtkjccabdpeldhaaGreatM6
import Derived.KernelRfl
set_option linter.unusedVariables false
set_option linter.unusedSimpArgs false
set_option linter.unusedSectionVars false
namespace Go.Proofs.YtkjccabdpeldhaaGreat
open Go Go.Eng
set_option maxRecDepth 100000
set_option maxHeartbeats 0
set_option maxRecDepth 100000
theorem aCZ {p:Nat→Bool} {k:Nat}:∀ {m:Nat},k≤m→(∀ i,k≤i→p i=false)→(List.range m).countP p=(List.range k).countP p
 | 0, h, _ => by have : k = 0 := by omega
                 subst this;rfl
 | m+1,h,hz=>by
  by_cases q:k=m+1
  ·subst q;rfl
  ·rw [List.range_succ,List.countP_append,aCZ (k:=k) (m:=m) (by omega) hz]
   simp [hz m (by omega)]
theorem aNA {F:Nat} (hF:F<2 ^ 32):mV (F:Int)=some ((aIr F:Nat):Int):=by
 obtain ⟨o,e,ho⟩:=mJ (body:=qH) (fun z:Int×Int=>∃ k:Nat,z.1=((F / 2 ^ k:Nat):Int)∧k≤32∧z.2=(((List.range k).countP F.testBit:Nat):Int)) (fun z=>z.1.toNat)
  (fun o=>match o with
   | .inl z=>z.2=((aIr F:Nat):Int)
   | .inr _=>False) (fun z hz=>by
   obtain ⟨x,c⟩:=z
   obtain ⟨k,rfl,hk,rfl⟩:=hz
   have hle:F / 2 ^ k≤F:=Nat.div_le_self _ _
   have hcl:(List.range k).countP F.testBit≤k:=Nat.le_trans List.countP_le_length (by simp)
   have hbit:F.testBit k=decide (F / 2 ^ k % 2=1):=Nat.testBit_eq_decide_div_mod_eq
   have hnext:F / 2 ^ k / 2=F / 2 ^ (k+1):=by rw [Nat.div_div_eq_div_mul,Nat.pow_succ]
   unfold qH
   rw [aZ]
   by_cases q:((F / 2 ^ k:Nat):Int)>0
   ·have hk32:k<32:=by
     rcases Nat.lt_or_ge k 32 with h | h
     ·exact h
     ·have:k=32:=by omega
      subst this
      rw [Nat.div_eq_of_lt hF] at q
      simp at q
    simp only
    rw [if_pos q,Int.tmod_eq_emod_of_nonneg (by omega),Int.tdiv_eq_ediv_of_nonneg (by omega)]
    have e1:(((F / 2 ^ k:Nat):Int) / 2)=((F / 2 ^ (k+1):Nat):Int):=by rw [← hnext];omega
    have e2:(List.range (k+1)).countP F.testBit=(List.range k).countP F.testBit+F / 2 ^ k % 2:=by
     rw [List.range_succ,List.countP_append]
     simp only [List.countP_cons,List.countP_nil,hbit,decide_eq_true_eq]
     split<;>omega
    have hle2:F / 2 ^ (k+1)<F / 2 ^ k:=by rw [← hnext];omega
    rw [e1,bT (x:=((F / 2 ^ (k+1):Nat):Int)) (by omega) (by omega),bT (x:=_+((F / 2 ^ k:Nat):Int) % 2) (by omega) (by omega)]
    refine .inl ⟨_,rfl,⟨k+1,rfl,by omega,?_⟩,?_⟩
    ·simp only;rw [e2];omega
    ·simp only;omega
   ·rw [if_neg q]
    refine .inr (.inl ⟨_,rfl,?_⟩)
    have h0:F / 2 ^ k=0:=by
     rcases Nat.eq_zero_or_pos (F / 2 ^ k) with h | h
     ·exact h
     ·exact absurd (Int.natCast_pos.2 h) q
    have hlt:F<2 ^ k:=by
     rcases Nat.lt_or_ge F (2 ^ k) with h | h
     ·exact h
     ·have:=Nat.div_pos h (Nat.two_pow_pos k);omega
    simp only
    unfold aIr
    rw [aCZ hk fun i hi=>Nat.testBit_lt_two_pow (Nat.lt_of_lt_of_le hlt (Nat.pow_le_pow_right (by omega) hi))])
  ((F:Int),0) ⟨0,by simp,by omega,by simp⟩ (by simp only;omega)
 unfold mV
 rw [e,bL]
 match o,ho with
 | .inl z,ho=>rw [eJ,ho]
def aLI (r:aD) (all:Int) (d:bS):Option Bool:=cn (d.Edge != (-1)) (bd (cL d.Edge 0 (wr ((r.Net.Edges.length:Int)-1))) fun y12=>cn (!y12) (cn true (some false) (bd (lp (bK r d all) FU (0,0)) fun c21=>smK c21 (fun s22=>
  ix r.Net.Edges default d.Edge fun e24=>some (decide (s22.1>e24.Capacity))) (fun r23=>some r23))) (cn (!((d.Call==d.Call)&&((d.Edge==d.Edge)&&((d.Failed ==
  0)&&(d.Set==0))))) (some false) (bd (lp (bK r d all) FU (0,0)) fun c21=>smK c21 (fun s22=>
  ix r.Net.Edges default d.Edge fun e24=>some (decide (s22.1>e24.Capacity))) (fun r23=>some r23)))) (bd (eP r all) fun y26=>cn (decide (y26.2.2≥0)) (some false) (bd (dB y26.1 d.Failed) fun y27=>
  cn (y27.2==0) (bd (cF (IntKind.u64.wrap (d.Failed))) fun y30=>
  cn (decide (y30≤r.Faults)) (bd (cV y27.1 y26.2.1 (⟨false,[],d.Set⟩:lG)) fun y31=>some y31) (some false)) (some false)))
def aK7 (r:aD) (all:Int) (d:bS):Option Bool:=cn (d.Edge != (-1)) (bd (fN d.Edge 0 (wr ((r.Net.Edges.length:Int)-1))) fun y11=>cn y11 (cn (d.Failed==0) (cn (d.Set ==
  0) (bd (nA r all d.Edge) fun y12=>ix r.Net.Edges default d.Edge fun e13=>some (decide (y12>e13.Capacity))) (some false)) (some false)) (some false)) (bd (kG r all) fun y15=>cn (!y15.2.2) (some false) (bd (gR y15.1 d.Failed) fun y16=>
  cn (y16.2==0) (bd (mV d.Failed) fun y19=>
  cn (decide (y19≤r.Faults)) (bd (gL y16.1 y15.2.1 (⟨false,[],d.Set⟩:lG)) fun y20=>some y20) (some false)) (some false)))
section
variable {r:aD} (h:RV r)
include h
theorem aQC {s:Nat} (hc:Car r s):Fl.NV (jO r s):=by
 have hv:=aJC h hc
 exact ⟨⟨by have:=hv.nn;omega,hv.nn.2⟩,hv.el,fun e he=>by have:=hv.eg e he;exact ⟨this.1,this.2.1,this.2.2.1,this.2.2.2⟩⟩
theorem aGG (s:Nat):(jO r s).Edges.length≤28:=by
 have:=h.el;have:=h.n;have:=h.cl
 simp only [jO];rw [yS];omega
theorem aKa {all:Nat} (hall:all<4611686018427387904) (d:bS):aK7 r (all:Int) d=aLI r (all:Int) d:=by
 have hel:=h.el
 unfold aLI aK7
 rw [fR,fR]
 by_cases q:d.Edge = -1
 ·rw [if_pos q,if_pos q]
  rcases aEJ h hall with ⟨e,he,h1,h2⟩ | ⟨h1,h2⟩
  ·rcases aFo h all with ⟨h3,_⟩ | ⟨_,h4⟩
   ·have:=h3 e he;omega
   ·rw [h2,h4,bL,bL,Bool.not_false,eE,aZ,if_pos (by simp only;omega)]
  ·rcases aFo h all with ⟨_,h4⟩ | ⟨h3,_⟩
   ·rw [h2,h4,bL,bL,Bool.not_true,dN,aZ,if_neg (by simp only;omega)]
    have e1:(⟨r.Net.N+1,lvE r all⟩:bG)=jO r all:=rfl
    have e2:r.Urgent++[-(yI r.Urgent r.Urgent.length)]=lsu r:=rfl
    simp only [e1,e2]
    rw [Fl.refWithout]
    have hv:=aQC h h1
    have hl:=aGG h all
    by_cases q2:0≤d.Failed∧d.Failed<2 ^ (jO r all).Edges.length
    ·obtain ⟨F,hF⟩:∃ F:Nat,d.Failed=(F:Int):=⟨_,(Int.toNat_of_nonneg q2.1).symm⟩
     rw [hF] at q2 ⊢
     have hF2:F<2 ^ (jO r all).Edges.length:=by exact_mod_cast q2.2
     have hp28:2 ^ (jO r all).Edges.length≤2 ^ 28:=Nat.pow_le_pow_right (by omega) hl
     rw [Fl.Without_ok hv q2.2,bL,bL,aNA (by omega),aMj (by omega),bL,bL]
     simp only [Fl.refCheckMeet _ _ (⟨false,[],d.Set⟩:lG) (by simp)]
    ·rw [Fl.Without_no fun q3=>q2 q3.2,bL,bL,iL,if_neg (by simp only;omega),iL,if_neg (by simp only;omega)]
   ·exact absurd h1 h3
 ·rw [if_neg q,if_neg q,aOg,sM,bL,bL,bT (by omega) (by omega),iD]
  by_cases q2:0≤d.Edge∧d.Edge<(r.Net.Edges.length:Int)
  ·obtain ⟨e,he⟩:∃ e:Nat,d.Edge=(e:Int):=⟨_,(Int.toNat_of_nonneg q2.1).symm⟩
   have hel2:e<r.Net.Edges.length:=by omega
   obtain ⟨x,e1⟩:=aMo h (s:=all) (e:=e) (d:=d) hall he
   rw [decide_eq_true q2.1,decide_eq_true (show d.Edge≤(r.Net.Edges.length:Int)-1 by omega),Bool.and_self,eE,eE,e1,he,aMv h,bL,bL,eJ,iL,iL]
   by_cases q3:d.Failed=0
   ·by_cases q4:d.Set=0
    ·rw [if_pos q3,if_pos q4,show (!((d.Call==d.Call)&&(((e:Int)==(e:Int))&&((d.Failed==0)&&(d.Set==0)))))=false by simp [q3,q4],dN]
    ·rw [if_pos q3,if_neg q4,show (!((d.Call==d.Call)&&(((e:Int)==(e:Int))&&((d.Failed==0)&&(d.Set==0)))))=true by simp [q3,q4],eE]
   ·rw [if_neg q3,show (!((d.Call==d.Call)&&(((e:Int)==(e:Int))&&((d.Failed==0)&&(d.Set==0)))))=true by simp [q3],eE]
  ·have:(decide (0≤d.Edge)&&decide (d.Edge≤(r.Net.Edges.length:Int)-1))=false:=by
    rw [Bool.and_eq_false_iff,decide_eq_false_iff_not,decide_eq_false_iff_not];omega
   rw [this,dN,dN,eE]
theorem aTh {s:Nat} (hs:s<2 ^ r.Calls.length) (d:bS):bC r (s:Int) d=if -1≤d.Call∧d.Call<(r.Calls.length:Int) then (if d.Call = -1 then (if s=0 then aLI r (s:Int) d else some false) else if s.testBit d.Call.toNat=true then some false else aLI r ((s|||2 ^ d.Call.toNat:Nat):Int) d) else some false:=by
 have hkl:=h.kl
 have hs8:2 ^ r.Calls.length≤2 ^ 8:=Nat.pow_le_pow_right (by omega) hkl
 unfold bC
 simp only [iK]
 rw [aFh h hs,bL,Bool.not_true,dN,bT (by omega) (by omega),sM,bL]
 by_cases q : -1≤d.Call∧d.Call<(r.Calls.length:Int)
 ·rw [if_pos q,decide_eq_true q.1,decide_eq_true (show d.Call≤(r.Calls.length:Int)-1 by omega),Bool.and_self,Bool.not_true,dN]
  by_cases q2:d.Call≥0
  ·obtain ⟨i,hi⟩:∃ i:Nat,d.Call=(i:Int):=⟨_,(Int.toNat_of_nonneg q2).symm⟩
   have hp:(2:Int) ^ i=((2 ^ i:Nat):Int):=by norm_cast
   have hi8:2 ^ i≤2 ^ 8:=Nat.pow_le_pow_right (by omega) (by omega)
   have hip:=Nat.two_pow_pos i
   have hor:bor .i64 (s:Int) (aAw .i64 1 d.Call)=((s|||2 ^ i:Nat):Int):=by
    rw [hi,kI (by omega),hp,aDB (by omega) (by omega) (by omega) (by omega),Int.toNat_natCast,Int.toNat_natCast]
   have hti:d.Call.toNat=i:=by omega
   rw [decide_eq_true q2,eE,kN _ q2,decide_eq_false (show ¬ d.Call<0 by omega),if_neg (show ¬ d.Call = -1 by omega),hti,hor]
   cases hbit:s.testBit i
   ·have hne:(((s|||2 ^ i:Nat):Int)==(s:Int))=false:=by
     rw [beq_eq_false_iff_ne]
     intro e
     have e2:s|||2 ^ i=s:=by exact_mod_cast e
     have:=congrArg (fun x=>Nat.testBit x i) e2
     simp only [Nat.testBit_or,Nat.testBit_two_pow_self,Bool.or_true] at this
     rw [hbit] at this;simp at this
    rw [hne,show (!(false==false))=false from rfl,dN,dN,dN,if_neg (by simp)]
    rfl
   ·have heq:(((s|||2 ^ i:Nat):Int)==(s:Int))=true:=by
     rw [beq_iff_eq]
     have:s|||2 ^ i=s:=by
      refine Nat.eq_of_testBit_eq fun j=>?_
      rw [Nat.testBit_or,Nat.testBit_two_pow]
      by_cases c:i=j
      ·subst c;rw [hbit];simp
      ·simp [c]
     rw [this]
    rw [heq,show (!(true==false))=true from rfl,eE,eE,if_pos rfl]
  ·rw [decide_eq_false q2,dN,decide_eq_true (show d.Call<0 by omega),show (!(((s:Nat):Int)==(s:Int))==true)=false by simp,dN,eE,if_pos (show d.Call = -1 by omega),fR]
   by_cases q3:s=0
   ·rw [if_pos (by omega),if_pos q3]
    rfl
   ·rw [if_neg (by omega),if_neg q3]
 ·have:(decide (-1≤d.Call)&&decide (d.Call≤(r.Calls.length:Int)-1))=false:=by
   rw [Bool.and_eq_false_iff,decide_eq_false_iff_not,decide_eq_false_iff_not];omega
  rw [if_neg q,this,Bool.not_false,eE]
theorem aTC (hb:RB r) {s:Nat} (hs:s<2 ^ r.Calls.length) (d:bS):cD r (s:Int) d=if -1≤d.Call∧d.Call<(r.Calls.length:Int) then (if d.Call = -1 then (if s=0 then aK7 r (s:Int) d else some false) else if s.testBit d.Call.toNat=true then some false else aK7 r ((s|||2 ^ d.Call.toNat:Nat):Int) d) else some false:=by
 have hkl:=h.kl
 have hs8:2 ^ r.Calls.length≤2 ^ 8:=Nat.pow_le_pow_right (by omega) hkl
 obtain ⟨v,ev,hv⟩:=aFx hb (s:Int)
 have hvt:v=true:=hv.2 ⟨h,by omega,by omega⟩
 subst hvt
 unfold cD
 simp only [iK]
 rw [ev,bL,Bool.not_true,dN,iL]
 by_cases q1:d.Call = -1
 ·rw [if_pos q1,if_pos ⟨by omega,by omega⟩,if_pos q1,fR]
  by_cases q3:s=0
  ·rw [if_pos (by omega),if_pos q3];rfl
  ·rw [if_neg (by omega),if_neg q3]
 ·rw [if_neg q1,bT (by omega) (by omega),aOg,bL,iD]
  by_cases q:0≤d.Call∧d.Call<(r.Calls.length:Int)
  ·obtain ⟨i,hi⟩:∃ i:Nat,d.Call=(i:Int):=⟨_,(Int.toNat_of_nonneg q.1).symm⟩
   have hti:d.Call.toNat=i:=by omega
   rw [decide_eq_true q.1,decide_eq_true (show d.Call≤(r.Calls.length:Int)-1 by omega),Bool.and_self,eE,if_pos ⟨by omega,q.2⟩,if_neg q1,hti,hi,aIy (by omega),bL]
   cases hbit:s.testBit i
   ·rw [dN,kN _ (by omega),aME hbit (by omega) (by omega),if_neg (by simp)]
    rfl
   ·rw [eE,if_pos rfl]
  ·have:(decide (0≤d.Call)&&decide (d.Call≤(r.Calls.length:Int)-1))=false:=by
    rw [Bool.and_eq_false_iff,decide_eq_false_iff_not,decide_eq_false_iff_not];omega
   rw [this,dN,eE,if_neg (by omega)]
end
section
variable {r:aD} (hb:RB r)
include hb
theorem aQk {s:Int} (h:¬ (RV r∧InS r s)) (d:bS):bC r s d=some false∧cD r s d=some false:=by
 obtain ⟨b,e,hx⟩:=aFW hb s
 obtain ⟨c,e2,hx2⟩:=aFx hb s
 cases b
 ·cases c
  ·refine ⟨?_,?_⟩
   ·unfold bC
    simp only [iK]
    rw [e,bL,Bool.not_false,eE,eE]
   ·unfold cD
    rw [e2,bL,Bool.not_false,eE]
  ·exact absurd (hx2.1 rfl) h
 ·exact absurd (hx.1 rfl) h
theorem aI9 {s:Int} {d:bS} (od:okD d):∃ b,bC r s d=some b∧cD r s d=some b:=by
 by_cases h:RV r∧InS r s
 ·obtain ⟨hr,hs⟩:=h
  obtain ⟨k,rfl,hk⟩:=InS.nat hb hs
  have hkl:=hr.kl
  have hs8:2 ^ r.Calls.length≤2 ^ 8:=Nat.pow_le_pow_right (by omega) hkl
  obtain ⟨b,e,_⟩:=aPI hr hk (d:=d) od.2 od.1
  refine ⟨b,e,?_⟩
  rw [← e,aTh hr hk,aTC hr hb hk]
  by_cases q : -1≤d.Call∧d.Call<(r.Calls.length:Int)
  ·rw [if_pos q,if_pos q,aKa hr (by omega)]
   have hi8:2 ^ d.Call.toNat≤2 ^ 8:=Nat.pow_le_pow_right (by omega) (by omega)
   have hor:k|||2 ^ d.Call.toNat<2 ^ 9:=Nat.or_lt_two_pow (by omega) (by omega)
   rw [aKa hr (by omega)]
  ·rw [if_neg q,if_neg q]
 ·obtain ⟨h1,h2⟩:=aQk hb h d
  exact ⟨false,h1,h2⟩
def aFM (r:aD) (s:Nat) (L:List bS):Nat→Option Nat
 | 0=>some 0
 | k+1=>match aFM r s L k with
  | none=>none
  | some n=>if s.testBit k=true then some n else if n<L.length∧(L.getD n default).Call=(k:Int)∧bC r ((s&&&(2 ^ k-1):Nat):Int) (L.getD n default)=some true then some (n+1) else none
omit hb in
theorem aHG (r:aD) (s:Nat) (L:List bS):∀ k n,aFM r s L k=some n→n≤L.length
 | 0,n,e=>by cases e;omega
 | k+1,n,e=>by
  simp only [aFM] at e
  cases e2:aFM r s L k with
  | none=>rw [e2] at e;cases e
  | some m=>
   rw [e2] at e
   have:=aHG r s L k m e2
   simp only at e
   split at e
   ·cases e;exact this
   ·split at e
    ·rename_i q;cases e;omega
    ·cases e
omit hb in
theorem vJ (r:aD) (s:Nat) (L:List bS) {k:Nat} (e:aFM r s L k=none):∀ m,k≤m→aFM r s L m=none
 | 0, h => by have : k = 0 := by omega
              subst this;exact e
 | m+1,h=>by
  by_cases q:k=m+1
  ·subst q;exact e
  ·simp only [aFM]
   rw [vJ r s L e m (by omega)]
theorem aHQ {a:bQ} (hl:a.Denied.length≤100000) (ho:∀ d∈a.Denied,okD d):∃ b,eN r a=some b∧lS r a=some b:=by
 obtain ⟨adm,L⟩:=a
 simp only at hl ho
 unfold eN lS
 rw [aDJ hb]
 by_cases h:RV r∧InS r adm
 ·obtain ⟨hr,hs⟩:=h
  obtain ⟨s,rfl,hk⟩:=InS.nat hb hs
  have hkl:=hr.kl
  have hsm:=aBu hr hk
  obtain ⟨b,e,_⟩:=aB3 hr hk
  rw [e,bL,bL,iD,iD]
  cases b
  ·rw [dN,dN];exact ⟨false,rfl,rfl⟩
  rw [eE,eE]
  obtain ⟨o1,e1,ho1⟩:=mJ (body:=gB r ⟨(s:Int),L⟩) (fun z=>∃ k n:Nat,z=(L.drop n,(k:Int))∧k≤r.Calls.length∧aFM r s L k=some n) (fun z=>r.Calls.length-z.2.toNat)
   (fun o=>match o with
    | .inl z=>∃ n,z.1=L.drop n∧aFM r s L r.Calls.length=some n
    | .inr x=>x=false∧aFM r s L r.Calls.length=none) (fun z hz=>by
    obtain ⟨k,n,rfl,hkl2,hc⟩:=hz
    have hnl:=aHG r s L k n hc
    unfold gB
    simp only [aZ,iK]
    by_cases q:k<r.Calls.length
    ·rw [if_pos (by omega),kN _ (by omega),aIQ (by omega) (by omega) (by omega),Int.toNat_natCast,bT (x:=(k:Int)+1) (by omega) (by omega)]
     have hstep:aFM r s L (k+1)=if s.testBit k=true then some n else if n<L.length∧(L.getD n default).Call=(k:Int)∧bC r ((s&&&(2 ^ k-1):Nat):Int) (L.getD n default)=some true then some (n+1) else none:=by
      simp only [aFM];rw [hc]
     cases hbit:s.testBit k
     ·rw [hbit,if_neg (by simp)] at hstep
      rw [dN]
      by_cases q2:n<L.length
      ·have hz:(((L.drop n).length:Int)==0)=false:=by rw [beq_eq_false_iff_ne,List.length_drop];omega
       have hd0:(L.drop n).getD 0 default=L.getD n default:=by
        rw [List.getD_eq_getElem?_getD,List.getElem?_drop,List.getD_eq_getElem?_getD];simp
       rw [hz,dN,aGu (Int.le_refl 0) (by rw [List.length_drop];omega),show Int.toNat 0=0 from rfl,hd0,fR]
       by_cases q3:(L.getD n default).Call=(k:Int)
       ·rw [if_pos q3,kN _ (by omega),aGu (Int.le_refl 0) (by rw [List.length_drop];omega),show Int.toNat 0=0 from rfl,hd0,aGS hr hk q]
        obtain ⟨b,e3,_⟩:=aI9 hb (s:=((s&&&(2 ^ k-1):Nat):Int)) (ho _ (bV q2))
        rw [e3] at hstep ⊢
        rw [bL]
        cases b
        ·rw [if_neg (by simp)] at hstep
         rw [Bool.not_false,eE]
         exact .inr (.inr ⟨_,rfl,rfl,vJ r s L hstep _ (by omega)⟩)
        ·rw [if_pos ⟨q2,q3,rfl⟩] at hstep
         rw [Bool.not_true,dN]
         have hcons:L.drop n=L.getD n default::L.drop (n+1):=by
          rw [dC q2];exact List.drop_eq_getElem_cons q2
         have hsl:∀ f:List bS→Option (Ct ((List bS)×Int) Bool),slc (L.drop n) 1 ((L.drop n).length:Int) f=f (L.drop (n+1)):=fun f=>by
          rw [hcons];exact aHz (by rw [List.length_drop];omega)
         rw [hsl]
         exact .inl ⟨_,rfl,⟨k+1,n+1,rfl,by omega,hstep⟩,by simp only;omega⟩
       ·rw [if_neg q3]
        rw [if_neg fun c=>q3 c.2.1] at hstep
        rw [show ((L.getD n default).Call != (k:Int))=true from bne_iff_ne.2 q3,eE]
        exact .inr (.inr ⟨_,rfl,rfl,vJ r s L hstep _ (by omega)⟩)
      ·have hz:(((L.drop n).length:Int)==0)=true:=by rw [beq_iff_eq,List.length_drop];omega
       rw [if_neg fun c=>q2 c.1] at hstep
       rw [hz,eE,eE]
       exact .inr (.inr ⟨_,rfl,rfl,vJ r s L hstep _ (by omega)⟩)
     ·rw [hbit,if_pos rfl] at hstep
      rw [eE]
      exact .inl ⟨_,rfl,⟨k+1,n,rfl,by omega,hstep⟩,by simp only;omega⟩
    ·rw [if_neg (by omega)]
     have:k=r.Calls.length:=by omega
     subst this
     exact .inr (.inl ⟨_,rfl,n,rfl,hc⟩)) (L,0) ⟨0,0,by simp,by omega,rfl⟩ (by simp only;omega)
  obtain ⟨o2,e2,ho2⟩:=mJ (body:=oL r ⟨(s:Int),L⟩) (fun z=>∃ k n:Nat,z=((n:Int),(k:Int))∧k≤r.Calls.length∧aFM r s L k=some n) (fun z=>r.Calls.length-z.2.toNat)
   (fun o=>match o with
    | .inl z=>∃ n:Nat,z.1=(n:Int)∧aFM r s L r.Calls.length=some n
    | .inr x=>x=false∧aFM r s L r.Calls.length=none) (fun z hz=>by
    obtain ⟨k,n,rfl,hkl2,hc⟩:=hz
    have hnl:=aHG r s L k n hc
    unfold oL
    simp only [aZ,iK]
    by_cases q:k<r.Calls.length
    ·rw [if_pos (by omega),aIy (by omega),bL,bT (x:=(k:Int)+1) (by omega) (by omega)]
     have hstep:aFM r s L (k+1)=if s.testBit k=true then some n else if n<L.length∧(L.getD n default).Call=(k:Int)∧bC r ((s&&&(2 ^ k-1):Nat):Int) (L.getD n default)=some true then some (n+1) else none:=by
      simp only [aFM];rw [hc]
     cases hbit:s.testBit k
     ·rw [hbit,if_neg (by simp)] at hstep
      rw [dN]
      by_cases q2:n<L.length
      ·rw [if_neg (by omega),lB q2,fR]
       by_cases q3:(L.getD n default).Call=(k:Int)
       ·rw [if_pos q3,kN _ (by omega),lB q2,aGS hr hk q]
        obtain ⟨b,e3,e4⟩:=aI9 hb (s:=((s&&&(2 ^ k-1):Nat):Int)) (ho _ (bV q2))
        rw [e3] at hstep
        rw [e4,bL]
        cases b
        ·rw [if_neg (by simp)] at hstep
         rw [Bool.not_false,eE]
         exact .inr (.inr ⟨_,rfl,rfl,vJ r s L hstep _ (by omega)⟩)
        ·rw [if_pos ⟨q2,q3,rfl⟩] at hstep
         rw [Bool.not_true,dN,bT (x:=(n:Int)+1) (by omega) (by omega)]
         exact .inl ⟨_,rfl,⟨k+1,n+1,rfl,by omega,hstep⟩,by simp only;omega⟩
       ·rw [if_neg q3,eE]
        rw [if_neg fun c=>q3 c.2.1] at hstep
        exact .inr (.inr ⟨_,rfl,rfl,vJ r s L hstep _ (by omega)⟩)
      ·rw [if_neg fun c=>q2 c.1] at hstep
       rw [if_pos (by omega)]
       exact .inr (.inr ⟨_,rfl,rfl,vJ r s L hstep _ (by omega)⟩)
     ·rw [hbit,if_pos rfl] at hstep
      rw [eE]
      exact .inl ⟨_,rfl,⟨k+1,n,rfl,by omega,hstep⟩,by simp only;omega⟩
    ·rw [if_neg (by omega)]
     have:k=r.Calls.length:=by omega
     subst this
     exact .inr (.inl ⟨_,rfl,n,rfl,hc⟩)) (0,0) ⟨0,0,rfl,by omega,rfl⟩ (by simp only;omega)
  rw [e1,e2,bL,bL]
  match o1,o2,ho1,ho2 with
  | .inl z1,.inl z2,⟨n,h1,h2⟩,⟨m,h3,h4⟩=>
   have hnm:n=m:=by rw [h2] at h4;cases h4;rfl
   subst hnm
   have hnl:=aHG r s L _ n h2
   refine ⟨((n:Int)==(L.length:Int)),?_,by rw [eJ,h3]⟩
   rw [eJ,h1]
   simp only [List.length_drop]
   congr 1
   rw [Bool.eq_iff_iff,beq_iff_eq,beq_iff_eq];omega
  | .inr z1,.inr z2,⟨h1,_⟩,⟨h3,_⟩=>
   subst h1 h3
   exact ⟨false,by rw [tT],by rw [tT]⟩
  | .inl z1,.inr z2,⟨n,h1,h2⟩,⟨_,h4⟩=>rw [h2] at h4;cases h4
  | .inr z1,.inl z2,⟨_,h2⟩,⟨n,_,h4⟩=>rw [h2] at h4;cases h4
 ·rw [aFs hb h,bL,bL,Bool.not_false,eE,eE]
  exact ⟨false,rfl,rfl⟩
end
theorem aBJ {a:Int} (h:okI a):okI (wr (Int.tdiv a 8)):=by
 unfold okI at *
 rcases Int.le_total 0 a with q | q
 ·rw [Int.tdiv_eq_ediv_of_nonneg q,bT (by omega) (by omega)];omega
 ·obtain ⟨b,rfl⟩:∃ b,a = -b:=⟨-a,by omega⟩
  rw [Int.neg_tdiv,Int.tdiv_eq_ediv_of_nonneg (by omega),bT (by omega) (by omega)];omega
theorem aBA (l:List Int) (hl:l.length≤900) {a b c:Int} (oa:okI a) (oc:okI c):∃ l',gC l a b c=some l'∧l'.length≤901:=by
 unfold gC
 simp only [iK,wZ,Fl.st_dd]
 rw [kN _ (by omega)]
 by_cases h:l.length=0
 ·rw [iL,if_pos (by omega)];exact ⟨_,rfl,by simp⟩
 ·rw [iL,if_neg (by omega)]
  obtain ⟨p1,p2⟩:=lN c (n:=(l.length:Int)) (by omega)
  obtain ⟨q1,q2⟩:=lN a (n:=4) (by omega)
  rw [sW _ _ oc (by omega),bL,sW _ _ oa (by omega),bL]
  simp only [iL]
  rw [kN _ ⟨p1,p2⟩,kN _ ⟨p1,p2⟩,kN _ ⟨p1,p2⟩,kN _ ⟨p1,p2⟩,kN _ ⟨p1,p2⟩,aCu (by simp;omega)]
  split
  ·exact ⟨_,rfl,by simp;omega⟩
  ·split
   ·exact ⟨_,rfl,by simp;omega⟩
   ·split
    ·exact ⟨_,rfl,by simp;omega⟩
    ·exact ⟨_,rfl,by simp;omega⟩
theorem aJV {N:Int} {L:List dE} {a:Int} (oa:okI a) {p:Int} (hp:0≤p∧p<(L.length:Int)) (hl:L.length≤16):∃ m:bG,lp (nZ a p) FU (⟨N,L⟩:bG)=some (.inl m)∧m.Edges.length≤41:=by
 obtain ⟨q1,q2⟩:=lN a (n:=3) (by omega)
 obtain ⟨o,e,ho⟩:=mJ (body:=nZ a p) (fun m:bG=>m.Edges.length≤41∧p<(m.Edges.length:Int)) (fun m=>50-m.Edges.length)
  (fun o=>match o with
   | .inl m=>m.Edges.length≤41
   | .inr _=>False) (fun m hm=>by
   obtain ⟨h1,h2⟩:=hm
   unfold nZ
   rw [sW _ _ oa (by omega),bL,bT (by omega) (by omega),aZ]
   by_cases c:(m.Edges.length:Int)<39+oI a 3
   ·rw [if_pos c,kN _ ⟨hp.1,h2⟩,wZ,aCu (by simp;omega)]
    refine .inl ⟨_,rfl,⟨by simp;omega,by simp;omega⟩,?_⟩
    simp;omega
   ·rw [if_neg c]
    exact .inr (.inl ⟨_,rfl,h1⟩))
  (⟨N,L⟩:bG) ⟨by simp only;omega,hp.2⟩ (by simp only;omega)
 match o,ho with
 | .inl m,ho=>exact ⟨m,e,ho⟩
theorem aIZ {n:bG} (hel:n.Edges.length≤16) {a b c:Int} (oa:okI a) (ob:okI b) (oc:okI c):∃ m,pI n a b c=some m∧m.Edges.length≤41:=by
 unfold pI
 simp only [iK,wZ,Fl.st_dd]
 rw [kN _ (by omega)]
 by_cases h:n.Edges.length=0
 ·rw [iL,if_pos (by omega)];exact ⟨_,rfl,by simp only;omega⟩
 ·rw [iL,if_neg (by omega)]
  obtain ⟨p1,p2⟩:=lN c (n:=(n.Edges.length:Int)) (by omega)
  obtain ⟨m,em,hm⟩:=aJV (N:=n.N) ob (p:=oI c (n.Edges.length:Int)) ⟨p1,p2⟩ hel
  rw [sW _ _ oc (by omega),bL,sW _ _ oa (by omega),bL]
  simp only [iL]
  rw [kN _ ⟨p1,p2⟩,kN _ ⟨p1,p2⟩,kN _ ⟨p1,p2⟩,em,bL,eJ]
  split
  ·exact ⟨_,rfl,by simp only;omega⟩
  ·split
   ·exact ⟨_,rfl,by simp only [List.length_set];omega⟩
   ·split
    ·exact ⟨_,rfl,by simp only [List.length_set];omega⟩
    ·split
     ·exact ⟨_,rfl,by simp only [List.length_set];omega⟩
     ·exact ⟨_,rfl,hm⟩
theorem RV.rb {r:aD} (h:RV r):RB r:=⟨by have:=h.el;omega,by have:=h.ul;have:=h.n;omega,by have:=h.cl;have:=h.n;omega,by have:=h.kl;omega,fun o ho=>by have:=(h.kv o ho).2.len;omega⟩
theorem aKo {r:aD} (hr:MV r) {a b c:Int} (oa:okI a) (ob:okI b) (oc:okI c):∃ r',pR r a b c=some r'∧RB r':=by
 have h:=hr.toRV
 have hb:=h.rb
 have h14:=hr.e14;have h5:=hr.k5
 have hul:=h.ul;have hcl:=h.cl;have hn:=h.n
 obtain ⟨m,em,hm⟩:=aIZ (n:=r.Net) (by omega) (aBJ oa) ob oc
 obtain ⟨u,eu,hu⟩:=aBA r.Urgent (by omega) (aBJ oa) (b:=b) oc
 obtain ⟨v,ev,hv⟩:=aBA r.Centres (by omega) (aBJ oa) (b:=b) oc
 unfold pR
 rw [h.copy,bL,rG _ _ oa (by omega),bL]
 rw [iK,em,bL,iL]
 by_cases c0:oI a 8=0
 ·rw [if_pos c0]
  exact ⟨_,rfl,by simp only;omega,hb.ul,hb.cl,hb.kl,hb.ke⟩
 rw [if_neg c0,iK,eu,bL,iL]
 by_cases c1:oI a 8=1
 ·rw [if_pos c1]
  exact ⟨_,rfl,hb.el,by simp only;omega,hb.cl,hb.kl,hb.ke⟩
 rw [if_neg c1,iK,ev,bL,iL]
 by_cases c2:oI a 8=2
 ·rw [if_pos c2]
  exact ⟨_,rfl,hb.el,hb.ul,by simp only;omega,hb.kl,hb.ke⟩
 rw [if_neg c2,iK,iL]
 by_cases c3:oI a 8=3
 ·rw [if_pos c3]
  exact ⟨_,rfl,hb.el,hb.ul,hb.cl,hb.kl,hb.ke⟩
 rw [if_neg c3,iL]
 by_cases c4:(r.Calls.length:Int)=0
 ·rw [if_pos c4,wZ,wZ]
  refine ⟨_,rfl,hb.el,hb.ul,hb.cl,by simp,fun o ho=>?_⟩
  rw [List.mem_singleton.1 ho];simp
 rw [if_neg c4]
 obtain ⟨p1,p2⟩:=lN c (n:=(r.Calls.length:Int)) (by omega)
 rw [rG _ _ oc (by omega),bL,bL,iK]
 generalize hp:oI c (r.Calls.length:Int)=p at p1 p2
 have hpn:p.toNat<r.Calls.length:=by omega
 have hke:=hb.ke _ (bV hpn)
 have hset:∀ o':bI,o'.Edges.length≤1000→∀ o∈r.Calls.set p.toNat o',o.Edges.length≤1000:=fun o' ho' o ho=>by
  rcases List.mem_or_eq_of_mem_set ho with q | q
  ·exact hb.ke _ q
  ·rw [q];exact ho'
 rw [iL]
 by_cases d4:oI a 8=4
 ·rw [if_pos d4,kN _ ⟨p1,p2⟩,Fl.st_dd]
  exact ⟨_,rfl,hb.el,hb.ul,hb.cl,by simp only [List.length_set];exact hb.kl,hset _ hke⟩
 rw [if_neg d4,iK,iL]
 by_cases d5:oI a 8=5
 ·have hw:=(h.kv _ (bV hpn)).2.len
  obtain ⟨w,ew,hwl⟩:=aBA (r.Calls.getD p.toNat default).Edges (by omega) (aBJ oa) (b:=b) (aBJ oc)
  rw [if_pos d5,kN _ ⟨p1,p2⟩,ew,bL,kN _ ⟨p1,p2⟩,Fl.st_dd]
  exact ⟨_,rfl,hb.el,hb.ul,hb.cl,by simp only [List.length_set];exact hb.kl,hset _ (by simp only;omega)⟩
 rw [if_neg d5,iK,iL]
 by_cases d6:oI a 8=6
 ·rw [if_pos d6,kN _ ⟨p1,p2⟩,Fl.st_dd]
  exact ⟨_,rfl,hb.el,hb.ul,hb.cl,by simp only [List.length_set];exact hb.kl,hset _ (by simp)⟩
 rw [if_neg d6]
 obtain ⟨q1,q2⟩:=lN b (n:=2) (by omega)
 obtain ⟨o,e,ho⟩:=mJ (body:=qK b p) (fun z:aD=>z.Net=r.Net∧z.Urgent=r.Urgent∧z.Centres=r.Centres∧z.Calls.length≤10∧p<(z.Calls.length:Int)∧∀ o∈z.Calls,o.Edges.length≤1000) (fun z=>20-z.Calls.length)
  (fun o=>match o with
   | .inl z=>z.Net=r.Net∧z.Urgent=r.Urgent∧z.Centres=r.Centres∧z.Calls.length≤10∧∀ o∈z.Calls,o.Edges.length≤1000
   | .inr _=>False) (fun z hz=>by
   obtain ⟨g1,g2,g3,g4,g5,g6⟩:=hz
   unfold qK
   rw [rG _ _ ob (by omega),bL,bT (by omega) (by omega),aZ]
   by_cases c:(z.Calls.length:Int)<8+oI b 2
   ·rw [if_pos c,kN _ ⟨p1,g5⟩,wZ,aCu (by simp;omega)]
    refine .inl ⟨_,rfl,⟨g1,g2,g3,by simp;omega,by simp;omega,fun o ho=>?_⟩,by simp;omega⟩
    simp only [List.mem_append,List.mem_singleton] at ho
    rcases ho with q | q
    ·exact g6 o q
    ·rw [q];exact g6 _ (bV (by omega))
   ·rw [if_neg c]
    exact .inr (.inl ⟨_,rfl,g1,g2,g3,g4,g6⟩))
  ⟨⟨r.Net.N,r.Net.Edges⟩,r.Urgent,r.Centres,r.Faults,r.Calls⟩ ⟨rfl,rfl,rfl,by simp only;omega,p2,hb.ke⟩ (by simp only;omega)
 rw [e,bL]
 match o,ho with
 | .inl z,⟨g1,g2,g3,g4,g6⟩=>
  rw [eJ]
  exact ⟨_,rfl,by simp only [g1];exact hb.el,by simp only [g2];exact hb.ul,by simp only [g3];exact hb.cl,by simp only;omega,g6⟩
theorem aJ2 {α β:Type} (l:List α) (K:Nat) (f:List α→Option β):∃ m:List α,slc l 0 (aA9 (l.length:Int) (K:Int)) f=f m∧m.length≤K∧∀ x∈m,x∈l:=by
 have h:aA9 (l.length:Int) (K:Int)=((min l.length K:Nat):Int):=by unfold aA9;split<;>omega
 refine ⟨l.take (min l.length K),?_,by rw [List.length_take];omega,fun x hx=>List.mem_of_mem_take hx⟩
 rw [h,aN0 (by omega) (by omega) (by omega)]
 rfl
theorem aL8 (K:aD):∃ x l,lp (fB K) FU ([],0)=some (.inl (l,x))∧l.length≤9∧∀ o∈l,o.Edges.length≤7:=by
 obtain ⟨o,e,ho⟩:=mJ (body:=fB K) (fun z=>∃ k:Nat,z.2=(k:Int)∧k≤9∧z.1.length≤k∧∀ o∈z.1,o.Edges.length≤7) (fun z=>9-z.2.toNat)
  (fun o=>match o with
   | .inl z=>z.1.length≤9∧∀ o∈z.1,o.Edges.length≤7
   | .inr _=>False) (fun z hz=>by
   obtain ⟨l,i⟩:=z
   obtain ⟨k,h1,h2,h3,h4⟩:=hz
   simp only at h1 h3 h4
   subst h1
   unfold fB
   simp only [iK]
   by_cases q:(k:Int)<(K.Calls.length:Int)∧(k:Int)<9
   ·obtain ⟨m,em,hm,_⟩:=aJ2 (K.Calls.getD k default).Edges 7 fun l12=>lt ([(⟨l12,(K.Calls.getD k default).Amount⟩:bI)]:List bI) fun l13=>ap l l13 fun l14=>(some (.nx (l14,wr ((k:Int)+1))):Option (Ct (List bI×Int) aD))
    rw [decide_eq_true q.1,decide_eq_true q.2,eE,eE,lB (by omega)]
    rw [show ((7:Nat):Int)=7 from rfl] at em
    rw [em,wZ,aCu (by simp;omega),bT (by omega) (by omega)]
    refine .inl ⟨_,rfl,⟨k+1,by simp only;omega,by omega,by simp;omega,fun o ho=>?_⟩,by simp only;omega⟩
    simp only [List.mem_append,List.mem_singleton] at ho
    rcases ho with q | q
    ·exact h4 o q
    ·rw [q];exact hm
   ·have:∀ X:Option (Ct (List bI×Int) aD),cn (decide ((k:Int)<(K.Calls.length:Int))) (cn (decide ((k:Int)<9)) X (some (.bk (l,(k:Int))))) (cn false X (some (.bk (l,(k:Int)))))=some (.bk (l,(k:Int))):=fun X=>by
     rw [dN,aZ]
     by_cases q1:(k:Int)<(K.Calls.length:Int)
     ·rw [if_pos q1,aZ,if_neg fun q2=>q ⟨q1,q2⟩]
     ·rw [if_neg q1]
    refine .inr (.inl ⟨(l,(k:Int)),?_,by simp only;omega,h4⟩)
    rw [dN,aZ]
    by_cases q1:(k:Int)<(K.Calls.length:Int)
    ·rw [if_pos q1,decide_eq_false fun q2=>q ⟨q1,q2⟩,dN]
    ·rw [if_neg q1])
  ([],0) ⟨0,rfl,by omega,by simp,fun o ho=>by cases ho⟩ (by simp only;omega)
 match o,ho with
 | .inl z,⟨h1,h2⟩=>exact ⟨z.2,z.1,e,h1,h2⟩
theorem aLW (r:aD):∃ r',rB r=some r'∧RB r':=by
 have tail:∀ K:aD,K.Net.Edges.length≤41→∃ r',(slc K.Urgent 0 (aA9 (K.Urgent.length:Int) 13) fun l6=>slc K.Centres 0 (aA9 (K.Centres.length:Int) 13) fun l7=>bd (lp (fB K) FU ([],0)) fun c15=>
   smK c15 (fun s16=>some (⟨K.Net,l6,l7,K.Faults,s16.1⟩:aD)) (fun r17=>some r17))=some r'∧RB r':=fun K hK=>by
  obtain ⟨x,l,e,h1,h2⟩:=aL8 K
  obtain ⟨u,eu,hu,_⟩:=aJ2 K.Urgent 13 fun l6=>slc K.Centres 0 (aA9 (K.Centres.length:Int) 13) fun l7=>bd (lp (fB K) FU ([],0)) fun c15=>
   smK c15 (fun s16=>some (⟨K.Net,l6,l7,K.Faults,s16.1⟩:aD)) (fun r17=>some r17)
  obtain ⟨v,ev,hv,_⟩:=aJ2 K.Centres 13 fun l7=>bd (lp (fB K) FU ([],0)) fun c15=>
   smK c15 (fun s16=>some (⟨K.Net,u,l7,K.Faults,s16.1⟩:aD)) (fun r17=>some r17)
  rw [show ((13:Nat):Int)=13 from rfl] at eu ev
  rw [eu,ev,e,bL,eJ]
  exact ⟨_,rfl,by simp only;omega,by simp only;omega,by simp only;omega,by simp only;omega,fun o ho=>by have:=h2 o ho;omega⟩
 unfold rB
 obtain ⟨m,em,hm,_⟩:=aJ2 r.Net.Edges 41 fun l1=>jn (fun p2:Bool=>jn (fun p4:aD=>
  slc p4.Urgent 0 (aA9 (p4.Urgent.length:Int) 13) fun l6=>slc p4.Centres 0 (aA9 (p4.Centres.length:Int) 13) fun l7=>bd (lp (fB p4) FU ([],0)) fun c15=>
  smK c15 (fun s16=>some (⟨p4.Net,l6,l7,p4.Faults,s16.1⟩:aD)) (fun r17=>some r17)) fun k5=>
  cn p2 (k5 (⟨(⟨4,l1⟩:bG),r.Urgent,r.Centres,r.Faults,r.Calls⟩:aD)) (k5 (⟨(⟨r.Net.N,l1⟩:bG),r.Urgent,r.Centres,r.Faults,r.Calls⟩:aD))) fun k3=>
  cn (decide (r.Net.N>4)) (k3 (decide (r.Net.N≤8))) (k3 false)
 rw [show ((41:Nat):Int)=41 from rfl] at em
 rw [em]
 simp only [iK,zE]
 have t1:=tail (⟨(⟨4,m⟩:bG),r.Urgent,r.Centres,r.Faults,r.Calls⟩:aD) hm
 have t2:=tail (⟨(⟨r.Net.N,m⟩:bG),r.Urgent,r.Centres,r.Faults,r.Calls⟩:aD) hm
 split
 ·split
  ·exact t1
  ·exact t2
 ·exact t2
set_option maxRecDepth 1000000
theorem aM3:rR=some true:=by kernel_rfl
end Go.Proofs.YtkjccabdpeldhaaGreat
