import Derived.Test.YtlmboonbfhkfnaaDoorM6
import Derived.Test.YtlmboonbfhkfnaaDoorM7
set_option linter.unusedVariables false
set_option linter.unusedSimpArgs false
set_option linter.unusedSectionVars false
namespace Go.Proofs.YtlmboonbfhkfnaaDoor
open Go Go.Eng
set_option maxRecDepth 100000
set_option maxHeartbeats 0
set_option maxRecDepth 100000
theorem aDO (o:aP) (a b:Int) (hl:o.Pairs.length≤9223372036854775807):fU o a b=some (decide ((a,b)∈o.Pairs)):=by
 unfold fU
 rcases vM (body:=dU o a b) 0 o.Pairs.length (Nat.zero_le _) hl (fun k=>(o.Pairs.getD k default).1==a&&(o.Pairs.getD k default).2==b) (fun _=>true)
  (fun k _ hk _=>by
   unfold dU
   simp only [eG]
   rw [if_pos (by omega),aCU hk,kX (by omega) (by omega),wC]
   split<;>rfl) (by
   unfold dU
   simp only [eG]
   rw [if_neg (by omega)]) with ⟨h,e⟩ | ⟨k,_,h2,h3,_,e⟩
 ·have e':lp (dU o a b) FU 0=_:=e
  rw [e',iL,pD,decide_eq_false]
  intro hx
  obtain ⟨k,hk,q⟩:=xK hx
  have:=h k (Nat.zero_le _) hk
  rw [q] at this;simp at this
 ·have e':lp (dU o a b) FU 0=_:=e
  rw [e',iL,aAQ,decide_eq_true]
  rw [Bool.and_eq_true,beq_iff_eq,beq_iff_eq] at h3
  have:=gW h2
  rwa [show o.Pairs.getD k default=(a,b) from Prod.ext h3.1 h3.2] at this
theorem aBV (o:aP) (l:List Int) (hl:o.Pairs.length≤9223372036854775807) (hl2:l.length≤1000):∃ v,eN o l=some v∧(v=true↔2≤l.length∧∀ i,i<l.length→(l.getD i default,l.getD ((i+1) % l.length) default)∈o.Pairs):=by
 unfold eN
 rcases vM (body:=eA o l) 0 l.length (Nat.zero_le _) (by omega) (fun k => !decide ((l.getD k default,l.getD ((k+1) % l.length) default)∈o.Pairs)) (fun _=>false)
  (fun k _ hk _=>by
   have hm:(k+1) % l.length<l.length:=Nat.mod_lt _ (by omega)
   unfold eA
   simp only [eG]
   rw [if_pos (by omega),aCU hk,rJ _ (by omega),kX (by omega) (by omega),Int.tmod_eq_emod_of_nonneg (by omega),show ((k:Int)+1) % (l.length:Int)=(((k+1) % l.length:Nat):Int) by rw [Int.natCast_emod];rfl,aCU hm,aDO o _ _ hl,iL,wC]
   split<;>rfl) (by
   unfold eA
   simp only [eG]
   rw [if_neg (by omega)]) with ⟨h,e⟩ | ⟨k,_,h2,h3,_,e⟩
 ·have e':lp (eA o l) FU 0=_:=e
  rw [e',iL,pD]
  refine ⟨_,rfl,?_⟩
  rw [decide_eq_true_eq]
  exact ⟨fun g=>⟨by omega,fun i hi=>by simpa using h i (Nat.zero_le _) hi⟩,fun g=>by omega⟩
 ·have e':lp (eA o l) FU 0=_:=e
  rw [e',iL,aAQ]
  refine ⟨_,rfl,⟨fun g=>(by cases g),fun g=>?_⟩⟩
  have:=g.2 k h2
  rw [decide_eq_true this] at h3;cases h3
theorem rD.round {o:aP} {n len:Nat} {c:List Nat} (h:rD o.Pairs n len c) (h2:2≤len):2≤(oK c).length∧∀ i,i<(oK c).length→((oK c).getD i default,(oK c).getD ((i+1) % (oK c).length) default)∈o.Pairs:=by
 have hl:=h.ln
 rw [fI]
 refine ⟨by omega,fun i hi=>?_⟩
 have hm:(i+1) % c.length<c.length:=Nat.mod_lt _ (by omega)
 rw [jU hi,jU hm]
 by_cases e:i+1<c.length
 ·rw [Nat.mod_eq_of_lt e];exact h.pt.st i e
 ·have:i=len-1:=by omega
  rw [show i+1=c.length by omega,Nat.mod_self,this];exact h.cl
theorem aIf (a0:Int) (a1:List (Int×Int)) (a2:List Int) (a3 a4:Int) (o0:okI a0) (o1:okL aDw a1) (o2:okL okI a2) (o3:okI a3) (o4:okI a4):fJ a0 a1 a2 a3 a4=some true:=by
 obtain ⟨o,e0,hf,hol⟩:=aEX a0 a1 o0 o1
 have eo:(⟨o.N,o.Pairs⟩:aP)=o:=rfl
 obtain ⟨n,hN⟩:∃ n:Nat,o.N=(n:Int):=⟨o.N.toNat,by have:=hf.N;omega⟩
 have n8:n≤8:=by have:=hf.N;omega
 obtain ⟨c,b,e1,hc⟩:=aCp hf hN
 obtain ⟨vf,e2,hvf⟩:=rI o (by omega)
 obtain ⟨vv,e3,hvv⟩:=aB4 o (by omega)
 have hb:=wV hf hN hc
 have hbv:(b==vv)=false:=by
  cases b
  ·cases vv
   ·have:Vd o:=Classical.byContradiction fun g=>by have:=hb.2 g;cases this
    have:=hvv.2 this;cases this
   ·rfl
  ·cases vv
   ·rfl
   ·exact absurd (hvv.1 rfl) (hb.1 rfl)
 obtain ⟨x,xl,e5⟩:=aC1 a3 (n:=8) o3 (by omega)
 obtain ⟨y,yl,e6⟩:=aC1 a4 (n:=8) o4 (by omega)
 have clen:c.length≤8:=by
  rcases hc with ⟨_,h,_⟩ | ⟨_,cs,len,rfl,_,h,_⟩
  ·rw [h];simp
  ·rw [fI,h.ln];have:=h.le;omega
 unfold fJ
 rw [aF7,iL,sX,aBk,e0,iL,eo,e1,iL]
 simp only [aEv]
 rw [e2,iL,hvf.2 hf,Bool.not_true,aAR,e3,iL,hbv,aAR]
 have last:(bd (cE a3 8) fun y46=>bd (cE a4 8) fun y47=>bd (bU o y46 y47) fun y48=>cn (!y48) (some true) (lt ([]:List (Int×Int)) fun l49=>ap l49 o.Pairs fun l50=>lt ([(y47,y46)]:List (Int×Int)) fun l51=>ap l50 l51 fun l52=>bd (cS (⟨o.N,l52⟩:aP)) fun y53=>cn y53.2 (bd (cT (⟨o.N,l52⟩:aP)) fun y56=>cn (!y56) (bd (cD (⟨o.N,l52⟩:aP)) fun y57=>some y57) (some false)) (some false)))=some true:=by
  rw [show (8:Int)=((8:Nat):Int) from rfl,e5,iL,e6,iL]
  rcases aDJ o (by omega) with ⟨hv,n',t,r,h⟩ | ⟨_,t,e⟩
  ·rw [aEH h,iL,sX,wC]
   by_cases q:r x y=true
   ·rw [if_pos q,aHf,aIH (by simp only [List.length_nil];omega),List.nil_append,aHf,aIH (by simp only [List.length_cons,List.length_nil];omega)]
    have hlt:=h.lt x y q
    have hN':=h.N
    have hf':Fm ⟨o.N,o.Pairs++[((y:Int),(x:Int))]⟩:=⟨hf.N,by simp only [List.length_append,List.length_cons,List.length_nil];omega,fun p hp=>by
     rcases List.mem_append.1 hp with hp | hp
     ·exact hf.el p hp
     ·rw [List.mem_singleton.1 hp]
      refine ⟨⟨by simp only;omega,by simp only;omega⟩,⟨by simp only;omega,by simp only;omega⟩,fun e=>?_⟩
      simp only at e
      obtain rfl:y=x:=by omega
      rw [h.ir] at q;cases q⟩
    have hno:¬Vd ⟨o.N,o.Pairs++[((y:Int),(x:Int))]⟩:=fun g=>by
     refine g.2 x (aHc (b:=y) ?_ (aGs (List.mem_append_right _ (List.mem_singleton.2 rfl))))
     exact aGR (fun u v huv=>aGs (List.mem_append_left _ huv)) ((h.rc x y).1 q)
    have hlen:(o.Pairs++[((y:Int),(x:Int))]).length≤21:=by simp only [List.length_append,List.length_cons,List.length_nil];omega
    obtain ⟨c',b',e1',hc'⟩:=aCp hf' (n:=n) hN
    obtain ⟨v1,e2',h1'⟩:=rI ⟨o.N,o.Pairs++[((y:Int),(x:Int))]⟩ (by simp only;omega)
    obtain ⟨v2,e3',h2'⟩:=aB4 ⟨o.N,o.Pairs++[((y:Int),(x:Int))]⟩ (by simp only;omega)
    rw [e1',iL,(wV hf' (n:=n) hN hc').2 hno,aBk,e3',iL,Bool.eq_false_iff.2 fun g=>hno (h2'.1 g),Bool.not_false,aBk,e2',iL,h1'.2 hf']
   ·rw [if_neg q]
  ·rw [aD6 e,iL,Bool.not_false,aBk]
 have other:(bd (lp (cM a2) FU ([],0)) fun c28=>smK c28 (fun s29=>bd (eN o s29.1) fun y31=>cn y31 (cn (!b) (cn true (some false) (bd (lp (bJ s29 (c,b)) FU 0) fun c43=>smK c43 (fun s44=>bd (cE a3 8) fun y46=>bd (cE a4 8) fun y47=>bd (bU o y46 y47) fun y48=>cn (!y48) (some true) (lt ([]:List (Int×Int)) fun l49=>ap l49 o.Pairs fun l50=>lt ([(y47,y46)]:List (Int×Int)) fun l51=>ap l50 l51 fun l52=>bd (cS (⟨o.N,l52⟩:aP)) fun y53=>cn y53.2 (bd (cT (⟨o.N,l52⟩:aP)) fun y56=>cn (!y56) (bd (cD (⟨o.N,l52⟩:aP)) fun y57=>some y57) (some false)) (some false))) (fun r45=>some r45))) (cn (decide ((s29.1.length:Int)<(c.length:Int))) (some false) (bd (lp (bJ s29 (c,b)) FU 0) fun c43=>smK c43 (fun s44=>bd (cE a3 8) fun y46=>bd (cE a4 8) fun y47=>bd (bU o y46 y47) fun y48=>cn (!y48) (some true) (lt ([]:List (Int×Int)) fun l49=>ap l49 o.Pairs fun l50=>lt ([(y47,y46)]:List (Int×Int)) fun l51=>ap l50 l51 fun l52=>bd (cS (⟨o.N,l52⟩:aP)) fun y53=>cn y53.2 (bd (cT (⟨o.N,l52⟩:aP)) fun y56=>cn (!y56) (bd (cD (⟨o.N,l52⟩:aP)) fun y57=>some y57) (some false)) (some false))) (fun r45=>some r45)))) (bd (cE a3 8) fun y46=>bd (cE a4 8) fun y47=>bd (bU o y46 y47) fun y48=>cn (!y48) (some true) (lt ([]:List (Int×Int)) fun l49=>ap l49 o.Pairs fun l50=>lt ([(y47,y46)]:List (Int×Int)) fun l51=>ap l50 l51 fun l52=>bd (cS (⟨o.N,l52⟩:aP)) fun y53=>cn y53.2 (bd (cT (⟨o.N,l52⟩:aP)) fun y56=>cn (!y56) (bd (cD (⟨o.N,l52⟩:aP)) fun y57=>some y57) (some false)) (some false)))) fun r30=>some r30)=some true:=by
  simp only [last]
  obtain ⟨y,e7,hy⟩:=nU (body:=cM a2) (fun s=>∃ k:Nat,s.2=(k:Int)∧k≤8∧s.1.length=k) (fun s=>8-s.2.toNat) (fun y=>match y with | .inl s=>s.1.length≤8 | .inr _=>False)
   (fun s ⟨k,hs,hk,hl⟩=>by
    obtain ⟨u,v⟩:=s
    simp only at hs hl
    subst hs
    have:=o2.2
    unfold cM
    simp only [aEv,eG]
    by_cases c1:k<a2.length
    ·rw [if_pos (by omega)]
     by_cases c2:k<8
     ·obtain ⟨z,zl,ez⟩:=aC1 (a2.getD k default) (n:=8) (aDI o2 c1) (by omega)
      rw [if_pos (by omega),aCU c1,show (8:Int)=((8:Nat):Int) from rfl,ez,iL,aHf,aIH (by simp only [List.length_cons,List.length_nil];omega),kX (by omega) (by omega)]
      exact .inl ⟨_,rfl,⟨k+1,by simp only;omega,by omega,by simp only [List.length_append,List.length_cons,List.length_nil];omega⟩,by simp only;omega⟩
     ·rw [if_neg (by omega)]
      exact .inr (.inl ⟨_,rfl,by simp only;omega⟩)
    ·rw [if_neg (by omega),aAR]
     exact .inr (.inl ⟨_,rfl,by simp only;omega⟩)) ([],0) ⟨0,rfl,by omega,rfl⟩ (by simp only;omega)
  rw [e7,iL]
  cases y with
  | inr r=>exact hy.elim
  | inl s=>
   obtain ⟨O,k⟩:=s
   simp only at hy
   rw [pD]
   obtain ⟨v,ev,hv⟩:=aBV o O (by omega) (by omega)
   simp only
   rw [ev,iL,wC]
   by_cases d:v=true
   ·rw [if_pos d]
    obtain ⟨q1,q2⟩:=hv.1 d
    have hnn:∀ i,i<O.length→∃ z:Nat,O.getD i default=(z:Int):=fun i hi=>by
     have:=(hf.el _ (q2 i hi)).1
     simp only at this
     exact ⟨(O.getD i default).toNat,by omega⟩
    have hm:∀ i,i % O.length<O.length:=fun i=>Nat.mod_lt _ (by omega)
    have hcast:∀ i,(((O.getD (i % O.length) default).toNat:Nat):Int)=O.getD (i % O.length) default:=fun i=>by
     obtain ⟨z,hz⟩:=hnn _ (hm i)
     rw [hz];rfl
    have hw:Wlk o.Pairs O.length fun i=>(O.getD (i % O.length) default).toNat:=fun i hi=>by
     show ((((O.getD (i % O.length) default).toNat:Nat):Int),(((O.getD ((i+1) % O.length) default).toNat:Nat):Int))∈o.Pairs
     rw [hcast,hcast,Nat.mod_eq_of_lt hi]
     exact q2 i hi
    obtain ⟨w1,m',cs',m1,m2,m3,m4⟩:=aCm hf hN O.length _ (by omega) hw (by rw [Nat.mod_self,Nat.zero_mod])
    rcases hc with ⟨h1,_,h3⟩ | ⟨h1,cs,len,rfl,h2,h3,h4,h5⟩
    ·exact absurd m3 (h3 m' cs' m1)
    ·subst h1
     have hlm:¬m'<len:=fun g=>h4 m' cs' m1 g m3
     have hcl:=h3.ln
     rw [Bool.not_true,aAR,fI,decide_eq_false (by omega),aAR]
     have fin:lp (bJ (O,k) (oK cs,true)) FU 0=lp (bJ (O,k) (oK cs,true)) FU ((0:Nat):Int):=rfl
     obtain ⟨y,e8,hy⟩:=nU (body:=bJ (O,k) (oK cs,true)) (fun s=>∃ j:Nat,s=(j:Int)∧j≤len∧∀ i,i<j→(oK cs).getD i default=O.getD i default) (fun s=>len-s.toNat) (fun y=>match y with | .inl _=>True | .inr _=>False)
      (fun s ⟨j,hs,hj,hi⟩=>by
       subst hs
       unfold bJ
       simp only [aEv,eG,fI]
       by_cases c1:j<len
       ·rw [if_pos (by omega),aCb]
        by_cases c2:O.length=cs.length
        ·have jl:j<(oK cs).length:=by rw [fI];omega
         rw [if_pos (by omega)]
         simp only [aCU jl,aCU (show j<O.length by omega)]
         rw [aI9]
         by_cases c3:(oK cs).getD j default=O.getD j default
         ·rw [if_pos c3,kX (by omega) (by omega)]
          exact .inl ⟨_,rfl,⟨j+1,by omega,c1,fun i hi'=>by
           by_cases e:i<j
           ·exact hi i e
           ·rw [show i=j by omega];exact c3⟩,by omega⟩
         ·have inj:∀ i j,i<j→j<O.length→(O.getD (i % O.length) default).toNat≠(O.getD (j % O.length) default).toNat:=Classical.byContradiction fun g=>by have:=m4 g;omega
          obtain ⟨_,wc⟩:=w1 inj
          rw [c2,hcl] at wc
          have le:=h5 _ wc j (by omega) fun i hi'=>by
           rw [nF _ (by omega),Nat.mod_eq_of_lt (by omega)]
           have:=hi i hi'
           rw [jU (by omega)] at this
           rw [← this];rfl
          rw [nF _ (by omega),Nat.mod_eq_of_lt (by omega)] at le
          obtain ⟨z,hz⟩:=hnn j (by omega)
          rw [hz,Int.toNat_natCast] at le
          rw [if_neg c3,jU (by omega),hz,if_neg (by omega)]
          exact .inr (.inl ⟨_,rfl,trivial⟩)
        ·rw [if_neg (by omega)]
         exact .inr (.inl ⟨_,rfl,trivial⟩)
       ·rw [if_neg (by omega),aAR]
        exact .inr (.inl ⟨_,rfl,trivial⟩)) 0 ⟨0,rfl,Nat.zero_le _,fun i hi=>absurd hi (Nat.not_lt_zero _)⟩ (by have:=h3.le;omega)
     rw [e8,iL]
     cases y with
     | inl s=>rw [pD]
     | inr s=>exact hy.elim
   ·rw [if_neg d]
 rcases hc with ⟨h1,h2,h3⟩ | ⟨h1,cs,len,rfl,h2,h3,h4,h5⟩
 ·subst h1
  rw [aAR]
  exact other
 ·subst h1
  have hcl:=h3.ln
  obtain ⟨v,ev,hv⟩:=aBV o (oK cs) (by omega) (by omega)
  rw [aBk,ev,iL,hv.2 (h3.round h2),Bool.not_true,aAR]
  have e9:lp (cZ (oK cs,true)) FU 0=some (.inl ((cs.length:Nat):Int)):=by
   rcases vM (body:=cZ (oK cs,true)) 0 cs.length (Nat.zero_le _) (by have:=h3.le;omega) (fun _=>false) (fun _=>true) (fun k _ hk _=>by
    have:=h3.le
    have e10:lp (cY (k:Int) (oK cs,true)) FU 0=some (.inl (k:Int)):=by
     rcases vM (body:=cY (k:Int) (oK cs,true)) 0 k (Nat.zero_le _) (by omega) (fun _=>false) (fun _=>true) (fun i _ hi _=>by
      unfold cY
      simp only [eG]
      rw [if_pos (by omega),aCU (by rw [fI];exact hk),jU hk,aCU (by rw [fI];omega),jU (by omega),aCb,if_neg,kX (by omega) (by omega)]
      ·rfl
      ·intro q
       have q':cs.getD k default=cs.getD i default:=by omega
       rw [jJ hk,jJ (show i<cs.length by omega)] at q'
       have:=(List.getElem_inj h3.pt.nd).1 q'
       omega) (by
      unfold cY
      simp only [eG]
      rw [if_neg (by omega)]) with ⟨_,e⟩ | ⟨_,_,_,q,_⟩
     ·exact e
     ·cases q
    unfold cZ
    simp only [eG,fI]
    rw [if_pos (by omega),e10,iL,pD,kX (by omega) (by omega)];rfl) (by
    unfold cZ
    simp only [eG,fI]
    rw [if_neg (by omega)]) with ⟨_,e⟩ | ⟨_,_,_,q,_⟩
   ·exact e
   ·cases q
  rw [e9,iL,pD]
  exact other
end Go.Proofs.YtlmboonbfhkfnaaDoor
