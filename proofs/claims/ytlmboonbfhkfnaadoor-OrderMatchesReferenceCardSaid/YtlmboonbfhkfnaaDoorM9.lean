import Derived.Test.YtlmboonbfhkfnaaDoorM7
import Derived.Test.YtlmboonbfhkfnaaDoorM8
set_option linter.unusedVariables false
set_option linter.unusedSimpArgs false
set_option linter.unusedSectionVars false
namespace Go.Proofs.YtlmboonbfhkfnaaDoor
open Go Go.Eng
set_option maxRecDepth 100000
set_option maxHeartbeats 0
set_option maxHeartbeats 0
set_option maxRecDepth 100000
theorem aTB:yQ Tryd.prog 23 ⟨.array 3 3,3,[.int .i64 0,.int .i64 0,.int .i64 0],24⟩:=⟨by kernel_rfl,by kernel_rfl,by kernel_rfl,Tryd.underlying23⟩
def DC2:DT:=aMB ((23,⟨.array 3 3,3,[.int .i64 0,.int .i64 0,.int .i64 0],24⟩)::tdL)
theorem qD:DOk Tryd.prog DC2:=(bX aTB (bX td3 (bX td4 (bX td5 (bX aS3 (bX aTa (bX aS4 (bX aTc (bX aS6 (bX aTg (bX aTq (bX aTb (bX aTr (bX aS8 (bX aS5 (bX aTm (bX aTp (bX aS2 (bX aTt (bX aTh (bX aTn (bX aS7 (bX aS9 (bX aTs (bX aQF (aJK _))))))))))))))))))))))))))
  def eU (a0:Int) (a1:List (Int×Int)) (a2:Int) (a3:Int×Int×Int) (a4:aE) (a5:List Int) (a6:Int) (a7:Int):Option Bool:=bd (qS ) fun y1=>
  cn (!y1) (some false) (bd (oU a0 a1 a2) fun y2=>slc a4.Pairs 0 (aH9 (a4.Pairs.length:Int) 30) fun l3=>slc a5 0 (aH9 (a5.length:Int) 9) fun l4=>
  bd (mP a6 8) fun y5=>bd (mP a7 8) fun y6=>bd (fB y2) fun y7=>jn (fun p8:Bool=>some p8) fun k9=>
  bd (gA y2 y7.1 a6 a7) fun y10=>cn y10 (bd (gA y2 l4 y5 y6) fun y11=>cn y11 (bd (oO y2 a3.1 a3.2.1 a3.2.2) fun y12=>
  bd (gA y12 l4 y5 y6) fun y13=>cn y13 (bd (fW a0 a1) fun y14=>bd (gA y14 l4 y5 y6) fun y15=>
  cn y15 (bd (gA (⟨a4.N,l3⟩:aE) l4 a6 a7) fun y16=>cn y16 (k9 y1) (k9 false)) (k9 false)) (k9 false)) (k9 false)) (k9 false))
def lN:List AV→AV→Prop:=fun args r=>∃ a0 a1 a2 a3 a4 a5 a6 a7,args=[eI a0,(eL 2 kT default) a1,eI a2,aOz a3,bF a4,(eL 1 eI default) a5,eI a6,eI a7]∧W (eU a0 a1 a2 a3 a4 a5 a6 a7) fun y=>r=(eB y)
theorem qO {T:Tbl} (hT:TOk Tryd.prog T) (hpf:cP T PF) (h11:T 11=aH qV) (h12:T 12=aH qP) (h13:T 13=aH rA) (h14:T 14=aH kX) (h15:T 15=aH pZ) (h16:T 16=aH qQ) (h17:T 17=aH nR):FOk Tryd.prog 3 (aH lN):=by
 refine bM hT hpf Tryd.func3 rfl Tryd.ntmps3 Tryd.results3 (by decide) ?_
 rintro args r ⟨a0,a1,a2,a3,a4,a5,a6,a7,rfl,h⟩
 refine ⟨nle rfl,?_,?_⟩
 ·exact (lsC (lsI _ _) (lsC (lsL fun _=>(aI _)) (lsC (lsI _ _) (lsC (aO5 _) (lsC (bT _) (lsC (lsL fun _=>(lsI _ _)) (lsC (lsI _ _) (lsC (lsI _ _) lsN))))))))
 rw [eU.eq_1] at h
 refine aC qD rfl fun K hK=>?_;conv=>whnf
 refine hK _ _ _ ?_
 refine aC qD rfl fun K hK=>?_;conv=>whnf
 replace h:=bL h
 refine aBa h11 h (WkL.refl _) (fun _ h=>?_);conv=>whnf
 refine hK _ _ _ ?_
 refine aF ?_
 refine aC qD rfl fun K hK=>?_;conv=>whnf
 refine hK _ _ _ ?_
 refine aW fun K1 K2 hK1 hK2=>?_;conv=>whnf
 refine cLk h (fun _ h=>?_) (fun _ h=>?_)
 ·refine hK1 ?_
  refine aC qD rfl fun K hK=>?_;conv=>whnf
  refine hK _ _ _ ?_
  refine aP ?_
  refine aQ ?_
  replace h:=aO h
  refine aK qD fun K hK=>?_;conv=>whnf
  refine hK _ ?_
  cases h
  exact Wk.refl _
 refine hK2 ?_
 refine aG ?_
 refine tHn ?_
 refine aC qD rfl fun K hK=>?_;conv=>whnf
 replace h:=bL h
 refine aBw h12 h (WkL.refl _) (fun _ h=>?_);conv=>whnf
 refine bKo rfl ?_;conv=>whnf
 refine And.intro rfl (And.intro (nle rfl) (And.intro rfl ?_));conv=>whnf
 refine hK _ _ _ ?_
 refine qA qD cG rfl (by kernel_rfl) fun K hK=>?_;conv=>whnf
 refine nlA rfl ?_;conv=>whnf
 refine bKo rfl ?_;conv=>whnf
 refine gKo rfl ?_;conv=>whnf
 refine nlA rfl ?_;conv=>whnf
 refine bKo rfl ?_;conv=>whnf
 refine gKo rfl ?_;conv=>whnf
 refine nlA rfl ?_;conv=>whnf
 refine bKo rfl ?_;conv=>whnf
 refine gKo rfl ?_;conv=>whnf
 refine aNz h (.inl ⟨rfl,rfl⟩) (.inr ⟨_,rfl⟩) (fun h=>?_);conv=>whnf
 refine bKo rfl ?_;conv=>whnf
 refine And.intro rfl (And.intro (nle rfl) (And.intro rfl ?_));conv=>whnf
 refine hK _ _ _ ?_
 refine aC qD rfl fun K hK=>?_;conv=>whnf
 refine aNz h (.inl ⟨rfl,rfl⟩) (.inr ⟨_,rfl⟩) (fun h=>?_);conv=>whnf
 refine hK _ _ _ ?_
 refine aC qD rfl fun K hK=>?_;conv=>whnf
 replace h:=bL h
 refine vG h13 h (WkL.refl _) (fun _ h=>?_);conv=>whnf
 refine hK _ _ _ ?_
 refine aC qD rfl fun K hK=>?_;conv=>whnf
 replace h:=bL h
 refine vG h13 h (WkL.refl _) (fun _ h=>?_);conv=>whnf
 refine hK _ _ _ ?_
 refine aC qD rfl fun K hK=>?_;conv=>whnf
 refine nlA rfl ?_;conv=>whnf
 refine bKo rfl ?_;conv=>whnf
 refine nlA rfl ?_;conv=>whnf
 replace h:=bL h
 refine pJ h14 h (WkL.refl _) (fun _ h=>?_);conv=>whnf
 refine hK _ _ _ ?_
 refine aC qD rfl fun K hK=>?_;conv=>whnf
 replace h:=lG h
 refine nlA rfl ?_;conv=>whnf
 refine bKo rfl ?_;conv=>whnf
 refine nlA rfl ?_;conv=>whnf
 replace h:=bL h
 refine lH h15 h (WkL.refl _) (fun _ h=>?_);conv=>whnf
 refine cLk h (fun _ h=>?_) (fun _ h=>?_)<;>(conv=>whnf)
 ·refine nlA rfl ?_;conv=>whnf
  refine bKo rfl ?_;conv=>whnf
  refine nlA rfl ?_;conv=>whnf
  replace h:=bL h
  refine lH h15 h (WkL.refl _) (fun _ h=>?_);conv=>whnf
  refine cLk h (fun _ h=>?_) (fun _ h=>?_)<;>(conv=>whnf)
  ·refine nlA rfl ?_;conv=>whnf
   refine bKo rfl ?_;conv=>whnf
   refine nlA rfl ?_;conv=>whnf
   refine And.intro (by decide) ?_;conv=>whnf
   refine nlA rfl ?_;conv=>whnf
   refine bKo rfl ?_;conv=>whnf
   refine gKo rfl ?_;conv=>whnf
   refine And.intro (by decide) ?_;conv=>whnf
   refine nlA rfl ?_;conv=>whnf
   refine bKo rfl ?_;conv=>whnf
   refine gKo rfl ?_;conv=>whnf
   refine And.intro (by decide) ?_;conv=>whnf
   refine nlA rfl ?_;conv=>whnf
   refine bKo rfl ?_;conv=>whnf
   refine gKo rfl ?_;conv=>whnf
   replace h:=bL h
   refine aA4 h16 h (WkL.refl _) (fun _ h=>?_);conv=>whnf
   replace h:=bL h
   refine lH h15 h (WkL.refl _) (fun _ h=>?_);conv=>whnf
   refine cLk h (fun _ h=>?_) (fun _ h=>?_)<;>(conv=>whnf)
   ·replace h:=bL h
    refine yS h17 h (WkL.refl _) (fun _ h=>?_);conv=>whnf
    replace h:=bL h
    refine lH h15 h (WkL.refl _) (fun _ h=>?_);conv=>whnf
    refine cLk h (fun _ h=>?_) (fun _ h=>?_)<;>(conv=>whnf)
    ·refine nlA rfl ?_;conv=>whnf
     refine bKo rfl ?_;conv=>whnf
     refine nlA rfl ?_;conv=>whnf
     replace h:=bL h
     refine lH h15 h (WkL.refl _) (fun _ h=>?_);conv=>whnf
     refine cLk h (fun _ h=>?_) (fun _ h=>?_)<;>(conv=>whnf)
     ·refine hK _ _ _ ?_
      refine aP ?_
      replace h:=aO h
      refine aK qD fun K hK=>?_;conv=>whnf
      refine hK _ ?_
      cases h
      exact Wk.refl _
     refine hK _ _ _ ?_
     refine aP ?_
     replace h:=aO h
     refine aK qD fun K hK=>?_;conv=>whnf
     refine hK _ ?_
     cases h
     exact Wk.refl _
    refine hK _ _ _ ?_
    refine aP ?_
    replace h:=aO h
    refine aK qD fun K hK=>?_;conv=>whnf
    refine hK _ ?_
    cases h
    exact Wk.refl _
   refine hK _ _ _ ?_
   refine aP ?_
   replace h:=aO h
   refine aK qD fun K hK=>?_;conv=>whnf
   refine hK _ ?_
   cases h
   exact Wk.refl _
  refine hK _ _ _ ?_
  refine aP ?_
  replace h:=aO h
  refine aK qD fun K hK=>?_;conv=>whnf
  refine hK _ ?_
  cases h
  exact Wk.refl _
 refine hK _ _ _ ?_
 refine aP ?_
 replace h:=aO h
 refine aK qD fun K hK=>?_;conv=>whnf
 refine hK _ ?_
 cases h
 exact Wk.refl _
theorem aAp {n:Nat} (n8:n≤8) (r:Nat→Nat→Bool):(mG n n r).length≤64:=by
 rw [wN]
 have:=uU (n:=n) (m:=8) (f:=fun a=>sm n fun b=>(r a b).toNat) fun i _=>Nat.le_trans oJ n8
 have:n * 8≤8 * 8:=Nat.mul_le_mul_right 8 n8
 omega
theorem aGu {o:aE} {t:Ar 8} (h:bS o=some (t,false)) (l:List Int):eR o l=some false:=by
 unfold eR
 rw [h,bU]
 simp only [rC,Bool.not_false,mH]
theorem zE (o:aE) (hl:o.Pairs.length≤1000) (l:List Int) (a b:Int):gA o l a b=some true:=by
 obtain ⟨c,bb,e1,e2,cl⟩:=aJV o (by omega)
 obtain ⟨v,f1,f2⟩:=yK o (by omega)
 obtain ⟨v',f3,f4⟩:=wL o (by omega)
 obtain rfl:v=v':=Bool.eq_iff_iff.2 (f2.trans f4.symm)
 obtain ⟨w,g1,g2⟩:=aLf o (by omega)
 obtain ⟨w',g3,g4⟩:=aBS o (by omega)
 obtain rfl:w=w':=Bool.eq_iff_iff.2 (g2.trans g4.symm)
 have all:(∃ z,dW o a b=some z∧gB o a b=some z)∧(∃ z,eR o l=some z∧gF o l=some z)∧(∃ z,fU o=some z∧hG o=some z∧z.1.Pairs.length≤64) ∧
   (∃ z,fD o=some z∧fY o=some z∧z.1.Pairs.length≤64)∧(∃ z,fL o=some z∧hO o=some z) ∧
   (∃ C D e,fJ o=some (C,e)∧hZ o=some (D,e)∧C.length=D.length∧(e=0→iN o C=some true))∧(∃ z,dX o=some z∧eV o=some z∧z.1.length≤256) ∧
   (∃ z,gI o=some z∧fB o=some z∧z.1.length≤256)∧(∃ z,eQ o=some z∧fZ o=some z∧z.1.length≤256)∧(∃ z,fX o=some z∧gY o=some z∧z.1.length≤256) ∧
   ∃ z,dI o=some z∧eE o=some z∧z.1.length≤256:=by
  rcases aGi o (by omega) with ⟨hv,n,t,r,h⟩ | ⟨hno,t,h⟩
  ·have n8:=h.n8
   have p8:=fO n8
   obtain ⟨C,D,c1,c2,c3,c4⟩:=aJa h
   obtain ⟨ls,l1,l2,l3,l4⟩:=aMb h
   obtain ⟨W,w1,w2,w3⟩:=aHW h
   obtain ⟨z,z1,z2⟩:=aIE h l
   obtain ⟨z',z3,z4⟩:=aIq h l
   obtain rfl:z=z':=Bool.eq_iff_iff.2 (z2.trans z4.symm)
   refine ⟨⟨_,aJg h a b,aIh h a b⟩,⟨_,z1,z3⟩,⟨_,aL2 h,aKu h,aAp n8 r⟩,⟨_,aJt h,aIx h,aAp n8 _⟩,⟨_,aLL h,aJb h⟩,⟨_,_,_,c1,c2,by rw [dT,dT,c4],fun _=>aGv h c3⟩,⟨_,aGP h,aFG h,?_⟩,⟨_,l1,l2,?_⟩,⟨_,w1,w2,by simp only;omega⟩,⟨_,aL5 h,aKb h,?_⟩,⟨_,aFE h,aDq h,?_⟩⟩
   ·simp only [aX];have:=aNu n r;omega
   ·simp only [aX];omega
   ·simp only [aX];have:=aI0 n r;omega
   ·simp only [aX];have:=aAW n r (2 ^ n);omega
  ·have hv:=aRs (by omega) hno
   exact ⟨⟨_,aKa h a b,aHQ hv a b⟩,⟨_,aGu h l,aH7 hv l⟩,⟨_,aK4 h,aKm hv,Nat.zero_le _⟩,⟨_,aIU h,aH5 hv,Nat.zero_le _⟩,⟨_,aMc h,aJM hv⟩,⟨_,_,_,aLh h,aID hv,rfl,fun g=>absurd g (by decide)⟩,⟨_,aGo h,aFd hv,Nat.zero_le _⟩,⟨_,aM3 h,aEP hv,Nat.zero_le _⟩,⟨_,aJR h,aH1 hv,Nat.zero_le _⟩,⟨_,aK7 h,aI3 hv,Nat.zero_le _⟩,⟨_,aF1 h,aEb hv,Nat.zero_le _⟩⟩
 obtain ⟨⟨z1,a1,b1⟩,⟨z2,a2,b2⟩,⟨z3,a3,b3,n3⟩,⟨z4,a4,b4,n4⟩,⟨z5,a5,b5⟩,⟨C,D,e,a6,b6,n6,i6⟩,⟨z7,a7,b7,n7⟩,⟨z8,a8,b8,n8⟩,⟨z9,a9,b9,n9⟩,⟨zA,aA,bA,nA⟩,zB,aB,bB,nB⟩:=all
 have bq:∀ x:Bool,(!(x==x))=false:=fun x=>by cases x<;>rfl
 have iq:∀ x:Int,(x != x)=false:=fun x=>by simp
 unfold gA
 simp only [rC]
 rw [e1,bU,e2,bU,f1,bU,f3,bU,bq,mK,g1,bU,g3,bU,bq,mK]
 simp only
 rw [bq,mK,sM _ _ (by omega),bU,decide_eq_true rfl,Bool.not_true,mK,a1,bU,b1,bU,bq,mK,a2,bU,b2,bU,bq,mK]
 rw [a3,bU,b3,bU,a4,bU,b4,bU,a5,bU,b5,bU,a6,bU,b6,bU,iq,mK,iq,mK,iq,mK]
 simp only
 rw [iq,mK,iq,mK,aJi _ _ (by omega),bU,decide_eq_true rfl,Bool.not_true,mK,aJi _ _ (by omega),bU,decide_eq_true rfl,Bool.not_true,mK,n6,iq,mK]
 rw [pG]
 by_cases c:e=0
 ·rw [if_pos c,i6 c,bU,Bool.not_true,mK,a7,bU,b7,bU,a8,bU,b8,bU,a9,bU,b9,bU,aA,bU,bA,bU,aB,bU,bB,bU]
  simp only [iq,mK]
  rw [sM _ _ (by omega),bU,decide_eq_true rfl,mH,sM _ _ (by omega),bU,decide_eq_true rfl,mH,sM _ _ (by omega),bU,decide_eq_true rfl,mH,sM _ _ (by omega),bU,decide_eq_true rfl,mH,sM _ _ (by omega),bU,decide_eq_true rfl]
 ·rw [if_neg c,mK,a7,bU,b7,bU,a8,bU,b8,bU,a9,bU,b9,bU,aA,bU,bA,bU,aB,bU,bB,bU]
  simp only [iq,mK]
  rw [sM _ _ (by omega),bU,decide_eq_true rfl,mH,sM _ _ (by omega),bU,decide_eq_true rfl,mH,sM _ _ (by omega),bU,decide_eq_true rfl,mH,sM _ _ (by omega),bU,decide_eq_true rfl,mH,sM _ _ (by omega),bU,decide_eq_true rfl]
theorem aNi (o:aE) (hl:o.Pairs.length≤20) (a b c:Int) (o1:okI a) (o2:okI b) (o3:okI c):∃ o',oO o a b c=some o'∧o'.Pairs.length≤1000:=by
 unfold oO
 obtain ⟨p1,p2⟩:=tE a (n:=4) (by omega)
 obtain ⟨q1,q2⟩:=tE b (n:=4) (by omega)
 rw [aAy,dC _ (by omega),aAy]
 simp only [rC]
 rw [tD a 4 o1 (by omega),bU]
 generalize zU a 4=w at p1 p2 ⊢
 rw [pG]
 by_cases c0:w=0
 ·rw [if_pos c0,mH];exact ⟨_,rfl,by simp only;omega⟩
 rw [if_neg c0,pG]
 by_cases c1:(o.Pairs.length:Int)=0
 ·rw [if_pos c1];exact ⟨_,rfl,by simp only;omega⟩
 rw [if_neg c1]
 obtain ⟨r1,r2⟩:=tE c (n:=(o.Pairs.length:Int)) (by omega)
 rw [tD c _ o3 (by omega),bU,bU]
 generalize zU c (o.Pairs.length:Int)=k at r1 r2 ⊢
 rw [pG]
 by_cases c2:w=1
 ·obtain ⟨g1,g2⟩:=o3
  have hd : -9223372036854775808≤Int.tdiv c 8∧Int.tdiv c 8≤9223372036854775807:=by
   rcases Int.le_total 0 c with hc | hc
   ·rw [Int.tdiv_eq_ediv_of_nonneg hc];omega
   ·have e:c = -(-c):=by omega
    rw [e,Int.neg_tdiv,Int.tdiv_eq_ediv_of_nonneg (by omega)];omega
  obtain ⟨s1,s2⟩:=tE (Int.tdiv c 8) (n:=2) (by omega)
  rw [if_pos c2,cE hd.1 hd.2,tD _ 2 hd (by omega),bU,dC _ (by omega),dC _ (by omega),pG,aO3,aO3]
  split
  ·exact ⟨_,rfl,by simp only [List.length_set];omega⟩
  ·exact ⟨_,rfl,by simp only [List.length_set];omega⟩
 rw [if_neg c2,pG]
 by_cases c3:w=2
 ·rw [if_pos c3,dC _ (by omega),dC _ (by omega),aAy,aCe (by simp only [List.length_cons,List.length_nil];omega)]
  exact ⟨_,rfl,by simp only [List.length_append,List.length_cons,List.length_nil];omega⟩
 rw [if_neg c3]
 obtain ⟨y,e,hy⟩:=lC (body:=pF b k) (fun s=>o.Pairs.length≤s.Pairs.length∧s.Pairs.length≤40) (fun s=>40-s.Pairs.length)
  (fun y=>match y with | .inl s=>s.Pairs.length≤40 | .inr _=>False)
  (fun s ⟨h1,h2⟩=>by
   unfold pF
   simp only [aZ]
   rw [tD b 4 o2 (by omega),bU,cE (by omega) (by omega)]
   by_cases c:(s.Pairs.length:Int)<27+zU b 4
   ·rw [if_pos c,dC _ (by omega),aAy,aCe (by simp only [List.length_cons,List.length_nil];omega)]
    exact .inl ⟨_,rfl,⟨by simp only [List.length_append,List.length_cons,List.length_nil];omega,by simp only [List.length_append,List.length_cons,List.length_nil];omega⟩,by simp only [List.length_append,List.length_cons,List.length_nil];omega⟩
   ·rw [if_neg c]
    exact .inr (.inl ⟨_,rfl,h2⟩)) (⟨o.N,o.Pairs⟩:aE) ⟨Nat.le_refl _,by simp only;omega⟩ (by simp only;omega)
 rw [e,bU]
 cases y with
 | inl s=>rw [dK];exact ⟨_,rfl,Nat.le_trans hy (by omega)⟩
 | inr s=>exact hy.elim
theorem aPW (a0:Int) (a1:List (Int×Int)) (a2:Int) (a3:Int×Int×Int) (a4:aE) (a5:List Int) (a6 a7:Int) (o0:okI a0) (o1:okL aGV a1) (o2:okI a2) (o3:aNn a3) (_o4:aC4 a4) (_o5:okL okI a5) (o6:okI a6) (o7:okI a7):eU a0 a1 a2 a3 a4 a5 a6 a7=some true:=by
 obtain ⟨o,n,t,r,e0,h,hol⟩:=aNs a0 a1 a2 o0 o1 o2
 obtain ⟨ls,el,_⟩:=aAX h
 obtain ⟨u,eu,hu⟩:=aNi o hol _ _ _ o3.1 o3.2.1 o3.2.2
 obtain ⟨lo,elo,_,hlo⟩:=aHf a0 a1 o0 o1
 have slk:∀ {α:Type} (l:List α) (m:Int) {β:Type} (f:List α→Option β),0≤m→slc l 0 (aH9 (l.length:Int) m) f=f (sub l 0 (aH9 (l.length:Int) m))∧(sub l 0 (aH9 (l.length:Int) m)).length≤m.toNat:=fun l m _ f hm=>by
  have h1:0≤aH9 (l.length:Int) m∧aH9 (l.length:Int) m≤l.length∧aH9 (l.length:Int) m≤m:=by unfold aH9;split<;>omega
  refine ⟨?_,?_⟩
  ·unfold slc;rw [dC _ (by omega)]
  ·unfold sub
   simp only [List.length_drop,List.length_take];omega
 unfold eU
 rw [aN5,bU,cT,mH,e0,bU,(slk a4.Pairs 30 _ (by omega)).1,(slk a5 9 _ (by omega)).1]
 rw [aDC a6 8 o6 (by omega),bU,aDC a7 8 o7 (by omega),bU,el,bU]
 simp only [rC]
 have hs:=(slk a4.Pairs 30 (fun _=>(none:Option Unit)) (by omega)).2
 rw [zE o (by omega),bU,mH,zE o (by omega),bU,mH,eu,bU,zE u (by omega),bU,mH,elo,bU,zE _ (by first | omega | (simp only;omega)),bU,mH,zE _ (by first | omega | (simp only;omega)),bU,mH]
end Go.Proofs.YtlmboonbfhkfnaaDoor
