import Derived.Test.YtlmboonbfhkfnaaDoorM4
import Derived.Test.YtlmboonbfhkfnaaDoorM3
import Derived.Test.YtlmboonbfhkfnaaDoorM2
set_option linter.unusedVariables false
set_option linter.unusedSimpArgs false
set_option linter.unusedSectionVars false
namespace Go.Proofs.YtlmboonbfhkfnaaDoor
open Go Go.Eng
set_option maxRecDepth 100000
set_option maxHeartbeats 0
set_option maxHeartbeats 0
set_option maxRecDepth 100000
  def mH (a0:aP) (y1:(Ar 8)×Bool) (s2:Int×Int×(Ar 8)):Option (Ct (Int×Int×(Ar 8)) ((List (List Int))×Int)):=cn (decide (s2.1<a0.N)) (bd (tJ 10 s2.1 a0 y1.1 s2.2.2 0) fun y3=>
  some (.nx ((wr (s2.1+1)),y3.2.2,y3.2.1))) (some (.bk (s2.1,s2.2.1,s2.2.2)))
def jG (i x:Int) (place:GM Int) (k:Int) (out:List (List Int)):Option (Ct (Int×(GM Int)×(List (List Int))) ((List (List Int))×Int)):=
 gd (out.length≤8) (gd (0≤k∧k<(out.length:Int)) (ap (out.getD k.toNat default) [x] fun l=>some (.nx (wr (i+1),place.put x k,out.set k.toNat l))))
def mB (m5:Ar 8) (l7:List Int) (s:Int×(GM Int)×(List (List Int))):Option (Ct (Int×(GM Int)×(List (List Int))) ((List (List Int))×Int)):=cn (decide (s.1<(l7.length:Int))) (ix l7 default s.1 fun e=>gd (0≤e∧e<(8:Int)) (cn (!(s.2.1.has (wr ((m5.at1 e)-1)))) (gd (s.2.2.length≤7) (jG s.1 e s.2.1 (s.2.2.length:Int) (s.2.2++[[]])))
  (jG s.1 e s.2.1 (s.2.1.get (wr ((m5.at1 e)-1)) 0) s.2.2))) (some (.bk s))
def kM (a0:aP):Option ((List (List Int))×Int):=bd (bI a0) fun y1=>
  cn (!y1.2) (some ([],70)) (bd (lp (mH a0 y1) FU (0,0,(Ar.zero 8))) fun c4=>smK c4 (fun s5=>bd (hU a0.N y1.1) fun y7=>bd (lp (mB s5.2.2 y7) FU (0,GM.mt Int,[])) fun c8=>smK c8 (fun s9=>gd (s9.2.2.length≤8) (some (s9.2.2,0))) (fun r10=>some r10)) (fun r6=>
  some r6))
def iS:List AV→AV→Prop:=fun args r=>∃ a0,args=[bN a0]∧W (kM a0) fun y=>r=(.tup [(eL 1 (eL 1 eI default) default) y.1,eI y.2])
theorem wG {T:Tbl} (hT:TOk Tryd.prog T) (hpf:cP T PF) (h54:T 54=aS cC) (h57:T 57=aS fS) (h65:T 65=pM (kS 10)):FOk Tryd.prog 31 (aS iS):=by
 refine bJ hT hpf Tryd.func31 rfl Tryd.ntmps31 Tryd.results31 (by decide) ?_
 rintro args r ⟨a0,rfl,h⟩
 refine ⟨nle rfl,?_,?_⟩
 ·exact (lsC (bZ _) lsN)
 rw [kM.eq_1] at h
 refine aE dCo rfl fun K hK=>?_;conv=>whnf
 refine hK _ _ _ ?_
 refine aE dCo rfl fun K hK=>?_;conv=>whnf
 refine nlA rfl ?_;conv=>whnf
 refine bKo rfl ?_;conv=>whnf
 refine nlA rfl ?_;conv=>whnf
 replace h:=bC h
 refine bY h54 h (WkL.refl _) (fun _ h=>?_);conv=>whnf
 refine aU ?_;conv=>whnf
 refine aU ?_;conv=>whnf
 refine aU ?_;conv=>whnf
 refine bKo rfl ?_;conv=>whnf
 refine oO rfl rfl rfl ?_;conv=>whnf
 refine hK _ _ _ ?_
 refine aL ?_
 refine aE dCo rfl fun K hK=>?_;conv=>whnf
 refine hK _ _ _ ?_
 refine aQ fun K1 K2 hK1 hK2=>?_;conv=>whnf
 refine cLk h (fun _ h=>?_) (fun _ h=>?_)
 ·refine hK1 ?_
  refine aE dCo rfl fun K hK=>?_;conv=>whnf
  refine hK _ _ _ ?_
  refine aD ?_
  refine aG ?_
  replace h:=aB h
  refine aA dCo fun K hK=>?_;conv=>whnf
  refine hK _ ?_
  cases h
  exact pD (aF kF (aF (Wk.refl _) aJ))
 refine hK2 ?_
 refine aK ?_
 refine tHn ?_
 refine aE dCo rfl fun K hK=>?_;conv=>whnf
 refine hK _ _ _ ?_
 refine aE dCo rfl fun K hK=>?_;conv=>whnf
 refine hK _ _ _ ?_
 refine aE dCo rfl fun K hK=>?_;conv=>whnf
 refine hK _ _ _ ?_
 refine lP 1 ?_;(conv=>whnf);refine ⟨_,rfl,?_⟩
 refine lP 4 ?_;(conv=>whnf);refine ⟨_,rfl,?_⟩
 refine aE dCo rfl fun K hK=>?_;conv=>whnf
 refine bKo rfl ?_;conv=>whnf
 refine And.intro rfl (And.intro (nle rfl) (And.intro rfl ?_));conv=>whnf
 refine hK _ _ _ ?_
 refine aL ?_
 refine aE dCo rfl fun K hK=>?_;conv=>whnf
 refine gKo rfl ?_;conv=>whnf
 refine hK _ _ _ ?_
 refine aN ?_
 replace h:=bC h
 refine gQ (body:=mH _ _) rfl h [1,4,6,7,8,25] [8] [] [7,6] (fun kl kh kr ids b s=>⟨ofL ([(26,eI s.1)]++kl),ofH (([(aAH ids 0,.cells [eI s.2.1])]++kh)++([(aAH ids 1,.cells (cA s.2.2))]++kr)),b+128⟩) ?_;(conv=>whnf);refine And.intro ?_ (fun s m h=>dP ?_)
 ·refine bM ?_;conv=>whnf
  exact And.intro rfl (And.intro (aLc wkI (aLc (wkr (lsE (lsC (lsI _ _) (lsC (lsL fun _=>(aO _)) lsN)))) (aLc (wkr (lsE (aT _))) (aLc (WkR.ptr (fun _=>rfl)) (aLc (WkR.ptr (fun _=>rfl)) (aLc (WkR.ptr (fun _=>rfl)) (aLc wkI aLn))))))) (aLc ⟨some _,rfl,bRc rfl (cKc wkI cKn)⟩ (aLc ⟨some _,rfl,bRc rfl (cKc (eS bE (aM (wkr (lsE (lsC (lsI _ _) (lsC (lsL fun _=>(aO _)) lsN)))) (aM (wkr (lsE (aT _))) (aM (WkR.ptr (fun _=>rfl)) (aM (WkR.ptr (fun _=>rfl)) (aM (WkR.ptr (fun _=>rfl)) bE)))))) cKn)⟩ (aLc ⟨some _,rfl,aY (x:=(Ar.zero 8)) rfl rfl⟩ aLn))))
 replace h:=bC h;rw [mH.eq_1] at h
 refine aE dCo rfl fun K hK=>?_;conv=>whnf
 refine hK _ _ _ ?_
 refine aL ?_
 refine aQ fun K1 K2 hK1 hK2=>?_;conv=>whnf
 refine cLk h (fun _ h=>?_) (fun _ h=>?_)
 ·refine hK1 ?_
  refine aK ?_
  refine tHn ?_
  refine aL ?_
  refine aN ?_
  refine aE dCo rfl fun K hK=>?_;conv=>whnf
  refine hK _ _ _ ?_
  refine aE dCo rfl fun K hK=>?_;conv=>whnf
  refine bKo rfl ?_;conv=>whnf
  refine And.intro rfl (And.intro (nle rfl) (And.intro rfl ?_));conv=>whnf
  refine hK _ _ _ ?_
  refine cR dCo rfl fun K hK=>?_;conv=>whnf
  refine nlA rfl ?_;conv=>whnf
  refine bKo rfl ?_;conv=>whnf
  refine gKo rfl ?_;conv=>whnf
  refine dD (bs:=[.ab _,.ab _,.fn 65 [.v _,.v _,.p 1,.p 0,.p 2]]) (args0:=[_,_,_,.ptr 1 0,.ptr 0 0,.ptr 2 0]) h65 [_,_,_] h (.cons (rH (Wk.refl _) (lsI _ _)) (.cons (bQ (lsE (lsC (lsI _ _) (lsC (lsL fun _=>(aO _)) lsN)))) (.cons (bQ (lsE (aT _))) (.cons (eD rfl) (.cons (eD rfl) (.cons (eD rfl) .nil)))))) ⟨⟨_,rfl,bkW _⟩,⟨_,rfl,bkW _⟩,rfl,trivial⟩ rfl (nle rfl) (fun y e=>(⟨_,_,_,_,_,_,rfl,rfl,e,rfl,rfl⟩:kS 10 _ _ _ _)) (fun _ h=>?_);conv=>whnf
  refine hK _ _ _ ?_
  refine iBn ?_
  refine tHn ?_
  refine cR dCo rfl fun K hK=>?_;conv=>whnf
  refine hK _ _ _ ?_
  refine tHn ?_
  replace h:=bU h
  refine ⟨_,h,?_⟩
  refine bM ?_;conv=>whnf
  exact And.intro rfl (And.intro (aLc wkI (aLc (wkr (lsE (lsC (lsI _ _) (lsC (lsL fun _=>(aO _)) lsN)))) (aLc (wkr (lsE (aT _))) (aLc (WkR.ptr (fun _=>rfl)) (aLc (WkR.ptr (fun _=>rfl)) (aLc (WkR.ptr (fun _=>rfl)) (aLc wkI aLn))))))) (aLc ⟨some _,rfl,bRc rfl (cKc wkI cKn)⟩ (aLc ⟨some _,rfl,bRc rfl (cKc (eS bE (aM (wkr (lsE (lsC (lsI _ _) (lsC (lsL fun _=>(aO _)) lsN)))) (aM (wkr (lsE (aT _))) (aM (WkR.ptr (fun _=>rfl)) (aM (WkR.ptr (fun _=>rfl)) (aM (WkR.ptr (fun _=>rfl)) bE)))))) cKn)⟩ (aLc ⟨some _,rfl,aY rfl rfl⟩ aLn))))
 refine hK2 ?_
 refine bO ?_
 refine bD ?_
 refine bD ?_
 refine bA ?_
 replace h:=dT h
 replace h:=dU h
 refine tHn ?_
 refine aE dCo rfl fun K hK=>?_;conv=>whnf
 refine hK _ _ _ ?_
 refine aE dCo rfl fun K hK=>?_;conv=>whnf
 refine hK _ _ _ ?_
 refine aL ?_
 refine aE dCo rfl fun K hK=>?_;conv=>whnf
 refine gKo rfl ?_;conv=>whnf
 refine rD rfl ?_;conv=>whnf
 refine aU ?_;conv=>whnf
 replace h:=bC h
 refine lL h57 h (WkL.refl _) (fun _ h=>?_);conv=>whnf
 refine hK _ _ _ ?_
 refine aN ?_
 replace h:=bC h
 refine gQ (body:=mB _ _) rfl h [6,11,37,38] [] [6] [11] (fun kl kh kr ids b s=>⟨ofL ([(39,eI s.1),(10,.so (b+512) 0 s.2.2.length 1)]++kl),ofH (([(aAH ids 0,abM eI s.2.1),(b+0,.cells []),(b+64,.cells []),(b+128,.cells []),(b+192,.cells []),(b+256,.cells []),(b+320,.cells []),(b+384,.cells []),(b+448,.cells [])]++kh)++([(b+512,.cells (oC [b+0,b+64,b+128,b+192,b+256,b+320,b+384,b+448] s.2.2))]++kr)),b+576⟩) ?_;(conv=>whnf);refine And.intro ?_ (fun s m h=>dP ?_)
 ·refine fW aLT ?_;conv=>whnf
  exact And.intro rfl (And.intro (aLc wkI (aLc (WkR.nilso (fun _=>rfl)) (aLc (WkR.ptr (fun _=>rfl)) (aLc (WkR.mp (fun _=>rfl)) (aLc (wkr (lsL fun _=>(lsI _ _))) (aLc wkI aLn)))))) (aLc ⟨some _,rfl,iN (enc:=eI) (m:=(GM.mt Int)) rfl (fun _=>(lsI _ _))⟩ (aLc ⟨none,rfl,sG⟩ (aLc ⟨none,rfl,sG⟩ (aLc ⟨none,rfl,sG⟩ (aLc ⟨none,rfl,sG⟩ (aLc ⟨none,rfl,sG⟩ (aLc ⟨none,rfl,sG⟩ (aLc ⟨none,rfl,sG⟩ (aLc ⟨none,rfl,sG⟩ (aLc ⟨none,rfl,aIs⟩ (aLc ⟨some _,rfl,aY rfl rfl⟩ aLn))))))))))))
 replace h:=bC h;rw [mB.eq_1] at h
 refine aE dCo rfl fun K hK=>?_;conv=>whnf
 refine hK _ _ _ ?_
 refine aL ?_
 refine aQ fun K1 K2 hK1 hK2=>?_;conv=>whnf
 refine cLk h (fun _ h=>?_) (fun _ h=>?_)
 ·refine hK1 ?_
  refine aK ?_
  refine tHn ?_
  refine aL ?_
  refine aN ?_
  refine aE dCo rfl fun K hK=>?_;conv=>whnf
  refine kU h fun _ h=>?_;conv=>whnf
  refine gKo rfl ?_;conv=>whnf
  refine hK _ _ _ ?_
  refine aE dCo rfl fun K hK=>?_;conv=>whnf
  refine cO h fun hx h=>?_;conv=>whnf
  refine nlA rfl ?_;conv=>whnf
  refine bKo rfl ?_;conv=>whnf
  refine dS rfl hx ?_;conv=>whnf
  refine aFK (enc:=eI) dCo rfl (0:Int) rfl rfl (nle rfl) ?_;conv=>whnf
  refine hK _ _ _ ?_
  refine aL ?_
  refine aE dCo rfl fun K hK=>?_;conv=>whnf
  refine hK _ _ _ ?_
  refine aQ fun K1 K2 hK1 hK2=>?_;conv=>whnf
  refine cLk h (fun _ h=>?_) (fun _ h=>?_)
  ·refine hK1 ?_
   obtain ⟨h7,h⟩:=yE h
   refine aE dCo rfl fun K hK=>?_;conv=>whnf
   refine hK _ _ _ ?_
   refine cR dCo rfl fun K hK=>?_;conv=>whnf
   refine cZ (enc:=fun (_:Unit)=>AV.nils) (d:=()) (l:=[()]) (f:=fun _=>some ()) (Φ:=fun _=>True) dCo (iX _) rfl rfl rfl ⟨nle rfl,nle rfl,rfl⟩ rfl ⟨⟨rfl,rfl,rfl⟩,trivial⟩ (fun _=>?_);conv=>whnf
   refine aIY dCo rfl rfl rfl ⟨rfl,nle rfl,nle rfl,rfl⟩ rfl rfl (by omega) rfl ?_;conv=>whnf
   refine hK _ _ _ ?_
   refine tHn ?_
   replace h:=jG.eq_1 _ _ _ _ _ ▸ h
   obtain ⟨h8,h⟩:=yE h
   obtain ⟨hk,h⟩:=yE h
   have hj:(_:Int).toNat<_:=(Int.toNat_lt hk.1).2 hk.2
   generalize hkk:(s.2.2.length:Int)=kk at h hk hj ⊢
   have hc:kk=0∨kk=1∨kk=2∨kk=3∨kk=4∨kk=5∨kk=6∨kk=7:=by omega
   rcases hc with rfl | rfl | rfl | rfl | rfl | rfl | rfl | rfl
   ·refine oJ 10 (out:=s.2.2) rfl rfl (by rw [show s.2.2.length=0 by omega];exact ⟨_,_,rfl,rfl⟩) ?_
    refine aE dCo rfl fun K hK=>?_;conv=>whnf
    refine And.intro ⟨by omega,by simp only [List.length_append,List.length_cons,List.length_nil] at *;omega⟩ ?_;conv=>whnf
    refine nlA rfl ?_;conv=>whnf
    refine bKo rfl ?_;conv=>whnf
    refine gKo (iW (j:=0) rfl hj) ?_;conv=>whnf
    refine cZ (enc:=eI) (d:=default) (l:=[_]) (f:=fun _=>some ()) (Φ:=fun _=>True) dCo (iX _) rfl rfl rfl ⟨nle rfl,nle rfl,rfl⟩ rfl ⟨⟨rfl,rfl,rfl⟩,trivial⟩ (fun _=>?_);conv=>whnf
    refine dI (enc:=eI) (d:=default) dCo h (.inl rfl) rfl rfl rfl ⟨rfl,nle rfl,nle rfl,nle rfl,rfl⟩ (fun _=>rfl) (.inr (.inr ⟨_,_,rfl,rfl,rfl⟩)) (fun h=>?_);conv=>whnf
    refine And.intro ⟨by omega,by simp only [List.length_append,List.length_cons,List.length_nil] at *;omega⟩ ?_;conv=>whnf
    refine bKo rfl ?_;conv=>whnf
    refine pP (j:=0) (nle rfl) hj rfl rfl rfl rfl ?_;conv=>whnf
    refine hK _ _ _ ?_
    refine cR dCo rfl fun K hK=>?_;conv=>whnf
    refine fF (enc:=eI) dCo rfl rfl ?_;conv=>whnf
    refine hK _ _ _ ?_
    refine iBn ?_
    refine tHn ?_
    refine cR dCo rfl fun K hK=>?_;conv=>whnf
    refine hK _ _ _ ?_
    refine tHn ?_
    replace h:=bU h
    refine ⟨_,h,?_⟩
    refine fW (aBv 32 0 0) ?_;conv=>whnf
    exact And.intro rfl (And.intro (aLc wkI (aLc (WkR.soN (fun _=>rfl) (by simp)) (aLc (WkR.ptr (fun _=>rfl)) (aLc (WkR.mp (fun _=>rfl)) (aLc (wkr (lsL fun _=>(lsI _ _))) (aLc wkI aLn)))))) (aLc ⟨some _,rfl,iN (enc:=eI) rfl (fun _=>(lsI _ _))⟩ (aLc ⟨some _,rfl,bRc rfl cKn⟩ (aLc ⟨some _,rfl,bRc rfl cKn⟩ (aLc ⟨some _,rfl,bRc rfl cKn⟩ (aLc ⟨some _,rfl,bRc rfl cKn⟩ (aLc ⟨some _,rfl,bRc rfl cKn⟩ (aLc ⟨some _,rfl,bRc rfl cKn⟩ (aLc ⟨some _,rfl,bRc rfl cKn⟩ (aLc ⟨some _,rfl,bRc rfl cKn⟩ (aLc ⟨some _,rfl,kG rfl ⟨fun _=>rfl,fun _=>rfl,fun _=>rfl,fun _=>rfl,fun _=>rfl,fun _=>rfl,fun _=>rfl,fun _=>rfl,trivial⟩⟩ (aLc ⟨some _,rfl,aY rfl rfl⟩ aLn))))))))))))
   ·refine oJ 10 (out:=s.2.2) rfl rfl (by rw [show s.2.2.length=1 by omega];exact ⟨_,_,rfl,rfl⟩) ?_
    refine aE dCo rfl fun K hK=>?_;conv=>whnf
    refine And.intro ⟨by omega,by simp only [List.length_append,List.length_cons,List.length_nil] at *;omega⟩ ?_;conv=>whnf
    refine nlA rfl ?_;conv=>whnf
    refine bKo rfl ?_;conv=>whnf
    refine gKo (iW (j:=1) rfl hj) ?_;conv=>whnf
    refine cZ (enc:=eI) (d:=default) (l:=[_]) (f:=fun _=>some ()) (Φ:=fun _=>True) dCo (iX _) rfl rfl rfl ⟨nle rfl,nle rfl,rfl⟩ rfl ⟨⟨rfl,rfl,rfl⟩,trivial⟩ (fun _=>?_);conv=>whnf
    refine dI (enc:=eI) (d:=default) dCo h (.inl rfl) rfl rfl rfl ⟨rfl,nle rfl,nle rfl,nle rfl,rfl⟩ (fun _=>rfl) (.inr (.inr ⟨_,_,rfl,rfl,rfl⟩)) (fun h=>?_);conv=>whnf
    refine And.intro ⟨by omega,by simp only [List.length_append,List.length_cons,List.length_nil] at *;omega⟩ ?_;conv=>whnf
    refine bKo rfl ?_;conv=>whnf
    refine pP (j:=1) (nle rfl) hj rfl rfl rfl rfl ?_;conv=>whnf
    refine hK _ _ _ ?_
    refine cR dCo rfl fun K hK=>?_;conv=>whnf
    refine fF (enc:=eI) dCo rfl rfl ?_;conv=>whnf
    refine hK _ _ _ ?_
    refine iBn ?_
    refine tHn ?_
    refine cR dCo rfl fun K hK=>?_;conv=>whnf
    refine hK _ _ _ ?_
    refine tHn ?_
    replace h:=bU h
    refine ⟨_,h,?_⟩
    refine fW (aBv 32 0 1) ?_;conv=>whnf
    exact And.intro rfl (And.intro (aLc wkI (aLc (WkR.soN (fun _=>rfl) (by simp)) (aLc (WkR.ptr (fun _=>rfl)) (aLc (WkR.mp (fun _=>rfl)) (aLc (wkr (lsL fun _=>(lsI _ _))) (aLc wkI aLn)))))) (aLc ⟨some _,rfl,iN (enc:=eI) rfl (fun _=>(lsI _ _))⟩ (aLc ⟨some _,rfl,bRc rfl cKn⟩ (aLc ⟨some _,rfl,bRc rfl cKn⟩ (aLc ⟨some _,rfl,bRc rfl cKn⟩ (aLc ⟨some _,rfl,bRc rfl cKn⟩ (aLc ⟨some _,rfl,bRc rfl cKn⟩ (aLc ⟨some _,rfl,bRc rfl cKn⟩ (aLc ⟨some _,rfl,bRc rfl cKn⟩ (aLc ⟨some _,rfl,bRc rfl cKn⟩ (aLc ⟨some _,rfl,kG rfl ⟨fun _=>rfl,fun _=>rfl,fun _=>rfl,fun _=>rfl,fun _=>rfl,fun _=>rfl,fun _=>rfl,fun _=>rfl,trivial⟩⟩ (aLc ⟨some _,rfl,aY rfl rfl⟩ aLn))))))))))))
   ·refine oJ 10 (out:=s.2.2) rfl rfl (by rw [show s.2.2.length=2 by omega];exact ⟨_,_,rfl,rfl⟩) ?_
    refine aE dCo rfl fun K hK=>?_;conv=>whnf
    refine And.intro ⟨by omega,by simp only [List.length_append,List.length_cons,List.length_nil] at *;omega⟩ ?_;conv=>whnf
    refine nlA rfl ?_;conv=>whnf
    refine bKo rfl ?_;conv=>whnf
    refine gKo (iW (j:=2) rfl hj) ?_;conv=>whnf
    refine cZ (enc:=eI) (d:=default) (l:=[_]) (f:=fun _=>some ()) (Φ:=fun _=>True) dCo (iX _) rfl rfl rfl ⟨nle rfl,nle rfl,rfl⟩ rfl ⟨⟨rfl,rfl,rfl⟩,trivial⟩ (fun _=>?_);conv=>whnf
    refine dI (enc:=eI) (d:=default) dCo h (.inl rfl) rfl rfl rfl ⟨rfl,nle rfl,nle rfl,nle rfl,rfl⟩ (fun _=>rfl) (.inr (.inr ⟨_,_,rfl,rfl,rfl⟩)) (fun h=>?_);conv=>whnf
    refine And.intro ⟨by omega,by simp only [List.length_append,List.length_cons,List.length_nil] at *;omega⟩ ?_;conv=>whnf
    refine bKo rfl ?_;conv=>whnf
    refine pP (j:=2) (nle rfl) hj rfl rfl rfl rfl ?_;conv=>whnf
    refine hK _ _ _ ?_
    refine cR dCo rfl fun K hK=>?_;conv=>whnf
    refine fF (enc:=eI) dCo rfl rfl ?_;conv=>whnf
    refine hK _ _ _ ?_
    refine iBn ?_
    refine tHn ?_
    refine cR dCo rfl fun K hK=>?_;conv=>whnf
    refine hK _ _ _ ?_
    refine tHn ?_
    replace h:=bU h
    refine ⟨_,h,?_⟩
    refine fW (aBv 32 0 2) ?_;conv=>whnf
    exact And.intro rfl (And.intro (aLc wkI (aLc (WkR.soN (fun _=>rfl) (by simp)) (aLc (WkR.ptr (fun _=>rfl)) (aLc (WkR.mp (fun _=>rfl)) (aLc (wkr (lsL fun _=>(lsI _ _))) (aLc wkI aLn)))))) (aLc ⟨some _,rfl,iN (enc:=eI) rfl (fun _=>(lsI _ _))⟩ (aLc ⟨some _,rfl,bRc rfl cKn⟩ (aLc ⟨some _,rfl,bRc rfl cKn⟩ (aLc ⟨some _,rfl,bRc rfl cKn⟩ (aLc ⟨some _,rfl,bRc rfl cKn⟩ (aLc ⟨some _,rfl,bRc rfl cKn⟩ (aLc ⟨some _,rfl,bRc rfl cKn⟩ (aLc ⟨some _,rfl,bRc rfl cKn⟩ (aLc ⟨some _,rfl,bRc rfl cKn⟩ (aLc ⟨some _,rfl,kG rfl ⟨fun _=>rfl,fun _=>rfl,fun _=>rfl,fun _=>rfl,fun _=>rfl,fun _=>rfl,fun _=>rfl,fun _=>rfl,trivial⟩⟩ (aLc ⟨some _,rfl,aY rfl rfl⟩ aLn))))))))))))
   ·refine oJ 10 (out:=s.2.2) rfl rfl (by rw [show s.2.2.length=3 by omega];exact ⟨_,_,rfl,rfl⟩) ?_
    refine aE dCo rfl fun K hK=>?_;conv=>whnf
    refine And.intro ⟨by omega,by simp only [List.length_append,List.length_cons,List.length_nil] at *;omega⟩ ?_;conv=>whnf
    refine nlA rfl ?_;conv=>whnf
    refine bKo rfl ?_;conv=>whnf
    refine gKo (iW (j:=3) rfl hj) ?_;conv=>whnf
    refine cZ (enc:=eI) (d:=default) (l:=[_]) (f:=fun _=>some ()) (Φ:=fun _=>True) dCo (iX _) rfl rfl rfl ⟨nle rfl,nle rfl,rfl⟩ rfl ⟨⟨rfl,rfl,rfl⟩,trivial⟩ (fun _=>?_);conv=>whnf
    refine dI (enc:=eI) (d:=default) dCo h (.inl rfl) rfl rfl rfl ⟨rfl,nle rfl,nle rfl,nle rfl,rfl⟩ (fun _=>rfl) (.inr (.inr ⟨_,_,rfl,rfl,rfl⟩)) (fun h=>?_);conv=>whnf
    refine And.intro ⟨by omega,by simp only [List.length_append,List.length_cons,List.length_nil] at *;omega⟩ ?_;conv=>whnf
    refine bKo rfl ?_;conv=>whnf
    refine pP (j:=3) (nle rfl) hj rfl rfl rfl rfl ?_;conv=>whnf
    refine hK _ _ _ ?_
    refine cR dCo rfl fun K hK=>?_;conv=>whnf
    refine fF (enc:=eI) dCo rfl rfl ?_;conv=>whnf
    refine hK _ _ _ ?_
    refine iBn ?_
    refine tHn ?_
    refine cR dCo rfl fun K hK=>?_;conv=>whnf
    refine hK _ _ _ ?_
    refine tHn ?_
    replace h:=bU h
    refine ⟨_,h,?_⟩
    refine fW (aBv 32 0 3) ?_;conv=>whnf
    exact And.intro rfl (And.intro (aLc wkI (aLc (WkR.soN (fun _=>rfl) (by simp)) (aLc (WkR.ptr (fun _=>rfl)) (aLc (WkR.mp (fun _=>rfl)) (aLc (wkr (lsL fun _=>(lsI _ _))) (aLc wkI aLn)))))) (aLc ⟨some _,rfl,iN (enc:=eI) rfl (fun _=>(lsI _ _))⟩ (aLc ⟨some _,rfl,bRc rfl cKn⟩ (aLc ⟨some _,rfl,bRc rfl cKn⟩ (aLc ⟨some _,rfl,bRc rfl cKn⟩ (aLc ⟨some _,rfl,bRc rfl cKn⟩ (aLc ⟨some _,rfl,bRc rfl cKn⟩ (aLc ⟨some _,rfl,bRc rfl cKn⟩ (aLc ⟨some _,rfl,bRc rfl cKn⟩ (aLc ⟨some _,rfl,bRc rfl cKn⟩ (aLc ⟨some _,rfl,kG rfl ⟨fun _=>rfl,fun _=>rfl,fun _=>rfl,fun _=>rfl,fun _=>rfl,fun _=>rfl,fun _=>rfl,fun _=>rfl,trivial⟩⟩ (aLc ⟨some _,rfl,aY rfl rfl⟩ aLn))))))))))))
   ·refine oJ 10 (out:=s.2.2) rfl rfl (by rw [show s.2.2.length=4 by omega];exact ⟨_,_,rfl,rfl⟩) ?_
    refine aE dCo rfl fun K hK=>?_;conv=>whnf
    refine And.intro ⟨by omega,by simp only [List.length_append,List.length_cons,List.length_nil] at *;omega⟩ ?_;conv=>whnf
    refine nlA rfl ?_;conv=>whnf
    refine bKo rfl ?_;conv=>whnf
    refine gKo (iW (j:=4) rfl hj) ?_;conv=>whnf
    refine cZ (enc:=eI) (d:=default) (l:=[_]) (f:=fun _=>some ()) (Φ:=fun _=>True) dCo (iX _) rfl rfl rfl ⟨nle rfl,nle rfl,rfl⟩ rfl ⟨⟨rfl,rfl,rfl⟩,trivial⟩ (fun _=>?_);conv=>whnf
    refine dI (enc:=eI) (d:=default) dCo h (.inl rfl) rfl rfl rfl ⟨rfl,nle rfl,nle rfl,nle rfl,rfl⟩ (fun _=>rfl) (.inr (.inr ⟨_,_,rfl,rfl,rfl⟩)) (fun h=>?_);conv=>whnf
    refine And.intro ⟨by omega,by simp only [List.length_append,List.length_cons,List.length_nil] at *;omega⟩ ?_;conv=>whnf
    refine bKo rfl ?_;conv=>whnf
    refine pP (j:=4) (nle rfl) hj rfl rfl rfl rfl ?_;conv=>whnf
    refine hK _ _ _ ?_
    refine cR dCo rfl fun K hK=>?_;conv=>whnf
    refine fF (enc:=eI) dCo rfl rfl ?_;conv=>whnf
    refine hK _ _ _ ?_
    refine iBn ?_
    refine tHn ?_
    refine cR dCo rfl fun K hK=>?_;conv=>whnf
    refine hK _ _ _ ?_
    refine tHn ?_
    replace h:=bU h
    refine ⟨_,h,?_⟩
    refine fW (aBv 32 0 4) ?_;conv=>whnf
    exact And.intro rfl (And.intro (aLc wkI (aLc (WkR.soN (fun _=>rfl) (by simp)) (aLc (WkR.ptr (fun _=>rfl)) (aLc (WkR.mp (fun _=>rfl)) (aLc (wkr (lsL fun _=>(lsI _ _))) (aLc wkI aLn)))))) (aLc ⟨some _,rfl,iN (enc:=eI) rfl (fun _=>(lsI _ _))⟩ (aLc ⟨some _,rfl,bRc rfl cKn⟩ (aLc ⟨some _,rfl,bRc rfl cKn⟩ (aLc ⟨some _,rfl,bRc rfl cKn⟩ (aLc ⟨some _,rfl,bRc rfl cKn⟩ (aLc ⟨some _,rfl,bRc rfl cKn⟩ (aLc ⟨some _,rfl,bRc rfl cKn⟩ (aLc ⟨some _,rfl,bRc rfl cKn⟩ (aLc ⟨some _,rfl,bRc rfl cKn⟩ (aLc ⟨some _,rfl,kG rfl ⟨fun _=>rfl,fun _=>rfl,fun _=>rfl,fun _=>rfl,fun _=>rfl,fun _=>rfl,fun _=>rfl,fun _=>rfl,trivial⟩⟩ (aLc ⟨some _,rfl,aY rfl rfl⟩ aLn))))))))))))
   ·refine oJ 10 (out:=s.2.2) rfl rfl (by rw [show s.2.2.length=5 by omega];exact ⟨_,_,rfl,rfl⟩) ?_
    refine aE dCo rfl fun K hK=>?_;conv=>whnf
    refine And.intro ⟨by omega,by simp only [List.length_append,List.length_cons,List.length_nil] at *;omega⟩ ?_;conv=>whnf
    refine nlA rfl ?_;conv=>whnf
    refine bKo rfl ?_;conv=>whnf
    refine gKo (iW (j:=5) rfl hj) ?_;conv=>whnf
    refine cZ (enc:=eI) (d:=default) (l:=[_]) (f:=fun _=>some ()) (Φ:=fun _=>True) dCo (iX _) rfl rfl rfl ⟨nle rfl,nle rfl,rfl⟩ rfl ⟨⟨rfl,rfl,rfl⟩,trivial⟩ (fun _=>?_);conv=>whnf
    refine dI (enc:=eI) (d:=default) dCo h (.inl rfl) rfl rfl rfl ⟨rfl,nle rfl,nle rfl,nle rfl,rfl⟩ (fun _=>rfl) (.inr (.inr ⟨_,_,rfl,rfl,rfl⟩)) (fun h=>?_);conv=>whnf
    refine And.intro ⟨by omega,by simp only [List.length_append,List.length_cons,List.length_nil] at *;omega⟩ ?_;conv=>whnf
    refine bKo rfl ?_;conv=>whnf
    refine pP (j:=5) (nle rfl) hj rfl rfl rfl rfl ?_;conv=>whnf
    refine hK _ _ _ ?_
    refine cR dCo rfl fun K hK=>?_;conv=>whnf
    refine fF (enc:=eI) dCo rfl rfl ?_;conv=>whnf
    refine hK _ _ _ ?_
    refine iBn ?_
    refine tHn ?_
    refine cR dCo rfl fun K hK=>?_;conv=>whnf
    refine hK _ _ _ ?_
    refine tHn ?_
    replace h:=bU h
    refine ⟨_,h,?_⟩
    refine fW (aBv 32 0 5) ?_;conv=>whnf
    exact And.intro rfl (And.intro (aLc wkI (aLc (WkR.soN (fun _=>rfl) (by simp)) (aLc (WkR.ptr (fun _=>rfl)) (aLc (WkR.mp (fun _=>rfl)) (aLc (wkr (lsL fun _=>(lsI _ _))) (aLc wkI aLn)))))) (aLc ⟨some _,rfl,iN (enc:=eI) rfl (fun _=>(lsI _ _))⟩ (aLc ⟨some _,rfl,bRc rfl cKn⟩ (aLc ⟨some _,rfl,bRc rfl cKn⟩ (aLc ⟨some _,rfl,bRc rfl cKn⟩ (aLc ⟨some _,rfl,bRc rfl cKn⟩ (aLc ⟨some _,rfl,bRc rfl cKn⟩ (aLc ⟨some _,rfl,bRc rfl cKn⟩ (aLc ⟨some _,rfl,bRc rfl cKn⟩ (aLc ⟨some _,rfl,bRc rfl cKn⟩ (aLc ⟨some _,rfl,kG rfl ⟨fun _=>rfl,fun _=>rfl,fun _=>rfl,fun _=>rfl,fun _=>rfl,fun _=>rfl,fun _=>rfl,fun _=>rfl,trivial⟩⟩ (aLc ⟨some _,rfl,aY rfl rfl⟩ aLn))))))))))))
   ·refine oJ 10 (out:=s.2.2) rfl rfl (by rw [show s.2.2.length=6 by omega];exact ⟨_,_,rfl,rfl⟩) ?_
    refine aE dCo rfl fun K hK=>?_;conv=>whnf
    refine And.intro ⟨by omega,by simp only [List.length_append,List.length_cons,List.length_nil] at *;omega⟩ ?_;conv=>whnf
    refine nlA rfl ?_;conv=>whnf
    refine bKo rfl ?_;conv=>whnf
    refine gKo (iW (j:=6) rfl hj) ?_;conv=>whnf
    refine cZ (enc:=eI) (d:=default) (l:=[_]) (f:=fun _=>some ()) (Φ:=fun _=>True) dCo (iX _) rfl rfl rfl ⟨nle rfl,nle rfl,rfl⟩ rfl ⟨⟨rfl,rfl,rfl⟩,trivial⟩ (fun _=>?_);conv=>whnf
    refine dI (enc:=eI) (d:=default) dCo h (.inl rfl) rfl rfl rfl ⟨rfl,nle rfl,nle rfl,nle rfl,rfl⟩ (fun _=>rfl) (.inr (.inr ⟨_,_,rfl,rfl,rfl⟩)) (fun h=>?_);conv=>whnf
    refine And.intro ⟨by omega,by simp only [List.length_append,List.length_cons,List.length_nil] at *;omega⟩ ?_;conv=>whnf
    refine bKo rfl ?_;conv=>whnf
    refine pP (j:=6) (nle rfl) hj rfl rfl rfl rfl ?_;conv=>whnf
    refine hK _ _ _ ?_
    refine cR dCo rfl fun K hK=>?_;conv=>whnf
    refine fF (enc:=eI) dCo rfl rfl ?_;conv=>whnf
    refine hK _ _ _ ?_
    refine iBn ?_
    refine tHn ?_
    refine cR dCo rfl fun K hK=>?_;conv=>whnf
    refine hK _ _ _ ?_
    refine tHn ?_
    replace h:=bU h
    refine ⟨_,h,?_⟩
    refine fW (aBv 32 0 6) ?_;conv=>whnf
    exact And.intro rfl (And.intro (aLc wkI (aLc (WkR.soN (fun _=>rfl) (by simp)) (aLc (WkR.ptr (fun _=>rfl)) (aLc (WkR.mp (fun _=>rfl)) (aLc (wkr (lsL fun _=>(lsI _ _))) (aLc wkI aLn)))))) (aLc ⟨some _,rfl,iN (enc:=eI) rfl (fun _=>(lsI _ _))⟩ (aLc ⟨some _,rfl,bRc rfl cKn⟩ (aLc ⟨some _,rfl,bRc rfl cKn⟩ (aLc ⟨some _,rfl,bRc rfl cKn⟩ (aLc ⟨some _,rfl,bRc rfl cKn⟩ (aLc ⟨some _,rfl,bRc rfl cKn⟩ (aLc ⟨some _,rfl,bRc rfl cKn⟩ (aLc ⟨some _,rfl,bRc rfl cKn⟩ (aLc ⟨some _,rfl,bRc rfl cKn⟩ (aLc ⟨some _,rfl,kG rfl ⟨fun _=>rfl,fun _=>rfl,fun _=>rfl,fun _=>rfl,fun _=>rfl,fun _=>rfl,fun _=>rfl,fun _=>rfl,trivial⟩⟩ (aLc ⟨some _,rfl,aY rfl rfl⟩ aLn))))))))))))
   ·refine oJ 10 (out:=s.2.2) rfl rfl (by rw [show s.2.2.length=7 by omega];exact ⟨_,_,rfl,rfl⟩) ?_
    refine aE dCo rfl fun K hK=>?_;conv=>whnf
    refine And.intro ⟨by omega,by simp only [List.length_append,List.length_cons,List.length_nil] at *;omega⟩ ?_;conv=>whnf
    refine nlA rfl ?_;conv=>whnf
    refine bKo rfl ?_;conv=>whnf
    refine gKo (iW (j:=7) rfl hj) ?_;conv=>whnf
    refine cZ (enc:=eI) (d:=default) (l:=[_]) (f:=fun _=>some ()) (Φ:=fun _=>True) dCo (iX _) rfl rfl rfl ⟨nle rfl,nle rfl,rfl⟩ rfl ⟨⟨rfl,rfl,rfl⟩,trivial⟩ (fun _=>?_);conv=>whnf
    refine dI (enc:=eI) (d:=default) dCo h (.inl rfl) rfl rfl rfl ⟨rfl,nle rfl,nle rfl,nle rfl,rfl⟩ (fun _=>rfl) (.inr (.inr ⟨_,_,rfl,rfl,rfl⟩)) (fun h=>?_);conv=>whnf
    refine And.intro ⟨by omega,by simp only [List.length_append,List.length_cons,List.length_nil] at *;omega⟩ ?_;conv=>whnf
    refine bKo rfl ?_;conv=>whnf
    refine pP (j:=7) (nle rfl) hj rfl rfl rfl rfl ?_;conv=>whnf
    refine hK _ _ _ ?_
    refine cR dCo rfl fun K hK=>?_;conv=>whnf
    refine fF (enc:=eI) dCo rfl rfl ?_;conv=>whnf
    refine hK _ _ _ ?_
    refine iBn ?_
    refine tHn ?_
    refine cR dCo rfl fun K hK=>?_;conv=>whnf
    refine hK _ _ _ ?_
    refine tHn ?_
    replace h:=bU h
    refine ⟨_,h,?_⟩
    refine fW (aBv 32 0 7) ?_;conv=>whnf
    exact And.intro rfl (And.intro (aLc wkI (aLc (WkR.soN (fun _=>rfl) (by simp)) (aLc (WkR.ptr (fun _=>rfl)) (aLc (WkR.mp (fun _=>rfl)) (aLc (wkr (lsL fun _=>(lsI _ _))) (aLc wkI aLn)))))) (aLc ⟨some _,rfl,iN (enc:=eI) rfl (fun _=>(lsI _ _))⟩ (aLc ⟨some _,rfl,bRc rfl cKn⟩ (aLc ⟨some _,rfl,bRc rfl cKn⟩ (aLc ⟨some _,rfl,bRc rfl cKn⟩ (aLc ⟨some _,rfl,bRc rfl cKn⟩ (aLc ⟨some _,rfl,bRc rfl cKn⟩ (aLc ⟨some _,rfl,bRc rfl cKn⟩ (aLc ⟨some _,rfl,bRc rfl cKn⟩ (aLc ⟨some _,rfl,bRc rfl cKn⟩ (aLc ⟨some _,rfl,kG rfl ⟨fun _=>rfl,fun _=>rfl,fun _=>rfl,fun _=>rfl,fun _=>rfl,fun _=>rfl,fun _=>rfl,fun _=>rfl,trivial⟩⟩ (aLc ⟨some _,rfl,aY rfl rfl⟩ aLn))))))))))))
  refine hK2 ?_
  refine aK ?_
  refine tHn ?_
  replace h:=jG.eq_1 _ _ _ _ _ ▸ h
  obtain ⟨h8,h⟩:=yE h
  obtain ⟨hk,h⟩:=yE h
  have hj:(_:Int).toNat<_:=(Int.toNat_lt hk.1).2 hk.2
  generalize hkk:s.2.1.get _ 0=kk at h hk hj ⊢
  have hc:kk=0∨kk=1∨kk=2∨kk=3∨kk=4∨kk=5∨kk=6∨kk=7:=by omega
  rcases hc with rfl | rfl | rfl | rfl | rfl | rfl | rfl | rfl
  ·refine aE dCo rfl fun K hK=>?_;conv=>whnf
   refine And.intro ⟨by omega,by simp only [List.length_append,List.length_cons,List.length_nil] at *;omega⟩ ?_;conv=>whnf
   refine nlA rfl ?_;conv=>whnf
   refine bKo rfl ?_;conv=>whnf
   refine gKo (iW (j:=0) rfl hj) ?_;conv=>whnf
   refine cZ (enc:=eI) (d:=default) (l:=[_]) (f:=fun _=>some ()) (Φ:=fun _=>True) dCo (iX _) rfl rfl rfl ⟨nle rfl,nle rfl,rfl⟩ rfl ⟨⟨rfl,rfl,rfl⟩,trivial⟩ (fun _=>?_);conv=>whnf
   refine dI (enc:=eI) (d:=default) dCo h (.inl rfl) rfl rfl rfl ⟨rfl,nle rfl,nle rfl,nle rfl,rfl⟩ (fun _=>rfl) (.inr (.inr ⟨_,_,rfl,rfl,rfl⟩)) (fun h=>?_);conv=>whnf
   refine And.intro ⟨by omega,by simp only [List.length_append,List.length_cons,List.length_nil] at *;omega⟩ ?_;conv=>whnf
   refine bKo rfl ?_;conv=>whnf
   refine pP (j:=0) (nle rfl) hj rfl rfl rfl rfl ?_;conv=>whnf
   refine hK _ _ _ ?_
   refine cR dCo rfl fun K hK=>?_;conv=>whnf
   refine fF (enc:=eI) dCo rfl rfl ?_;conv=>whnf
   refine hK _ _ _ ?_
   refine iBn ?_
   refine tHn ?_
   refine cR dCo rfl fun K hK=>?_;conv=>whnf
   refine hK _ _ _ ?_
   refine tHn ?_
   replace h:=bU h
   refine ⟨_,h,?_⟩
   refine fW (aBv 25 0 0) ?_;conv=>whnf
   exact And.intro rfl (And.intro (aLc wkI (aLc (WkR.soN (fun _=>rfl) (by simp)) (aLc (WkR.ptr (fun _=>rfl)) (aLc (WkR.mp (fun _=>rfl)) (aLc (wkr (lsL fun _=>(lsI _ _))) (aLc wkI aLn)))))) (aLc ⟨some _,rfl,iN (enc:=eI) rfl (fun _=>(lsI _ _))⟩ (aLc ⟨some _,rfl,bRc rfl cKn⟩ (aLc ⟨some _,rfl,bRc rfl cKn⟩ (aLc ⟨some _,rfl,bRc rfl cKn⟩ (aLc ⟨some _,rfl,bRc rfl cKn⟩ (aLc ⟨some _,rfl,bRc rfl cKn⟩ (aLc ⟨some _,rfl,bRc rfl cKn⟩ (aLc ⟨some _,rfl,bRc rfl cKn⟩ (aLc ⟨some _,rfl,bRc rfl cKn⟩ (aLc ⟨some _,rfl,kG rfl ⟨fun _=>rfl,fun _=>rfl,fun _=>rfl,fun _=>rfl,fun _=>rfl,fun _=>rfl,fun _=>rfl,fun _=>rfl,trivial⟩⟩ (aLc ⟨some _,rfl,aY rfl rfl⟩ aLn))))))))))))
  ·refine aE dCo rfl fun K hK=>?_;conv=>whnf
   refine And.intro ⟨by omega,by simp only [List.length_append,List.length_cons,List.length_nil] at *;omega⟩ ?_;conv=>whnf
   refine nlA rfl ?_;conv=>whnf
   refine bKo rfl ?_;conv=>whnf
   refine gKo (iW (j:=1) rfl hj) ?_;conv=>whnf
   refine cZ (enc:=eI) (d:=default) (l:=[_]) (f:=fun _=>some ()) (Φ:=fun _=>True) dCo (iX _) rfl rfl rfl ⟨nle rfl,nle rfl,rfl⟩ rfl ⟨⟨rfl,rfl,rfl⟩,trivial⟩ (fun _=>?_);conv=>whnf
   refine dI (enc:=eI) (d:=default) dCo h (.inl rfl) rfl rfl rfl ⟨rfl,nle rfl,nle rfl,nle rfl,rfl⟩ (fun _=>rfl) (.inr (.inr ⟨_,_,rfl,rfl,rfl⟩)) (fun h=>?_);conv=>whnf
   refine And.intro ⟨by omega,by simp only [List.length_append,List.length_cons,List.length_nil] at *;omega⟩ ?_;conv=>whnf
   refine bKo rfl ?_;conv=>whnf
   refine pP (j:=1) (nle rfl) hj rfl rfl rfl rfl ?_;conv=>whnf
   refine hK _ _ _ ?_
   refine cR dCo rfl fun K hK=>?_;conv=>whnf
   refine fF (enc:=eI) dCo rfl rfl ?_;conv=>whnf
   refine hK _ _ _ ?_
   refine iBn ?_
   refine tHn ?_
   refine cR dCo rfl fun K hK=>?_;conv=>whnf
   refine hK _ _ _ ?_
   refine tHn ?_
   replace h:=bU h
   refine ⟨_,h,?_⟩
   refine fW (aBv 25 0 1) ?_;conv=>whnf
   exact And.intro rfl (And.intro (aLc wkI (aLc (WkR.soN (fun _=>rfl) (by simp)) (aLc (WkR.ptr (fun _=>rfl)) (aLc (WkR.mp (fun _=>rfl)) (aLc (wkr (lsL fun _=>(lsI _ _))) (aLc wkI aLn)))))) (aLc ⟨some _,rfl,iN (enc:=eI) rfl (fun _=>(lsI _ _))⟩ (aLc ⟨some _,rfl,bRc rfl cKn⟩ (aLc ⟨some _,rfl,bRc rfl cKn⟩ (aLc ⟨some _,rfl,bRc rfl cKn⟩ (aLc ⟨some _,rfl,bRc rfl cKn⟩ (aLc ⟨some _,rfl,bRc rfl cKn⟩ (aLc ⟨some _,rfl,bRc rfl cKn⟩ (aLc ⟨some _,rfl,bRc rfl cKn⟩ (aLc ⟨some _,rfl,bRc rfl cKn⟩ (aLc ⟨some _,rfl,kG rfl ⟨fun _=>rfl,fun _=>rfl,fun _=>rfl,fun _=>rfl,fun _=>rfl,fun _=>rfl,fun _=>rfl,fun _=>rfl,trivial⟩⟩ (aLc ⟨some _,rfl,aY rfl rfl⟩ aLn))))))))))))
  ·refine aE dCo rfl fun K hK=>?_;conv=>whnf
   refine And.intro ⟨by omega,by simp only [List.length_append,List.length_cons,List.length_nil] at *;omega⟩ ?_;conv=>whnf
   refine nlA rfl ?_;conv=>whnf
   refine bKo rfl ?_;conv=>whnf
   refine gKo (iW (j:=2) rfl hj) ?_;conv=>whnf
   refine cZ (enc:=eI) (d:=default) (l:=[_]) (f:=fun _=>some ()) (Φ:=fun _=>True) dCo (iX _) rfl rfl rfl ⟨nle rfl,nle rfl,rfl⟩ rfl ⟨⟨rfl,rfl,rfl⟩,trivial⟩ (fun _=>?_);conv=>whnf
   refine dI (enc:=eI) (d:=default) dCo h (.inl rfl) rfl rfl rfl ⟨rfl,nle rfl,nle rfl,nle rfl,rfl⟩ (fun _=>rfl) (.inr (.inr ⟨_,_,rfl,rfl,rfl⟩)) (fun h=>?_);conv=>whnf
   refine And.intro ⟨by omega,by simp only [List.length_append,List.length_cons,List.length_nil] at *;omega⟩ ?_;conv=>whnf
   refine bKo rfl ?_;conv=>whnf
   refine pP (j:=2) (nle rfl) hj rfl rfl rfl rfl ?_;conv=>whnf
   refine hK _ _ _ ?_
   refine cR dCo rfl fun K hK=>?_;conv=>whnf
   refine fF (enc:=eI) dCo rfl rfl ?_;conv=>whnf
   refine hK _ _ _ ?_
   refine iBn ?_
   refine tHn ?_
   refine cR dCo rfl fun K hK=>?_;conv=>whnf
   refine hK _ _ _ ?_
   refine tHn ?_
   replace h:=bU h
   refine ⟨_,h,?_⟩
   refine fW (aBv 25 0 2) ?_;conv=>whnf
   exact And.intro rfl (And.intro (aLc wkI (aLc (WkR.soN (fun _=>rfl) (by simp)) (aLc (WkR.ptr (fun _=>rfl)) (aLc (WkR.mp (fun _=>rfl)) (aLc (wkr (lsL fun _=>(lsI _ _))) (aLc wkI aLn)))))) (aLc ⟨some _,rfl,iN (enc:=eI) rfl (fun _=>(lsI _ _))⟩ (aLc ⟨some _,rfl,bRc rfl cKn⟩ (aLc ⟨some _,rfl,bRc rfl cKn⟩ (aLc ⟨some _,rfl,bRc rfl cKn⟩ (aLc ⟨some _,rfl,bRc rfl cKn⟩ (aLc ⟨some _,rfl,bRc rfl cKn⟩ (aLc ⟨some _,rfl,bRc rfl cKn⟩ (aLc ⟨some _,rfl,bRc rfl cKn⟩ (aLc ⟨some _,rfl,bRc rfl cKn⟩ (aLc ⟨some _,rfl,kG rfl ⟨fun _=>rfl,fun _=>rfl,fun _=>rfl,fun _=>rfl,fun _=>rfl,fun _=>rfl,fun _=>rfl,fun _=>rfl,trivial⟩⟩ (aLc ⟨some _,rfl,aY rfl rfl⟩ aLn))))))))))))
  ·refine aE dCo rfl fun K hK=>?_;conv=>whnf
   refine And.intro ⟨by omega,by simp only [List.length_append,List.length_cons,List.length_nil] at *;omega⟩ ?_;conv=>whnf
   refine nlA rfl ?_;conv=>whnf
   refine bKo rfl ?_;conv=>whnf
   refine gKo (iW (j:=3) rfl hj) ?_;conv=>whnf
   refine cZ (enc:=eI) (d:=default) (l:=[_]) (f:=fun _=>some ()) (Φ:=fun _=>True) dCo (iX _) rfl rfl rfl ⟨nle rfl,nle rfl,rfl⟩ rfl ⟨⟨rfl,rfl,rfl⟩,trivial⟩ (fun _=>?_);conv=>whnf
   refine dI (enc:=eI) (d:=default) dCo h (.inl rfl) rfl rfl rfl ⟨rfl,nle rfl,nle rfl,nle rfl,rfl⟩ (fun _=>rfl) (.inr (.inr ⟨_,_,rfl,rfl,rfl⟩)) (fun h=>?_);conv=>whnf
   refine And.intro ⟨by omega,by simp only [List.length_append,List.length_cons,List.length_nil] at *;omega⟩ ?_;conv=>whnf
   refine bKo rfl ?_;conv=>whnf
   refine pP (j:=3) (nle rfl) hj rfl rfl rfl rfl ?_;conv=>whnf
   refine hK _ _ _ ?_
   refine cR dCo rfl fun K hK=>?_;conv=>whnf
   refine fF (enc:=eI) dCo rfl rfl ?_;conv=>whnf
   refine hK _ _ _ ?_
   refine iBn ?_
   refine tHn ?_
   refine cR dCo rfl fun K hK=>?_;conv=>whnf
   refine hK _ _ _ ?_
   refine tHn ?_
   replace h:=bU h
   refine ⟨_,h,?_⟩
   refine fW (aBv 25 0 3) ?_;conv=>whnf
   exact And.intro rfl (And.intro (aLc wkI (aLc (WkR.soN (fun _=>rfl) (by simp)) (aLc (WkR.ptr (fun _=>rfl)) (aLc (WkR.mp (fun _=>rfl)) (aLc (wkr (lsL fun _=>(lsI _ _))) (aLc wkI aLn)))))) (aLc ⟨some _,rfl,iN (enc:=eI) rfl (fun _=>(lsI _ _))⟩ (aLc ⟨some _,rfl,bRc rfl cKn⟩ (aLc ⟨some _,rfl,bRc rfl cKn⟩ (aLc ⟨some _,rfl,bRc rfl cKn⟩ (aLc ⟨some _,rfl,bRc rfl cKn⟩ (aLc ⟨some _,rfl,bRc rfl cKn⟩ (aLc ⟨some _,rfl,bRc rfl cKn⟩ (aLc ⟨some _,rfl,bRc rfl cKn⟩ (aLc ⟨some _,rfl,bRc rfl cKn⟩ (aLc ⟨some _,rfl,kG rfl ⟨fun _=>rfl,fun _=>rfl,fun _=>rfl,fun _=>rfl,fun _=>rfl,fun _=>rfl,fun _=>rfl,fun _=>rfl,trivial⟩⟩ (aLc ⟨some _,rfl,aY rfl rfl⟩ aLn))))))))))))
  ·refine aE dCo rfl fun K hK=>?_;conv=>whnf
   refine And.intro ⟨by omega,by simp only [List.length_append,List.length_cons,List.length_nil] at *;omega⟩ ?_;conv=>whnf
   refine nlA rfl ?_;conv=>whnf
   refine bKo rfl ?_;conv=>whnf
   refine gKo (iW (j:=4) rfl hj) ?_;conv=>whnf
   refine cZ (enc:=eI) (d:=default) (l:=[_]) (f:=fun _=>some ()) (Φ:=fun _=>True) dCo (iX _) rfl rfl rfl ⟨nle rfl,nle rfl,rfl⟩ rfl ⟨⟨rfl,rfl,rfl⟩,trivial⟩ (fun _=>?_);conv=>whnf
   refine dI (enc:=eI) (d:=default) dCo h (.inl rfl) rfl rfl rfl ⟨rfl,nle rfl,nle rfl,nle rfl,rfl⟩ (fun _=>rfl) (.inr (.inr ⟨_,_,rfl,rfl,rfl⟩)) (fun h=>?_);conv=>whnf
   refine And.intro ⟨by omega,by simp only [List.length_append,List.length_cons,List.length_nil] at *;omega⟩ ?_;conv=>whnf
   refine bKo rfl ?_;conv=>whnf
   refine pP (j:=4) (nle rfl) hj rfl rfl rfl rfl ?_;conv=>whnf
   refine hK _ _ _ ?_
   refine cR dCo rfl fun K hK=>?_;conv=>whnf
   refine fF (enc:=eI) dCo rfl rfl ?_;conv=>whnf
   refine hK _ _ _ ?_
   refine iBn ?_
   refine tHn ?_
   refine cR dCo rfl fun K hK=>?_;conv=>whnf
   refine hK _ _ _ ?_
   refine tHn ?_
   replace h:=bU h
   refine ⟨_,h,?_⟩
   refine fW (aBv 25 0 4) ?_;conv=>whnf
   exact And.intro rfl (And.intro (aLc wkI (aLc (WkR.soN (fun _=>rfl) (by simp)) (aLc (WkR.ptr (fun _=>rfl)) (aLc (WkR.mp (fun _=>rfl)) (aLc (wkr (lsL fun _=>(lsI _ _))) (aLc wkI aLn)))))) (aLc ⟨some _,rfl,iN (enc:=eI) rfl (fun _=>(lsI _ _))⟩ (aLc ⟨some _,rfl,bRc rfl cKn⟩ (aLc ⟨some _,rfl,bRc rfl cKn⟩ (aLc ⟨some _,rfl,bRc rfl cKn⟩ (aLc ⟨some _,rfl,bRc rfl cKn⟩ (aLc ⟨some _,rfl,bRc rfl cKn⟩ (aLc ⟨some _,rfl,bRc rfl cKn⟩ (aLc ⟨some _,rfl,bRc rfl cKn⟩ (aLc ⟨some _,rfl,bRc rfl cKn⟩ (aLc ⟨some _,rfl,kG rfl ⟨fun _=>rfl,fun _=>rfl,fun _=>rfl,fun _=>rfl,fun _=>rfl,fun _=>rfl,fun _=>rfl,fun _=>rfl,trivial⟩⟩ (aLc ⟨some _,rfl,aY rfl rfl⟩ aLn))))))))))))
  ·refine aE dCo rfl fun K hK=>?_;conv=>whnf
   refine And.intro ⟨by omega,by simp only [List.length_append,List.length_cons,List.length_nil] at *;omega⟩ ?_;conv=>whnf
   refine nlA rfl ?_;conv=>whnf
   refine bKo rfl ?_;conv=>whnf
   refine gKo (iW (j:=5) rfl hj) ?_;conv=>whnf
   refine cZ (enc:=eI) (d:=default) (l:=[_]) (f:=fun _=>some ()) (Φ:=fun _=>True) dCo (iX _) rfl rfl rfl ⟨nle rfl,nle rfl,rfl⟩ rfl ⟨⟨rfl,rfl,rfl⟩,trivial⟩ (fun _=>?_);conv=>whnf
   refine dI (enc:=eI) (d:=default) dCo h (.inl rfl) rfl rfl rfl ⟨rfl,nle rfl,nle rfl,nle rfl,rfl⟩ (fun _=>rfl) (.inr (.inr ⟨_,_,rfl,rfl,rfl⟩)) (fun h=>?_);conv=>whnf
   refine And.intro ⟨by omega,by simp only [List.length_append,List.length_cons,List.length_nil] at *;omega⟩ ?_;conv=>whnf
   refine bKo rfl ?_;conv=>whnf
   refine pP (j:=5) (nle rfl) hj rfl rfl rfl rfl ?_;conv=>whnf
   refine hK _ _ _ ?_
   refine cR dCo rfl fun K hK=>?_;conv=>whnf
   refine fF (enc:=eI) dCo rfl rfl ?_;conv=>whnf
   refine hK _ _ _ ?_
   refine iBn ?_
   refine tHn ?_
   refine cR dCo rfl fun K hK=>?_;conv=>whnf
   refine hK _ _ _ ?_
   refine tHn ?_
   replace h:=bU h
   refine ⟨_,h,?_⟩
   refine fW (aBv 25 0 5) ?_;conv=>whnf
   exact And.intro rfl (And.intro (aLc wkI (aLc (WkR.soN (fun _=>rfl) (by simp)) (aLc (WkR.ptr (fun _=>rfl)) (aLc (WkR.mp (fun _=>rfl)) (aLc (wkr (lsL fun _=>(lsI _ _))) (aLc wkI aLn)))))) (aLc ⟨some _,rfl,iN (enc:=eI) rfl (fun _=>(lsI _ _))⟩ (aLc ⟨some _,rfl,bRc rfl cKn⟩ (aLc ⟨some _,rfl,bRc rfl cKn⟩ (aLc ⟨some _,rfl,bRc rfl cKn⟩ (aLc ⟨some _,rfl,bRc rfl cKn⟩ (aLc ⟨some _,rfl,bRc rfl cKn⟩ (aLc ⟨some _,rfl,bRc rfl cKn⟩ (aLc ⟨some _,rfl,bRc rfl cKn⟩ (aLc ⟨some _,rfl,bRc rfl cKn⟩ (aLc ⟨some _,rfl,kG rfl ⟨fun _=>rfl,fun _=>rfl,fun _=>rfl,fun _=>rfl,fun _=>rfl,fun _=>rfl,fun _=>rfl,fun _=>rfl,trivial⟩⟩ (aLc ⟨some _,rfl,aY rfl rfl⟩ aLn))))))))))))
  ·refine aE dCo rfl fun K hK=>?_;conv=>whnf
   refine And.intro ⟨by omega,by simp only [List.length_append,List.length_cons,List.length_nil] at *;omega⟩ ?_;conv=>whnf
   refine nlA rfl ?_;conv=>whnf
   refine bKo rfl ?_;conv=>whnf
   refine gKo (iW (j:=6) rfl hj) ?_;conv=>whnf
   refine cZ (enc:=eI) (d:=default) (l:=[_]) (f:=fun _=>some ()) (Φ:=fun _=>True) dCo (iX _) rfl rfl rfl ⟨nle rfl,nle rfl,rfl⟩ rfl ⟨⟨rfl,rfl,rfl⟩,trivial⟩ (fun _=>?_);conv=>whnf
   refine dI (enc:=eI) (d:=default) dCo h (.inl rfl) rfl rfl rfl ⟨rfl,nle rfl,nle rfl,nle rfl,rfl⟩ (fun _=>rfl) (.inr (.inr ⟨_,_,rfl,rfl,rfl⟩)) (fun h=>?_);conv=>whnf
   refine And.intro ⟨by omega,by simp only [List.length_append,List.length_cons,List.length_nil] at *;omega⟩ ?_;conv=>whnf
   refine bKo rfl ?_;conv=>whnf
   refine pP (j:=6) (nle rfl) hj rfl rfl rfl rfl ?_;conv=>whnf
   refine hK _ _ _ ?_
   refine cR dCo rfl fun K hK=>?_;conv=>whnf
   refine fF (enc:=eI) dCo rfl rfl ?_;conv=>whnf
   refine hK _ _ _ ?_
   refine iBn ?_
   refine tHn ?_
   refine cR dCo rfl fun K hK=>?_;conv=>whnf
   refine hK _ _ _ ?_
   refine tHn ?_
   replace h:=bU h
   refine ⟨_,h,?_⟩
   refine fW (aBv 25 0 6) ?_;conv=>whnf
   exact And.intro rfl (And.intro (aLc wkI (aLc (WkR.soN (fun _=>rfl) (by simp)) (aLc (WkR.ptr (fun _=>rfl)) (aLc (WkR.mp (fun _=>rfl)) (aLc (wkr (lsL fun _=>(lsI _ _))) (aLc wkI aLn)))))) (aLc ⟨some _,rfl,iN (enc:=eI) rfl (fun _=>(lsI _ _))⟩ (aLc ⟨some _,rfl,bRc rfl cKn⟩ (aLc ⟨some _,rfl,bRc rfl cKn⟩ (aLc ⟨some _,rfl,bRc rfl cKn⟩ (aLc ⟨some _,rfl,bRc rfl cKn⟩ (aLc ⟨some _,rfl,bRc rfl cKn⟩ (aLc ⟨some _,rfl,bRc rfl cKn⟩ (aLc ⟨some _,rfl,bRc rfl cKn⟩ (aLc ⟨some _,rfl,bRc rfl cKn⟩ (aLc ⟨some _,rfl,kG rfl ⟨fun _=>rfl,fun _=>rfl,fun _=>rfl,fun _=>rfl,fun _=>rfl,fun _=>rfl,fun _=>rfl,fun _=>rfl,trivial⟩⟩ (aLc ⟨some _,rfl,aY rfl rfl⟩ aLn))))))))))))
  ·refine aE dCo rfl fun K hK=>?_;conv=>whnf
   refine And.intro ⟨by omega,by simp only [List.length_append,List.length_cons,List.length_nil] at *;omega⟩ ?_;conv=>whnf
   refine nlA rfl ?_;conv=>whnf
   refine bKo rfl ?_;conv=>whnf
   refine gKo (iW (j:=7) rfl hj) ?_;conv=>whnf
   refine cZ (enc:=eI) (d:=default) (l:=[_]) (f:=fun _=>some ()) (Φ:=fun _=>True) dCo (iX _) rfl rfl rfl ⟨nle rfl,nle rfl,rfl⟩ rfl ⟨⟨rfl,rfl,rfl⟩,trivial⟩ (fun _=>?_);conv=>whnf
   refine dI (enc:=eI) (d:=default) dCo h (.inl rfl) rfl rfl rfl ⟨rfl,nle rfl,nle rfl,nle rfl,rfl⟩ (fun _=>rfl) (.inr (.inr ⟨_,_,rfl,rfl,rfl⟩)) (fun h=>?_);conv=>whnf
   refine And.intro ⟨by omega,by simp only [List.length_append,List.length_cons,List.length_nil] at *;omega⟩ ?_;conv=>whnf
   refine bKo rfl ?_;conv=>whnf
   refine pP (j:=7) (nle rfl) hj rfl rfl rfl rfl ?_;conv=>whnf
   refine hK _ _ _ ?_
   refine cR dCo rfl fun K hK=>?_;conv=>whnf
   refine fF (enc:=eI) dCo rfl rfl ?_;conv=>whnf
   refine hK _ _ _ ?_
   refine iBn ?_
   refine tHn ?_
   refine cR dCo rfl fun K hK=>?_;conv=>whnf
   refine hK _ _ _ ?_
   refine tHn ?_
   replace h:=bU h
   refine ⟨_,h,?_⟩
   refine fW (aBv 25 0 7) ?_;conv=>whnf
   exact And.intro rfl (And.intro (aLc wkI (aLc (WkR.soN (fun _=>rfl) (by simp)) (aLc (WkR.ptr (fun _=>rfl)) (aLc (WkR.mp (fun _=>rfl)) (aLc (wkr (lsL fun _=>(lsI _ _))) (aLc wkI aLn)))))) (aLc ⟨some _,rfl,iN (enc:=eI) rfl (fun _=>(lsI _ _))⟩ (aLc ⟨some _,rfl,bRc rfl cKn⟩ (aLc ⟨some _,rfl,bRc rfl cKn⟩ (aLc ⟨some _,rfl,bRc rfl cKn⟩ (aLc ⟨some _,rfl,bRc rfl cKn⟩ (aLc ⟨some _,rfl,bRc rfl cKn⟩ (aLc ⟨some _,rfl,bRc rfl cKn⟩ (aLc ⟨some _,rfl,bRc rfl cKn⟩ (aLc ⟨some _,rfl,bRc rfl cKn⟩ (aLc ⟨some _,rfl,kG rfl ⟨fun _=>rfl,fun _=>rfl,fun _=>rfl,fun _=>rfl,fun _=>rfl,fun _=>rfl,fun _=>rfl,fun _=>rfl,trivial⟩⟩ (aLc ⟨some _,rfl,aY rfl rfl⟩ aLn))))))))))))
 refine hK2 ?_
 refine bO ?_
 refine bD ?_
 refine bD ?_
 refine bA ?_
 replace h:=dT h
 replace h:=dU h
 obtain ⟨h8,h⟩:=yE h
 refine tHn ?_
 refine aE dCo rfl fun K hK=>?_;conv=>whnf
 refine hK _ _ _ ?_
 refine aFh 10 rfl rfl (by exact h8) ?_
 refine nM 2 (enc:=eL 1 eI default) (e:=26) default (lT dCo rfl rfl rfl (fun _=>⟨rfl,rfl⟩)) ?_;(conv=>whnf);refine ⟨_,_,rfl,rfl,rfl,?_⟩
 refine aD ?_
 replace h:=aB h
 refine aA dCo fun K hK=>?_;conv=>whnf
 refine hK _ ?_
 cases h
 exact Wk.refl _
theorem tD {T:Tbl} (hT:T 31=aS iS) {args:List AV} {hp:aX} {id:Nat} {k:AV→Prop} {a0:aP} {Φ:(List (List Int))×Int→Prop} (h:W (kM a0) Φ) (hw:WkL args [bN a0]) (hk:∀ y,Φ y→k (.tup [(eL 1 (eL 1 eI default) default) y.1,eI y.2])):cU T 31 args hp id k:=by
 obtain ⟨y,e,hy⟩:=fB h
 exact aZ hT ⟨a0,rfl,kD e rfl⟩ (by exact fH (lsC (lsL fun _=>(lsL fun _=>(lsI _ _))) (lsC (lsI _ _) lsN))) hw (hk y hy)
def xQ (a1:Int) (l0:List Int) (s1:Int):Option (Ct Int Int):=cn (decide (s1<(l0.length:Int))) (gd ((0:Int)≤s1∧s1<(l0.length:Int)) (cn (a1 ==
  (l0.getD (s1).toNat default)) (some (.rt s1)) (some (.nx (wr (s1+1)))))) (some (.bk s1))
def aAu (a1:Int) (l0:List Int):Option Int:=bd (lp (xQ a1 l0) FU 0) fun c2=>smK c2 (fun s3=>some (-1)) (fun r4=>some r4)
def uJ:List AV→List BD→AV→List BD→Prop:=fun args bs r bs'=>∃ a1 l0 y,args=[.so 0 0 l0.length 1,eI a1]∧bs=[.ab (.cells (flE (ceE eI) l0))]∧aAu a1 l0=some y∧r=eI y∧bs'=[.ab (.cells (flE (ceE eI) l0))]
theorem aAG {T:Tbl} (hT:TOk Tryd.prog T) (hpf:cP T PF):FOk Tryd.prog 84 (pM uJ):=by
 refine rI hT hpf Tryd.func84 rfl Tryd.ntmps84 Tryd.results84 (by decide) ?_
 rintro args bs r bs' ⟨a1,l0,y,rfl,rfl,hF,rfl,rfl⟩
 refine ⟨nle rfl,Nat.le_refl _,(lsI _ _),⟨(jD (fun _=>(lsC (lsI _ _) lsN)) _),trivial⟩,⟨(jD (fun _=>(lsC (lsI _ _) lsN)) _),trivial⟩,?_⟩
 have h:W (aAu a1 l0) (fun z=>z=y):=kD hF rfl
 rw [aAu.eq_1] at h
 refine aE dCo rfl fun K hK=>?_;conv=>whnf
 refine hK _ _ _ ?_
 refine aL ?_
 refine aE dCo rfl fun K hK=>?_;conv=>whnf
 refine hK _ _ _ ?_
 refine aN ?_
 replace h:=bC h
 refine gQ (body:=xQ _ _) rfl h [0,1,7] [] [0] [] (fun kl kh kr ids b s=>⟨ofL ([(8,eI s)]++kl),ofH (([]++kh)++([]++kr)),b+64⟩) ?_;(conv=>whnf);refine And.intro ?_ (fun s m h=>dP ?_)
 ·refine bM ?_;conv=>whnf
  exact And.intro rfl (And.intro (aLc wkI (aLc (WkR.so (fun _=>rfl)) (aLc wkI (aLc wkI aLn)))) (aLc ⟨some _,rfl,fZ rfl (fun _=>(lsC (lsI _ _) lsN))⟩ aLn))
 replace h:=bC h;rw [xQ.eq_1] at h
 refine aE dCo rfl fun K hK=>?_;conv=>whnf
 refine hK _ _ _ ?_
 refine aL ?_
 refine aQ fun K1 K2 hK1 hK2=>?_;conv=>whnf
 refine cLk h (fun _ h=>?_) (fun _ h=>?_)
 ·refine hK1 ?_
  refine aK ?_
  refine tHn ?_
  refine aL ?_
  refine aN ?_
  refine aE dCo rfl fun K hK=>?_;conv=>whnf
  refine hK _ _ _ ?_
  refine aE dCo rfl fun K hK=>?_;conv=>whnf
  refine pX h (rfl) fun hx14 h=>?_;conv=>whnf
  refine nlA rfl ?_;conv=>whnf
  refine bKo rfl ?_;conv=>whnf
  refine qH (enc:=eI) (d:=default) (q:=0) (fun _=>rfl) (rfl) hx14 (nle rfl) rfl ?_;conv=>whnf
  refine hK _ _ _ ?_
  refine aQ fun K1 K2 hK1 hK2=>?_;conv=>whnf
  refine cLk h (fun _ h=>?_) (fun _ h=>?_)
  ·refine hK1 ?_
   refine aE dCo rfl fun K hK=>?_;conv=>whnf
   refine hK _ _ _ ?_
   refine aD ?_
   refine aC ?_
   refine aG ?_
   refine aG ?_
   refine aC ?_
   refine aG ?_
   replace h:=kJ h
   replace h:=kH h
   replace h:=aB h
   refine gY dCo fun K hK=>?_;conv=>whnf
   refine hK _ ?_
   cases h
   exact ⟨Wk.refl _,⟨_,rfl,bkW _⟩,trivial⟩
  refine hK2 ?_
  refine aK ?_
  refine iBn ?_
  refine tHn ?_
  refine cR dCo rfl fun K hK=>?_;conv=>whnf
  refine hK _ _ _ ?_
  refine tHn ?_
  replace h:=bU h
  refine ⟨_,h,?_⟩
  refine bM ?_;conv=>whnf
  exact And.intro rfl (And.intro (aLc wkI (aLc (WkR.so (fun _=>rfl)) (aLc wkI (aLc wkI aLn)))) (aLc ⟨some _,rfl,fZ rfl (fun _=>(lsC (lsI _ _) lsN))⟩ aLn))
 refine hK2 ?_
 refine bO ?_
 refine bD ?_
 refine bD ?_
 refine bA ?_
 replace h:=dT h
 replace h:=dU h
 refine tHn ?_
 refine aE dCo rfl fun K hK=>?_;conv=>whnf
 refine hK _ _ _ ?_
 refine aD ?_
 replace h:=aB h
 refine gY dCo fun K hK=>?_;conv=>whnf
 refine hK _ ?_
 cases h
 exact ⟨Wk.refl _,⟨_,rfl,bkW _⟩,trivial⟩
def pG (a1:Int) (l0:List Int):Option Bool:=bd (aAu a1 l0) fun y1=>some (decide (y1≥0))
def kV:List AV→List BD→AV→List BD→Prop:=fun args bs r bs'=>∃ a1 l0 y,args=[.so 0 0 l0.length 1,eI a1]∧bs=[.ab (.cells (flE (ceE eI) l0))]∧pG a1 l0=some y∧r=eB y∧bs'=[.ab (.cells (flE (ceE eI) l0))]
theorem aBL {T:Tbl} (hT:TOk Tryd.prog T) (hpf:cP T PF) (h84:T 84=pM uJ):FOk Tryd.prog 67 (pM kV):=by
 refine rI hT hpf Tryd.func67 rfl Tryd.ntmps67 Tryd.results67 (by decide) ?_
 rintro args bs r bs' ⟨a1,l0,y,rfl,rfl,hF,rfl,rfl⟩
 refine ⟨nle rfl,Nat.le_refl _,(lsB _),⟨(jD (fun _=>(lsC (lsI _ _) lsN)) _),trivial⟩,⟨(jD (fun _=>(lsC (lsI _ _) lsN)) _),trivial⟩,?_⟩
 have h:W (pG a1 l0) (fun z=>z=y):=kD hF rfl
 rw [pG.eq_1] at h
 refine aE dCo rfl fun K hK=>?_;conv=>whnf
 refine hK _ _ _ ?_
 refine aE dCo rfl fun K hK=>?_;conv=>whnf
 refine dD (bs:=[.ab _]) (args0:=[.so 0 0 _ 1,_]) h84 [_] h (.cons (aBd rfl) (.cons (rH (Wk.refl _) (lsI _ _)) .nil)) ⟨⟨_,rfl,bkW _⟩,trivial⟩ rfl (nle rfl) (fun y e=>(⟨_,_,_,rfl,rfl,e,rfl,rfl⟩:uJ _ _ _ _)) (fun _ h=>?_);conv=>whnf
 refine hK _ _ _ ?_
 refine aD ?_
 replace h:=aB h
 refine gY dCo fun K hK=>?_;conv=>whnf
 refine hK _ ?_
 cases h
 exact ⟨Wk.refl _,⟨_,rfl,bkW _⟩,trivial⟩
def vM (f9002:Int→(Ar 8)→aP→List Int→Option (Option (List Int))) (c1:Int) (c3:Ar 8) (c4:aP) (l0:List Int) (s1:Int):Option (Ct Int (Option (List Int))):=cn (decide (s1<c4.N)) (gd (0≤(l0.getD (wr ((l0.length:Int)-1)).toNat default)∧(l0.getD (wr ((l0.length:Int)-1)).toNat default)<(8:Int)) (gd (0≤s1) (cn ((tI .i64 (vX .i64 (c3.at1 (l0.getD (wr ((l0.length:Int)-1)).toNat default)) s1) 1)==1) (bd (pG s1 l0) fun y2=>cn (!y2) (ap l0 [s1] fun l3=>bd (f9002 c1 c3 c4 l3) fun y4=>cn y4.isSome (some (.rt y4)) (some (.nx (wr (s1+1))))) (some (.nx (wr (s1+1))))) (some (.nx (wr (s1+1))))))) (some (.bk s1))
def yP (f9002:Int→(Ar 8)→aP→List Int→Option (Option (List Int))) (c1:Int) (c3:Ar 8) (c4:aP) (l0:List Int):Option (Option (List Int)):=gd ((0:Int)≤wr ((l0.length:Int)-1)∧wr ((l0.length:Int)-1)<(l0.length:Int)) (cn ((l0.length:Int)==c1) (gd (0≤(l0.getD (wr ((l0.length:Int)-1)).toNat default)∧(l0.getD (wr ((l0.length:Int)-1)).toNat default)<(8:Int)) (gd ((0:Int)≤0∧0<(l0.length:Int)) (gd (0≤l0.getD (0:Int).toNat default) (cn ((tI .i64 (vX .i64 (c3.at1 (l0.getD (wr ((l0.length:Int)-1)).toNat default)) (l0.getD (0:Int).toNat default)) 1)==1) (some (some l0)) (some none))))) (bd (lp (vM f9002 c1 c3 c4 l0) FU 0) fun c5=>smK c5 (fun s6=>some none) (fun r7=>some r7)))
def tP:Nat→Int→(Ar 8)→aP→List Int→Option (Option (List Int))
 | 0=>fun _ _ _ _=>none
 | k+1=>yP (tP k)
def fY (c1:Int) (c3:Ar 8) (c4:aP) (l0:List Int):Option (List Int)→List BD
 | some f=>[.ab (.cells [eL 1 eI default f]),.fn 66 [.v (.ep [eI c1] 0),.p 0,.v (.ep (cA c3) 0),.v (.ep [eI c4.N,(eL 2 dK default) c4.Pairs] 0),.p 1]]
 | none=>[.ab (.cells [.top]),.fn 66 [.v (.ep [eI c1] 0),.p 0,.v (.ep (cA c3) 0),.v (.ep [eI c4.N,(eL 2 dK default) c4.Pairs] 0),.p 1],.ab (.cells (flE (ceE eI) l0))]
def gX (k:Nat):List AV→List BD→AV→List BD→Prop:=fun args bs r bs'=>∃ c1 c3 c4 l0 y,args=[.so 2 0 l0.length 1,.ep [eI c1] 0,.ptr 0 0,.ep (cA c3) 0,.ep [eI c4.N,(eL 2 dK default) c4.Pairs] 0,.ptr 1 0]∧bs=[.ab (.cells [.top]),.fn 66 [.v (.ep [eI c1] 0),.p 0,.v (.ep (cA c3) 0),.v (.ep [eI c4.N,(eL 2 dK default) c4.Pairs] 0),.p 1],.ab (.cells (flE (ceE eI) l0))]∧tP k c1 c3 c4 l0=some y∧r=eB y.isSome∧bs'=fY c1 c3 c4 l0 y
theorem aEv (k:Nat) {T:Tbl} (hT:TOk Tryd.prog T) (hpf:cP T PF) (h67:T 67=pM kV) (h66:T 66=pM (gX k)):FOk Tryd.prog 66 (pM (gX (k+1))):=by
 refine rI hT hpf Tryd.func66 rfl Tryd.ntmps66 Tryd.results66 (by decide) ?_
 rintro args bs r bs' ⟨c1,c3,c4,l0,y,rfl,rfl,hF,rfl,rfl⟩
 refine ⟨nle rfl,?_,(lsB _),⟨aHh rL,⟨(lsE (lsC (lsI _ _) lsN)),nle rfl,(lsE (aT _)),(lsE (lsC (lsI _ _) (lsC (lsL fun _=>(aO _)) lsN))),nle rfl,trivial⟩,(jD (fun _=>(lsC (lsI _ _) lsN)) _),trivial⟩,?_,?_⟩
 ·cases y<;>(unfold fY;exact nle rfl)
 ·cases y with
  | none=>unfold fY;exact ⟨aHh rL,⟨(lsE (lsC (lsI _ _) lsN)),nle rfl,(lsE (aT _)),(lsE (lsC (lsI _ _) (lsC (lsL fun _=>(aO _)) lsN))),nle rfl,trivial⟩,(jD (fun _=>(lsC (lsI _ _) lsN)) _),trivial⟩
  | some f=>unfold fY;exact ⟨aHh (lsL fun _=>(lsI _ _)),⟨(lsE (lsC (lsI _ _) lsN)),nle rfl,(lsE (aT _)),(lsE (lsC (lsI _ _) (lsC (lsL fun _=>(aO _)) lsN))),nle rfl,trivial⟩,trivial⟩
 have h:W (yP (tP k) c1 c3 c4 l0) (fun z=>z=y):=kD hF rfl
 rw [yP.eq_1] at h
 refine aE dCo rfl fun K hK=>?_;conv=>whnf
 refine hK _ _ _ ?_
 refine aE dCo rfl fun K hK=>?_;conv=>whnf
 refine pX h (rfl) fun hx1 h=>?_;conv=>whnf
 refine nlA rfl ?_;conv=>whnf
 refine bKo rfl ?_;conv=>whnf
 refine qH (enc:=eI) (d:=default) (q:=0) (fun _=>rfl) (rfl) hx1 (nle rfl) rfl ?_;conv=>whnf
 refine hK _ _ _ ?_
 refine aL ?_
 refine aE dCo rfl fun K hK=>?_;conv=>whnf
 refine gKo rfl ?_;conv=>whnf
 refine hK _ _ _ ?_
 refine aQ fun K1 K2 hK1 hK2=>?_;conv=>whnf
 refine cLk h (fun _ h=>?_) (fun _ h=>?_)
 ·refine hK1 ?_
  refine aE dCo rfl fun K hK=>?_;conv=>whnf
  refine bKo rfl ?_;conv=>whnf
  refine And.intro rfl (And.intro (nle rfl) (And.intro rfl ?_));conv=>whnf
  refine hK _ _ _ ?_
  refine tC dCo eZ rfl (by kernel_rfl) fun K hK=>?_;conv=>whnf
  refine cO h fun hx2 h=>?_;conv=>whnf
  refine dS rfl hx2 ?_;conv=>whnf
  refine pX h (rfl) fun hx3 h=>?_;conv=>whnf
  refine nlA rfl ?_;conv=>whnf
  refine bKo rfl ?_;conv=>whnf
  refine qH (enc:=eI) (d:=default) (q:=0) (fun _=>rfl) (rfl) hx3 (nle rfl) rfl ?_;conv=>whnf
  refine cO h fun _ h=>?_;conv=>whnf
  refine hK _ _ _ ?_
  refine aHo h (fun hb h=>?_) (fun hb h=>?_)
  ·refine aCA 2 0 (enc:=eI) (e:=3) default (lT dCo rfl rfl rfl (fun _=>⟨rfl,rfl⟩)) ?_;(conv=>whnf);refine ⟨_,_,_,(Nat.ne_of_beq_eq_false rfl),rfl,rfl,rfl,rfl,?_⟩;conv=>whnf
   refine aD ?_
   refine aG ?_
   replace h:=aB h
   refine gY dCo fun K hK=>?_;conv=>whnf
   refine hK _ ?_
   cases h
   refine And.intro (aLA hb) ?_;unfold fY;exact ⟨⟨_,rfl,bkW _⟩,rfl,trivial⟩
  refine aD ?_
  refine aG ?_
  replace h:=aB h
  refine gY dCo fun K hK=>?_;conv=>whnf
  refine hK _ ?_
  cases h
  refine And.intro (aLA hb) ?_;unfold fY;exact ⟨⟨_,rfl,aEo (.cons aJk .nil)⟩,rfl,⟨_,rfl,bkW _⟩,trivial⟩
 refine hK2 ?_
 refine aK ?_
 refine tHn ?_
 refine aL ?_
 refine aE dCo rfl fun K hK=>?_;conv=>whnf
 refine gKo rfl ?_;conv=>whnf
 refine hK _ _ _ ?_
 refine aHG 0 rfl fun m hm=>?_
 refine aN ?_
 replace h:=bC h
 refine aB9 (body:=vM _ _ _ _ _) rfl h [0,3,5,8,31] (fun σ=>aBT σ [0,1]++oI σ []++qV σ []) (fun σ=>qV σ []++oI σ []++aBT σ [2]) [] (fun kl kh kr ids b s=>⟨ofL ([(32,eI s)]++kl),ofH (([]++kh)++([]++kr)),b+64⟩) ?_;(conv=>whnf);refine And.intro ?_ (fun s m h=>dP ?_)
 ·refine bM ?_;conv=>whnf
  exact And.intro rfl (And.intro (aLc wkI (aLc (WkR.sl (fun _=>rfl)) (aLc (wkr (lsE (aT _))) (aLc (WkR.ptr (fun _=>rfl)) (aLc wkI (aLc wkI aLn)))))) (aLc ⟨some _,rfl,bRc rfl (cKc (WkR.top _ _) cKn)⟩ (aLc ⟨some _,rfl,bRc rfl (cKc (eS bE (aM (wkr (lsE (lsC (lsI _ _) lsN))) (aM (WkR.ptr (fun _=>rfl)) (aM (wkr (lsE (aT _))) (aM (wkr (lsE (lsC (lsI _ _) (lsC (lsL fun _=>(aO _)) lsN)))) (aM (WkR.ptr (fun _=>rfl)) bE)))))) cKn)⟩ (aLc ⟨some _,rfl,fZ rfl (fun _=>(lsC (lsI _ _) lsN))⟩ aLn))))
 replace h:=bC h;rw [vM.eq_1] at h
 refine aE dCo rfl fun K hK=>?_;conv=>whnf
 refine hK _ _ _ ?_
 refine aL ?_
 refine aQ fun K1 K2 hK1 hK2=>?_;conv=>whnf
 refine cLk h (fun _ h=>?_) (fun _ h=>?_)
 ·refine hK1 ?_
  refine aK ?_
  refine tHn ?_
  refine aL ?_
  refine aN ?_
  refine aE dCo rfl fun K hK=>?_;conv=>whnf
  refine hK _ _ _ ?_
  refine uK (.step 0 (.step 1 (.step 2 (.step 3 (.step 4 (.step 5 (.step 6 (.step 7 (.step 8 (.step 9 (.step 10 (.step 11 (.step 12 (.step 13 (.step 15 (.step 16 (.step 17 (.two 14 18 (.step 18 (.step 19 (.step 20 .nil))) (.step 14 (.step 19 (.step 20 .nil))))))))))))))))))))) dCo eZ rfl (by kernel_rfl) fun K hK=>?_;conv=>whnf
  refine cO h fun hx4 h=>?_;conv=>whnf
  refine dS rfl hx4 ?_;conv=>whnf
  refine cO h fun _ h=>?_;conv=>whnf
  refine cLk h (fun _ h=>?_) (fun _ h=>?_)<;>(conv=>whnf)
  ·refine dD (bs:=[.ab _]) (args0:=[.so 0 0 _ 1,_]) h67 [_] h (.cons (aDN rfl) (.cons (rH (Wk.refl _) (lsI _ _)) .nil)) ⟨⟨_,rfl,bkW _⟩,trivial⟩ rfl (nle rfl) (fun y e=>(⟨_,_,_,rfl,rfl,e,rfl,rfl⟩:kV _ _ _ _)) (fun _ h=>?_);conv=>whnf
   refine cLk h (fun _ h=>?_) (fun _ h=>?_)<;>(conv=>whnf)
   ·refine cZ (enc:=eI) (d:=default) (l:=[_]) (f:=fun _=>some ()) (Φ:=fun _=>True) dCo (iX _) rfl rfl rfl ⟨nle rfl,nle rfl,rfl⟩ rfl ⟨⟨rfl,rfl,rfl⟩,trivial⟩ (fun _=>?_);conv=>whnf
    rcases Nat.lt_or_eq_of_le hm with hmm | hmm
    ·refine And.intro ?_ ?_
     ·refine nlA rfl ?_;conv=>whnf
      refine bKo rfl ?_;conv=>whnf
      refine gKo rfl ?_;conv=>whnf
      refine aEH dCo h rfl rfl rfl ⟨rfl,nle rfl,nle rfl,rfl⟩ rfl rfl hmm (fun h=>?_);conv=>whnf
      refine dD (bs:=[.ab (.cells [.top]),.fn 66 [.v (.ep [eI _] 0),.p 0,.v (.ep (cA _) 0),.v (.ep [eI _,_] 0),.p 1],.ab _]) (args0:=[.so 2 0 _ 1,_,.ptr 0 0,_,_,.ptr 1 0]) h66 [_,_,_] h (.cons (aDN rfl) (.cons (bQ (lsE (lsC (lsI _ _) lsN))) (.cons (eD rfl) (.cons (bQ (lsE (aT _))) (.cons (bQ (lsE (lsC (lsI _ _) (lsC (lsL fun _=>(aO _)) lsN)))) (.cons (eD rfl) .nil)))))) ⟨⟨_,rfl,bkW _⟩,rfl,⟨_,rfl,bkW _⟩,trivial⟩ rfl (nle rfl) (fun y e=>(⟨_,_,_,_,_,rfl,rfl,e,rfl,rfl⟩:gX _ _ _ _ _)) (fun y h=>?_)
      rcases y with _ | f<;>(conv=>whnf)
      ·refine hK _ _ _ ?_
       refine aQ fun K1 K2 hK1 hK2=>?_;conv=>whnf
       refine hK2 ?_
       replace h:=vI h
       refine aK ?_
       refine iBn ?_
       refine tHn ?_
       refine cR dCo rfl fun K hK=>?_;conv=>whnf
       refine hK _ _ _ ?_
       refine tHn ?_
       replace h:=bU h
       refine ⟨_,h,?_⟩
       refine bM ?_;conv=>whnf
       exact And.intro rfl (And.intro (aLc wkI (aLc (WkR.sl (fun _=>rfl)) (aLc (wkr (lsE (aT _))) (aLc (WkR.ptr (fun _=>rfl)) (aLc wkI (aLc wkI aLn)))))) (aLc ⟨some _,rfl,bRc rfl (cKc (WkR.top _ _) cKn)⟩ (aLc ⟨some _,rfl,bRc rfl (cKc (eS bE (aM (wkr (lsE (lsC (lsI _ _) lsN))) (aM (WkR.ptr (fun _=>rfl)) (aM (wkr (lsE (aT _))) (aM (wkr (lsE (lsC (lsI _ _) (lsC (lsL fun _=>(aO _)) lsN)))) (aM (WkR.ptr (fun _=>rfl)) bE)))))) cKn)⟩ (aLc ⟨some _,rfl,aEX rfl⟩ aLn))))
      refine hK _ _ _ ?_
      refine aQ fun K1 K2 hK1 hK2=>?_;conv=>whnf
      refine hK1 ?_
      replace h:=fC h
      refine aE dCo rfl fun K hK=>?_;conv=>whnf
      refine hK _ _ _ ?_
      refine aD ?_
      refine aC ?_
      refine aG ?_
      refine aG ?_
      refine aC ?_
      refine aG ?_
      replace h:=kJ h
      replace h:=kH h
      replace h:=aB h
      refine gY dCo fun K hK=>?_;conv=>whnf
      refine hK _ ?_
      cases h
      refine And.intro (Wk.refl _) ?_;unfold fY;exact ⟨⟨_,rfl,bkW _⟩,rfl,trivial⟩
     ·refine aEH dCo h rfl rfl rfl ⟨rfl,nle rfl,nle rfl,rfl⟩ rfl rfl hmm (fun h=>?_);conv=>whnf
      refine nlA rfl ?_;conv=>whnf
      refine bKo rfl ?_;conv=>whnf
      refine gKo rfl ?_;conv=>whnf
      refine dD (bs:=[.ab (.cells [.top]),.fn 66 [.v (.ep [eI _] 0),.p 0,.v (.ep (cA _) 0),.v (.ep [eI _,_] 0),.p 1],.ab _]) (args0:=[.so 2 0 _ 1,_,.ptr 0 0,_,_,.ptr 1 0]) h66 [_,_,_] h (.cons (aDN rfl) (.cons (bQ (lsE (lsC (lsI _ _) lsN))) (.cons (eD rfl) (.cons (bQ (lsE (aT _))) (.cons (bQ (lsE (lsC (lsI _ _) (lsC (lsL fun _=>(aO _)) lsN)))) (.cons (eD rfl) .nil)))))) ⟨⟨_,rfl,bkW _⟩,rfl,⟨_,rfl,bkW _⟩,trivial⟩ rfl (nle rfl) (fun y e=>(⟨_,_,_,_,_,rfl,rfl,e,rfl,rfl⟩:gX _ _ _ _ _)) (fun y h=>?_)
      rcases y with _ | f<;>(conv=>whnf)
      ·refine hK _ _ _ ?_
       refine aQ fun K1 K2 hK1 hK2=>?_;conv=>whnf
       refine hK2 ?_
       replace h:=vI h
       refine aK ?_
       refine iBn ?_
       refine tHn ?_
       refine cR dCo rfl fun K hK=>?_;conv=>whnf
       refine hK _ _ _ ?_
       refine tHn ?_
       replace h:=bU h
       refine ⟨_,h,?_⟩
       refine bM ?_;conv=>whnf
       exact And.intro rfl (And.intro (aLc wkI (aLc (WkR.sl (fun _=>rfl)) (aLc (wkr (lsE (aT _))) (aLc (WkR.ptr (fun _=>rfl)) (aLc wkI (aLc wkI aLn)))))) (aLc ⟨some _,rfl,bRc rfl (cKc (WkR.top _ _) cKn)⟩ (aLc ⟨some _,rfl,bRc rfl (cKc (eS bE (aM (wkr (lsE (lsC (lsI _ _) lsN))) (aM (WkR.ptr (fun _=>rfl)) (aM (wkr (lsE (aT _))) (aM (wkr (lsE (lsC (lsI _ _) (lsC (lsL fun _=>(aO _)) lsN)))) (aM (WkR.ptr (fun _=>rfl)) bE)))))) cKn)⟩ (aLc ⟨some _,rfl,aEX rfl⟩ aLn))))
      refine hK _ _ _ ?_
      refine aQ fun K1 K2 hK1 hK2=>?_;conv=>whnf
      refine hK1 ?_
      replace h:=fC h
      refine aE dCo rfl fun K hK=>?_;conv=>whnf
      refine hK _ _ _ ?_
      refine aD ?_
      refine aC ?_
      refine aG ?_
      refine aG ?_
      refine aC ?_
      refine aG ?_
      replace h:=kJ h
      replace h:=kH h
      replace h:=aB h
      refine gY dCo fun K hK=>?_;conv=>whnf
      refine hK _ ?_
      cases h
      refine And.intro (Wk.refl _) ?_;unfold fY;exact ⟨⟨_,rfl,bkW _⟩,rfl,trivial⟩
    replace hmm:=hmm.symm
    refine And.intro ?_ ?_
    ·refine nlA rfl ?_;conv=>whnf
     refine bKo rfl ?_;conv=>whnf
     refine gKo rfl ?_;conv=>whnf
     refine aEk dCo h rfl rfl rfl ⟨rfl,nle rfl,nle rfl,rfl⟩ rfl rfl hmm (fun h=>?_);conv=>whnf
     refine dD (bs:=[.ab (.cells [.top]),.fn 66 [.v (.ep [eI _] 0),.p 0,.v (.ep (cA _) 0),.v (.ep [eI _,_] 0),.p 1],.ab _]) (args0:=[.so 2 0 _ 1,_,.ptr 0 0,_,_,.ptr 1 0]) h66 [_,_,_] h (.cons (aBd rfl) (.cons (bQ (lsE (lsC (lsI _ _) lsN))) (.cons (eD rfl) (.cons (bQ (lsE (aT _))) (.cons (bQ (lsE (lsC (lsI _ _) (lsC (lsL fun _=>(aO _)) lsN)))) (.cons (eD rfl) .nil)))))) ⟨⟨_,rfl,bkW _⟩,rfl,⟨_,rfl,bkW _⟩,trivial⟩ rfl (nle rfl) (fun y e=>(⟨_,_,_,_,_,rfl,rfl,e,rfl,rfl⟩:gX _ _ _ _ _)) (fun y h=>?_)
     rcases y with _ | f<;>(conv=>whnf)
     ·refine hK _ _ _ ?_
      refine aQ fun K1 K2 hK1 hK2=>?_;conv=>whnf
      refine hK2 ?_
      replace h:=vI h
      refine aK ?_
      refine iBn ?_
      refine tHn ?_
      refine cR dCo rfl fun K hK=>?_;conv=>whnf
      refine hK _ _ _ ?_
      refine tHn ?_
      replace h:=bU h
      refine ⟨_,h,?_⟩
      refine bM ?_;conv=>whnf
      exact And.intro rfl (And.intro (aLc wkI (aLc (WkR.sl (fun _=>rfl)) (aLc (wkr (lsE (aT _))) (aLc (WkR.ptr (fun _=>rfl)) (aLc wkI (aLc wkI aLn)))))) (aLc ⟨some _,rfl,bRc rfl (cKc (WkR.top _ _) cKn)⟩ (aLc ⟨some _,rfl,bRc rfl (cKc (eS bE (aM (wkr (lsE (lsC (lsI _ _) lsN))) (aM (WkR.ptr (fun _=>rfl)) (aM (wkr (lsE (aT _))) (aM (wkr (lsE (lsC (lsI _ _) (lsC (lsL fun _=>(aO _)) lsN)))) (aM (WkR.ptr (fun _=>rfl)) bE)))))) cKn)⟩ (aLc ⟨some _,rfl,fZ rfl (fun _=>(lsC (lsI _ _) lsN))⟩ aLn))))
     refine hK _ _ _ ?_
     refine aQ fun K1 K2 hK1 hK2=>?_;conv=>whnf
     refine hK1 ?_
     replace h:=fC h
     refine aE dCo rfl fun K hK=>?_;conv=>whnf
     refine hK _ _ _ ?_
     refine aD ?_
     refine aC ?_
     refine aG ?_
     refine aG ?_
     refine aC ?_
     refine aG ?_
     replace h:=kJ h
     replace h:=kH h
     replace h:=aB h
     refine gY dCo fun K hK=>?_;conv=>whnf
     refine hK _ ?_
     cases h
     refine And.intro (Wk.refl _) ?_;unfold fY;exact ⟨⟨_,rfl,bkW _⟩,rfl,trivial⟩
    ·refine aEk dCo h rfl rfl rfl ⟨rfl,nle rfl,nle rfl,rfl⟩ rfl rfl hmm (fun h=>?_);conv=>whnf
     refine nlA rfl ?_;conv=>whnf
     refine bKo rfl ?_;conv=>whnf
     refine gKo rfl ?_;conv=>whnf
     refine dD (bs:=[.ab (.cells [.top]),.fn 66 [.v (.ep [eI _] 0),.p 0,.v (.ep (cA _) 0),.v (.ep [eI _,_] 0),.p 1],.ab _]) (args0:=[.so 2 0 _ 1,_,.ptr 0 0,_,_,.ptr 1 0]) h66 [_,_,_] h (.cons (aBd rfl) (.cons (bQ (lsE (lsC (lsI _ _) lsN))) (.cons (eD rfl) (.cons (bQ (lsE (aT _))) (.cons (bQ (lsE (lsC (lsI _ _) (lsC (lsL fun _=>(aO _)) lsN)))) (.cons (eD rfl) .nil)))))) ⟨⟨_,rfl,bkW _⟩,rfl,⟨_,rfl,bkW _⟩,trivial⟩ rfl (nle rfl) (fun y e=>(⟨_,_,_,_,_,rfl,rfl,e,rfl,rfl⟩:gX _ _ _ _ _)) (fun y h=>?_)
     rcases y with _ | f<;>(conv=>whnf)
     ·refine hK _ _ _ ?_
      refine aQ fun K1 K2 hK1 hK2=>?_;conv=>whnf
      refine hK2 ?_
      replace h:=vI h
      refine aK ?_
      refine iBn ?_
      refine tHn ?_
      refine cR dCo rfl fun K hK=>?_;conv=>whnf
      refine hK _ _ _ ?_
      refine tHn ?_
      replace h:=bU h
      refine ⟨_,h,?_⟩
      refine bM ?_;conv=>whnf
      exact And.intro rfl (And.intro (aLc wkI (aLc (WkR.sl (fun _=>rfl)) (aLc (wkr (lsE (aT _))) (aLc (WkR.ptr (fun _=>rfl)) (aLc wkI (aLc wkI aLn)))))) (aLc ⟨some _,rfl,bRc rfl (cKc (WkR.top _ _) cKn)⟩ (aLc ⟨some _,rfl,bRc rfl (cKc (eS bE (aM (wkr (lsE (lsC (lsI _ _) lsN))) (aM (WkR.ptr (fun _=>rfl)) (aM (wkr (lsE (aT _))) (aM (wkr (lsE (lsC (lsI _ _) (lsC (lsL fun _=>(aO _)) lsN)))) (aM (WkR.ptr (fun _=>rfl)) bE)))))) cKn)⟩ (aLc ⟨some _,rfl,fZ rfl (fun _=>(lsC (lsI _ _) lsN))⟩ aLn))))
     refine hK _ _ _ ?_
     refine aQ fun K1 K2 hK1 hK2=>?_;conv=>whnf
     refine hK1 ?_
     replace h:=fC h
     refine aE dCo rfl fun K hK=>?_;conv=>whnf
     refine hK _ _ _ ?_
     refine aD ?_
     refine aC ?_
     refine aG ?_
     refine aG ?_
     refine aC ?_
     refine aG ?_
     replace h:=kJ h
     replace h:=kH h
     replace h:=aB h
     refine gY dCo fun K hK=>?_;conv=>whnf
     refine hK _ ?_
     cases h
     refine And.intro (Wk.refl _) ?_;unfold fY;exact ⟨⟨_,rfl,bkW _⟩,rfl,trivial⟩
   refine And.intro ?_ ?_
   ·refine hK _ _ _ ?_
    refine aQ fun K1 K2 hK1 hK2=>?_;conv=>whnf
    refine hK2 ?_
    refine aK ?_
    refine iBn ?_
    refine tHn ?_
    refine cR dCo rfl fun K hK=>?_;conv=>whnf
    refine hK _ _ _ ?_
    refine tHn ?_
    replace h:=bU h
    refine ⟨_,h,?_⟩
    refine bM ?_;conv=>whnf
    exact And.intro rfl (And.intro (aLc wkI (aLc (WkR.sl (fun _=>rfl)) (aLc (wkr (lsE (aT _))) (aLc (WkR.ptr (fun _=>rfl)) (aLc wkI (aLc wkI aLn)))))) (aLc ⟨some _,rfl,bRc rfl (cKc (WkR.top _ _) cKn)⟩ (aLc ⟨some _,rfl,bRc rfl (cKc (eS bE (aM (wkr (lsE (lsC (lsI _ _) lsN))) (aM (WkR.ptr (fun _=>rfl)) (aM (wkr (lsE (aT _))) (aM (wkr (lsE (lsC (lsI _ _) (lsC (lsL fun _=>(aO _)) lsN)))) (aM (WkR.ptr (fun _=>rfl)) bE)))))) cKn)⟩ (aLc ⟨some _,rfl,fZ rfl (fun _=>(lsC (lsI _ _) lsN))⟩ aLn))))
   ·refine hK _ _ _ ?_
    refine aQ fun K1 K2 hK1 hK2=>?_;conv=>whnf
    refine hK2 ?_
    refine aK ?_
    refine iBn ?_
    refine tHn ?_
    refine cR dCo rfl fun K hK=>?_;conv=>whnf
    refine hK _ _ _ ?_
    refine tHn ?_
    replace h:=bU h
    refine ⟨_,h,?_⟩
    refine bM ?_;conv=>whnf
    exact And.intro rfl (And.intro (aLc wkI (aLc (WkR.sl (fun _=>rfl)) (aLc (wkr (lsE (aT _))) (aLc (WkR.ptr (fun _=>rfl)) (aLc wkI (aLc wkI aLn)))))) (aLc ⟨some _,rfl,bRc rfl (cKc (WkR.top _ _) cKn)⟩ (aLc ⟨some _,rfl,bRc rfl (cKc (eS bE (aM (wkr (lsE (lsC (lsI _ _) lsN))) (aM (WkR.ptr (fun _=>rfl)) (aM (wkr (lsE (aT _))) (aM (wkr (lsE (lsC (lsI _ _) (lsC (lsL fun _=>(aO _)) lsN)))) (aM (WkR.ptr (fun _=>rfl)) bE)))))) cKn)⟩ (aLc ⟨some _,rfl,fZ rfl (fun _=>(lsC (lsI _ _) lsN))⟩ aLn))))
  refine And.intro ?_ ?_
  ·refine hK _ _ _ ?_
   refine aQ fun K1 K2 hK1 hK2=>?_;conv=>whnf
   refine hK2 ?_
   refine aK ?_
   refine iBn ?_
   refine tHn ?_
   refine cR dCo rfl fun K hK=>?_;conv=>whnf
   refine hK _ _ _ ?_
   refine tHn ?_
   replace h:=bU h
   refine ⟨_,h,?_⟩
   refine bM ?_;conv=>whnf
   exact And.intro rfl (And.intro (aLc wkI (aLc (WkR.sl (fun _=>rfl)) (aLc (wkr (lsE (aT _))) (aLc (WkR.ptr (fun _=>rfl)) (aLc wkI (aLc wkI aLn)))))) (aLc ⟨some _,rfl,bRc rfl (cKc (WkR.top _ _) cKn)⟩ (aLc ⟨some _,rfl,bRc rfl (cKc (eS bE (aM (wkr (lsE (lsC (lsI _ _) lsN))) (aM (WkR.ptr (fun _=>rfl)) (aM (wkr (lsE (aT _))) (aM (wkr (lsE (lsC (lsI _ _) (lsC (lsL fun _=>(aO _)) lsN)))) (aM (WkR.ptr (fun _=>rfl)) bE)))))) cKn)⟩ (aLc ⟨some _,rfl,fZ rfl (fun _=>(lsC (lsI _ _) lsN))⟩ aLn))))
  ·refine hK _ _ _ ?_
   refine aQ fun K1 K2 hK1 hK2=>?_;conv=>whnf
   refine hK2 ?_
   refine aK ?_
   refine iBn ?_
   refine tHn ?_
   refine cR dCo rfl fun K hK=>?_;conv=>whnf
   refine hK _ _ _ ?_
   refine tHn ?_
   replace h:=bU h
   refine ⟨_,h,?_⟩
   refine bM ?_;conv=>whnf
   exact And.intro rfl (And.intro (aLc wkI (aLc (WkR.sl (fun _=>rfl)) (aLc (wkr (lsE (aT _))) (aLc (WkR.ptr (fun _=>rfl)) (aLc wkI (aLc wkI aLn)))))) (aLc ⟨some _,rfl,bRc rfl (cKc (WkR.top _ _) cKn)⟩ (aLc ⟨some _,rfl,bRc rfl (cKc (eS bE (aM (wkr (lsE (lsC (lsI _ _) lsN))) (aM (WkR.ptr (fun _=>rfl)) (aM (wkr (lsE (aT _))) (aM (wkr (lsE (lsC (lsI _ _) (lsC (lsL fun _=>(aO _)) lsN)))) (aM (WkR.ptr (fun _=>rfl)) bE)))))) cKn)⟩ (aLc ⟨some _,rfl,fZ rfl (fun _=>(lsC (lsI _ _) lsN))⟩ aLn))))
 refine hK2 ?_
 refine bO ?_
 refine bD ?_
 refine bD ?_
 refine bA ?_
 replace h:=dT h
 replace h:=dU h
 refine tHn ?_
 refine aE dCo rfl fun K hK=>?_;conv=>whnf
 refine hK _ _ _ ?_
 refine aD ?_
 replace h:=aB h
 refine gY dCo fun K hK=>?_;conv=>whnf
 refine hK _ ?_
 cases h
 refine And.intro (Wk.refl _) ?_;unfold fY;exact ⟨⟨_,rfl,bkW _⟩,rfl,⟨_,rfl,bkW _⟩,trivial⟩
theorem aDG {T:Tbl} (hT:TOk Tryd.prog T) (hpf:cP T PF) (h67:T 67=pM kV):FOk Tryd.prog 66 (pM (gX 10)):=
 tN (S:=gX) hT hpf (by decide) Tryd.func66 rfl (by decide) (by rintro a b c d ⟨c1,c3,c4,l0,y,-,-,h,-⟩;cases h) (fun k T' hT' hpf' hne h=>aEv k hT' hpf' ((hne 67 (by decide)).trans h67) h) 10
def mF (a0:aP) (s6:Int×(Ar 8)) (s8:Int) (s9:Int):Option (Ct Int ((List Int)×Bool)):=cn (decide (s9<a0.N)) (lt ([s9]:List Int) fun l10=>
  bd (tP 10 s8 s6.2 a0 l10) fun y11=>cn y11.isSome (gd ((y11.getD []).length≤1048576) (lt (y11.getD []) fun m12=>
  some (.rt (m12,true)))) (some (.nx (wr (s9+1))))) (some (.bk s9))
def lZ (a0:aP) (s6:Int×(Ar 8)) (s8:Int):Option (Ct Int ((List Int)×Bool)):=cn (decide (s8≤a0.N)) (bd (lp (mF a0 s6 s8) FU 0) fun c13=>
  smK c13 (fun s14=>some (.nx (wr (s8+1)))) (fun r15=>some (.rt r15))) (some (.bk s8))
  def mE (a0:aP) (s2:Int×(Ar 8)):Option (Ct (Int×(Ar 8)) ((List Int)×Bool)):=cn (decide (s2.1<(a0.Pairs.length:Int))) (ix a0.Pairs default s2.1 fun e3=>
  gd (0≤e3.1∧e3.1<(8:Int)) (gd (0≤e3.2) (gd (0≤e3.1∧e3.1<(8:Int)) (let m4:=s2.2.st1 e3.1 (bor .i64 (s2.2.at1 e3.1) (aEP .i64 1 e3.2));
  some (.nx ((wr (s2.1+1)),m4)))))) (some (.bk (s2.1,s2.2)))
def iG (a0:aP):Option ((List Int)×Bool):=bd (dE a0) fun y1=>
  cn (!y1) (some ([],false)) (bd (lp (mE a0) FU (0,(Ar.zero 8))) fun c5=>smK c5 (fun s6=>bd (lp (lZ a0 s6) FU 2) fun c16=>smK c16 (fun s17=>
  some ([],false)) (fun r18=>some r18)) (fun r7=>some r7))
def iB:List AV→AV→Prop:=fun args r=>∃ a0,args=[bN a0]∧W (iG a0) fun y=>r=(.tup [(eL 1 eI default) y.1,eB y.2])
theorem wD {T:Tbl} (hT:TOk Tryd.prog T) (hpf:cP T PF) (h33:T 33=aS eG) (h60:T 60=wK 1 eI default) (h66:T 66=pM (gX 10)):FOk Tryd.prog 32 (aS iB):=by
 refine bJ hT hpf Tryd.func32 rfl Tryd.ntmps32 Tryd.results32 (by decide) ?_
 rintro args r ⟨a0,rfl,h⟩
 refine ⟨nle rfl,?_,?_⟩
 ·exact (lsC (bZ _) lsN)
 rw [iG.eq_1] at h
 refine aE dCo rfl fun K hK=>?_;conv=>whnf
 refine hK _ _ _ ?_
 refine aL ?_
 refine aE dCo rfl fun K hK=>?_;conv=>whnf
 refine nlA rfl ?_;conv=>whnf
 refine bKo rfl ?_;conv=>whnf
 refine nlA rfl ?_;conv=>whnf
 replace h:=bC h
 refine gD h33 h (WkL.refl _) (fun _ h=>?_);conv=>whnf
 refine hK _ _ _ ?_
 refine aQ fun K1 K2 hK1 hK2=>?_;conv=>whnf
 refine cLk h (fun _ h=>?_) (fun _ h=>?_)
 ·refine hK1 ?_
  refine aE dCo rfl fun K hK=>?_;conv=>whnf
  refine hK _ _ _ ?_
  refine aD ?_
  refine aG ?_
  replace h:=aB h
  refine aA dCo fun K hK=>?_;conv=>whnf
  refine hK _ ?_
  cases h
  exact pD (aF kF (aF (Wk.refl _) aJ))
 refine hK2 ?_
 refine aK ?_
 refine tHn ?_
 refine aE dCo rfl fun K hK=>?_;conv=>whnf
 refine hK _ _ _ ?_
 refine aL ?_
 refine aE dCo rfl fun K hK=>?_;conv=>whnf
 refine nlA rfl ?_;conv=>whnf
 refine bKo rfl ?_;conv=>whnf
 refine gKo rfl ?_;conv=>whnf
 refine hK _ _ _ ?_
 refine aN ?_
 replace h:=bC h
 refine gQ (body:=mE _) rfl h [1,4,15,16] [1] [] [4] (fun kl kh kr ids b s=>⟨ofL ([(17,eI s.1)]++kl),ofH (([]++kh)++([(aAH ids 0,.cells (cA s.2))]++kr)),b+128⟩) ?_;(conv=>whnf);refine And.intro ?_ (fun s m h=>dP ?_)
 ·refine bM ?_;conv=>whnf
  exact And.intro rfl (And.intro (aLc wkI (aLc (WkR.ptr (fun _=>rfl)) (aLc (WkR.ptr (fun _=>rfl)) (aLc (wkr (lsL fun _=>(aO _))) (aLc wkI aLn))))) (aLc ⟨some _,rfl,bRc rfl (cKc wkI (cKc (wkr (lsL fun _=>(aO _))) cKn))⟩ (aLc ⟨some _,rfl,aY (x:=(Ar.zero 8)) rfl rfl⟩ aLn)))
 replace h:=bC h;rw [mE.eq_1] at h
 refine aE dCo rfl fun K hK=>?_;conv=>whnf
 refine hK _ _ _ ?_
 refine aL ?_
 refine aQ fun K1 K2 hK1 hK2=>?_;conv=>whnf
 refine cLk h (fun _ h=>?_) (fun _ h=>?_)
 ·refine hK1 ?_
  refine aK ?_
  refine tHn ?_
  refine aL ?_
  refine aN ?_
  refine aE dCo rfl fun K hK=>?_;conv=>whnf
  refine kU h fun _ h=>?_;conv=>whnf
  refine nlA rfl ?_;conv=>whnf
  refine bKo rfl ?_;conv=>whnf
  refine And.intro rfl (And.intro (nle rfl) (And.intro rfl ?_));conv=>whnf
  refine hK _ _ _ ?_
  refine aAL dCo eZ rfl (by kernel_rfl) fun K hK=>?_;conv=>whnf
  refine And.intro (by decide) ?_;conv=>whnf
  refine nlA rfl ?_;conv=>whnf
  refine bKo rfl ?_;conv=>whnf
  refine gKo rfl ?_;conv=>whnf
  refine cO h fun hx27 h=>?_;conv=>whnf
  refine nlA rfl ?_;conv=>whnf
  refine bKo rfl ?_;conv=>whnf
  refine dS rfl hx27 ?_;conv=>whnf
  refine And.intro (by decide) ?_;conv=>whnf
  refine nlA rfl ?_;conv=>whnf
  refine bKo rfl ?_;conv=>whnf
  refine gKo rfl ?_;conv=>whnf
  refine cO h fun _ h=>?_;conv=>whnf
  refine cO h fun hx28 h=>?_;conv=>whnf
  refine bKo rfl ?_;conv=>whnf
  refine wU rfl hx28 rfl rfl ?_;conv=>whnf
  refine hK _ _ _ ?_
  refine iBn ?_
  refine tHn ?_
  refine cR dCo rfl fun K hK=>?_;conv=>whnf
  refine hK _ _ _ ?_
  refine tHn ?_
  replace h:=bU h
  refine ⟨_,h,?_⟩
  refine bM ?_;conv=>whnf
  exact And.intro rfl (And.intro (aLc wkI (aLc (WkR.ptr (fun _=>rfl)) (aLc (WkR.ptr (fun _=>rfl)) (aLc (wkr (lsL fun _=>(aO _))) (aLc wkI aLn))))) (aLc ⟨some _,rfl,bRc rfl (cKc wkI (cKc (wkr (lsL fun _=>(aO _))) cKn))⟩ (aLc ⟨some _,rfl,aY rfl rfl⟩ aLn)))
 refine hK2 ?_
 refine bO ?_
 refine bD ?_
 refine bD ?_
 refine bA ?_
 replace h:=dT h
 replace h:=dU h
 refine tHn ?_
 refine aL ?_
 refine aE dCo rfl fun K hK=>?_;conv=>whnf
 refine bKo rfl ?_;conv=>whnf
 refine And.intro rfl (And.intro (nle rfl) (And.intro rfl ?_));conv=>whnf
 refine hK _ _ _ ?_
 refine lP 1 ?_;(conv=>whnf);refine ⟨_,rfl,?_⟩
 refine lP 4 ?_;(conv=>whnf);refine ⟨_,rfl,?_⟩
 refine aN ?_
 replace h:=bC h
 refine jR (body:=lZ _ _) rfl h [1,4,7] [] [7] (fun kl kh ids b s=>⟨ofL ([]++kl),ofH ([(aAH ids 0,.cells [eI s])]++kh),b+64⟩) ?_;(conv=>whnf);refine And.intro ?_ (fun s m h=>dP ?_)
 ·refine bG ?_;conv=>whnf
  exact And.intro rfl (And.intro (aLc (wkr (lsE (lsC (lsI _ _) (lsC (lsL fun _=>(aO _)) lsN)))) (aLc (wkr (lsE (aT _))) (aLc (WkR.ptr (fun _=>rfl)) aLn))) (aLc ⟨some _,rfl,bRc rfl (cKc wkI cKn)⟩ aLn))
 replace h:=bC h;rw [lZ.eq_1] at h
 refine aL ?_
 refine aE dCo rfl fun K hK=>?_;conv=>whnf
 refine nlA rfl ?_;conv=>whnf
 refine bKo rfl ?_;conv=>whnf
 refine gKo rfl ?_;conv=>whnf
 refine gKo rfl ?_;conv=>whnf
 refine hK _ _ _ ?_
 refine aQ fun K1 K2 hK1 hK2=>?_;conv=>whnf
 refine cLk h (fun _ h=>?_) (fun _ h=>?_)
 ·refine hK1 ?_
  refine aK ?_
  refine tHn ?_
  refine aL ?_
  refine aN ?_
  refine aE dCo rfl fun K hK=>?_;conv=>whnf
  refine hK _ _ _ ?_
  refine aE dCo rfl fun K hK=>?_;conv=>whnf
  refine hK _ _ _ ?_
  refine lP 7 ?_;(conv=>whnf);refine ⟨_,rfl,?_⟩
  refine aE dCo rfl fun K hK=>?_;conv=>whnf
  refine bKo rfl ?_;conv=>whnf
  refine And.intro rfl (And.intro (nle rfl) (And.intro rfl ?_));conv=>whnf
  refine hK _ _ _ ?_
  refine aHj 9 rfl rfl ?_
  refine aE dCo rfl fun K hK=>?_;conv=>whnf
  refine gKo rfl ?_;conv=>whnf
  refine hK _ _ _ ?_
  refine aN ?_
  replace h:=bC h
  refine jR (body:=mF _ _ _) rfl h [1,4,7,8,9,39] [8,9] [] (fun kl kh ids b s=>⟨ofL ([(40,eI s)]++kl),ofH ([]++kh),b+64⟩) ?_;(conv=>whnf);refine And.intro ?_ (fun s m h=>dP ?_)
  ·refine bG ?_;conv=>whnf
   exact And.intro rfl (And.intro (aLc wkI (aLc (wkr (lsE (lsC (lsI _ _) (lsC (lsL fun _=>(aO _)) lsN)))) (aLc (wkr (lsE (aT _))) (aLc (wkr (lsE (lsC (lsI _ _) lsN))) (aLc (WkR.ptr (fun _=>rfl)) (aLc (WkR.ptr (fun _=>rfl)) (aLc wkI aLn))))))) (aLc ⟨some _,rfl,bRc rfl (cKc (eS bE (aM (wkr (lsE (lsC (lsI _ _) lsN))) (aM (WkR.ptr (fun _=>rfl)) (aM (wkr (lsE (aT _))) (aM (wkr (lsE (lsC (lsI _ _) (lsC (lsL fun _=>(aO _)) lsN)))) (aM (WkR.ptr (fun _=>rfl)) bE)))))) cKn)⟩ (aLc ⟨some _,rfl,bRc rfl (cKc (WkR.top _ _) cKn)⟩ aLn)))
  replace h:=bC h;rw [mF.eq_1] at h
  refine aE dCo rfl fun K hK=>?_;conv=>whnf
  refine hK _ _ _ ?_
  refine aL ?_
  refine aQ fun K1 K2 hK1 hK2=>?_;conv=>whnf
  refine cLk h (fun _ h=>?_) (fun _ h=>?_)
  ·refine hK1 ?_
   refine aK ?_
   refine tHn ?_
   refine aL ?_
   refine aN ?_
   refine aE dCo rfl fun K hK=>?_;conv=>whnf
   refine hK _ _ _ ?_
   refine aE dCo rfl fun K hK=>?_;conv=>whnf
   refine nlA rfl ?_;conv=>whnf
   refine bKo rfl ?_;conv=>whnf
   refine gKo rfl ?_;conv=>whnf
   refine aJC (enc:=eI) dCo h rfl rfl rfl ⟨nle rfl,nle rfl,rfl⟩ rfl (aF (Wk.refl _) aJ) (fun h=>?_);conv=>whnf
   refine dD (bs:=[.ab (.cells [.top]),.fn 66 [.v (.ep [eI _] 0),.p 0,.v (.ep (cA _) 0),.v (.ep [eI _,_] 0),.p 1],.ab _]) (args0:=[.so 2 0 _ 1,_,.ptr 0 0,_,_,.ptr 1 0]) h66 [_,_,_] h (.cons (aBd rfl) (.cons (bQ (lsE (lsC (lsI _ _) lsN))) (.cons (eD rfl) (.cons (bQ (lsE (aT _))) (.cons (bQ (lsE (lsC (lsI _ _) (lsC (lsL fun _=>(aO _)) lsN)))) (.cons (eD rfl) .nil)))))) ⟨⟨_,rfl,bkW _⟩,rfl,⟨_,rfl,bkW _⟩,trivial⟩ rfl (nle rfl) (fun y e=>(⟨_,_,_,_,_,rfl,rfl,e,rfl,rfl⟩:gX 10 _ _ _ _)) (fun y h=>?_)
   rcases y with _ | f<;>(conv=>whnf)
   ·replace h:=vI h
    refine hK _ _ _ ?_
    refine aQ fun K1 K2 hK1 hK2=>?_;conv=>whnf
    refine hK2 ?_
    refine aK ?_
    refine iBn ?_
    refine tHn ?_
    refine cR dCo rfl fun K hK=>?_;conv=>whnf
    refine hK _ _ _ ?_
    refine tHn ?_
    replace h:=bU h
    refine ⟨_,h,?_⟩
    refine bG ?_;conv=>whnf
    exact And.intro rfl (And.intro (aLc wkI (aLc (wkr (lsE (lsC (lsI _ _) (lsC (lsL fun _=>(aO _)) lsN)))) (aLc (wkr (lsE (aT _))) (aLc (wkr (lsE (lsC (lsI _ _) lsN))) (aLc (WkR.ptr (fun _=>rfl)) (aLc (WkR.ptr (fun _=>rfl)) (aLc wkI aLn))))))) (aLc ⟨some _,rfl,bRc rfl (cKc (eS bE (aM (wkr (lsE (lsC (lsI _ _) lsN))) (aM (WkR.ptr (fun _=>rfl)) (aM (wkr (lsE (aT _))) (aM (wkr (lsE (lsC (lsI _ _) (lsC (lsL fun _=>(aO _)) lsN)))) (aM (WkR.ptr (fun _=>rfl)) bE)))))) cKn)⟩ (aLc ⟨some _,rfl,bRc rfl (cKc (WkR.top _ _) cKn)⟩ aLn)))
   replace h:=fC h
   refine hK _ _ _ ?_
   refine aQ fun K1 K2 hK1 hK2=>?_;conv=>whnf
   refine hK1 ?_
   refine aE dCo rfl fun K hK=>?_;conv=>whnf
   refine nlA rfl ?_;conv=>whnf
   refine bKo rfl ?_;conv=>whnf
   refine gKo rfl ?_;conv=>whnf
   refine aED h fun hg h=>?_
   replace h:=aKy h
   refine sR h60 (aF (Wk.refl _) aJ) hg (fun _=>(lsC (lsI _ _) lsN)) ?_;conv=>whnf
   refine hK _ _ _ ?_
   refine nM 2 (enc:=eI) (e:=3) default (lT dCo rfl rfl rfl (fun _=>⟨rfl,rfl⟩)) ?_;(conv=>whnf);refine ⟨_,_,rfl,rfl,rfl,?_⟩
   refine aD ?_
   refine aC ?_
   refine aG ?_
   refine aG ?_
   refine aC ?_
   refine aC ?_
   refine aG ?_
   refine aG ?_
   refine aC ?_
   refine aG ?_
   replace h:=kJ h
   replace h:=kH h
   replace h:=kJ h
   replace h:=kH h
   replace h:=aB h
   refine aA dCo fun K hK=>?_;conv=>whnf
   refine hK _ ?_
   cases h
   exact Wk.refl _
  refine hK2 ?_
  refine bO ?_
  refine bD ?_
  refine bD ?_
  refine bA ?_
  replace h:=dT h
  replace h:=dU h
  refine iBn ?_
  refine tHn ?_
  refine aL ?_
  refine aE dCo rfl fun K hK=>?_;conv=>whnf
  refine gKo rfl ?_;conv=>whnf
  refine hK _ _ _ ?_
  refine cR dCo rfl fun K hK=>?_;conv=>whnf
  refine bKo rfl ?_;conv=>whnf
  refine And.intro rfl (And.intro (nle rfl) (And.intro rfl ?_));conv=>whnf
  refine hK _ _ _ ?_
  refine tHn ?_
  refine cR dCo rfl fun K hK=>?_;conv=>whnf
  refine nlA rfl ?_;conv=>whnf
  refine bKo rfl ?_;conv=>whnf
  refine gKo rfl ?_;conv=>whnf
  refine bKo rfl ?_;conv=>whnf
  refine And.intro rfl (And.intro (nle rfl) (And.intro rfl ?_));conv=>whnf
  refine hK _ _ _ ?_
  refine tHn ?_
  replace h:=bU h
  refine ⟨_,h,?_⟩
  refine bG ?_;conv=>whnf
  exact And.intro rfl (And.intro (aLc (wkr (lsE (lsC (lsI _ _) (lsC (lsL fun _=>(aO _)) lsN)))) (aLc (wkr (lsE (aT _))) (aLc (WkR.ptr (fun _=>rfl)) aLn))) (aLc ⟨some _,rfl,bRc rfl (cKc wkI cKn)⟩ aLn))
 refine hK2 ?_
 refine bO ?_
 refine bD ?_
 refine bD ?_
 refine bA ?_
 replace h:=dT h
 replace h:=dU h
 refine tHn ?_
 refine aE dCo rfl fun K hK=>?_;conv=>whnf
 refine hK _ _ _ ?_
 refine aD ?_
 replace h:=aB h
 refine aA dCo fun K hK=>?_;conv=>whnf
 refine hK _ ?_
 cases h
 exact pD (aF kF (aF (Wk.refl _) aJ))
theorem oE {T:Tbl} (hT:T 32=aS iB) {args:List AV} {hp:aX} {id:Nat} {k:AV→Prop} {a0:aP} {Φ:(List Int)×Bool→Prop} (h:W (iG a0) Φ) (hw:WkL args [bN a0]) (hk:∀ y,Φ y→k (.tup [(eL 1 eI default) y.1,eB y.2])):cU T 32 args hp id k:=by
 obtain ⟨y,e,hy⟩:=fB h
 exact aZ hT ⟨a0,rfl,kD e rfl⟩ (by exact fH (lsC (lsL fun _=>(lsI _ _)) (lsC (lsB _) lsN))) hw (hk y hy)
  def lN (a0:aP) (e5:Int) (y1:(Ar 8)×Bool) (s6:Int×(List Int)):Option (Ct (Int×(List Int)) ((List Int)×Int)):=cn (decide (s6.1<a0.N)) (gd (0≤e5∧e5<(8:Int)) (gd (0≤s6.1) (jn (fun p7:(List Int)=>
  some (.nx ((wr (s6.1+1)),p7))) fun k8=>cn ((tI .i64 (vX .i64 (y1.1.at1 e5) s6.1) 1) ==
  1) (gd ((0:Int)≤e5∧e5<(s6.2.length:Int)) (gd ((0:Int)≤s6.1∧s6.1<(s6.2.length:Int)) (gd ((0:Int)≤e5∧e5<(s6.2.length:Int)) (st s6.2 (e5) (aIM (s6.2.getD (e5).toNat default) (wr ((s6.2.getD (s6.1).toNat default)+1))) fun l9=>
  k8 l9)))) (k8 s6.2)))) (some (.bk (s6.1,s6.2)))
  def lF (a0:aP) (y1:(Ar 8)×Bool) (y3:List Int) (s4:Int×(List Int)):Option (Ct (Int×(List Int)) ((List Int)×Int)):=cn (decide (s4.1<(y3.length:Int))) (ix y3 default s4.1 fun e5=>
  bd (lp (lN a0 e5 y1) FU (0,s4.2)) fun c10=>smK c10 (fun s11=>some (.nx ((wr (s4.1+1)),s11.2))) (fun r12=>some (.rt r12))) (some (.bk (s4.1,s4.2)))
def jE (a0:aP):Option ((List Int)×Int):=bd (bI a0) fun y1=>
  cn (!y1.2) (some ([],70)) (gd ((0:Int)≤a0.N∧a0.N≤(1048576:Int)) (lt (List.replicate (a0.N).toNat (0:Int)) fun l2=>bd (hU a0.N y1.1) fun y3=>
  bd (lp (lF a0 y1 y3) FU (0,l2)) fun c13=>smK c13 (fun s14=>some (s14.2,0)) (fun r15=>some r15)))
def gP:List AV→AV→Prop:=fun args r=>∃ a0,args=[bN a0]∧W (jE a0) fun y=>r=(.tup [(eL 1 eI default) y.1,eI y.2])
theorem uN {T:Tbl} (hT:TOk Tryd.prog T) (hpf:cP T PF) (h54:T 54=aS cC) (h57:T 57=aS fS):FOk Tryd.prog 28 (aS gP):=by
 refine bJ hT hpf Tryd.func28 rfl Tryd.ntmps28 Tryd.results28 (by decide) ?_
 rintro args r ⟨a0,rfl,h⟩
 refine ⟨nle rfl,?_,?_⟩
 ·exact (lsC (bZ _) lsN)
 rw [jE.eq_1] at h
 refine aE dCo rfl fun K hK=>?_;conv=>whnf
 refine hK _ _ _ ?_
 refine aE dCo rfl fun K hK=>?_;conv=>whnf
 refine nlA rfl ?_;conv=>whnf
 refine bKo rfl ?_;conv=>whnf
 refine nlA rfl ?_;conv=>whnf
 replace h:=bC h
 refine bY h54 h (WkL.refl _) (fun _ h=>?_);conv=>whnf
 refine aU ?_;conv=>whnf
 refine aU ?_;conv=>whnf
 refine aU ?_;conv=>whnf
 refine bKo rfl ?_;conv=>whnf
 refine oO rfl rfl rfl ?_;conv=>whnf
 refine hK _ _ _ ?_
 refine aL ?_
 refine aE dCo rfl fun K hK=>?_;conv=>whnf
 refine hK _ _ _ ?_
 refine aQ fun K1 K2 hK1 hK2=>?_;conv=>whnf
 refine cLk h (fun _ h=>?_) (fun _ h=>?_)
 ·refine hK1 ?_
  refine aE dCo rfl fun K hK=>?_;conv=>whnf
  refine hK _ _ _ ?_
  refine aD ?_
  refine aG ?_
  replace h:=aB h
  refine aA dCo fun K hK=>?_;conv=>whnf
  refine hK _ ?_
  cases h
  exact pD (aF kF (aF (Wk.refl _) aJ))
 refine hK2 ?_
 refine aK ?_
 refine tHn ?_
 refine aE dCo rfl fun K hK=>?_;conv=>whnf
 refine nlA rfl ?_;conv=>whnf
 refine bKo rfl ?_;conv=>whnf
 refine gKo rfl ?_;conv=>whnf
 refine aI9 (enc:=eI) dCo (0:Int) h rfl rfl ⟨nle rfl,nle rfl,rfl⟩ rfl (fun h=>?_);conv=>whnf
 refine hK _ _ _ ?_
 refine aL ?_
 refine aE dCo rfl fun K hK=>?_;conv=>whnf
 refine nlA rfl ?_;conv=>whnf
 refine bKo rfl ?_;conv=>whnf
 refine gKo rfl ?_;conv=>whnf
 refine nlA rfl ?_;conv=>whnf
 refine bKo rfl ?_;conv=>whnf
 refine rD rfl ?_;conv=>whnf
 refine aU ?_;conv=>whnf
 replace h:=bC h
 refine lL h57 h (WkL.refl _) (fun _ h=>?_);conv=>whnf
 refine hK _ _ _ ?_
 refine aN ?_
 replace h:=bC h
 refine gQ (body:=lF _ _ _) rfl h [1,4,23,24] [1] [4] [] (fun kl kh kr ids b s=>⟨ofL ([(25,eI s.1),(6,.so (b+0) 0 s.2.length 1)]++kl),ofH (([]++kh)++([(b+0,.cells (flE (ceE eI) s.2))]++kr)),b+128⟩) ?_;(conv=>whnf);refine And.intro ?_ (fun s m h=>dP ?_)
 ·refine bM ?_;conv=>whnf
  exact And.intro rfl (And.intro (aLc wkI (aLc (WkR.so (fun _=>rfl)) (aLc (WkR.ptr (fun _=>rfl)) (aLc (WkR.ptr (fun _=>rfl)) (aLc (wkr (lsL fun _=>(lsI _ _))) (aLc wkI aLn)))))) (aLc ⟨some _,rfl,bRc rfl (cKc wkI (cKc (wkr (lsL fun _=>(aO _))) cKn))⟩ (aLc ⟨some _,rfl,fZ rfl (fun _=>(lsC (lsI _ _) lsN))⟩ (aLc ⟨some _,rfl,aY rfl rfl⟩ aLn))))
 replace h:=bC h;rw [lF.eq_1] at h
 refine aE dCo rfl fun K hK=>?_;conv=>whnf
 refine hK _ _ _ ?_
 refine aL ?_
 refine aQ fun K1 K2 hK1 hK2=>?_;conv=>whnf
 refine cLk h (fun _ h=>?_) (fun _ h=>?_)
 ·refine hK1 ?_
  refine aK ?_
  refine tHn ?_
  refine aL ?_
  refine aN ?_
  refine aE dCo rfl fun K hK=>?_;conv=>whnf
  refine kU h fun _ h=>?_;conv=>whnf
  refine gKo rfl ?_;conv=>whnf
  refine hK _ _ _ ?_
  refine aE dCo rfl fun K hK=>?_;conv=>whnf
  refine nlA rfl ?_;conv=>whnf
  refine bKo rfl ?_;conv=>whnf
  refine gKo rfl ?_;conv=>whnf
  refine hK _ _ _ ?_
  refine aN ?_
  replace h:=bC h
  refine gQ (body:=lN _ _ _) rfl h [1,4,8,23,24,25,30] [1] [4] [] (fun kl kh kr ids b s=>⟨ofL ([(31,eI s.1),(6,.so (b+0) 0 s.2.length 1)]++kl),ofH (([]++kh)++([(b+0,.cells (flE (ceE eI) s.2))]++kr)),b+128⟩) ?_;(conv=>whnf);refine And.intro ?_ (fun s m h=>dP ?_)
  ·refine bM ?_;conv=>whnf
   exact And.intro rfl (And.intro (aLc wkI (aLc (WkR.so (fun _=>rfl)) (aLc (WkR.ptr (fun _=>rfl)) (aLc (WkR.ptr (fun _=>rfl)) (aLc wkI (aLc (wkr (lsL fun _=>(lsI _ _))) (aLc wkI (aLc wkI (aLc wkI aLn))))))))) (aLc ⟨some _,rfl,bRc rfl (cKc wkI (cKc (wkr (lsL fun _=>(aO _))) cKn))⟩ (aLc ⟨some _,rfl,fZ rfl (fun _=>(lsC (lsI _ _) lsN))⟩ (aLc ⟨some _,rfl,aY rfl rfl⟩ aLn))))
  replace h:=bC h;rw [lN.eq_1] at h
  refine aE dCo rfl fun K hK=>?_;conv=>whnf
  refine hK _ _ _ ?_
  refine aL ?_
  refine aQ fun K1 K2 hK1 hK2=>?_;conv=>whnf
  refine cLk h (fun _ h=>?_) (fun _ h=>?_)
  ·refine hK1 ?_
   refine aK ?_
   refine tHn ?_
   refine aL ?_
   refine aN ?_
   refine aE dCo rfl fun K hK=>?_;conv=>whnf
   refine hK _ _ _ ?_
   refine aE dCo rfl fun K hK=>?_;conv=>whnf
   refine cO h fun hx1359 h=>?_;conv=>whnf
   refine nlA rfl ?_;conv=>whnf
   refine bKo rfl ?_;conv=>whnf
   refine dS rfl hx1359 ?_;conv=>whnf
   refine cO h fun _ h=>?_;conv=>whnf
   refine hK _ _ _ ?_
   replace h:=cL h
   refine aQ fun K1 K2 hK1 hK2=>?_;conv=>whnf
   refine cLk h (fun _ h=>?_) (fun _ h=>?_)
   ·refine hK1 ?_
    refine aAL dCo eZ rfl (by kernel_rfl) fun K hK=>?_;conv=>whnf
    refine pX h (rfl) fun hx1363 h=>?_;conv=>whnf
    refine nlA rfl ?_;conv=>whnf
    refine bKo rfl ?_;conv=>whnf
    refine qH (enc:=eI) (d:=default) (q:=0) (fun _=>rfl) (rfl) hx1363 (nle rfl) rfl ?_;conv=>whnf
    refine pX h (rfl) fun hx1364 h=>?_;conv=>whnf
    refine nlA rfl ?_;conv=>whnf
    refine bKo rfl ?_;conv=>whnf
    refine qH (enc:=eI) (d:=default) (q:=0) (fun _=>rfl) (rfl) hx1364 (nle rfl) rfl ?_;conv=>whnf
    refine pX h (rfl) fun hx1365 h=>?_;conv=>whnf
    refine bKo rfl ?_;conv=>whnf
    refine aHZ (enc:=eI) (d:=default) (q:=0) h (fun _=>rfl) (rfl) hx1365 rfl (nle rfl) rfl rfl (fun h=>?_);conv=>whnf
    refine hK _ _ _ ?_
    refine iBn ?_
    refine tHn ?_
    refine cR dCo rfl fun K hK=>?_;conv=>whnf
    refine hK _ _ _ ?_
    refine tHn ?_
    replace h:=bU h
    refine ⟨_,h,?_⟩
    refine bM ?_;conv=>whnf
    exact And.intro rfl (And.intro (aLc wkI (aLc (WkR.soN (fun _=>rfl) (aGp rfl).symm) (aLc (WkR.ptr (fun _=>rfl)) (aLc (WkR.ptr (fun _=>rfl)) (aLc wkI (aLc (wkr (lsL fun _=>(lsI _ _))) (aLc wkI (aLc wkI (aLc wkI aLn))))))))) (aLc ⟨some _,rfl,bRc rfl (cKc wkI (cKc (wkr (lsL fun _=>(aO _))) cKn))⟩ (aLc ⟨some _,rfl,fZ rfl (fun _=>(lsC (lsI _ _) lsN))⟩ (aLc ⟨some _,rfl,aY rfl rfl⟩ aLn))))
   refine hK2 ?_
   refine aK ?_
   refine iBn ?_
   refine tHn ?_
   refine cR dCo rfl fun K hK=>?_;conv=>whnf
   refine hK _ _ _ ?_
   refine tHn ?_
   replace h:=bU h
   refine ⟨_,h,?_⟩
   refine bM ?_;conv=>whnf
   exact And.intro rfl (And.intro (aLc wkI (aLc (WkR.so (fun _=>rfl)) (aLc (WkR.ptr (fun _=>rfl)) (aLc (WkR.ptr (fun _=>rfl)) (aLc wkI (aLc (wkr (lsL fun _=>(lsI _ _))) (aLc wkI (aLc wkI (aLc wkI aLn))))))))) (aLc ⟨some _,rfl,bRc rfl (cKc wkI (cKc (wkr (lsL fun _=>(aO _))) cKn))⟩ (aLc ⟨some _,rfl,fZ rfl (fun _=>(lsC (lsI _ _) lsN))⟩ (aLc ⟨some _,rfl,aY rfl rfl⟩ aLn))))
  refine hK2 ?_
  refine bO ?_
  refine bD ?_
  refine bD ?_
  refine bA ?_
  replace h:=dT h
  replace h:=dU h
  refine iBn ?_
  refine tHn ?_
  refine cR dCo rfl fun K hK=>?_;conv=>whnf
  refine hK _ _ _ ?_
  refine tHn ?_
  replace h:=bU h
  refine ⟨_,h,?_⟩
  refine bM ?_;conv=>whnf
  exact And.intro rfl (And.intro (aLc wkI (aLc (WkR.so (fun _=>rfl)) (aLc (WkR.ptr (fun _=>rfl)) (aLc (WkR.ptr (fun _=>rfl)) (aLc (wkr (lsL fun _=>(lsI _ _))) (aLc wkI aLn)))))) (aLc ⟨some _,rfl,bRc rfl (cKc wkI (cKc (wkr (lsL fun _=>(aO _))) cKn))⟩ (aLc ⟨some _,rfl,fZ rfl (fun _=>(lsC (lsI _ _) lsN))⟩ (aLc ⟨some _,rfl,aY rfl rfl⟩ aLn))))
 refine hK2 ?_
 refine bO ?_
 refine bD ?_
 refine bD ?_
 refine bA ?_
 replace h:=dT h
 replace h:=dU h
 refine tHn ?_
 refine aE dCo rfl fun K hK=>?_;conv=>whnf
 refine hK _ _ _ ?_
 refine nM 2 (enc:=eI) (e:=3) default (lT dCo rfl rfl rfl (fun _=>⟨rfl,rfl⟩)) ?_;(conv=>whnf);refine ⟨_,_,rfl,rfl,rfl,?_⟩
 refine aD ?_
 replace h:=aB h
 refine aA dCo fun K hK=>?_;conv=>whnf
 refine hK _ ?_
 cases h
 exact Wk.refl _
theorem sK {T:Tbl} (hT:T 28=aS gP) {args:List AV} {hp:aX} {id:Nat} {k:AV→Prop} {a0:aP} {Φ:(List Int)×Int→Prop} (h:W (jE a0) Φ) (hw:WkL args [bN a0]) (hk:∀ y,Φ y→k (.tup [(eL 1 eI default) y.1,eI y.2])):cU T 28 args hp id k:=by
 obtain ⟨y,e,hy⟩:=fB h
 exact aZ hT ⟨a0,rfl,kD e rfl⟩ (by exact fH (lsC (lsL fun _=>(lsI _ _)) (lsC (lsI _ _) lsN))) hw (hk y hy)
  def iH (y1:(Ar 8)×Bool) (y3:List Int) (s4:Int×Int):Option (Ct (Int×Int) ((List Int)×Int)):=cn (decide (s4.2<(y3.length:Int))) (ix y3 default s4.2 fun e5=>
  gd (0≤e5∧e5<(8:Int)) (let v6:=(bor .i64 s4.1 (y1.1.at1 e5));some (.nx (v6,(wr (s4.2+1)))))) (some (.bk (s4.1,s4.2)))
  def iK (a0:aP) (y1:(Ar 8)×Bool) (s2:(List Int)×Int):Option (Ct ((List Int)×Int) ((List Int)×Int)):=cn (decide (s2.2<(aEP .i64 1 a0.N))) (bd (jC s2.2) fun y3=>
  bd (lp (iH y1 y3) FU (0,0)) fun c7=>smK c7 (fun s8=>jn (fun p10:Bool=>jn (fun p16:(List Int)=>some (.nx (p16,(wr (s2.2+1))))) fun k17=>
  cn p10 (k17 y3) (k17 s2.1)) fun k11=>cn ((tI .i64 s8.1 s2.2)==0) (bd (eX (s2.1.length:Int) (y3.length:Int)) fun y12=>
  bd (eM y3 s2.1) fun y13=>lt ([y12,y13]:List Int) fun l14=>bd (lW l14) fun y15=>k11 (decide (y15<0))) (k11 false)) (fun r9=>
  some (.rt r9))) (some (.bk (s2.1,s2.2)))
def gH (a0:aP):Option ((List Int)×Int):=bd (bI a0) fun y1=>
  cn (!y1.2) (some ([],70)) (gd (0≤a0.N) (bd (lp (iK a0 y1) FU ([],0)) fun c18=>smK c18 (fun s19=>some (s19.1,0)) (fun r20=>some r20)))
def eT:List AV→AV→Prop:=fun args r=>∃ a0,args=[bN a0]∧W (gH a0) fun y=>r=(.tup [(eL 1 eI default) y.1,eI y.2])
theorem qZ {T:Tbl} (hT:TOk Tryd.prog T) (hpf:cP T PF) (h54:T 54=aS cC) (h61:T 61=aS gO) (h62:T 62=aS jV) (h63:T 63=aS dQ) (h64:T 64=aS dM):FOk Tryd.prog 30 (aS eT):=by
 refine bJ hT hpf Tryd.func30 rfl Tryd.ntmps30 Tryd.results30 (by decide) ?_
 rintro args r ⟨a0,rfl,h⟩
 refine ⟨nle rfl,?_,?_⟩
 ·exact (lsC (bZ _) lsN)
 rw [gH.eq_1] at h
 refine aE dCo rfl fun K hK=>?_;conv=>whnf
 refine hK _ _ _ ?_
 refine aE dCo rfl fun K hK=>?_;conv=>whnf
 refine nlA rfl ?_;conv=>whnf
 refine bKo rfl ?_;conv=>whnf
 refine nlA rfl ?_;conv=>whnf
 replace h:=bC h
 refine bY h54 h (WkL.refl _) (fun _ h=>?_);conv=>whnf
 refine aU ?_;conv=>whnf
 refine aU ?_;conv=>whnf
 refine aU ?_;conv=>whnf
 refine bKo rfl ?_;conv=>whnf
 refine oO rfl rfl rfl ?_;conv=>whnf
 refine hK _ _ _ ?_
 refine aL ?_
 refine aE dCo rfl fun K hK=>?_;conv=>whnf
 refine hK _ _ _ ?_
 refine aQ fun K1 K2 hK1 hK2=>?_;conv=>whnf
 refine cLk h (fun _ h=>?_) (fun _ h=>?_)
 ·refine hK1 ?_
  refine aE dCo rfl fun K hK=>?_;conv=>whnf
  refine hK _ _ _ ?_
  refine aD ?_
  refine aG ?_
  replace h:=aB h
  refine aA dCo fun K hK=>?_;conv=>whnf
  refine hK _ ?_
  cases h
  exact pD (aF kF (aF (Wk.refl _) aJ))
 refine hK2 ?_
 refine aK ?_
 refine tHn ?_
 refine aE dCo rfl fun K hK=>?_;conv=>whnf
 refine hK _ _ _ ?_
 refine aL ?_
 refine aE dCo rfl fun K hK=>?_;conv=>whnf
 refine nlA rfl ?_;conv=>whnf
 refine bKo rfl ?_;conv=>whnf
 refine gKo rfl ?_;conv=>whnf
 refine cO h fun _ h=>?_;conv=>whnf
 refine hK _ _ _ ?_
 refine aN ?_
 replace h:=bC h
 refine gQ (body:=iK _ _) rfl h [4,21] [] [4] [] (fun kl kh kr ids b s=>⟨ofL ([(6,(eL 1 eI default) s.1),(22,eI s.2)]++kl),ofH (([]++kh)++([]++kr)),b+64⟩) ?_;(conv=>whnf);refine And.intro ?_ (fun s m h=>dP ?_)
 ·refine bM ?_;conv=>whnf
  exact And.intro rfl (And.intro (aLc (WkR.wk kF (lsL fun _=>(lsI _ _))) (aLc wkI (aLc (WkR.ptr (fun _=>rfl)) (aLc wkI aLn)))) (aLc ⟨some _,rfl,aY rfl rfl⟩ aLn))
 replace h:=bC h;rw [iK.eq_1] at h
 refine aE dCo rfl fun K hK=>?_;conv=>whnf
 refine hK _ _ _ ?_
 refine aL ?_
 refine aQ fun K1 K2 hK1 hK2=>?_;conv=>whnf
 refine cLk h (fun _ h=>?_) (fun _ h=>?_)
 ·refine hK1 ?_
  refine aK ?_
  refine tHn ?_
  refine aL ?_
  refine aN ?_
  refine aE dCo rfl fun K hK=>?_;conv=>whnf
  refine hK _ _ _ ?_
  refine aE dCo rfl fun K hK=>?_;conv=>whnf
  replace h:=bC h
  refine rY h61 h (WkL.refl _) (fun _ h=>?_);conv=>whnf
  refine hK _ _ _ ?_
  refine aL ?_
  refine aE dCo rfl fun K hK=>?_;conv=>whnf
  refine hK _ _ _ ?_
  refine aN ?_
  replace h:=bC h
  refine gQ (body:=iH _ _) rfl h [4,6,7,9,21,22,27,28] [] [4] [] (fun kl kh kr ids b s=>⟨ofL ([(8,eI s.1),(29,eI s.2)]++kl),ofH (([]++kh)++([]++kr)),b+64⟩) ?_;(conv=>whnf);refine And.intro ?_ (fun s m h=>dP ?_)
  ·refine bM ?_;conv=>whnf
   exact And.intro rfl (And.intro (aLc wkI (aLc wkI (aLc (WkR.ptr (fun _=>rfl)) (aLc (wkr (lsL fun _=>(lsI _ _))) (aLc wkI (aLc (wkr (lsL fun _=>(lsI _ _))) (aLc wkI (aLc wkI (aLc (wkr (lsL fun _=>(lsI _ _))) (aLc wkI aLn)))))))))) (aLc ⟨some _,rfl,aY rfl rfl⟩ aLn))
  replace h:=bC h;rw [iH.eq_1] at h
  refine aE dCo rfl fun K hK=>?_;conv=>whnf
  refine hK _ _ _ ?_
  refine aL ?_
  refine aQ fun K1 K2 hK1 hK2=>?_;conv=>whnf
  refine cLk h (fun _ h=>?_) (fun _ h=>?_)
  ·refine hK1 ?_
   refine aK ?_
   refine tHn ?_
   refine aL ?_
   refine aN ?_
   refine aE dCo rfl fun K hK=>?_;conv=>whnf
   refine kU h fun _ h=>?_;conv=>whnf
   refine gKo rfl ?_;conv=>whnf
   refine hK _ _ _ ?_
   refine cR dCo rfl fun K hK=>?_;conv=>whnf
   refine cO h fun hx1428 h=>?_;conv=>whnf
   refine nlA rfl ?_;conv=>whnf
   refine bKo rfl ?_;conv=>whnf
   refine dS rfl hx1428 ?_;conv=>whnf
   refine hK _ _ _ ?_
   refine iBn ?_
   refine tHn ?_
   refine cR dCo rfl fun K hK=>?_;conv=>whnf
   refine hK _ _ _ ?_
   refine tHn ?_
   replace h:=bU h
   refine ⟨_,h,?_⟩
   refine bM ?_;conv=>whnf
   exact And.intro rfl (And.intro (aLc wkI (aLc wkI (aLc (WkR.ptr (fun _=>rfl)) (aLc (wkr (lsL fun _=>(lsI _ _))) (aLc wkI (aLc (wkr (lsL fun _=>(lsI _ _))) (aLc wkI (aLc wkI (aLc (wkr (lsL fun _=>(lsI _ _))) (aLc wkI aLn)))))))))) (aLc ⟨some _,rfl,aY rfl rfl⟩ aLn))
  refine hK2 ?_
  refine bO ?_
  refine bD ?_
  refine bD ?_
  refine bA ?_
  replace h:=dT h
  replace h:=dU h
  refine tHn ?_
  refine aE dCo rfl fun K hK=>?_;conv=>whnf
  replace h:=cL h
  refine cLk h (fun _ h=>?_) (fun _ h=>?_)<;>(conv=>whnf)
  ·replace h:=bC h
   refine kE h63 h (WkL.refl _) (fun _ h=>?_);conv=>whnf
   replace h:=bC h
   refine oA h64 h (WkL.refl _) (fun _ h=>?_);conv=>whnf
   refine cZ (enc:=eI) (d:=default) dCo h rfl rfl rfl ⟨nle rfl,nle rfl,rfl⟩ rfl ⟨⟨rfl,rfl,rfl⟩,⟨⟨rfl,rfl,rfl⟩,trivial⟩⟩ (fun h=>?_);conv=>whnf
   replace h:=bC h
   refine uS h62 h (aF aW aJ) (fun _ h=>?_);conv=>whnf
   refine hK _ _ _ ?_
   replace h:=cL h
   refine aQ fun K1 K2 hK1 hK2=>?_;conv=>whnf
   refine cLk h (fun _ h=>?_) (fun _ h=>?_)
   ·refine hK1 ?_
    refine cR dCo rfl fun K hK=>?_;conv=>whnf
    refine hK _ _ _ ?_
    refine iBn ?_
    refine tHn ?_
    refine cR dCo rfl fun K hK=>?_;conv=>whnf
    refine hK _ _ _ ?_
    refine tHn ?_
    replace h:=bU h
    refine ⟨_,h,?_⟩
    refine bM ?_;conv=>whnf
    exact And.intro rfl (And.intro (aLc (wkr (lsL fun _=>(lsI _ _))) (aLc wkI (aLc (WkR.ptr (fun _=>rfl)) (aLc wkI aLn)))) (aLc ⟨some _,rfl,aY rfl rfl⟩ aLn))
   refine hK2 ?_
   refine aK ?_
   refine iBn ?_
   refine tHn ?_
   refine cR dCo rfl fun K hK=>?_;conv=>whnf
   refine hK _ _ _ ?_
   refine tHn ?_
   replace h:=bU h
   refine ⟨_,h,?_⟩
   refine bM ?_;conv=>whnf
   exact And.intro rfl (And.intro (aLc (wkr (lsL fun _=>(lsI _ _))) (aLc wkI (aLc (WkR.ptr (fun _=>rfl)) (aLc wkI aLn)))) (aLc ⟨some _,rfl,aY rfl rfl⟩ aLn))
  refine hK _ _ _ ?_
  replace h:=cL h
  refine aQ fun K1 K2 hK1 hK2=>?_;conv=>whnf
  refine hK2 ?_
  replace h:=vI h
  refine aK ?_
  refine iBn ?_
  refine tHn ?_
  refine cR dCo rfl fun K hK=>?_;conv=>whnf
  refine hK _ _ _ ?_
  refine tHn ?_
  replace h:=bU h
  refine ⟨_,h,?_⟩
  refine bM ?_;conv=>whnf
  exact And.intro rfl (And.intro (aLc (wkr (lsL fun _=>(lsI _ _))) (aLc wkI (aLc (WkR.ptr (fun _=>rfl)) (aLc wkI aLn)))) (aLc ⟨some _,rfl,aY rfl rfl⟩ aLn))
 refine hK2 ?_
 refine bO ?_
 refine bD ?_
 refine bD ?_
 refine bA ?_
 replace h:=dT h
 replace h:=dU h
 refine tHn ?_
 refine aE dCo rfl fun K hK=>?_;conv=>whnf
 refine hK _ _ _ ?_
 refine aD ?_
 replace h:=aB h
 refine aA dCo fun K hK=>?_;conv=>whnf
 refine hK _ ?_
 cases h
 exact Wk.refl _
theorem pN {T:Tbl} (hT:T 30=aS eT) {args:List AV} {hp:aX} {id:Nat} {k:AV→Prop} {a0:aP} {Φ:(List Int)×Int→Prop} (h:W (gH a0) Φ) (hw:WkL args [bN a0]) (hk:∀ y,Φ y→k (.tup [(eL 1 eI default) y.1,eI y.2])):cU T 30 args hp id k:=by
 obtain ⟨y,e,hy⟩:=fB h
 exact aZ hT ⟨a0,rfl,kD e rfl⟩ (by exact fH (lsC (lsL fun _=>(lsI _ _)) (lsC (lsI _ _) lsN))) hw (hk y hy)
def gT (a1:List (Int×Int)) (s2:Int×aP):Option (Ct (Int×aP) aP):=jn (fun p3:Bool=>cn p3 (ix a1 default s2.1 fun e5=>
  bd (fD e5.1 s2.2.N) fun y6=>ix a1 default s2.1 fun e7=>bd (fD e7.2 (wr (s2.2.N-1))) fun y8=>
  gd (s2.2.N≠0) (lt ([(y6,(Int.tmod (wr ((wr (y6+1))+y8)) s2.2.N))]:List (Int×Int)) fun l9=>ap s2.2.Pairs l9 fun l10=>
  some (.nx ((wr (s2.1+1)),(⟨s2.2.N,l10⟩:aP))))) (some (.bk (s2.1,s2.2)))) fun k4=>
  cn (decide (s2.1<(a1.length:Int))) (cn (decide (s2.1<20)) (k4 (decide (s2.2.N>1))) (k4 false)) (k4 false)
def gA (a0:Int) (a1:List (Int×Int)):Option aP:=bd (fD a0 9) fun y1=>bd (lp (gT a1) FU (0,(⟨y1,[]⟩:aP))) fun c11=>
  smK c11 (fun s12=>some s12.2) (fun r13=>some r13)
def iD (y:aP) (b:Nat):AV:=.agg [eI y.N,.so b 0 y.Pairs.length 2]
def eQ (y:aP):List AB:=[.cells (flE (ceE dK) y.Pairs)]
def iJ:List AV→aP→Prop:=fun args y=>∃ a0 a1,args=[eI a0,(eL 2 dK default) a1]∧gA a0 a1=some y
theorem wF {T:Tbl} (hT:TOk Tryd.prog T) (hpf:cP T PF) (h37:T 37=aS hO):FOk Tryd.prog 17 (aCk iD eQ iJ):=by
 refine aB0 hT hpf Tryd.func17 rfl Tryd.ntmps17 Tryd.results17 (by decide) (fun y=>⟨by simp [eQ],by simp [eQ,tO]⟩) ?_
 rintro args y ⟨a0,a1,rfl,hF⟩
 refine ⟨nle rfl,(lsC (lsI _ _) (lsC (lsL fun _=>(aO _)) lsN)),fun base=>?_⟩
 have h:W (gA a0 a1) (fun z=>z=y):=kD hF rfl
 rw [gA.eq_1] at h
 refine aE dCo rfl fun K hK=>?_;conv=>whnf
 refine hK _ _ _ ?_
 refine aE dCo rfl fun K hK=>?_;conv=>whnf
 replace h:=bC h
 refine iI h37 h (WkL.refl _) (fun _ h=>?_);conv=>whnf
 refine bKo rfl ?_;conv=>whnf
 refine And.intro rfl (And.intro (nle rfl) (And.intro rfl ?_));conv=>whnf
 refine hK _ _ _ ?_
 refine aL ?_
 refine aE dCo rfl fun K hK=>?_;conv=>whnf
 refine hK _ _ _ ?_
 refine aN ?_
 replace h:=bC h
 refine gQ (body:=gT _) rfl h [1,4,5] [4] [] [5] (fun kl kh kr ids b s=>⟨ofL ([(6,eI s.1)]++kl),ofH (([(aAH ids 0,.cells [eI s.2.N,.so (b+0) 0 s.2.Pairs.length 2])]++kh)++([(b+0,.cells (flE (ceE dK) s.2.Pairs))]++kr)),b+128⟩) ?_;(conv=>whnf);refine And.intro ?_ (fun s m h=>dP ?_)
 ·refine bM ?_;conv=>whnf
  exact And.intro rfl (And.intro (aLc wkI (aLc (wkr (lsL fun _=>(aO _))) (aLc (WkR.ptr (fun _=>rfl)) (aLc (WkR.ptr (fun _=>rfl)) aLn)))) (aLc ⟨some _,rfl,bRc rfl (cKc wkI (cKc (WkR.nilso (fun _=>rfl)) cKn))⟩ (aLc ⟨some _,rfl,bRc rfl (cKc wkI (cKc (wkr bW) cKn))⟩ (aLc ⟨none,rfl,aBc⟩ aLn))))
 replace h:=bC h;rw [gT.eq_1] at h
 refine aL ?_
 refine aE dCo rfl fun K hK=>?_;conv=>whnf
 replace h:=cL h
 refine cLk h (fun _ h=>?_) (fun _ h=>?_)<;>(conv=>whnf)
 ·refine cLk h (fun _ h=>?_) (fun _ h=>?_)<;>(conv=>whnf)
  ·refine nlA rfl ?_;conv=>whnf
   refine bKo rfl ?_;conv=>whnf
   refine gKo rfl ?_;conv=>whnf
   refine hK _ _ _ ?_
   refine aQ fun K1 K2 hK1 hK2=>?_;conv=>whnf
   refine cLk h (fun _ h=>?_) (fun _ h=>?_)
   ·refine hK1 ?_
    refine aK ?_
    refine tHn ?_
    refine aL ?_
    refine aN ?_
    refine tC dCo eZ rfl (by kernel_rfl) fun K hK=>?_;conv=>whnf
    refine kU h fun _ h=>?_;conv=>whnf
    refine And.intro (by decide) ?_;conv=>whnf
    refine gKo rfl ?_;conv=>whnf
    refine nlA rfl ?_;conv=>whnf
    refine bKo rfl ?_;conv=>whnf
    refine gKo rfl ?_;conv=>whnf
    replace h:=bC h
    refine iI h37 h (WkL.refl _) (fun _ h=>?_);conv=>whnf
    refine hK _ _ _ ?_
    refine aAL dCo eZ rfl (by kernel_rfl) fun K hK=>?_;conv=>whnf
    refine nlA rfl ?_;conv=>whnf
    refine bKo rfl ?_;conv=>whnf
    refine gKo rfl ?_;conv=>whnf
    refine kU h fun _ h=>?_;conv=>whnf
    refine And.intro (by decide) ?_;conv=>whnf
    refine gKo rfl ?_;conv=>whnf
    refine nlA rfl ?_;conv=>whnf
    refine bKo rfl ?_;conv=>whnf
    refine gKo rfl ?_;conv=>whnf
    replace h:=bC h
    refine iI h37 h (WkL.refl _) (fun _ h=>?_);conv=>whnf
    refine nlA rfl ?_;conv=>whnf
    refine bKo rfl ?_;conv=>whnf
    refine gKo rfl ?_;conv=>whnf
    refine cO h fun _ h=>?_;conv=>whnf
    refine cZ (enc:=dK) (d:=default) dCo h rfl rfl rfl ⟨nle rfl,nle rfl,rfl⟩ rfl ⟨⟨rfl,nle rfl⟩,trivial⟩ (fun h=>?_);conv=>whnf
    refine aBr (enc:=dK) (d:=default) dCo h rfl rfl rfl ⟨rfl,nle rfl,nle rfl,nle rfl,rfl⟩ (fun _=>rfl) (fun _=>rfl) (fun _=>nofun) rfl (rfl) (fun h=>?_);conv=>whnf
    refine bKo rfl ?_;conv=>whnf
    refine And.intro rfl (And.intro (nle rfl) (And.intro rfl ?_));conv=>whnf
    refine hK _ _ _ ?_
    refine iBn ?_
    refine tHn ?_
    refine cR dCo rfl fun K hK=>?_;conv=>whnf
    refine hK _ _ _ ?_
    refine tHn ?_
    replace h:=bU h
    refine ⟨_,h,?_⟩
    refine bM ?_;conv=>whnf
    exact And.intro rfl (And.intro (aLc wkI (aLc (wkr (lsL fun _=>(aO _))) (aLc (WkR.ptr (fun _=>rfl)) (aLc (WkR.ptr (fun _=>rfl)) aLn)))) (aLc ⟨some _,rfl,bRc rfl (cKc wkI (cKc (WkR.so (fun _=>rfl)) cKn))⟩ (aLc ⟨some _,rfl,bRc rfl (cKc wkI (cKc (wkr bW) cKn))⟩ (aLc ⟨some _,rfl,fZ rfl (fun _=>(lsC (lsI _ _) (lsC (lsI _ _) lsN)))⟩ aLn))))
   refine hK2 ?_
   refine bO ?_
   refine bD ?_
   refine bD ?_
   refine bA ?_
   replace h:=dT h
   replace h:=dU h
   refine tHn ?_
   refine aE dCo rfl fun K hK=>?_;conv=>whnf
   refine nlA rfl ?_;conv=>whnf
   refine bKo rfl ?_;conv=>whnf
   refine nlA rfl ?_;conv=>whnf
   refine bKo rfl ?_;conv=>whnf
   refine And.intro rfl (And.intro (nle rfl) (And.intro rfl ?_));conv=>whnf
   refine hK _ _ _ ?_
   refine aD ?_
   replace h:=aB h
   refine uW dCo fun K hK=>?_;conv=>whnf
   refine nlA rfl ?_;conv=>whnf
   refine bKo rfl ?_;conv=>whnf
   refine nlA rfl ?_;conv=>whnf
   refine hK _ ?_
   cases h
   refine ⟨rfl,rfl,rfl,(aBA (lU (kY (Wk.refl _) (lsI _ _)) (lU (vJ (aEN (k:=0) rfl) rfl) qK))),fun k n x h1 h2=>?_⟩
   exact match k,n,x,h1,h2 with | 0,n,x,h1,h2=>by cases h1;cases h2;exact ⟨_,rfl,wW (fun _=>(lsC (lsI _ _) (lsC (lsI _ _) lsN))) _⟩ | k+1,n,x,h1,h2=>by cases h1
  refine hK _ _ _ ?_
  refine aQ fun K1 K2 hK1 hK2=>?_;conv=>whnf
  refine hK2 ?_
  replace h:=vI h
  refine bO ?_
  refine bD ?_
  refine bD ?_
  refine bA ?_
  replace h:=dT h
  replace h:=dU h
  refine tHn ?_
  refine aE dCo rfl fun K hK=>?_;conv=>whnf
  refine nlA rfl ?_;conv=>whnf
  refine bKo rfl ?_;conv=>whnf
  refine nlA rfl ?_;conv=>whnf
  refine bKo rfl ?_;conv=>whnf
  refine And.intro rfl (And.intro (nle rfl) (And.intro rfl ?_));conv=>whnf
  refine hK _ _ _ ?_
  refine aD ?_
  replace h:=aB h
  refine uW dCo fun K hK=>?_;conv=>whnf
  refine nlA rfl ?_;conv=>whnf
  refine bKo rfl ?_;conv=>whnf
  refine nlA rfl ?_;conv=>whnf
  refine hK _ ?_
  cases h
  refine ⟨rfl,rfl,rfl,(aBA (lU (kY (Wk.refl _) (lsI _ _)) (lU (vJ (aEN (k:=0) rfl) rfl) qK))),fun k n x h1 h2=>?_⟩
  exact match k,n,x,h1,h2 with | 0,n,x,h1,h2=>by cases h1;cases h2;exact ⟨_,rfl,wW (fun _=>(lsC (lsI _ _) (lsC (lsI _ _) lsN))) _⟩ | k+1,n,x,h1,h2=>by cases h1
 refine hK _ _ _ ?_
 refine aQ fun K1 K2 hK1 hK2=>?_;conv=>whnf
 refine hK2 ?_
 replace h:=vI h
 refine bO ?_
 refine bD ?_
 refine bD ?_
 refine bA ?_
 replace h:=dT h
 replace h:=dU h
 refine tHn ?_
 refine aE dCo rfl fun K hK=>?_;conv=>whnf
 refine nlA rfl ?_;conv=>whnf
 refine bKo rfl ?_;conv=>whnf
 refine nlA rfl ?_;conv=>whnf
 refine bKo rfl ?_;conv=>whnf
 refine And.intro rfl (And.intro (nle rfl) (And.intro rfl ?_));conv=>whnf
 refine hK _ _ _ ?_
 refine aD ?_
 replace h:=aB h
 refine uW dCo fun K hK=>?_;conv=>whnf
 refine nlA rfl ?_;conv=>whnf
 refine bKo rfl ?_;conv=>whnf
 refine nlA rfl ?_;conv=>whnf
 refine hK _ ?_
 cases h
 refine ⟨rfl,rfl,rfl,(aBA (lU (kY (Wk.refl _) (lsI _ _)) (lU (vJ (aEN (k:=0) rfl) rfl) qK))),fun k n x h1 h2=>?_⟩
 exact match k,n,x,h1,h2 with | 0,n,x,h1,h2=>by cases h1;cases h2;exact ⟨_,rfl,wW (fun _=>(lsC (lsI _ _) (lsC (lsI _ _) lsN))) _⟩ | k+1,n,x,h1,h2=>by cases h1
  def gE (s19:(List Int)×Int×(List Int)) (s21:Int×aP):Option (Ct (Int×aP) aP):=cn (decide (s21.1<(s21.2.Pairs.length:Int))) (gd ((0:Int)≤s21.1∧s21.1<(s21.2.Pairs.length:Int)) (gd ((0:Int)≤(s21.2.Pairs.getD (s21.1).toNat default).1∧(s21.2.Pairs.getD (s21.1).toNat default).1<(s19.1.length:Int)) (gd ((0:Int)≤(s21.2.Pairs.getD (s21.1).toNat default).2∧(s21.2.Pairs.getD (s21.1).toNat default).2<(s19.1.length:Int)) (jn (fun p22:aP=>
  some (.nx ((wr (s21.1+1)),p22))) fun k23=>cn (decide ((s19.1.getD ((s21.2.Pairs.getD (s21.1).toNat default).1).toNat default) >
  (s19.1.getD ((s21.2.Pairs.getD (s21.1).toNat default).2).toNat default))) (gd ((0:Int)≤s21.1∧s21.1<(s21.2.Pairs.length:Int)) (st s21.2.Pairs (s21.1) ((s21.2.Pairs.getD (s21.1).toNat default).2,(s21.2.Pairs.getD (s21.1).toNat default).1) fun l24=>
  k23 (⟨s21.2.N,l24⟩:aP))) (k23 s21.2))))) (some (.bk (s21.1,s21.2)))
def iA (s9:(List Int)×Int×(List Int)):Option (Ct ((List Int)×Int×(List Int)) aP):=cn (decide ((s9.2.2.length:Int) >
  0)) (gd ((s9.2.2.length:Int)≠0) (let v10:=(Int.tmod s9.2.1 (s9.2.2.length:Int));gd ((s9.2.2.length:Int)≠0) (let v11:=(wr (Int.tdiv s9.2.1 (s9.2.2.length:Int)));
  ix s9.2.2 default v10 fun e12=>lt ([e12]:List Int) fun l13=>ap s9.1 l13 fun l14=>slc s9.2.2 0 v10 fun l15=>slc s9.2.2 (wr (v10+1)) (s9.2.2.length:Int) fun l16=>
  ap l15 l16 fun l17=>some (.nx (l14,v11,l17))))) (some (.bk (s9.1,s9.2.1,s9.2.2)))
def gC (y1:aP) (s3:(List Int)×Int):Option (Ct ((List Int)×Int) aP):=cn (decide (s3.2<y1.N)) (lt ([s3.2]:List Int) fun l4=>ap s3.1 l4 fun l5=>
  some (.nx (l5,(wr (s3.2+1))))) (some (.bk (s3.1,s3.2)))
def hZ (a0:Int) (a1:List (Int×Int)) (a2:Int):Option aP:=bd (gA a0 a1) fun y1=>bd (fD a2 40320) fun y2=>
  bd (lp (gC y1) FU ([],0)) fun c6=>smK c6 (fun s7=>bd (lp (iA) FU ([],y2,s7.1)) fun c18=>smK c18 (fun s19=>
  bd (lp (gE s19) FU (0,(⟨y1.N,y1.Pairs⟩:aP))) fun c25=>smK c25 (fun s26=>some (⟨s26.2.N,s26.2.Pairs⟩:aP)) (fun r27=>some r27)) (fun r20=>
  some r20)) (fun r8=>some r8)
def jO:List AV→AV→Prop:=fun args r=>∃ a0 a1 a2,args=[eI a0,(eL 2 dK default) a1,eI a2]∧W (hZ a0 a1 a2) fun y=>r=(bN y)
theorem yG {T:Tbl} (hT:TOk Tryd.prog T) (hpf:cP T PF) (h17:T 17=aCk iD eQ iJ) (h37:T 37=aS hO):FOk Tryd.prog 12 (aS jO):=by
 refine bJ hT hpf Tryd.func12 rfl Tryd.ntmps12 Tryd.results12 (by decide) ?_
 rintro args r ⟨a0,a1,a2,rfl,h⟩
 refine ⟨nle rfl,?_,?_⟩
 ·exact (lsC (lsI _ _) (lsC (lsL fun _=>(aO _)) (lsC (lsI _ _) lsN)))
 rw [hZ.eq_1] at h
 refine aE dCo rfl fun K hK=>?_;conv=>whnf
 refine hK _ _ _ ?_
 refine aE dCo rfl fun K hK=>?_;conv=>whnf
 refine sH h17 h (fun y e=>(⟨_,_,rfl,e⟩:iJ _ _)) (WkL.refl _) (fun _ h=>?_);conv=>whnf
 refine bKo rfl ?_;conv=>whnf
 refine And.intro rfl (And.intro (nle rfl) (And.intro rfl ?_));conv=>whnf
 refine hK _ _ _ ?_
 refine aE dCo rfl fun K hK=>?_;conv=>whnf
 refine hK _ _ _ ?_
 refine aE dCo rfl fun K hK=>?_;conv=>whnf
 replace h:=bC h
 refine iI h37 h (WkL.refl _) (fun _ h=>?_);conv=>whnf
 refine hK _ _ _ ?_
 refine aE dCo rfl fun K hK=>?_;conv=>whnf
 refine hK _ _ _ ?_
 refine aL ?_
 refine aE dCo rfl fun K hK=>?_;conv=>whnf
 refine hK _ _ _ ?_
 refine aN ?_
 replace h:=bC h
 refine aB9 (body:=gC _) rfl h [6,7,8,9] (fun σ=>oI σ [6,7]++qV σ []) (fun σ=>qV σ [(7,1)]++oI σ []++aBT σ []) [] (fun kl kh kr ids b s=>⟨ofL ([(10,.so (b+0) 0 s.1.length 1),(11,eI s.2)]++kl),ofH (([]++kh)++([(b+0,.cells (flE (ceE eI) s.1))]++kr)),b+128⟩) ?_;(conv=>whnf);refine And.intro ?_ (fun s m h=>dP ?_)
 ·refine bM ?_;conv=>whnf
  exact And.intro rfl (And.intro (aLc (WkR.nilso (fun _=>rfl)) (aLc wkI (aLc (WkR.ptr (fun _=>rfl)) (aLc (WkR.ptr (fun _=>rfl)) (aLc (wkr bW) (aLc wkI aLn)))))) (aLc ⟨some _,rfl,bRc rfl (cKc wkI (cKc (wkr bW) cKn))⟩ (aLc ⟨some _,rfl,bRc rfl (cKc wkI (cKc (WkR.so (fun _=>rfl)) cKn))⟩ (aLc ⟨none,rfl,aBc⟩ (aLc ⟨some _,rfl,fZ rfl (fun _=>(lsC (lsI _ _) (lsC (lsI _ _) lsN)))⟩ aLn)))))
 replace h:=bC h;rw [gC.eq_1] at h
 refine aL ?_
 refine aE dCo rfl fun K hK=>?_;conv=>whnf
 refine nlA rfl ?_;conv=>whnf
 refine bKo rfl ?_;conv=>whnf
 refine gKo rfl ?_;conv=>whnf
 refine hK _ _ _ ?_
 refine aQ fun K1 K2 hK1 hK2=>?_;conv=>whnf
 refine cLk h (fun _ h=>?_) (fun _ h=>?_)
 ·refine hK1 ?_
  refine aK ?_
  refine tHn ?_
  refine aL ?_
  refine aN ?_
  refine cR dCo rfl fun K hK=>?_;conv=>whnf
  refine cZ (enc:=eI) (d:=default) dCo h rfl rfl rfl ⟨nle rfl,nle rfl,rfl⟩ rfl ⟨⟨rfl,rfl,rfl⟩,trivial⟩ (fun h=>?_);conv=>whnf
  refine aBr (enc:=eI) (d:=default) dCo h rfl rfl rfl ⟨rfl,nle rfl,nle rfl,nle rfl,rfl⟩ (fun _=>rfl) (fun _=>rfl) (fun _=>nofun) rfl (rfl) (fun h=>?_);conv=>whnf
  refine hK _ _ _ ?_
  refine iBn ?_
  refine tHn ?_
  refine cR dCo rfl fun K hK=>?_;conv=>whnf
  refine hK _ _ _ ?_
  refine tHn ?_
  replace h:=bU h
  refine ⟨_,h,?_⟩
  refine bM ?_;conv=>whnf
  exact And.intro rfl (And.intro (aLc (WkR.so (fun _=>rfl)) (aLc wkI (aLc (WkR.ptr (fun _=>rfl)) (aLc (WkR.ptr (fun _=>rfl)) (aLc (wkr bW) (aLc wkI aLn)))))) (aLc ⟨some _,rfl,bRc rfl (cKc wkI (cKc (wkr bW) cKn))⟩ (aLc ⟨some _,rfl,bRc rfl (cKc wkI (cKc (WkR.so (fun _=>rfl)) cKn))⟩ (aLc ⟨some _,rfl,fZ rfl (fun _=>(lsC (lsI _ _) lsN))⟩ (aLc ⟨some _,rfl,fZ rfl (fun _=>(lsC (lsI _ _) (lsC (lsI _ _) lsN)))⟩ aLn)))))
 refine hK2 ?_
 refine bO ?_
 refine bD ?_
 refine bD ?_
 refine bA ?_
 replace h:=dT h
 replace h:=dU h
 refine tHn ?_
 refine aL ?_
 refine nM 10 (enc:=eI) (e:=3) default (lT dCo rfl rfl rfl (fun _=>⟨rfl,rfl⟩)) ?_;(conv=>whnf);refine ⟨_,_,rfl,rfl,rfl,?_⟩
 refine aN ?_
 replace h:=bC h
 refine aB9 (body:=iA) rfl h [6,7] (fun σ=>oI σ [6,7]++qV σ []) (fun σ=>qV σ [(7,1)]++oI σ []++aBT σ []) [] (fun kl kh kr ids b s=>⟨ofL ([(8,.so (b+0) 0 s.1.length 1),(9,eI s.2.1),(10,(eL 1 eI default) s.2.2)]++kl),ofH (([]++kh)++([(b+0,.cells (flE (ceE eI) s.1))]++kr)),b+128⟩) ?_;(conv=>whnf);refine And.intro ?_ (fun s m h=>dP ?_)
 ·refine bM ?_;conv=>whnf
  exact And.intro rfl (And.intro (aLc (WkR.nilso (fun _=>rfl)) (aLc wkI (aLc (wkr (lsL fun _=>(lsI _ _))) (aLc (WkR.ptr (fun _=>rfl)) (aLc (WkR.ptr (fun _=>rfl)) aLn))))) (aLc ⟨some _,rfl,bRc rfl (cKc wkI (cKc (wkr bW) cKn))⟩ (aLc ⟨some _,rfl,bRc rfl (cKc wkI (cKc (WkR.so (fun _=>rfl)) cKn))⟩ (aLc ⟨none,rfl,aBc⟩ (aLc ⟨some _,rfl,fZ rfl (fun _=>(lsC (lsI _ _) (lsC (lsI _ _) lsN)))⟩ aLn)))))
 replace h:=bC h;rw [iA.eq_1] at h
 refine aL ?_
 refine aE dCo rfl fun K hK=>?_;conv=>whnf
 refine hK _ _ _ ?_
 refine aQ fun K1 K2 hK1 hK2=>?_;conv=>whnf
 refine cLk h (fun _ h=>?_) (fun _ h=>?_)
 ·refine hK1 ?_
  refine aK ?_
  refine tHn ?_
  refine aN ?_
  refine aE dCo rfl fun K hK=>?_;conv=>whnf
  refine cO h fun _ h=>?_;conv=>whnf
  refine hK _ _ _ ?_
  refine aE dCo rfl fun K hK=>?_;conv=>whnf
  refine cO h fun _ h=>?_;conv=>whnf
  refine hK _ _ _ ?_
  refine aE dCo rfl fun K hK=>?_;conv=>whnf
  refine kU h fun _ h=>?_;conv=>whnf
  refine gKo rfl ?_;conv=>whnf
  refine cZ (enc:=eI) (d:=default) dCo h rfl rfl rfl ⟨nle rfl,nle rfl,rfl⟩ rfl ⟨⟨rfl,rfl,rfl⟩,trivial⟩ (fun h=>?_);conv=>whnf
  refine aBr (enc:=eI) (d:=default) dCo h rfl rfl rfl ⟨rfl,nle rfl,nle rfl,nle rfl,rfl⟩ (fun _=>rfl) (fun _=>rfl) (fun _=>nofun) rfl (rfl) (fun h=>?_);conv=>whnf
  refine hK _ _ _ ?_
  refine aAL dCo eZ rfl (by kernel_rfl) fun K hK=>?_;conv=>whnf
  refine aIN h (.inl ⟨rfl,rfl⟩) (fun h=>?_);conv=>whnf
  refine aKv h (.inr ⟨_,rfl⟩) (.inl ⟨rfl,rfl⟩) (fun h=>?_);conv=>whnf
  refine dI (enc:=eI) (d:=default) dCo h (.inl rfl) rfl rfl rfl ⟨rfl,nle rfl,nle rfl,nle rfl,rfl⟩ (fun _=>rfl) (.inr (.inl ⟨rfl,rfl⟩)) (fun h=>?_);conv=>whnf
  refine hK _ _ _ ?_
  refine iBn ?_
  refine tHn ?_
  replace h:=bU h
  refine ⟨_,h,?_⟩
  refine bM ?_;conv=>whnf
  exact And.intro rfl (And.intro (aLc (WkR.so (fun _=>rfl)) (aLc wkI (aLc (WkR.wk aW (lsL fun _=>(lsI _ _))) (aLc (WkR.ptr (fun _=>rfl)) (aLc (WkR.ptr (fun _=>rfl)) aLn))))) (aLc ⟨some _,rfl,bRc rfl (cKc wkI (cKc (wkr bW) cKn))⟩ (aLc ⟨some _,rfl,bRc rfl (cKc wkI (cKc (WkR.so (fun _=>rfl)) cKn))⟩ (aLc ⟨some _,rfl,fZ rfl (fun _=>(lsC (lsI _ _) lsN))⟩ (aLc ⟨some _,rfl,fZ rfl (fun _=>(lsC (lsI _ _) (lsC (lsI _ _) lsN)))⟩ aLn)))))
 refine hK2 ?_
 refine bO ?_
 refine bD ?_
 refine bD ?_
 refine bA ?_
 replace h:=dT h
 replace h:=dU h
 refine tHn ?_
 refine aL ?_
 refine aE dCo rfl fun K hK=>?_;conv=>whnf
 refine hK _ _ _ ?_
 refine aN ?_
 replace h:=bC h
 refine gQ (body:=gE _) rfl h [6,7,8] [6] [8] [7] (fun kl kh kr ids b s=>⟨ofL ([(13,eI s.1)]++kl),ofH (([(aAH ids 0,.cells [eI s.2.N,.so (b+0) 0 s.2.Pairs.length 2])]++kh)++([(b+0,.cells (flE (ceE dK) s.2.Pairs))]++kr)),b+128⟩) ?_;(conv=>whnf);refine And.intro ?_ (fun s m h=>dP ?_)
 ·refine bM ?_;conv=>whnf
  exact And.intro rfl (And.intro (aLc wkI (aLc (WkR.ptr (fun _=>rfl)) (aLc (WkR.ptr (fun _=>rfl)) (aLc (WkR.so (fun _=>rfl)) aLn)))) (aLc ⟨some _,rfl,bRc rfl (cKc wkI (cKc (WkR.so (fun _=>rfl)) cKn))⟩ (aLc ⟨some _,rfl,bRc rfl (cKc wkI (cKc (wkr bW) cKn))⟩ (aLc ⟨some _,rfl,fZ rfl (fun _=>(lsC (lsI _ _) (lsC (lsI _ _) lsN)))⟩ (aLc ⟨some _,rfl,fZ rfl (fun _=>(lsC (lsI _ _) lsN))⟩ aLn)))))
 replace h:=bC h;rw [gE.eq_1] at h
 refine aL ?_
 refine aE dCo rfl fun K hK=>?_;conv=>whnf
 refine nlA rfl ?_;conv=>whnf
 refine bKo rfl ?_;conv=>whnf
 refine gKo rfl ?_;conv=>whnf
 refine hK _ _ _ ?_
 refine aQ fun K1 K2 hK1 hK2=>?_;conv=>whnf
 refine cLk h (fun _ h=>?_) (fun _ h=>?_)
 ·refine hK1 ?_
  refine aK ?_
  refine tHn ?_
  refine aL ?_
  refine aN ?_
  refine aE dCo rfl fun K hK=>?_;conv=>whnf
  refine nlA rfl ?_;conv=>whnf
  refine bKo rfl ?_;conv=>whnf
  refine gKo rfl ?_;conv=>whnf
  refine pX h (rfl) fun hx115 h=>?_;conv=>whnf
  refine nlA rfl ?_;conv=>whnf
  refine bKo rfl ?_;conv=>whnf
  refine aFN (enc:=dK) (d:=default) (fun _=>rfl) (rfl) hx115 ?_;conv=>whnf
  refine bKo rfl ?_;conv=>whnf
  refine And.intro rfl (And.intro (nle rfl) (And.intro rfl ?_));conv=>whnf
  refine hK _ _ _ ?_
  refine tC dCo eZ rfl (by kernel_rfl) fun K hK=>?_;conv=>whnf
  refine And.intro (by decide) ?_;conv=>whnf
  refine nlA rfl ?_;conv=>whnf
  refine bKo rfl ?_;conv=>whnf
  refine gKo rfl ?_;conv=>whnf
  refine pX h (rfl) fun hx116 h=>?_;conv=>whnf
  refine nlA rfl ?_;conv=>whnf
  refine bKo rfl ?_;conv=>whnf
  refine qH (enc:=eI) (d:=default) (q:=0) (fun _=>rfl) (rfl) hx116 (nle rfl) rfl ?_;conv=>whnf
  refine And.intro (by decide) ?_;conv=>whnf
  refine nlA rfl ?_;conv=>whnf
  refine bKo rfl ?_;conv=>whnf
  refine gKo rfl ?_;conv=>whnf
  refine pX h (rfl) fun hx117 h=>?_;conv=>whnf
  refine nlA rfl ?_;conv=>whnf
  refine bKo rfl ?_;conv=>whnf
  refine qH (enc:=eI) (d:=default) (q:=0) (fun _=>rfl) (rfl) hx117 (nle rfl) rfl ?_;conv=>whnf
  refine hK _ _ _ ?_
  replace h:=cL h
  refine aQ fun K1 K2 hK1 hK2=>?_;conv=>whnf
  refine cLk h (fun _ h=>?_) (fun _ h=>?_)
  ·refine hK1 ?_
   refine cR dCo rfl fun K hK=>?_;conv=>whnf
   refine nlA rfl ?_;conv=>whnf
   refine bKo rfl ?_;conv=>whnf
   refine gKo rfl ?_;conv=>whnf
   refine And.intro (by decide) ?_;conv=>whnf
   refine nlA rfl ?_;conv=>whnf
   refine bKo rfl ?_;conv=>whnf
   refine gKo rfl ?_;conv=>whnf
   refine And.intro (by decide) ?_;conv=>whnf
   refine nlA rfl ?_;conv=>whnf
   refine bKo rfl ?_;conv=>whnf
   refine gKo rfl ?_;conv=>whnf
   refine pX h (rfl) fun hx119 h=>?_;conv=>whnf
   refine bKo rfl ?_;conv=>whnf
   refine aHZ (enc:=dK) (d:=default) (q:=0) h (fun _=>rfl) (rfl) hx119 rfl (nle rfl) rfl rfl (fun h=>?_);conv=>whnf
   refine hK _ _ _ ?_
   refine iBn ?_
   refine tHn ?_
   refine cR dCo rfl fun K hK=>?_;conv=>whnf
   refine hK _ _ _ ?_
   refine tHn ?_
   replace h:=bU h
   refine ⟨_,h,?_⟩
   refine bM ?_;conv=>whnf
   exact And.intro rfl (And.intro (aLc wkI (aLc (WkR.ptr (fun _=>rfl)) (aLc (WkR.ptr (fun _=>rfl)) (aLc (WkR.so (fun _=>rfl)) aLn)))) (aLc ⟨some _,rfl,bRc rfl (cKc wkI (cKc (WkR.soN (fun _=>rfl) (aGp rfl).symm) cKn))⟩ (aLc ⟨some _,rfl,bRc rfl (cKc wkI (cKc (wkr bW) cKn))⟩ (aLc ⟨some _,rfl,fZ rfl (fun _=>(lsC (lsI _ _) (lsC (lsI _ _) lsN)))⟩ (aLc ⟨some _,rfl,fZ rfl (fun _=>(lsC (lsI _ _) lsN))⟩ aLn)))))
  refine hK2 ?_
  refine aK ?_
  refine iBn ?_
  refine tHn ?_
  refine cR dCo rfl fun K hK=>?_;conv=>whnf
  refine hK _ _ _ ?_
  refine tHn ?_
  replace h:=bU h
  refine ⟨_,h,?_⟩
  refine bM ?_;conv=>whnf
  exact And.intro rfl (And.intro (aLc wkI (aLc (WkR.ptr (fun _=>rfl)) (aLc (WkR.ptr (fun _=>rfl)) (aLc (WkR.so (fun _=>rfl)) aLn)))) (aLc ⟨some _,rfl,bRc rfl (cKc wkI (cKc (WkR.so (fun _=>rfl)) cKn))⟩ (aLc ⟨some _,rfl,bRc rfl (cKc wkI (cKc (wkr bW) cKn))⟩ (aLc ⟨some _,rfl,fZ rfl (fun _=>(lsC (lsI _ _) (lsC (lsI _ _) lsN)))⟩ (aLc ⟨some _,rfl,fZ rfl (fun _=>(lsC (lsI _ _) lsN))⟩ aLn)))))
 refine hK2 ?_
 refine bO ?_
 refine bD ?_
 refine bD ?_
 refine bA ?_
 replace h:=dT h
 replace h:=dU h
 refine tHn ?_
 refine aCA 7 1 (enc:=dK) (e:=46) default (aFE dCo rfl rfl (fun _=>rfl) (fun _=>rfl)) ?_;(conv=>whnf);refine ⟨_,_,_,(Nat.ne_of_beq_eq_false rfl),rfl,rfl,rfl,rfl,?_⟩;conv=>whnf
 refine aE dCo rfl fun K hK=>?_;conv=>whnf
 refine nlA rfl ?_;conv=>whnf
 refine bKo rfl ?_;conv=>whnf
 refine nlA rfl ?_;conv=>whnf
 refine bKo rfl ?_;conv=>whnf
 refine And.intro rfl (And.intro (nle rfl) (And.intro rfl ?_));conv=>whnf
 refine hK _ _ _ ?_
 refine aD ?_
 replace h:=aB h
 refine aA dCo fun K hK=>?_;conv=>whnf
 refine nlA rfl ?_;conv=>whnf
 refine bKo rfl ?_;conv=>whnf
 refine nlA rfl ?_;conv=>whnf
 refine hK _ ?_
 cases h
 exact Wk.refl _
theorem uP {T:Tbl} (hT:T 12=aS jO) {args:List AV} {hp:aX} {id:Nat} {k:AV→Prop} {a0:Int} {a1:List (Int×Int)} {a2:Int} {Φ:aP→Prop} (h:W (hZ a0 a1 a2) Φ) (hw:WkL args [eI a0,(eL 2 dK default) a1,eI a2]) (hk:∀ y,Φ y→k (bN y)):cU T 12 args hp id k:=by
 obtain ⟨y,e,hy⟩:=fB h
 exact aZ hT ⟨a0,a1,a2,rfl,kD e rfl⟩ (by exact (bZ _)) hw (hk y hy)
  def lE (a0:aP) (s1:(List Int)) (s2:(List Int)×Int) (s4:Bool×Int):Option (Ct (Bool×Int) (List Int)):=cn (decide (s4.2<a0.N)) (jn (fun p5:Bool=>
  some (.nx (p5,(wr (s4.2+1))))) fun k6=>cn s4.1 (bd (mR s1 s4.2) fun y7=>cn y7 (k6 true) (bd (cH a0 s4.2 s2.2) fun y8=>
  k6 (!y8))) (k6 false)) (some (.bk (s4.1,s4.2)))
  def kZ (a0:aP) (s1:(List Int)) (s2:(List Int)×Int):Option (Ct ((List Int)×Int) (List Int)):=cn (decide (s2.2<a0.N)) (bd (mR s1 s2.2) fun y3=>
  bd (lp (lE a0 s1 s2) FU ((!y3),0)) fun c9=>smK c9 (fun s10=>jn (fun p12:(List Int)=>some (.nx (p12,(wr (s2.2+1))))) fun k13=>
  cn s10.1 (lt ([s2.2]:List Int) fun l14=>ap s2.1 l14 fun l15=>k13 l15) (k13 s2.1)) (fun r11=>some (.rt r11))) (some (.bk (s2.1,s2.2)))
  def lH (a0:aP) (a1:List Int) (s1:(List Int)):Option (Ct ((List Int)) (List Int)):=cn (decide ((s1.length:Int)<a0.N)) (bd (lp (kZ a0 s1) FU ([],0)) fun c16=>
  smK c16 (fun s17=>cn ((s17.1.length:Int)==0) (some (.rt s1)) (jn (fun p19:Int=>ix s17.1 default p19 fun e23=>lt ([e23]:List Int) fun l24=>ap s1 l24 fun l25=>
  some (.nx l25)) fun k20=>cn (decide ((s1.length:Int)<(a1.length:Int))) (ix a1 default (s1.length:Int) fun e21=>bd (dZ e21 (s17.1.length:Int)) fun y22=>
  k20 y22) (k20 0))) (fun r18=>some (.rt r18))) (some (.bk s1))
def pY (a0:aP) (a1:List Int):Option (List Int):=bd (lp (lH a0 a1) FU ([])) fun c26=>smK c26 (fun s27=>some s27) (fun r28=>some r28)
def lY:List AV→AV→Prop:=fun args r=>∃ a0 a1,args=[bN a0,(eL 1 eI default) a1]∧W (pY a0 a1) fun y=>r=((eL 1 eI default) y)
theorem vK {T:Tbl} (hT:TOk Tryd.prog T) (hpf:cP T PF) (h13:T 13=aS hG) (h23:T 23=aS mL) (h27:T 27=aS eC):FOk Tryd.prog 21 (aS lY):=by
 refine bJ hT hpf Tryd.func21 rfl Tryd.ntmps21 Tryd.results21 (by decide) ?_
 rintro args r ⟨a0,a1,rfl,h⟩
 refine ⟨nle rfl,?_,?_⟩
 ·exact (lsC (bZ _) (lsC (lsL fun _=>(lsI _ _)) lsN))
 rw [pY.eq_1] at h
 refine aE dCo rfl fun K hK=>?_;conv=>whnf
 refine hK _ _ _ ?_
 refine aE dCo rfl fun K hK=>?_;conv=>whnf
 refine hK _ _ _ ?_
 refine aL ?_
 refine aN ?_
 replace h:=bC h
 refine jR (body:=lH _ _) rfl h [1,2] [2] [] (fun kl kh ids b s=>⟨ofL ([(5,.lst (.tok (b+0)) 1 s.length (fun j=>eI (s.getD j default)))]++kl),ofH ([(b+0,.cells [])]++kh),b+128⟩) ?_;(conv=>whnf);refine And.intro ?_ (fun s m h=>dP ?_)
 ·refine bG ?_;conv=>whnf
  exact And.intro rfl (And.intro (aLc (WkR.nil (fun _=>rfl)) (aLc (wkr (lsL fun _=>(lsI _ _))) (aLc (WkR.ptr (fun _=>rfl)) aLn))) (aLc ⟨none,rfl,sG⟩ (aLc ⟨some _,rfl,bRc rfl (cKc wkI (cKc (wkr (lsL fun _=>(aO _))) cKn))⟩ aLn)))
 replace h:=bC h;rw [lH.eq_1] at h
 refine aL ?_
 refine aE dCo rfl fun K hK=>?_;conv=>whnf
 refine nlA rfl ?_;conv=>whnf
 refine bKo rfl ?_;conv=>whnf
 refine gKo rfl ?_;conv=>whnf
 refine hK _ _ _ ?_
 refine aQ fun K1 K2 hK1 hK2=>?_;conv=>whnf
 refine cLk h (fun _ h=>?_) (fun _ h=>?_)
 ·refine hK1 ?_
  refine aK ?_
  refine tHn ?_
  refine aN ?_
  refine aE dCo rfl fun K hK=>?_;conv=>whnf
  refine hK _ _ _ ?_
  refine aL ?_
  refine aE dCo rfl fun K hK=>?_;conv=>whnf
  refine hK _ _ _ ?_
  refine aN ?_
  replace h:=bC h
  refine jR (body:=kZ _ _) rfl h [1,2,5] [2,5] [] (fun kl kh ids b s=>⟨ofL ([(6,.lst (.tok (b+0)) 1 s.1.length (fun j=>eI (s.1.getD j default))),(7,eI s.2)]++kl),ofH ([(b+0,.cells [])]++kh),b+128⟩) ?_;(conv=>whnf);refine And.intro ?_ (fun s m h=>dP ?_)
  ·refine bG ?_;conv=>whnf
   exact And.intro rfl (And.intro (aLc (WkR.nil (fun _=>rfl)) (aLc wkI (aLc (wkr (lsL fun _=>(lsI _ _))) (aLc (WkR.ptr (fun _=>rfl)) (aLc (WkR.tok (fun _=>rfl) rfl (fun _ _=>Wk.refl _) (fun _=>(lsI _ _))) aLn))))) (aLc ⟨none,rfl,sG⟩ (aLc ⟨some _,rfl,bRc rfl (cKc wkI (cKc (wkr (lsL fun _=>(aO _))) cKn))⟩ (aLc ⟨some _,rfl,bRc rfl cKn⟩ aLn))))
  replace h:=bC h;rw [kZ.eq_1] at h
  refine aL ?_
  refine aE dCo rfl fun K hK=>?_;conv=>whnf
  refine nlA rfl ?_;conv=>whnf
  refine bKo rfl ?_;conv=>whnf
  refine gKo rfl ?_;conv=>whnf
  refine hK _ _ _ ?_
  refine aQ fun K1 K2 hK1 hK2=>?_;conv=>whnf
  refine cLk h (fun _ h=>?_) (fun _ h=>?_)
  ·refine hK1 ?_
   refine aK ?_
   refine tHn ?_
   refine aL ?_
   refine aN ?_
   refine aE dCo rfl fun K hK=>?_;conv=>whnf
   replace h:=bC h
   refine qW h23 h (aF aW (aF (Wk.refl _) aJ)) (fun _ h=>?_);conv=>whnf
   refine hK _ _ _ ?_
   refine aL ?_
   refine aE dCo rfl fun K hK=>?_;conv=>whnf
   refine hK _ _ _ ?_
   refine aN ?_
   replace h:=bC h
   refine jR (body:=lE _ _ _) rfl h [1,2,5,6,7] [2,5,6] [] (fun kl kh ids b s=>⟨ofL ([(8,eB s.1),(9,eI s.2)]++kl),ofH ([]++kh),b+64⟩) ?_;(conv=>whnf);refine And.intro ?_ (fun s m h=>dP ?_)
   ·refine bG ?_;conv=>whnf
    exact And.intro rfl (And.intro (aLc (wkr (lsB _)) (aLc wkI (aLc (wkr (lsL fun _=>(lsI _ _))) (aLc (WkR.ptr (fun _=>rfl)) (aLc (WkR.tok (fun _=>rfl) rfl (fun _ _=>Wk.refl _) (fun _=>(lsI _ _))) (aLc (WkR.tok (fun _=>rfl) rfl (fun _ _=>Wk.refl _) (fun _=>(lsI _ _))) (aLc wkI aLn))))))) (aLc ⟨some _,rfl,bRc rfl (cKc wkI (cKc (wkr (lsL fun _=>(aO _))) cKn))⟩ (aLc ⟨some _,rfl,bRc rfl cKn⟩ (aLc ⟨some _,rfl,bRc rfl cKn⟩ aLn))))
   replace h:=bC h;rw [lE.eq_1] at h
   refine aL ?_
   refine aE dCo rfl fun K hK=>?_;conv=>whnf
   refine nlA rfl ?_;conv=>whnf
   refine bKo rfl ?_;conv=>whnf
   refine gKo rfl ?_;conv=>whnf
   refine hK _ _ _ ?_
   refine aQ fun K1 K2 hK1 hK2=>?_;conv=>whnf
   refine cLk h (fun _ h=>?_) (fun _ h=>?_)
   ·refine hK1 ?_
    refine aK ?_
    refine tHn ?_
    refine aL ?_
    refine aN ?_
    refine cR dCo rfl fun K hK=>?_;conv=>whnf
    replace h:=cL h
    refine cLk h (fun _ h=>?_) (fun _ h=>?_)<;>(conv=>whnf)
    ·replace h:=bC h
     refine qW h23 h (aF aW (aF (Wk.refl _) aJ)) (fun _ h=>?_);conv=>whnf
     refine cLk h (fun _ h=>?_) (fun _ h=>?_)<;>(conv=>whnf)
     ·refine hK _ _ _ ?_
      refine iBn ?_
      refine tHn ?_
      refine cR dCo rfl fun K hK=>?_;conv=>whnf
      refine hK _ _ _ ?_
      refine tHn ?_
      replace h:=bU h
      refine ⟨_,h,?_⟩
      refine bG ?_;conv=>whnf
      exact And.intro rfl (And.intro (aLc (wkr (lsB _)) (aLc wkI (aLc (wkr (lsL fun _=>(lsI _ _))) (aLc (WkR.ptr (fun _=>rfl)) (aLc (WkR.tok (fun _=>rfl) rfl (fun _ _=>Wk.refl _) (fun _=>(lsI _ _))) (aLc (WkR.tok (fun _=>rfl) rfl (fun _ _=>Wk.refl _) (fun _=>(lsI _ _))) (aLc wkI aLn))))))) (aLc ⟨some _,rfl,bRc rfl (cKc wkI (cKc (wkr (lsL fun _=>(aO _))) cKn))⟩ (aLc ⟨some _,rfl,bRc rfl cKn⟩ (aLc ⟨some _,rfl,bRc rfl cKn⟩ aLn))))
     refine nlA rfl ?_;conv=>whnf
     refine bKo rfl ?_;conv=>whnf
     refine nlA rfl ?_;conv=>whnf
     replace h:=bC h
     refine aI h27 h (WkL.refl _) (fun _ h=>?_);conv=>whnf
     refine hK _ _ _ ?_
     refine iBn ?_
     refine tHn ?_
     refine cR dCo rfl fun K hK=>?_;conv=>whnf
     refine hK _ _ _ ?_
     refine tHn ?_
     replace h:=bU h
     refine ⟨_,h,?_⟩
     refine bG ?_;conv=>whnf
     exact And.intro rfl (And.intro (aLc (wkr (lsB _)) (aLc wkI (aLc (wkr (lsL fun _=>(lsI _ _))) (aLc (WkR.ptr (fun _=>rfl)) (aLc (WkR.tok (fun _=>rfl) rfl (fun _ _=>Wk.refl _) (fun _=>(lsI _ _))) (aLc (WkR.tok (fun _=>rfl) rfl (fun _ _=>Wk.refl _) (fun _=>(lsI _ _))) (aLc wkI aLn))))))) (aLc ⟨some _,rfl,bRc rfl (cKc wkI (cKc (wkr (lsL fun _=>(aO _))) cKn))⟩ (aLc ⟨some _,rfl,bRc rfl cKn⟩ (aLc ⟨some _,rfl,bRc rfl cKn⟩ aLn))))
    refine hK _ _ _ ?_
    refine iBn ?_
    refine tHn ?_
    refine cR dCo rfl fun K hK=>?_;conv=>whnf
    refine hK _ _ _ ?_
    refine tHn ?_
    replace h:=bU h
    refine ⟨_,h,?_⟩
    refine bG ?_;conv=>whnf
    exact And.intro rfl (And.intro (aLc (wkr (lsB _)) (aLc wkI (aLc (wkr (lsL fun _=>(lsI _ _))) (aLc (WkR.ptr (fun _=>rfl)) (aLc (WkR.tok (fun _=>rfl) rfl (fun _ _=>Wk.refl _) (fun _=>(lsI _ _))) (aLc (WkR.tok (fun _=>rfl) rfl (fun _ _=>Wk.refl _) (fun _=>(lsI _ _))) (aLc wkI aLn))))))) (aLc ⟨some _,rfl,bRc rfl (cKc wkI (cKc (wkr (lsL fun _=>(aO _))) cKn))⟩ (aLc ⟨some _,rfl,bRc rfl cKn⟩ (aLc ⟨some _,rfl,bRc rfl cKn⟩ aLn))))
   refine hK2 ?_
   refine bO ?_
   refine bD ?_
   refine bD ?_
   refine bA ?_
   replace h:=dT h
   replace h:=dU h
   refine tHn ?_
   refine aE dCo rfl fun K hK=>?_;conv=>whnf
   refine hK _ _ _ ?_
   replace h:=cL h
   refine aQ fun K1 K2 hK1 hK2=>?_;conv=>whnf
   refine cLk h (fun _ h=>?_) (fun _ h=>?_)
   ·refine hK1 ?_
    refine cR dCo rfl fun K hK=>?_;conv=>whnf
    refine cZ (enc:=eI) (d:=default) dCo h rfl rfl rfl ⟨nle rfl,nle rfl,rfl⟩ rfl ⟨⟨rfl,rfl,rfl⟩,trivial⟩ (fun h=>?_);conv=>whnf
    refine dI (enc:=eI) (d:=default) dCo h (.inl rfl) rfl rfl rfl ⟨rfl,nle rfl,nle rfl,nle rfl,rfl⟩ (fun _=>rfl) (.inr (.inr ⟨_,_,rfl,rfl,rfl⟩)) (fun h=>?_);conv=>whnf
    refine hK _ _ _ ?_
    refine iBn ?_
    refine tHn ?_
    refine cR dCo rfl fun K hK=>?_;conv=>whnf
    refine hK _ _ _ ?_
    refine tHn ?_
    replace h:=bU h
    refine ⟨_,h,?_⟩
    refine bG ?_;conv=>whnf
    exact And.intro rfl (And.intro (aLc (WkR.tok (fun _=>rfl) rfl (fun _ _=>Wk.refl _) (fun _=>(lsI _ _))) (aLc wkI (aLc (wkr (lsL fun _=>(lsI _ _))) (aLc (WkR.ptr (fun _=>rfl)) (aLc (WkR.tok (fun _=>rfl) rfl (fun _ _=>Wk.refl _) (fun _=>(lsI _ _))) aLn))))) (aLc ⟨some _,rfl,bRc rfl cKn⟩ (aLc ⟨some _,rfl,bRc rfl (cKc wkI (cKc (wkr (lsL fun _=>(aO _))) cKn))⟩ (aLc ⟨some _,rfl,bRc rfl cKn⟩ aLn))))
   refine hK2 ?_
   refine aK ?_
   refine iBn ?_
   refine tHn ?_
   refine cR dCo rfl fun K hK=>?_;conv=>whnf
   refine hK _ _ _ ?_
   refine tHn ?_
   replace h:=bU h
   refine ⟨_,h,?_⟩
   refine bG ?_;conv=>whnf
   exact And.intro rfl (And.intro (aLc (WkR.tok (fun _=>rfl) rfl (fun _ _=>Wk.refl _) (fun _=>(lsI _ _))) (aLc wkI (aLc (wkr (lsL fun _=>(lsI _ _))) (aLc (WkR.ptr (fun _=>rfl)) (aLc (WkR.tok (fun _=>rfl) rfl (fun _ _=>Wk.refl _) (fun _=>(lsI _ _))) aLn))))) (aLc ⟨some _,rfl,bRc rfl cKn⟩ (aLc ⟨some _,rfl,bRc rfl (cKc wkI (cKc (wkr (lsL fun _=>(aO _))) cKn))⟩ (aLc ⟨some _,rfl,bRc rfl cKn⟩ aLn))))
  refine hK2 ?_
  refine bO ?_
  refine bD ?_
  refine bD ?_
  refine bA ?_
  replace h:=dT h
  replace h:=dU h
  refine tHn ?_
  refine aL ?_
  refine aE dCo rfl fun K hK=>?_;conv=>whnf
  refine hK _ _ _ ?_
  refine aQ fun K1 K2 hK1 hK2=>?_;conv=>whnf
  refine cLk h (fun _ h=>?_) (fun _ h=>?_)
  ·refine hK1 ?_
   refine aE dCo rfl fun K hK=>?_;conv=>whnf
   refine hK _ _ _ ?_
   refine aD ?_
   refine aG ?_
   refine aC ?_
   refine aG ?_
   refine aC ?_
   refine aG ?_
   replace h:=kJ h
   replace h:=kH h
   replace h:=aB h
   refine aA dCo fun K hK=>?_;conv=>whnf
   refine hK _ ?_
   cases h
   exact aW
  refine hK2 ?_
  refine aK ?_
  refine tHn ?_
  refine aE dCo rfl fun K hK=>?_;conv=>whnf
  refine hK _ _ _ ?_
  refine aL ?_
  refine aE dCo rfl fun K hK=>?_;conv=>whnf
  refine hK _ _ _ ?_
  replace h:=cL h
  refine aQ fun K1 K2 hK1 hK2=>?_;conv=>whnf
  refine cLk h (fun _ h=>?_) (fun _ h=>?_)
  ·refine hK1 ?_
   refine cR dCo rfl fun K hK=>?_;conv=>whnf
   refine kU h fun _ h=>?_;conv=>whnf
   refine gKo rfl ?_;conv=>whnf
   replace h:=bC h
   refine lM h13 h (WkL.refl _) (fun _ h=>?_);conv=>whnf
   refine hK _ _ _ ?_
   refine tHn ?_
   refine cR dCo rfl fun K hK=>?_;conv=>whnf
   refine kU h fun _ h=>?_;conv=>whnf
   refine gKo rfl ?_;conv=>whnf
   refine cZ (enc:=eI) (d:=default) dCo h rfl rfl rfl ⟨nle rfl,nle rfl,rfl⟩ rfl ⟨⟨rfl,rfl,rfl⟩,trivial⟩ (fun h=>?_);conv=>whnf
   refine dI (enc:=eI) (d:=default) dCo h (.inl rfl) rfl rfl rfl ⟨rfl,nle rfl,nle rfl,nle rfl,rfl⟩ (fun _=>rfl) (.inr (.inr ⟨_,_,rfl,rfl,rfl⟩)) (fun h=>?_);conv=>whnf
   refine hK _ _ _ ?_
   refine iBn ?_
   refine tHn ?_
   replace h:=bU h
   refine ⟨_,h,?_⟩
   refine bG ?_;conv=>whnf
   exact And.intro rfl (And.intro (aLc (WkR.tok (fun _=>rfl) rfl (fun _ _=>Wk.refl _) (fun _=>(lsI _ _))) (aLc (wkr (lsL fun _=>(lsI _ _))) (aLc (WkR.ptr (fun _=>rfl)) aLn))) (aLc ⟨some _,rfl,bRc rfl cKn⟩ (aLc ⟨some _,rfl,bRc rfl (cKc wkI (cKc (wkr (lsL fun _=>(aO _))) cKn))⟩ aLn)))
  refine hK2 ?_
  refine aK ?_
  refine tHn ?_
  refine cR dCo rfl fun K hK=>?_;conv=>whnf
  refine kU h fun _ h=>?_;conv=>whnf
  refine gKo rfl ?_;conv=>whnf
  refine cZ (enc:=eI) (d:=default) dCo h rfl rfl rfl ⟨nle rfl,nle rfl,rfl⟩ rfl ⟨⟨rfl,rfl,rfl⟩,trivial⟩ (fun h=>?_);conv=>whnf
  refine dI (enc:=eI) (d:=default) dCo h (.inl rfl) rfl rfl rfl ⟨rfl,nle rfl,nle rfl,nle rfl,rfl⟩ (fun _=>rfl) (.inr (.inr ⟨_,_,rfl,rfl,rfl⟩)) (fun h=>?_);conv=>whnf
  refine hK _ _ _ ?_
  refine iBn ?_
  refine tHn ?_
  replace h:=bU h
  refine ⟨_,h,?_⟩
  refine bG ?_;conv=>whnf
  exact And.intro rfl (And.intro (aLc (WkR.tok (fun _=>rfl) rfl (fun _ _=>Wk.refl _) (fun _=>(lsI _ _))) (aLc (wkr (lsL fun _=>(lsI _ _))) (aLc (WkR.ptr (fun _=>rfl)) aLn))) (aLc ⟨some _,rfl,bRc rfl cKn⟩ (aLc ⟨some _,rfl,bRc rfl (cKc wkI (cKc (wkr (lsL fun _=>(aO _))) cKn))⟩ aLn)))
 refine hK2 ?_
 refine bO ?_
 refine bD ?_
 refine bD ?_
 refine bA ?_
 replace h:=dT h
 replace h:=dU h
 refine tHn ?_
 refine aE dCo rfl fun K hK=>?_;conv=>whnf
 refine hK _ _ _ ?_
 refine aD ?_
 replace h:=aB h
 refine aA dCo fun K hK=>?_;conv=>whnf
 refine hK _ ?_
 cases h
 exact aW
def jS:Option Bool:=lt ([(0,2),(1,2),(2,3),(0,3),(1,4)]:List (Int×Int)) fun l1=>lt ([]:List (Int×Int)) fun l2=>ap l2 l1 fun l3=>
  lt ([(3,1)]:List (Int×Int)) fun l4=>ap l3 l4 fun l5=>bd (kQ (⟨5,l1⟩:aP)) fun y6=>bd (eJ (⟨5,l1⟩:aP)) fun y7=>
  bd (gW (⟨5,l1⟩:aP)) fun y8=>bd (lS (⟨5,l1⟩:aP)) fun y9=>bd (cI (⟨5,l1⟩:aP)) fun y10=>
  bd (jE (⟨5,l1⟩:aP)) fun y11=>bd (kN (⟨5,l1⟩:aP)) fun y12=>bd (gH (⟨5,l1⟩:aP)) fun y13=>
  bd (kM (⟨5,l1⟩:aP)) fun y14=>bd (iG (⟨5,l5⟩:aP)) fun y15=>bd (iG (⟨5,l1⟩:aP)) fun y16=>
  bd (cI (⟨5,l5⟩:aP)) fun y17=>jn (fun p18:Bool=>cn p18 (some false) (jn (fun p20:Bool=>jn (fun p26:Bool=>jn (fun p36:Bool=>
  jn (fun p45:Bool=>jn (fun p53:Bool=>some p53) fun k54=>cn p20 (cn p26 (cn p36 (cn p45 (bd (cH (⟨5,l1⟩:aP) 1 3) fun y55=>
  cn y55 (bd (cH (⟨5,l1⟩:aP) 3 1) fun y56=>cn (!y56) (bd (cH (⟨5,l1⟩:aP) 0 1) fun y57=>
  k54 (!y57)) (k54 false)) (k54 false)) (k54 false)) (k54 false)) (k54 false)) (k54 false)) fun k46=>cn y15.2 (cn (!y16.2) (lt ([1,2,3]:List Int) fun l47=>
  bd (eA y15.1 l47) fun y48=>cn y48 (bd (iM (⟨5,l1⟩:aP)) fun y49=>cn y49 (bd (iM (⟨5,l5⟩:aP)) fun y50=>
  cn (!y50) (bd (dE (⟨5,l5⟩:aP)) fun y51=>cn y51 (bd (dE (⟨9,[]⟩:aP)) fun y52=>
  k46 (!y52)) (k46 false)) (k46 false)) (k46 false)) (k46 false)) (k46 false)) (k46 false)) fun k37=>lt ([0,0,1,2,1]:List Int) fun l38=>
  bd (eA y11.1 l38) fun y39=>cn y39 (lt ([0,2,3]:List Int) fun l40=>bd (eA y12.1 l40) fun y41=>cn y41 (lt ([0,1]:List Int) fun l42=>
  bd (eA y13.1 l42) fun y43=>cn y43 (let v44:=((y14.1.length:Int)==2);k37 v44) (k37 false)) (k37 false)) (k37 false)) fun k27=>
  lt ([0,1,2,3,7,15,18,19,23,31]:List Int) fun l28=>bd (eA y8.1 l28) fun y29=>cn y29 (lt ([0,1,2,3,4]:List Int) fun l30=>
  bd (eA y9.1 l30) fun y31=>cn y31 (cn (y10.1==7) (lt ([1,4,0,2,3]:List Int) fun l32=>bd (gN (⟨5,l1⟩:aP) l32) fun y33=>
  cn y33 (lt ([1,2,0,3,4]:List Int) fun l34=>bd (gN (⟨5,l1⟩:aP) l34) fun y35=>
  k27 (!y35)) (k27 false)) (k27 false)) (k27 false)) (k27 false)) fun k21=>lt ([(0,2),(0,3),(1,2),(1,3),(1,4),(2,3)]:List (Int×Int)) fun l22=>
  bd (jM y6.1 (⟨5,l22⟩:aP)) fun y23=>cn y23 (lt ([(0,2),(1,2),(1,4),(2,3)]:List (Int×Int)) fun l24=>
  bd (jM y7.1 (⟨5,l24⟩:aP)) fun y25=>k21 y25) (k21 false))) fun k19=>cn (y6.2 != 0) (k19 true) (cn (y7.2 != 0) (k19 true) (cn (y8.2 !=
  0) (k19 true) (cn (y9.2 != 0) (k19 true) (cn (y10.2 != 0) (k19 true) (cn (y11.2 != 0) (k19 true) (cn (y12.2 != 0) (k19 true) (cn (y13.2 != 0) (k19 true) (cn (y14.2 !=
  0) (k19 true) (k19 (y17.2 != 70))))))))))
def jN:List AV→AV→Prop:=fun args r =>  args=[]∧W (jS ) fun y=>r=(eB y)
theorem yQ {T:Tbl} (hT:TOk Tryd.prog T) (hpf:cP T PF) (h18:T 18=aS fI) (h19:T 19=aS jL) (h20:T 20=aS gF) (h22:T 22=aS gU) (h24:T 24=aS iL) (h25:T 25=aS fL) (h26:T 26=aS jW) (h27:T 27=aS eC) (h28:T 28=aS gP) (h29:T 29=aS iQ) (h30:T 30=aS eT) (h31:T 31=aS iS) (h32:T 32=aS iB) (h33:T 33=aS eG) (h34:T 34=aS iF) (h36:T 36=aS jI):FOk Tryd.prog 11 (aS jN):=by
 refine bJ hT hpf Tryd.func11 rfl Tryd.ntmps11 Tryd.results11 (by decide) ?_
 rintro args r ⟨rfl,h⟩
 refine ⟨nle rfl,?_,?_⟩
 ·exact lsN
 rw [jS.eq_1] at h
 refine aE dCo rfl fun K hK=>?_;conv=>whnf
 refine hK _ _ _ ?_
 refine aE dCo rfl fun K hK=>?_;conv=>whnf
 refine cZ (enc:=dK) (d:=default) dCo h rfl rfl rfl ⟨nle rfl,nle rfl,rfl⟩ rfl ⟨⟨rfl,nle rfl⟩,⟨⟨rfl,nle rfl⟩,⟨⟨rfl,nle rfl⟩,⟨⟨rfl,nle rfl⟩,⟨⟨rfl,nle rfl⟩,trivial⟩⟩⟩⟩⟩ (fun h=>?_);conv=>whnf
 refine bKo rfl ?_;conv=>whnf
 refine And.intro rfl (And.intro (nle rfl) (And.intro rfl ?_));conv=>whnf
 refine hK _ _ _ ?_
 refine aE dCo rfl fun K hK=>?_;conv=>whnf
 refine cZ (enc:=dK) (d:=default) dCo h rfl rfl rfl ⟨nle rfl,nle rfl,rfl⟩ rfl trivial (fun h=>?_);conv=>whnf
 refine nlA rfl ?_;conv=>whnf
 refine bKo rfl ?_;conv=>whnf
 refine gKo rfl ?_;conv=>whnf
 refine sO (enc:=dK) (d:=default) dCo h rfl rfl rfl ⟨rfl,nle rfl,nle rfl,nle rfl,rfl⟩ (fun _=>rfl) (fun h=>?_);conv=>whnf
 refine cZ (enc:=dK) (d:=default) dCo h rfl rfl rfl ⟨nle rfl,nle rfl,rfl⟩ rfl ⟨⟨rfl,nle rfl⟩,trivial⟩ (fun h=>?_);conv=>whnf
 refine dI (enc:=dK) (d:=default) dCo h (.inl rfl) rfl rfl rfl ⟨rfl,nle rfl,nle rfl,nle rfl,rfl⟩ (fun _=>rfl) (.inr (.inr ⟨_,_,rfl,rfl,rfl⟩)) (fun h=>?_);conv=>whnf
 refine bKo rfl ?_;conv=>whnf
 refine And.intro rfl (And.intro (nle rfl) (And.intro rfl ?_));conv=>whnf
 refine hK _ _ _ ?_
 refine aE dCo rfl fun K hK=>?_;conv=>whnf
 refine nlA rfl ?_;conv=>whnf
 refine bKo rfl ?_;conv=>whnf
 refine nlA rfl ?_;conv=>whnf
 replace h:=bC h
 refine sZ h24 h (aF (bH (aF (Wk.refl _) (aF aW aJ))) aJ) (fun _ h=>?_);conv=>whnf
 refine bKo rfl ?_;conv=>whnf
 refine And.intro rfl (And.intro (nle rfl) (And.intro rfl ?_));conv=>whnf
 refine hK _ _ _ ?_
 refine aE dCo rfl fun K hK=>?_;conv=>whnf
 refine nlA rfl ?_;conv=>whnf
 refine bKo rfl ?_;conv=>whnf
 refine nlA rfl ?_;conv=>whnf
 replace h:=bC h
 refine mZ h25 h (aF (bH (aF (Wk.refl _) (aF aW aJ))) aJ) (fun _ h=>?_);conv=>whnf
 refine bKo rfl ?_;conv=>whnf
 refine And.intro rfl (And.intro (nle rfl) (And.intro rfl ?_));conv=>whnf
 refine hK _ _ _ ?_
 refine aE dCo rfl fun K hK=>?_;conv=>whnf
 refine nlA rfl ?_;conv=>whnf
 refine bKo rfl ?_;conv=>whnf
 refine nlA rfl ?_;conv=>whnf
 replace h:=bC h
 refine qN h18 h (aF (bH (aF (Wk.refl _) (aF aW aJ))) aJ) (fun _ h=>?_);conv=>whnf
 refine hK _ _ _ ?_
 refine aE dCo rfl fun K hK=>?_;conv=>whnf
 refine nlA rfl ?_;conv=>whnf
 refine bKo rfl ?_;conv=>whnf
 refine nlA rfl ?_;conv=>whnf
 replace h:=bC h
 refine vO h19 h (aF (bH (aF (Wk.refl _) (aF aW aJ))) aJ) (fun _ h=>?_);conv=>whnf
 refine hK _ _ _ ?_
 refine aE dCo rfl fun K hK=>?_;conv=>whnf
 refine nlA rfl ?_;conv=>whnf
 refine bKo rfl ?_;conv=>whnf
 refine nlA rfl ?_;conv=>whnf
 replace h:=bC h
 refine aH h20 h (aF (bH (aF (Wk.refl _) (aF aW aJ))) aJ) (fun _ h=>?_);conv=>whnf
 refine hK _ _ _ ?_
 refine aE dCo rfl fun K hK=>?_;conv=>whnf
 refine nlA rfl ?_;conv=>whnf
 refine bKo rfl ?_;conv=>whnf
 refine nlA rfl ?_;conv=>whnf
 replace h:=bC h
 refine sK h28 h (aF (bH (aF (Wk.refl _) (aF aW aJ))) aJ) (fun _ h=>?_);conv=>whnf
 refine hK _ _ _ ?_
 refine aE dCo rfl fun K hK=>?_;conv=>whnf
 refine nlA rfl ?_;conv=>whnf
 refine bKo rfl ?_;conv=>whnf
 refine nlA rfl ?_;conv=>whnf
 replace h:=bC h
 refine tB h29 h (aF (bH (aF (Wk.refl _) (aF aW aJ))) aJ) (fun _ h=>?_);conv=>whnf
 refine hK _ _ _ ?_
 refine aE dCo rfl fun K hK=>?_;conv=>whnf
 refine nlA rfl ?_;conv=>whnf
 refine bKo rfl ?_;conv=>whnf
 refine nlA rfl ?_;conv=>whnf
 replace h:=bC h
 refine pN h30 h (aF (bH (aF (Wk.refl _) (aF aW aJ))) aJ) (fun _ h=>?_);conv=>whnf
 refine hK _ _ _ ?_
 refine aE dCo rfl fun K hK=>?_;conv=>whnf
 refine nlA rfl ?_;conv=>whnf
 refine bKo rfl ?_;conv=>whnf
 refine nlA rfl ?_;conv=>whnf
 replace h:=bC h
 refine tD h31 h (aF (bH (aF (Wk.refl _) (aF aW aJ))) aJ) (fun _ h=>?_);conv=>whnf
 refine hK _ _ _ ?_
 refine aE dCo rfl fun K hK=>?_;conv=>whnf
 refine nlA rfl ?_;conv=>whnf
 refine bKo rfl ?_;conv=>whnf
 refine nlA rfl ?_;conv=>whnf
 replace h:=bC h
 refine oE h32 h (aF (bH (aF (Wk.refl _) (aF aW aJ))) aJ) (fun _ h=>?_);conv=>whnf
 refine hK _ _ _ ?_
 refine aE dCo rfl fun K hK=>?_;conv=>whnf
 refine nlA rfl ?_;conv=>whnf
 refine bKo rfl ?_;conv=>whnf
 refine nlA rfl ?_;conv=>whnf
 replace h:=bC h
 refine oE h32 h (aF (bH (aF (Wk.refl _) (aF aW aJ))) aJ) (fun _ h=>?_);conv=>whnf
 refine hK _ _ _ ?_
 refine aE dCo rfl fun K hK=>?_;conv=>whnf
 refine nlA rfl ?_;conv=>whnf
 refine bKo rfl ?_;conv=>whnf
 refine nlA rfl ?_;conv=>whnf
 replace h:=bC h
 refine aH h20 h (aF (bH (aF (Wk.refl _) (aF aW aJ))) aJ) (fun _ h=>?_);conv=>whnf
 refine hK _ _ _ ?_
 refine aL ?_
 refine aCF rfl h [1,2,3,5,7,9,11,13,15,17,19,21,22,24] (fun σ=>oI σ [1,2,3,5]++qV σ [(2,1)]) [] (fun kl kh ids b s=>⟨ofL ([(143,eB s)]++kl),ofH ([]++kh),b+64⟩) ?_;(conv=>whnf);refine And.intro (fun s h=>dP ?_) (fun k h=>?_)
 ·refine aQ fun K1 K2 hK1 hK2=>?_;conv=>whnf
  refine cLk h (fun _ h=>?_) (fun _ h=>?_)
  ·refine hK1 ?_
   refine aE dCo rfl fun K hK=>?_;conv=>whnf
   refine hK _ _ _ ?_
   refine aD ?_
   refine aG ?_
   replace h:=aB h
   refine aA dCo fun K hK=>?_;conv=>whnf
   refine hK _ ?_
   cases h
   exact Wk.refl _
  refine hK2 ?_
  refine aK ?_
  refine tHn ?_
  refine aCF rfl h [1,2,7,9,11,13,15,17,19,21,22,24] (fun σ=>oI σ [1,2]++qV σ [(2,1)]) [] (fun kl kh ids b s=>⟨ofL ([(27,eB s)]++kl),ofH ([]++kh),b+64⟩) ?_;(conv=>whnf);refine And.intro (fun s h=>dP ?_) (fun k h=>?_)
  ·refine aCF rfl h [1,2,13,15,17,19,21,22,24,27] (fun σ=>oI σ [1,2]++qV σ [(2,1)]) [] (fun kl kh ids b s=>⟨ofL ([(28,eB s)]++kl),ofH ([]++kh),b+64⟩) ?_;(conv=>whnf);refine And.intro (fun s h=>dP ?_) (fun k h=>?_)
   ·refine aCF rfl h [1,2,21,22,24,27,28] (fun σ=>oI σ [1,2]++qV σ [(2,1)]) [] (fun kl kh ids b s=>⟨ofL ([(29,eB s)]++kl),ofH ([]++kh),b+64⟩) ?_;(conv=>whnf);refine And.intro (fun s h=>dP ?_) (fun k h=>?_)
    ·refine aIS rfl h [1,27,28,29] [1] [] (fun kl kh ids b s=>⟨ofL ([(30,eB s)]++kl),ofH ([]++kh),b+64⟩) ?_;(conv=>whnf);refine And.intro (fun s h=>dP ?_) (fun k h=>?_)
     ·refine aE dCo rfl fun K hK=>?_;conv=>whnf
      replace h:=cL h
      refine cLk h (fun _ h=>?_) (fun _ h=>?_)<;>(conv=>whnf)
      ·refine cLk h (fun _ h=>?_) (fun _ h=>?_)<;>(conv=>whnf)
       ·refine cLk h (fun _ h=>?_) (fun _ h=>?_)<;>(conv=>whnf)
        ·refine cLk h (fun _ h=>?_) (fun _ h=>?_)<;>(conv=>whnf)
         ·refine nlA rfl ?_;conv=>whnf
          refine bKo rfl ?_;conv=>whnf
          refine nlA rfl ?_;conv=>whnf
          replace h:=bC h
          refine aI h27 h (aF (bH (aF (Wk.refl _) (aF aW aJ))) (aF (Wk.refl _) (aF (Wk.refl _) aJ))) (fun _ h=>?_);conv=>whnf
          refine cLk h (fun _ h=>?_) (fun _ h=>?_)<;>(conv=>whnf)
          ·refine nlA rfl ?_;conv=>whnf
           refine bKo rfl ?_;conv=>whnf
           refine nlA rfl ?_;conv=>whnf
           replace h:=bC h
           refine aI h27 h (aF (bH (aF (Wk.refl _) (aF aW aJ))) (aF (Wk.refl _) (aF (Wk.refl _) aJ))) (fun _ h=>?_);conv=>whnf
           refine cLk h (fun _ h=>?_) (fun _ h=>?_)<;>(conv=>whnf)
           ·refine nlA rfl ?_;conv=>whnf
            refine bKo rfl ?_;conv=>whnf
            refine nlA rfl ?_;conv=>whnf
            replace h:=bC h
            refine aI h27 h (aF (bH (aF (Wk.refl _) (aF aW aJ))) (aF (Wk.refl _) (aF (Wk.refl _) aJ))) (fun _ h=>?_);conv=>whnf
            refine hK _ _ _ ?_
            refine aD ?_
            replace h:=aB h
            refine aA dCo fun K hK=>?_;conv=>whnf
            refine hK _ ?_
            cases h
            exact Wk.refl _
           refine hK _ _ _ ?_
           refine aD ?_
           replace h:=aB h
           refine aA dCo fun K hK=>?_;conv=>whnf
           refine hK _ ?_
           cases h
           exact Wk.refl _
          refine hK _ _ _ ?_
          refine aD ?_
          replace h:=aB h
          refine aA dCo fun K hK=>?_;conv=>whnf
          refine hK _ ?_
          cases h
          exact Wk.refl _
         refine hK _ _ _ ?_
         refine aD ?_
         replace h:=aB h
         refine aA dCo fun K hK=>?_;conv=>whnf
         refine hK _ ?_
         cases h
         exact Wk.refl _
        refine hK _ _ _ ?_
        refine aD ?_
        replace h:=aB h
        refine aA dCo fun K hK=>?_;conv=>whnf
        refine hK _ ?_
        cases h
        exact Wk.refl _
       refine hK _ _ _ ?_
       refine aD ?_
       replace h:=aB h
       refine aA dCo fun K hK=>?_;conv=>whnf
       refine hK _ ?_
       cases h
       exact Wk.refl _
      refine hK _ _ _ ?_
      refine aD ?_
      replace h:=aB h
      refine aA dCo fun K hK=>?_;conv=>whnf
      refine hK _ ?_
      cases h
      exact Wk.refl _
     refine cR dCo rfl fun K hK=>?_;conv=>whnf
     refine cLk h (fun _ h=>?_) (fun _ h=>?_)<;>(conv=>whnf)
     ·refine cLk h (fun _ h=>?_) (fun _ h=>?_)<;>(conv=>whnf)
      ·refine cZ (enc:=eI) (d:=default) dCo h rfl rfl rfl ⟨nle rfl,nle rfl,rfl⟩ rfl ⟨⟨rfl,rfl,rfl⟩,⟨⟨rfl,rfl,rfl⟩,⟨⟨rfl,rfl,rfl⟩,trivial⟩⟩⟩ (fun h=>?_);conv=>whnf
       replace h:=bC h
       refine eY h36 h (aF (Wk.refl _) (aF aW aJ)) (fun _ h=>?_);conv=>whnf
       refine cLk h (fun _ h=>?_) (fun _ h=>?_)<;>(conv=>whnf)
       ·refine nlA rfl ?_;conv=>whnf
        refine bKo rfl ?_;conv=>whnf
        refine nlA rfl ?_;conv=>whnf
        replace h:=bC h
        refine oF h34 h (aF (bH (aF (Wk.refl _) (aF aW aJ))) aJ) (fun _ h=>?_);conv=>whnf
        refine cLk h (fun _ h=>?_) (fun _ h=>?_)<;>(conv=>whnf)
        ·refine nlA rfl ?_;conv=>whnf
         refine bKo rfl ?_;conv=>whnf
         refine nlA rfl ?_;conv=>whnf
         replace h:=bC h
         refine oF h34 h (aF (bH (aF (Wk.refl _) (aF aW aJ))) aJ) (fun _ h=>?_);conv=>whnf
         refine cLk h (fun _ h=>?_) (fun _ h=>?_)<;>(conv=>whnf)
         ·refine nlA rfl ?_;conv=>whnf
          refine bKo rfl ?_;conv=>whnf
          refine nlA rfl ?_;conv=>whnf
          replace h:=bC h
          refine gD h33 h (aF (bH (aF (Wk.refl _) (aF aW aJ))) aJ) (fun _ h=>?_);conv=>whnf
          refine cLk h (fun _ h=>?_) (fun _ h=>?_)<;>(conv=>whnf)
          ·replace h:=bC h
           refine gD h33 h (aF (bH (aF (Wk.refl _) (aF kF aJ))) aJ) (fun _ h=>?_);conv=>whnf
           refine hK _ _ _ ?_
           refine tHn ?_
           refine ⟨_,h,?_⟩
           refine bG ?_;conv=>whnf
           exact And.intro rfl (And.intro (aLc (wkr (lsB _)) (aLc (WkR.ptr (fun _=>rfl)) (aLc (wkr (lsB _)) (aLc (wkr (lsB _)) (aLc (wkr (lsB _)) aLn))))) (aLc ⟨some _,rfl,bRc rfl (cKc wkI (cKc (wkr (bL fun _=>(aO _))) cKn))⟩ aLn))
          refine hK _ _ _ ?_
          refine tHn ?_
          refine ⟨_,h,?_⟩
          refine bG ?_;conv=>whnf
          exact And.intro rfl (And.intro (aLc (wkr (lsB _)) (aLc (WkR.ptr (fun _=>rfl)) (aLc (wkr (lsB _)) (aLc (wkr (lsB _)) (aLc (wkr (lsB _)) aLn))))) (aLc ⟨some _,rfl,bRc rfl (cKc wkI (cKc (wkr (bL fun _=>(aO _))) cKn))⟩ aLn))
         refine hK _ _ _ ?_
         refine tHn ?_
         refine ⟨_,h,?_⟩
         refine bG ?_;conv=>whnf
         exact And.intro rfl (And.intro (aLc (wkr (lsB _)) (aLc (WkR.ptr (fun _=>rfl)) (aLc (wkr (lsB _)) (aLc (wkr (lsB _)) (aLc (wkr (lsB _)) aLn))))) (aLc ⟨some _,rfl,bRc rfl (cKc wkI (cKc (wkr (bL fun _=>(aO _))) cKn))⟩ aLn))
        refine hK _ _ _ ?_
        refine tHn ?_
        refine ⟨_,h,?_⟩
        refine bG ?_;conv=>whnf
        exact And.intro rfl (And.intro (aLc (wkr (lsB _)) (aLc (WkR.ptr (fun _=>rfl)) (aLc (wkr (lsB _)) (aLc (wkr (lsB _)) (aLc (wkr (lsB _)) aLn))))) (aLc ⟨some _,rfl,bRc rfl (cKc wkI (cKc (wkr (bL fun _=>(aO _))) cKn))⟩ aLn))
       refine hK _ _ _ ?_
       refine tHn ?_
       refine ⟨_,h,?_⟩
       refine bG ?_;conv=>whnf
       exact And.intro rfl (And.intro (aLc (wkr (lsB _)) (aLc (WkR.ptr (fun _=>rfl)) (aLc (wkr (lsB _)) (aLc (wkr (lsB _)) (aLc (wkr (lsB _)) aLn))))) (aLc ⟨some _,rfl,bRc rfl (cKc wkI (cKc (wkr (bL fun _=>(aO _))) cKn))⟩ aLn))
      refine hK _ _ _ ?_
      refine tHn ?_
      refine ⟨_,h,?_⟩
      refine bG ?_;conv=>whnf
      exact And.intro rfl (And.intro (aLc (wkr (lsB _)) (aLc (WkR.ptr (fun _=>rfl)) (aLc (wkr (lsB _)) (aLc (wkr (lsB _)) (aLc (wkr (lsB _)) aLn))))) (aLc ⟨some _,rfl,bRc rfl (cKc wkI (cKc (wkr (bL fun _=>(aO _))) cKn))⟩ aLn))
     refine hK _ _ _ ?_
     refine tHn ?_
     refine ⟨_,h,?_⟩
     refine bG ?_;conv=>whnf
     exact And.intro rfl (And.intro (aLc (wkr (lsB _)) (aLc (WkR.ptr (fun _=>rfl)) (aLc (wkr (lsB _)) (aLc (wkr (lsB _)) (aLc (wkr (lsB _)) aLn))))) (aLc ⟨some _,rfl,bRc rfl (cKc wkI (cKc (wkr (bL fun _=>(aO _))) cKn))⟩ aLn))
    refine cR dCo rfl fun K hK=>?_;conv=>whnf
    refine cZ (enc:=eI) (d:=default) dCo h rfl rfl rfl ⟨nle rfl,nle rfl,rfl⟩ rfl ⟨⟨rfl,rfl,rfl⟩,⟨⟨rfl,rfl,rfl⟩,⟨⟨rfl,rfl,rfl⟩,⟨⟨rfl,rfl,rfl⟩,⟨⟨rfl,rfl,rfl⟩,trivial⟩⟩⟩⟩⟩ (fun h=>?_);conv=>whnf
    replace h:=bC h
    refine eY h36 h (aF (Wk.refl _) (aF aW aJ)) (fun _ h=>?_);conv=>whnf
    refine cLk h (fun _ h=>?_) (fun _ h=>?_)<;>(conv=>whnf)
    ·refine cZ (enc:=eI) (d:=default) dCo h rfl rfl rfl ⟨nle rfl,nle rfl,rfl⟩ rfl ⟨⟨rfl,rfl,rfl⟩,⟨⟨rfl,rfl,rfl⟩,⟨⟨rfl,rfl,rfl⟩,trivial⟩⟩⟩ (fun h=>?_);conv=>whnf
     replace h:=bC h
     refine eY h36 h (aF (Wk.refl _) (aF aW aJ)) (fun _ h=>?_);conv=>whnf
     refine cLk h (fun _ h=>?_) (fun _ h=>?_)<;>(conv=>whnf)
     ·refine cZ (enc:=eI) (d:=default) dCo h rfl rfl rfl ⟨nle rfl,nle rfl,rfl⟩ rfl ⟨⟨rfl,rfl,rfl⟩,⟨⟨rfl,rfl,rfl⟩,trivial⟩⟩ (fun h=>?_);conv=>whnf
      replace h:=bC h
      refine eY h36 h (aF (Wk.refl _) (aF aW aJ)) (fun _ h=>?_);conv=>whnf
      refine cLk h (fun _ h=>?_) (fun _ h=>?_)<;>(conv=>whnf)
      ·refine hK _ _ _ ?_
       refine tHn ?_
       refine ⟨_,h,?_⟩
       refine bG ?_;conv=>whnf
       exact And.intro rfl (And.intro (aLc (wkr (lsB _)) (aLc (WkR.ptr (fun _=>rfl)) (aLc (WkR.ptr (fun _=>rfl)) (aLc (wkr (lsL fun _=>(lsI _ _))) (aLc (wkr (lsB _)) (aLc (wkr (lsB _)) (aLc (wkr (lsB _)) (aLc (wkr (lsB _)) aLn)))))))) (aLc ⟨some _,rfl,bRc rfl (cKc wkI (cKc (wkr (bL fun _=>(aO _))) cKn))⟩ (aLc ⟨some _,rfl,bRc rfl (cKc wkI (cKc (WkR.tok (fun _=>rfl) rfl (fun _ _=>Wk.refl _) (fun _=>(aO _))) cKn))⟩ (aLc ⟨some _,rfl,bRc rfl cKn⟩ aLn))))
      refine hK _ _ _ ?_
      refine tHn ?_
      refine ⟨_,h,?_⟩
      refine bG ?_;conv=>whnf
      exact And.intro rfl (And.intro (aLc (wkr (lsB _)) (aLc (WkR.ptr (fun _=>rfl)) (aLc (WkR.ptr (fun _=>rfl)) (aLc (wkr (lsL fun _=>(lsI _ _))) (aLc (wkr (lsB _)) (aLc (wkr (lsB _)) (aLc (wkr (lsB _)) (aLc (wkr (lsB _)) aLn)))))))) (aLc ⟨some _,rfl,bRc rfl (cKc wkI (cKc (wkr (bL fun _=>(aO _))) cKn))⟩ (aLc ⟨some _,rfl,bRc rfl (cKc wkI (cKc (WkR.tok (fun _=>rfl) rfl (fun _ _=>Wk.refl _) (fun _=>(aO _))) cKn))⟩ (aLc ⟨some _,rfl,bRc rfl cKn⟩ aLn))))
     refine hK _ _ _ ?_
     refine tHn ?_
     refine ⟨_,h,?_⟩
     refine bG ?_;conv=>whnf
     exact And.intro rfl (And.intro (aLc (wkr (lsB _)) (aLc (WkR.ptr (fun _=>rfl)) (aLc (WkR.ptr (fun _=>rfl)) (aLc (wkr (lsL fun _=>(lsI _ _))) (aLc (wkr (lsB _)) (aLc (wkr (lsB _)) (aLc (wkr (lsB _)) (aLc (wkr (lsB _)) aLn)))))))) (aLc ⟨some _,rfl,bRc rfl (cKc wkI (cKc (wkr (bL fun _=>(aO _))) cKn))⟩ (aLc ⟨some _,rfl,bRc rfl (cKc wkI (cKc (WkR.tok (fun _=>rfl) rfl (fun _ _=>Wk.refl _) (fun _=>(aO _))) cKn))⟩ (aLc ⟨some _,rfl,bRc rfl cKn⟩ aLn))))
    refine hK _ _ _ ?_
    refine tHn ?_
    refine ⟨_,h,?_⟩
    refine bG ?_;conv=>whnf
    exact And.intro rfl (And.intro (aLc (wkr (lsB _)) (aLc (WkR.ptr (fun _=>rfl)) (aLc (WkR.ptr (fun _=>rfl)) (aLc (wkr (lsL fun _=>(lsI _ _))) (aLc (wkr (lsB _)) (aLc (wkr (lsB _)) (aLc (wkr (lsB _)) (aLc (wkr (lsB _)) aLn)))))))) (aLc ⟨some _,rfl,bRc rfl (cKc wkI (cKc (wkr (bL fun _=>(aO _))) cKn))⟩ (aLc ⟨some _,rfl,bRc rfl (cKc wkI (cKc (WkR.tok (fun _=>rfl) rfl (fun _ _=>Wk.refl _) (fun _=>(aO _))) cKn))⟩ (aLc ⟨some _,rfl,bRc rfl cKn⟩ aLn))))
   refine cR dCo rfl fun K hK=>?_;conv=>whnf
   refine cZ (enc:=eI) (d:=default) dCo h rfl rfl rfl ⟨nle rfl,nle rfl,rfl⟩ rfl ⟨⟨rfl,rfl,rfl⟩,⟨⟨rfl,rfl,rfl⟩,⟨⟨rfl,rfl,rfl⟩,⟨⟨rfl,rfl,rfl⟩,⟨⟨rfl,rfl,rfl⟩,⟨⟨rfl,rfl,rfl⟩,⟨⟨rfl,rfl,rfl⟩,⟨⟨rfl,rfl,rfl⟩,⟨⟨rfl,rfl,rfl⟩,⟨⟨rfl,rfl,rfl⟩,trivial⟩⟩⟩⟩⟩⟩⟩⟩⟩⟩ (fun h=>?_);conv=>whnf
   replace h:=bC h
   refine eY h36 h (aF (Wk.refl _) (aF aW aJ)) (fun _ h=>?_);conv=>whnf
   refine cLk h (fun _ h=>?_) (fun _ h=>?_)<;>(conv=>whnf)
   ·refine cZ (enc:=eI) (d:=default) dCo h rfl rfl rfl ⟨nle rfl,nle rfl,rfl⟩ rfl ⟨⟨rfl,rfl,rfl⟩,⟨⟨rfl,rfl,rfl⟩,⟨⟨rfl,rfl,rfl⟩,⟨⟨rfl,rfl,rfl⟩,⟨⟨rfl,rfl,rfl⟩,trivial⟩⟩⟩⟩⟩ (fun h=>?_);conv=>whnf
    replace h:=bC h
    refine eY h36 h (aF (Wk.refl _) (aF aW aJ)) (fun _ h=>?_);conv=>whnf
    refine cLk h (fun _ h=>?_) (fun _ h=>?_)<;>(conv=>whnf)
    ·refine cLk h (fun _ h=>?_) (fun _ h=>?_)<;>(conv=>whnf)
     ·refine nlA rfl ?_;conv=>whnf
      refine bKo rfl ?_;conv=>whnf
      refine nlA rfl ?_;conv=>whnf
      refine cZ (enc:=eI) (d:=default) dCo h rfl rfl rfl ⟨nle rfl,nle rfl,rfl⟩ rfl ⟨⟨rfl,rfl,rfl⟩,⟨⟨rfl,rfl,rfl⟩,⟨⟨rfl,rfl,rfl⟩,⟨⟨rfl,rfl,rfl⟩,⟨⟨rfl,rfl,rfl⟩,trivial⟩⟩⟩⟩⟩ (fun h=>?_);conv=>whnf
      replace h:=bC h
      refine mV h22 h (aF (bH (aF (Wk.refl _) (aF aW aJ))) (aF aW aJ)) (fun _ h=>?_);conv=>whnf
      refine cLk h (fun _ h=>?_) (fun _ h=>?_)<;>(conv=>whnf)
      ·refine nlA rfl ?_;conv=>whnf
       refine bKo rfl ?_;conv=>whnf
       refine nlA rfl ?_;conv=>whnf
       refine cZ (enc:=eI) (d:=default) dCo h rfl rfl rfl ⟨nle rfl,nle rfl,rfl⟩ rfl ⟨⟨rfl,rfl,rfl⟩,⟨⟨rfl,rfl,rfl⟩,⟨⟨rfl,rfl,rfl⟩,⟨⟨rfl,rfl,rfl⟩,⟨⟨rfl,rfl,rfl⟩,trivial⟩⟩⟩⟩⟩ (fun h=>?_);conv=>whnf
       replace h:=bC h
       refine mV h22 h (aF (bH (aF (Wk.refl _) (aF aW aJ))) (aF aW aJ)) (fun _ h=>?_);conv=>whnf
       refine hK _ _ _ ?_
       refine tHn ?_
       refine ⟨_,h,?_⟩
       refine bG ?_;conv=>whnf
       exact And.intro rfl (And.intro (aLc (wkr (lsB _)) (aLc (WkR.ptr (fun _=>rfl)) (aLc (WkR.ptr (fun _=>rfl)) (aLc (wkr (lsL fun _=>(lsI _ _))) (aLc (wkr (lsL fun _=>(lsI _ _))) (aLc (wkr (lsL fun _=>(lsI _ _))) (aLc (wkr (lsL fun _=>(lsL fun _=>(lsI _ _)))) (aLc (wkr (lsL fun _=>(lsI _ _))) (aLc (wkr (lsB _)) (aLc (wkr (lsB _)) (aLc (wkr (lsB _)) aLn))))))))))) (aLc ⟨some _,rfl,bRc rfl (cKc wkI (cKc (wkr (bL fun _=>(aO _))) cKn))⟩ (aLc ⟨some _,rfl,bRc rfl (cKc wkI (cKc (WkR.tok (fun _=>rfl) rfl (fun _ _=>Wk.refl _) (fun _=>(aO _))) cKn))⟩ (aLc ⟨some _,rfl,bRc rfl cKn⟩ aLn))))
      refine hK _ _ _ ?_
      refine tHn ?_
      refine ⟨_,h,?_⟩
      refine bG ?_;conv=>whnf
      exact And.intro rfl (And.intro (aLc (wkr (lsB _)) (aLc (WkR.ptr (fun _=>rfl)) (aLc (WkR.ptr (fun _=>rfl)) (aLc (wkr (lsL fun _=>(lsI _ _))) (aLc (wkr (lsL fun _=>(lsI _ _))) (aLc (wkr (lsL fun _=>(lsI _ _))) (aLc (wkr (lsL fun _=>(lsL fun _=>(lsI _ _)))) (aLc (wkr (lsL fun _=>(lsI _ _))) (aLc (wkr (lsB _)) (aLc (wkr (lsB _)) (aLc (wkr (lsB _)) aLn))))))))))) (aLc ⟨some _,rfl,bRc rfl (cKc wkI (cKc (wkr (bL fun _=>(aO _))) cKn))⟩ (aLc ⟨some _,rfl,bRc rfl (cKc wkI (cKc (WkR.tok (fun _=>rfl) rfl (fun _ _=>Wk.refl _) (fun _=>(aO _))) cKn))⟩ (aLc ⟨some _,rfl,bRc rfl cKn⟩ aLn))))
     refine hK _ _ _ ?_
     refine tHn ?_
     refine ⟨_,h,?_⟩
     refine bG ?_;conv=>whnf
     exact And.intro rfl (And.intro (aLc (wkr (lsB _)) (aLc (WkR.ptr (fun _=>rfl)) (aLc (WkR.ptr (fun _=>rfl)) (aLc (wkr (lsL fun _=>(lsI _ _))) (aLc (wkr (lsL fun _=>(lsI _ _))) (aLc (wkr (lsL fun _=>(lsI _ _))) (aLc (wkr (lsL fun _=>(lsL fun _=>(lsI _ _)))) (aLc (wkr (lsL fun _=>(lsI _ _))) (aLc (wkr (lsB _)) (aLc (wkr (lsB _)) (aLc (wkr (lsB _)) aLn))))))))))) (aLc ⟨some _,rfl,bRc rfl (cKc wkI (cKc (wkr (bL fun _=>(aO _))) cKn))⟩ (aLc ⟨some _,rfl,bRc rfl (cKc wkI (cKc (WkR.tok (fun _=>rfl) rfl (fun _ _=>Wk.refl _) (fun _=>(aO _))) cKn))⟩ (aLc ⟨some _,rfl,bRc rfl cKn⟩ aLn))))
    refine hK _ _ _ ?_
    refine tHn ?_
    refine ⟨_,h,?_⟩
    refine bG ?_;conv=>whnf
    exact And.intro rfl (And.intro (aLc (wkr (lsB _)) (aLc (WkR.ptr (fun _=>rfl)) (aLc (WkR.ptr (fun _=>rfl)) (aLc (wkr (lsL fun _=>(lsI _ _))) (aLc (wkr (lsL fun _=>(lsI _ _))) (aLc (wkr (lsL fun _=>(lsI _ _))) (aLc (wkr (lsL fun _=>(lsL fun _=>(lsI _ _)))) (aLc (wkr (lsL fun _=>(lsI _ _))) (aLc (wkr (lsB _)) (aLc (wkr (lsB _)) (aLc (wkr (lsB _)) aLn))))))))))) (aLc ⟨some _,rfl,bRc rfl (cKc wkI (cKc (wkr (bL fun _=>(aO _))) cKn))⟩ (aLc ⟨some _,rfl,bRc rfl (cKc wkI (cKc (WkR.tok (fun _=>rfl) rfl (fun _ _=>Wk.refl _) (fun _=>(aO _))) cKn))⟩ (aLc ⟨some _,rfl,bRc rfl cKn⟩ aLn))))
   refine hK _ _ _ ?_
   refine tHn ?_
   refine ⟨_,h,?_⟩
   refine bG ?_;conv=>whnf
   exact And.intro rfl (And.intro (aLc (wkr (lsB _)) (aLc (WkR.ptr (fun _=>rfl)) (aLc (WkR.ptr (fun _=>rfl)) (aLc (wkr (lsL fun _=>(lsI _ _))) (aLc (wkr (lsL fun _=>(lsI _ _))) (aLc (wkr (lsL fun _=>(lsI _ _))) (aLc (wkr (lsL fun _=>(lsL fun _=>(lsI _ _)))) (aLc (wkr (lsL fun _=>(lsI _ _))) (aLc (wkr (lsB _)) (aLc (wkr (lsB _)) (aLc (wkr (lsB _)) aLn))))))))))) (aLc ⟨some _,rfl,bRc rfl (cKc wkI (cKc (wkr (bL fun _=>(aO _))) cKn))⟩ (aLc ⟨some _,rfl,bRc rfl (cKc wkI (cKc (WkR.tok (fun _=>rfl) rfl (fun _ _=>Wk.refl _) (fun _=>(aO _))) cKn))⟩ (aLc ⟨some _,rfl,bRc rfl cKn⟩ aLn))))
  refine cR dCo rfl fun K hK=>?_;conv=>whnf
  refine nlA rfl ?_;conv=>whnf
  refine bKo rfl ?_;conv=>whnf
  refine nlA rfl ?_;conv=>whnf
  refine cZ (enc:=dK) (d:=default) dCo h rfl rfl rfl ⟨nle rfl,nle rfl,rfl⟩ rfl ⟨⟨rfl,nle rfl⟩,⟨⟨rfl,nle rfl⟩,⟨⟨rfl,nle rfl⟩,⟨⟨rfl,nle rfl⟩,⟨⟨rfl,nle rfl⟩,⟨⟨rfl,nle rfl⟩,trivial⟩⟩⟩⟩⟩⟩ (fun h=>?_);conv=>whnf
  replace h:=bC h
  refine oW h26 h (aF (Wk.refl _) (aF (bH (aF (Wk.refl _) (aF aW aJ))) aJ)) (fun _ h=>?_);conv=>whnf
  refine cLk h (fun _ h=>?_) (fun _ h=>?_)<;>(conv=>whnf)
  ·refine nlA rfl ?_;conv=>whnf
   refine bKo rfl ?_;conv=>whnf
   refine nlA rfl ?_;conv=>whnf
   refine cZ (enc:=dK) (d:=default) dCo h rfl rfl rfl ⟨nle rfl,nle rfl,rfl⟩ rfl ⟨⟨rfl,nle rfl⟩,⟨⟨rfl,nle rfl⟩,⟨⟨rfl,nle rfl⟩,⟨⟨rfl,nle rfl⟩,trivial⟩⟩⟩⟩ (fun h=>?_);conv=>whnf
   replace h:=bC h
   refine oW h26 h (aF (Wk.refl _) (aF (bH (aF (Wk.refl _) (aF aW aJ))) aJ)) (fun _ h=>?_);conv=>whnf
   refine hK _ _ _ ?_
   refine tHn ?_
   refine ⟨_,h,?_⟩
   refine bG ?_;conv=>whnf
   exact And.intro rfl (And.intro (aLc (wkr (lsB _)) (aLc (WkR.ptr (fun _=>rfl)) (aLc (WkR.ptr (fun _=>rfl)) (aLc (wkr (lsL fun _=>(lsI _ _))) (aLc (wkr (lsL fun _=>(lsI _ _))) (aLc wkI (aLc (wkr (lsL fun _=>(lsI _ _))) (aLc (wkr (lsL fun _=>(lsI _ _))) (aLc (wkr (lsL fun _=>(lsI _ _))) (aLc (wkr (lsL fun _=>(lsL fun _=>(lsI _ _)))) (aLc (wkr (lsL fun _=>(lsI _ _))) (aLc (wkr (lsB _)) (aLc (wkr (lsB _)) aLn))))))))))))) (aLc ⟨some _,rfl,bRc rfl (cKc wkI (cKc (wkr (bL fun _=>(aO _))) cKn))⟩ (aLc ⟨some _,rfl,bRc rfl (cKc wkI (cKc (WkR.tok (fun _=>rfl) rfl (fun _ _=>Wk.refl _) (fun _=>(aO _))) cKn))⟩ (aLc ⟨some _,rfl,bRc rfl cKn⟩ aLn))))
  refine hK _ _ _ ?_
  refine tHn ?_
  refine ⟨_,h,?_⟩
  refine bG ?_;conv=>whnf
  exact And.intro rfl (And.intro (aLc (wkr (lsB _)) (aLc (WkR.ptr (fun _=>rfl)) (aLc (WkR.ptr (fun _=>rfl)) (aLc (wkr (lsL fun _=>(lsI _ _))) (aLc (wkr (lsL fun _=>(lsI _ _))) (aLc wkI (aLc (wkr (lsL fun _=>(lsI _ _))) (aLc (wkr (lsL fun _=>(lsI _ _))) (aLc (wkr (lsL fun _=>(lsI _ _))) (aLc (wkr (lsL fun _=>(lsL fun _=>(lsI _ _)))) (aLc (wkr (lsL fun _=>(lsI _ _))) (aLc (wkr (lsB _)) (aLc (wkr (lsB _)) aLn))))))))))))) (aLc ⟨some _,rfl,bRc rfl (cKc wkI (cKc (wkr (bL fun _=>(aO _))) cKn))⟩ (aLc ⟨some _,rfl,bRc rfl (cKc wkI (cKc (WkR.tok (fun _=>rfl) rfl (fun _ _=>Wk.refl _) (fun _=>(aO _))) cKn))⟩ (aLc ⟨some _,rfl,bRc rfl cKn⟩ aLn))))
 refine cR dCo rfl fun K hK=>?_;conv=>whnf
 refine cLk h (fun _ h=>?_) (fun _ h=>?_)<;>(conv=>whnf)
 ·refine hK _ _ _ ?_
  refine tHn ?_
  refine ⟨_,h,?_⟩
  refine bG ?_;conv=>whnf
  exact And.intro rfl (And.intro (aLc (wkr (lsB _)) (aLc (WkR.ptr (fun _=>rfl)) (aLc (WkR.ptr (fun _=>rfl)) (aLc (WkR.ptr (fun _=>rfl)) (aLc (WkR.ptr (fun _=>rfl)) (aLc (wkr (lsL fun _=>(lsI _ _))) (aLc (wkr (lsL fun _=>(lsI _ _))) (aLc wkI (aLc (wkr (lsL fun _=>(lsI _ _))) (aLc (wkr (lsL fun _=>(lsI _ _))) (aLc (wkr (lsL fun _=>(lsI _ _))) (aLc (wkr (lsL fun _=>(lsL fun _=>(lsI _ _)))) (aLc (wkr (lsL fun _=>(lsI _ _))) (aLc (wkr (lsB _)) (aLc (wkr (lsB _)) aLn))))))))))))))) (aLc ⟨some _,rfl,bRc rfl (cKc wkI (cKc (wkr (bL fun _=>(aO _))) cKn))⟩ (aLc ⟨some _,rfl,bRc rfl (cKc wkI (cKc (WkR.tok (fun _=>rfl) rfl (fun _ _=>Wk.refl _) (fun _=>(aO _))) cKn))⟩ (aLc ⟨some _,rfl,bRc rfl (cKc wkI (cKc (wkr (lsL fun _=>(aO _))) cKn))⟩ (aLc ⟨some _,rfl,bRc rfl (cKc wkI (cKc (wkr (lsL fun _=>(aO _))) cKn))⟩ (aLc ⟨some _,rfl,bRc rfl cKn⟩ aLn))))))
 refine cLk h (fun _ h=>?_) (fun _ h=>?_)<;>(conv=>whnf)
 ·refine hK _ _ _ ?_
  refine tHn ?_
  refine ⟨_,h,?_⟩
  refine bG ?_;conv=>whnf
  exact And.intro rfl (And.intro (aLc (wkr (lsB _)) (aLc (WkR.ptr (fun _=>rfl)) (aLc (WkR.ptr (fun _=>rfl)) (aLc (WkR.ptr (fun _=>rfl)) (aLc (WkR.ptr (fun _=>rfl)) (aLc (wkr (lsL fun _=>(lsI _ _))) (aLc (wkr (lsL fun _=>(lsI _ _))) (aLc wkI (aLc (wkr (lsL fun _=>(lsI _ _))) (aLc (wkr (lsL fun _=>(lsI _ _))) (aLc (wkr (lsL fun _=>(lsI _ _))) (aLc (wkr (lsL fun _=>(lsL fun _=>(lsI _ _)))) (aLc (wkr (lsL fun _=>(lsI _ _))) (aLc (wkr (lsB _)) (aLc (wkr (lsB _)) aLn))))))))))))))) (aLc ⟨some _,rfl,bRc rfl (cKc wkI (cKc (wkr (bL fun _=>(aO _))) cKn))⟩ (aLc ⟨some _,rfl,bRc rfl (cKc wkI (cKc (WkR.tok (fun _=>rfl) rfl (fun _ _=>Wk.refl _) (fun _=>(aO _))) cKn))⟩ (aLc ⟨some _,rfl,bRc rfl (cKc wkI (cKc (wkr (lsL fun _=>(aO _))) cKn))⟩ (aLc ⟨some _,rfl,bRc rfl (cKc wkI (cKc (wkr (lsL fun _=>(aO _))) cKn))⟩ (aLc ⟨some _,rfl,bRc rfl cKn⟩ aLn))))))
 refine cLk h (fun _ h=>?_) (fun _ h=>?_)<;>(conv=>whnf)
 ·refine hK _ _ _ ?_
  refine tHn ?_
  refine ⟨_,h,?_⟩
  refine bG ?_;conv=>whnf
  exact And.intro rfl (And.intro (aLc (wkr (lsB _)) (aLc (WkR.ptr (fun _=>rfl)) (aLc (WkR.ptr (fun _=>rfl)) (aLc (WkR.ptr (fun _=>rfl)) (aLc (WkR.ptr (fun _=>rfl)) (aLc (wkr (lsL fun _=>(lsI _ _))) (aLc (wkr (lsL fun _=>(lsI _ _))) (aLc wkI (aLc (wkr (lsL fun _=>(lsI _ _))) (aLc (wkr (lsL fun _=>(lsI _ _))) (aLc (wkr (lsL fun _=>(lsI _ _))) (aLc (wkr (lsL fun _=>(lsL fun _=>(lsI _ _)))) (aLc (wkr (lsL fun _=>(lsI _ _))) (aLc (wkr (lsB _)) (aLc (wkr (lsB _)) aLn))))))))))))))) (aLc ⟨some _,rfl,bRc rfl (cKc wkI (cKc (wkr (bL fun _=>(aO _))) cKn))⟩ (aLc ⟨some _,rfl,bRc rfl (cKc wkI (cKc (WkR.tok (fun _=>rfl) rfl (fun _ _=>Wk.refl _) (fun _=>(aO _))) cKn))⟩ (aLc ⟨some _,rfl,bRc rfl (cKc wkI (cKc (wkr (lsL fun _=>(aO _))) cKn))⟩ (aLc ⟨some _,rfl,bRc rfl (cKc wkI (cKc (wkr (lsL fun _=>(aO _))) cKn))⟩ (aLc ⟨some _,rfl,bRc rfl cKn⟩ aLn))))))
 refine cLk h (fun _ h=>?_) (fun _ h=>?_)<;>(conv=>whnf)
 ·refine hK _ _ _ ?_
  refine tHn ?_
  refine ⟨_,h,?_⟩
  refine bG ?_;conv=>whnf
  exact And.intro rfl (And.intro (aLc (wkr (lsB _)) (aLc (WkR.ptr (fun _=>rfl)) (aLc (WkR.ptr (fun _=>rfl)) (aLc (WkR.ptr (fun _=>rfl)) (aLc (WkR.ptr (fun _=>rfl)) (aLc (wkr (lsL fun _=>(lsI _ _))) (aLc (wkr (lsL fun _=>(lsI _ _))) (aLc wkI (aLc (wkr (lsL fun _=>(lsI _ _))) (aLc (wkr (lsL fun _=>(lsI _ _))) (aLc (wkr (lsL fun _=>(lsI _ _))) (aLc (wkr (lsL fun _=>(lsL fun _=>(lsI _ _)))) (aLc (wkr (lsL fun _=>(lsI _ _))) (aLc (wkr (lsB _)) (aLc (wkr (lsB _)) aLn))))))))))))))) (aLc ⟨some _,rfl,bRc rfl (cKc wkI (cKc (wkr (bL fun _=>(aO _))) cKn))⟩ (aLc ⟨some _,rfl,bRc rfl (cKc wkI (cKc (WkR.tok (fun _=>rfl) rfl (fun _ _=>Wk.refl _) (fun _=>(aO _))) cKn))⟩ (aLc ⟨some _,rfl,bRc rfl (cKc wkI (cKc (wkr (lsL fun _=>(aO _))) cKn))⟩ (aLc ⟨some _,rfl,bRc rfl (cKc wkI (cKc (wkr (lsL fun _=>(aO _))) cKn))⟩ (aLc ⟨some _,rfl,bRc rfl cKn⟩ aLn))))))
 refine cLk h (fun _ h=>?_) (fun _ h=>?_)<;>(conv=>whnf)
 ·refine hK _ _ _ ?_
  refine tHn ?_
  refine ⟨_,h,?_⟩
  refine bG ?_;conv=>whnf
  exact And.intro rfl (And.intro (aLc (wkr (lsB _)) (aLc (WkR.ptr (fun _=>rfl)) (aLc (WkR.ptr (fun _=>rfl)) (aLc (WkR.ptr (fun _=>rfl)) (aLc (WkR.ptr (fun _=>rfl)) (aLc (wkr (lsL fun _=>(lsI _ _))) (aLc (wkr (lsL fun _=>(lsI _ _))) (aLc wkI (aLc (wkr (lsL fun _=>(lsI _ _))) (aLc (wkr (lsL fun _=>(lsI _ _))) (aLc (wkr (lsL fun _=>(lsI _ _))) (aLc (wkr (lsL fun _=>(lsL fun _=>(lsI _ _)))) (aLc (wkr (lsL fun _=>(lsI _ _))) (aLc (wkr (lsB _)) (aLc (wkr (lsB _)) aLn))))))))))))))) (aLc ⟨some _,rfl,bRc rfl (cKc wkI (cKc (wkr (bL fun _=>(aO _))) cKn))⟩ (aLc ⟨some _,rfl,bRc rfl (cKc wkI (cKc (WkR.tok (fun _=>rfl) rfl (fun _ _=>Wk.refl _) (fun _=>(aO _))) cKn))⟩ (aLc ⟨some _,rfl,bRc rfl (cKc wkI (cKc (wkr (lsL fun _=>(aO _))) cKn))⟩ (aLc ⟨some _,rfl,bRc rfl (cKc wkI (cKc (wkr (lsL fun _=>(aO _))) cKn))⟩ (aLc ⟨some _,rfl,bRc rfl cKn⟩ aLn))))))
 refine cLk h (fun _ h=>?_) (fun _ h=>?_)<;>(conv=>whnf)
 ·refine hK _ _ _ ?_
  refine tHn ?_
  refine ⟨_,h,?_⟩
  refine bG ?_;conv=>whnf
  exact And.intro rfl (And.intro (aLc (wkr (lsB _)) (aLc (WkR.ptr (fun _=>rfl)) (aLc (WkR.ptr (fun _=>rfl)) (aLc (WkR.ptr (fun _=>rfl)) (aLc (WkR.ptr (fun _=>rfl)) (aLc (wkr (lsL fun _=>(lsI _ _))) (aLc (wkr (lsL fun _=>(lsI _ _))) (aLc wkI (aLc (wkr (lsL fun _=>(lsI _ _))) (aLc (wkr (lsL fun _=>(lsI _ _))) (aLc (wkr (lsL fun _=>(lsI _ _))) (aLc (wkr (lsL fun _=>(lsL fun _=>(lsI _ _)))) (aLc (wkr (lsL fun _=>(lsI _ _))) (aLc (wkr (lsB _)) (aLc (wkr (lsB _)) aLn))))))))))))))) (aLc ⟨some _,rfl,bRc rfl (cKc wkI (cKc (wkr (bL fun _=>(aO _))) cKn))⟩ (aLc ⟨some _,rfl,bRc rfl (cKc wkI (cKc (WkR.tok (fun _=>rfl) rfl (fun _ _=>Wk.refl _) (fun _=>(aO _))) cKn))⟩ (aLc ⟨some _,rfl,bRc rfl (cKc wkI (cKc (wkr (lsL fun _=>(aO _))) cKn))⟩ (aLc ⟨some _,rfl,bRc rfl (cKc wkI (cKc (wkr (lsL fun _=>(aO _))) cKn))⟩ (aLc ⟨some _,rfl,bRc rfl cKn⟩ aLn))))))
 refine cLk h (fun _ h=>?_) (fun _ h=>?_)<;>(conv=>whnf)
 ·refine hK _ _ _ ?_
  refine tHn ?_
  refine ⟨_,h,?_⟩
  refine bG ?_;conv=>whnf
  exact And.intro rfl (And.intro (aLc (wkr (lsB _)) (aLc (WkR.ptr (fun _=>rfl)) (aLc (WkR.ptr (fun _=>rfl)) (aLc (WkR.ptr (fun _=>rfl)) (aLc (WkR.ptr (fun _=>rfl)) (aLc (wkr (lsL fun _=>(lsI _ _))) (aLc (wkr (lsL fun _=>(lsI _ _))) (aLc wkI (aLc (wkr (lsL fun _=>(lsI _ _))) (aLc (wkr (lsL fun _=>(lsI _ _))) (aLc (wkr (lsL fun _=>(lsI _ _))) (aLc (wkr (lsL fun _=>(lsL fun _=>(lsI _ _)))) (aLc (wkr (lsL fun _=>(lsI _ _))) (aLc (wkr (lsB _)) (aLc (wkr (lsB _)) aLn))))))))))))))) (aLc ⟨some _,rfl,bRc rfl (cKc wkI (cKc (wkr (bL fun _=>(aO _))) cKn))⟩ (aLc ⟨some _,rfl,bRc rfl (cKc wkI (cKc (WkR.tok (fun _=>rfl) rfl (fun _ _=>Wk.refl _) (fun _=>(aO _))) cKn))⟩ (aLc ⟨some _,rfl,bRc rfl (cKc wkI (cKc (wkr (lsL fun _=>(aO _))) cKn))⟩ (aLc ⟨some _,rfl,bRc rfl (cKc wkI (cKc (wkr (lsL fun _=>(aO _))) cKn))⟩ (aLc ⟨some _,rfl,bRc rfl cKn⟩ aLn))))))
 refine cLk h (fun _ h=>?_) (fun _ h=>?_)<;>(conv=>whnf)
 ·refine hK _ _ _ ?_
  refine tHn ?_
  refine ⟨_,h,?_⟩
  refine bG ?_;conv=>whnf
  exact And.intro rfl (And.intro (aLc (wkr (lsB _)) (aLc (WkR.ptr (fun _=>rfl)) (aLc (WkR.ptr (fun _=>rfl)) (aLc (WkR.ptr (fun _=>rfl)) (aLc (WkR.ptr (fun _=>rfl)) (aLc (wkr (lsL fun _=>(lsI _ _))) (aLc (wkr (lsL fun _=>(lsI _ _))) (aLc wkI (aLc (wkr (lsL fun _=>(lsI _ _))) (aLc (wkr (lsL fun _=>(lsI _ _))) (aLc (wkr (lsL fun _=>(lsI _ _))) (aLc (wkr (lsL fun _=>(lsL fun _=>(lsI _ _)))) (aLc (wkr (lsL fun _=>(lsI _ _))) (aLc (wkr (lsB _)) (aLc (wkr (lsB _)) aLn))))))))))))))) (aLc ⟨some _,rfl,bRc rfl (cKc wkI (cKc (wkr (bL fun _=>(aO _))) cKn))⟩ (aLc ⟨some _,rfl,bRc rfl (cKc wkI (cKc (WkR.tok (fun _=>rfl) rfl (fun _ _=>Wk.refl _) (fun _=>(aO _))) cKn))⟩ (aLc ⟨some _,rfl,bRc rfl (cKc wkI (cKc (wkr (lsL fun _=>(aO _))) cKn))⟩ (aLc ⟨some _,rfl,bRc rfl (cKc wkI (cKc (wkr (lsL fun _=>(aO _))) cKn))⟩ (aLc ⟨some _,rfl,bRc rfl cKn⟩ aLn))))))
 refine cLk h (fun _ h=>?_) (fun _ h=>?_)<;>(conv=>whnf)
 ·refine hK _ _ _ ?_
  refine tHn ?_
  refine ⟨_,h,?_⟩
  refine bG ?_;conv=>whnf
  exact And.intro rfl (And.intro (aLc (wkr (lsB _)) (aLc (WkR.ptr (fun _=>rfl)) (aLc (WkR.ptr (fun _=>rfl)) (aLc (WkR.ptr (fun _=>rfl)) (aLc (WkR.ptr (fun _=>rfl)) (aLc (wkr (lsL fun _=>(lsI _ _))) (aLc (wkr (lsL fun _=>(lsI _ _))) (aLc wkI (aLc (wkr (lsL fun _=>(lsI _ _))) (aLc (wkr (lsL fun _=>(lsI _ _))) (aLc (wkr (lsL fun _=>(lsI _ _))) (aLc (wkr (lsL fun _=>(lsL fun _=>(lsI _ _)))) (aLc (wkr (lsL fun _=>(lsI _ _))) (aLc (wkr (lsB _)) (aLc (wkr (lsB _)) aLn))))))))))))))) (aLc ⟨some _,rfl,bRc rfl (cKc wkI (cKc (wkr (bL fun _=>(aO _))) cKn))⟩ (aLc ⟨some _,rfl,bRc rfl (cKc wkI (cKc (WkR.tok (fun _=>rfl) rfl (fun _ _=>Wk.refl _) (fun _=>(aO _))) cKn))⟩ (aLc ⟨some _,rfl,bRc rfl (cKc wkI (cKc (wkr (lsL fun _=>(aO _))) cKn))⟩ (aLc ⟨some _,rfl,bRc rfl (cKc wkI (cKc (wkr (lsL fun _=>(aO _))) cKn))⟩ (aLc ⟨some _,rfl,bRc rfl cKn⟩ aLn))))))
 refine hK _ _ _ ?_
 refine tHn ?_
 refine ⟨_,h,?_⟩
 refine bG ?_;conv=>whnf
 exact And.intro rfl (And.intro (aLc (wkr (lsB _)) (aLc (WkR.ptr (fun _=>rfl)) (aLc (WkR.ptr (fun _=>rfl)) (aLc (WkR.ptr (fun _=>rfl)) (aLc (WkR.ptr (fun _=>rfl)) (aLc (wkr (lsL fun _=>(lsI _ _))) (aLc (wkr (lsL fun _=>(lsI _ _))) (aLc wkI (aLc (wkr (lsL fun _=>(lsI _ _))) (aLc (wkr (lsL fun _=>(lsI _ _))) (aLc (wkr (lsL fun _=>(lsI _ _))) (aLc (wkr (lsL fun _=>(lsL fun _=>(lsI _ _)))) (aLc (wkr (lsL fun _=>(lsI _ _))) (aLc (wkr (lsB _)) (aLc (wkr (lsB _)) aLn))))))))))))))) (aLc ⟨some _,rfl,bRc rfl (cKc wkI (cKc (wkr (bL fun _=>(aO _))) cKn))⟩ (aLc ⟨some _,rfl,bRc rfl (cKc wkI (cKc (WkR.tok (fun _=>rfl) rfl (fun _ _=>Wk.refl _) (fun _=>(aO _))) cKn))⟩ (aLc ⟨some _,rfl,bRc rfl (cKc wkI (cKc (wkr (lsL fun _=>(aO _))) cKn))⟩ (aLc ⟨some _,rfl,bRc rfl (cKc wkI (cKc (wkr (lsL fun _=>(aO _))) cKn))⟩ (aLc ⟨some _,rfl,bRc rfl cKn⟩ aLn))))))
theorem vD {T:Tbl} (hT:T 11=aS jN) {args:List AV} {hp:aX} {id:Nat} {k:AV→Prop} {Φ:Bool→Prop} (h:W (jS ) Φ) (hw:WkL args []) (hk:∀ y,Φ y→k (eB y)):cU T 11 args hp id k:=by
 obtain ⟨y,e,hy⟩:=fB h
 exact aZ hT ⟨rfl,kD e rfl⟩ (by exact (lsB _)) hw (hk y hy)
theorem aBh {M:List (Nat×Nat)} {q k n:Nat} {b:AB} {α:Type} {ce:α→List AV} {l:List α} {hp:aX} (h1:[q][k]?=some n) (h2:[AB.cells (flE ce l)][k]?=some b) (h:hp q=some (.cells (flE ce l))) (hl:∀ x,∀ a∈ce x,a.loose):∃ b0,hp n=some b0∧BkX (WkB M) b0 b:=by
 cases k with
 | zero=>simp only [List.getElem?_cons_zero,Option.some.injEq] at h1 h2;subst h1 h2;exact ⟨_,h,wW hl l⟩
 | succ k=>simp at h1
theorem qQ {T:Tbl} (hT:TOk Tryd.prog T) (hpf:cP T PF):FOk Tryd.prog 60 (wK 1 eI default):=by
 refine aBD hT hpf Tryd.func60 rfl Tryd.ntmps60 Tryd.results60 (by decide) ?_
 rintro args H base r H' ⟨l,rfl,hl,rfl,rfl⟩
 refine ⟨[],[eL 1 eI default l],[],[],[.cells (flE (ceE eI) l)],nle rfl,Nat.zero_le _,nle rfl,.nil,rfl,rfl,.cons (bQ (lsL fun _=>(lsI _ _))) .nil,(fun j i b h=>by cases h),(fun k b h=>?_),(fun j=>rfl),(fun i b h=>?_),?_⟩
 ·cases k with
  | zero=>cases h;rfl
  | succ k=>cases h
 ·by_cases e:i=base
  ·subst e;rw [gB] at h;exact .inr (.inr ⟨0,rfl,h⟩)
  ·rw [aR _ _ e] at h;exact .inl ⟨by simp,h⟩
 refine aE dCo rfl fun K hK=>?_;conv=>whnf
 refine hK _ _ _ ?_
 refine aL ?_
 refine aFL rfl rfl rfl rfl rfl rfl Tryd.underlying26 rfl rfl fun b hb=>?_
 cases b
 ·refine aQ fun K1 K2 hK1 hK2=>?_;conv=>whnf
  refine hK2 ?_
  refine aK ?_
  refine tHn ?_
  refine aE dCo rfl fun K hK=>?_;conv=>whnf
  refine cZ (enc:=eI) (d:=default) (l:=[]) (f:=some) (Φ:=fun _=>True) dCo (kD (a:=[]) (by unfold lt;rfl) trivial) rfl rfl rfl ⟨nle rfl,nle rfl,rfl⟩ rfl trivial (fun _=>?_);conv=>whnf
  refine aGB (enc:=eI) (d:=default) dCo rfl rfl rfl ⟨rfl,nle rfl,nle rfl,nle rfl,rfl⟩ (fun _=>rfl) (fun _=>nofun) hl ?_;conv=>whnf
  refine hK _ _ _ ?_
  refine aD ?_
  refine ⟨_,[256],rfl,by simp,by simp,rfl,aDE (by simp [mm]),fun j b h=>by simp at h,fun k n b h1 h2=>?_⟩;exact aBh h1 h2 rfl (fun _=>(lsC (lsI _ _) lsN))
 refine aQ fun K1 K2 hK1 hK2=>?_;conv=>whnf
 refine hK1 ?_
 refine aE dCo rfl fun K hK=>?_;conv=>whnf
 refine hK _ _ _ ?_
 have hn:=List.length_eq_zero_iff.1 (hb rfl)
 subst hn
 refine zS rfl (σ':=⟨ofL [(2,.so 64 0 0 1)],ofH [(64,.cells [])],1024⟩) (xJ [(64,none)] ⟨WkR.nilso (fun _=>rfl),trivial⟩ ⟨⟨_,rfl,sG⟩,trivial⟩ rfl) ?_
 refine aD ?_
 refine aG ?_
 refine ⟨_,[64],rfl,by simp,by simp,rfl,aDE (by simp [mm]),fun j b h=>by simp at h,fun k n b h1 h2=>?_⟩;exact aBh h1 h2 rfl (fun _=>(lsC (lsI _ _) lsN))
theorem aFc:TOk Tryd.prog T0∧cP T0 PF:=⟨aJg _,aHE _⟩
def aKr:Tbl:=ext T0 69 (aS dV)
theorem aJJ:FOk Tryd.prog 69 (aS dV):=sE aFc.1 aFc.2
theorem aAs:TOk Tryd.prog aKr∧cP aKr PF:=⟨bK aFc.1 aJJ,bF aFc.2 fun _=>⟨_,rfl⟩⟩
def aLr:Tbl:=ext aKr 85 (aS cJ)
theorem aH6:FOk Tryd.prog 85 (aS cJ):=mP aAs.1 aAs.2 rfl
theorem zU:TOk Tryd.prog aLr∧cP aLr PF:=⟨bK aAs.1 aH6,bF aAs.2 fun _=>⟨_,rfl⟩⟩
def aKY:Tbl:=ext aLr 68 (aS cK)
theorem aH9:FOk Tryd.prog 68 (aS cK):=lK zU.1 zU.2 rfl
theorem aAv:TOk Tryd.prog aKY∧cP aKY PF:=⟨bK zU.1 aH9,bF zU.2 fun _=>⟨_,rfl⟩⟩
def aK3:Tbl:=ext aKY 33 (aS eG)
theorem aJc:FOk Tryd.prog 33 (aS eG):=uQ aAv.1 aAv.2 rfl
theorem yW:TOk Tryd.prog aK3∧cP aK3 PF:=⟨bK aAv.1 aJc,bF aAv.2 fun _=>⟨_,rfl⟩⟩
def aKU:Tbl:=ext aK3 79 (aS gM)
theorem aH5:FOk Tryd.prog 79 (aS gM):=uF yW.1 yW.2
theorem xM:TOk Tryd.prog aKU∧cP aKU PF:=⟨bK yW.1 aH5,bF yW.2 fun _=>⟨_,rfl⟩⟩
def aKq:Tbl:=ext aKU 54 (aS cC)
theorem aIP:FOk Tryd.prog 54 (aS cC):=aAi xM.1 xM.2 rfl rfl
theorem zR:TOk Tryd.prog aKq∧cP aKq PF:=⟨bK xM.1 aIP,bF xM.2 fun _=>⟨_,rfl⟩⟩
def aLk:Tbl:=ext aKq 81 (itR Tryd.prog (fun x=>[Value.int .i64 x]) dX)
theorem aIw:FOk Tryd.prog 81 (itR Tryd.prog (fun x=>[Value.int .i64 x]) dX):=qF zR.1 zR.2
theorem yH:TOk Tryd.prog aLk∧cP aLk PF:=⟨bK zR.1 aIw,bF zR.2 (fun h=>by cases h)⟩
def aKj:Tbl:=ext aLk 80 (aCk oN kB dA)
theorem aId:FOk Tryd.prog 80 (aCk oN kB dA):=oB yH.1 yH.2 rfl
theorem aAh:TOk Tryd.prog aKj∧cP aKj PF:=⟨bK yH.1 aId,bF yH.2 (fun h=>by cases h)⟩
def aKk:Tbl:=ext aKj 55 (aCk oN kB dN)
theorem aJW:FOk Tryd.prog 55 (aCk oN kB dN):=pB aAh.1 aAh.2 rfl
theorem zT:TOk Tryd.prog aKk∧cP aKk PF:=⟨bK aAh.1 aJW,bF aAh.2 (fun h=>by cases h)⟩
def aLt:Tbl:=ext aKk 56 (aS dJ)
theorem aIl:FOk Tryd.prog 56 (aS dJ):=rT zT.1 zT.2
theorem yZ:TOk Tryd.prog aLt∧cP aLt PF:=⟨bK zT.1 aIl,bF zT.2 fun _=>⟨_,rfl⟩⟩
def aKL:Tbl:=ext aLt 18 (aS fI)
theorem aH3:FOk Tryd.prog 18 (aS fI):=rS yZ.1 yZ.2 rfl rfl rfl
theorem zF:TOk Tryd.prog aKL∧cP aKL PF:=⟨bK yZ.1 aH3,bF yZ.2 fun _=>⟨_,rfl⟩⟩
def aKd:Tbl:=ext aKL 57 (aS fS)
theorem aJb:FOk Tryd.prog 57 (aS fS):=aAg zF.1 zF.2
theorem zP:TOk Tryd.prog aKd∧cP aKd PF:=⟨bK zF.1 aJb,bF zF.2 fun _=>⟨_,rfl⟩⟩
def aLi:Tbl:=ext aKd 19 (aS jL)
theorem aJS:FOk Tryd.prog 19 (aS jL):=yB zP.1 zP.2 rfl rfl
theorem aAd:TOk Tryd.prog aLi∧cP aLi PF:=⟨bK zP.1 aJS,bF zP.2 fun _=>⟨_,rfl⟩⟩
def aKh:Tbl:=ext aLi 20 (aS gF)
theorem aJB:FOk Tryd.prog 20 (aS gF):=wJ aAd.1 aAd.2 rfl rfl rfl
theorem yL:TOk Tryd.prog aKh∧cP aKh PF:=⟨bK aAd.1 aJB,bF aAd.2 fun _=>⟨_,rfl⟩⟩
def aKt:Tbl:=ext aKh 22 (aS gU)
theorem aH2:FOk Tryd.prog 22 (aS gU):=vV yL.1 yL.2 rfl
theorem zZ:TOk Tryd.prog aKt∧cP aKt PF:=⟨bK yL.1 aH2,bF yL.2 fun _=>⟨_,rfl⟩⟩
def aKz:Tbl:=ext aKt 58 (aS fO)
theorem aJG:FOk Tryd.prog 58 (aS fO):=tV zZ.1 zZ.2
theorem aAj:TOk Tryd.prog aKz∧cP aKz PF:=⟨bK zZ.1 aJG,bF zZ.2 fun _=>⟨_,rfl⟩⟩
def aLh:Tbl:=ext aKz 24 (aS iL)
theorem aIU:FOk Tryd.prog 24 (aS iL):=vZ aAj.1 aAj.2 rfl rfl
theorem zE:TOk Tryd.prog aLh∧cP aLh PF:=⟨bK aAj.1 aIU,bF aAj.2 fun _=>⟨_,rfl⟩⟩
def aKE:Tbl:=ext aLh 25 (aS fL)
theorem aJo:FOk Tryd.prog 25 (aS fL):=vG zE.1 zE.2 rfl rfl
theorem xT:TOk Tryd.prog aKE∧cP aKE PF:=⟨bK zE.1 aJo,bF zE.2 fun _=>⟨_,rfl⟩⟩
def aLl:Tbl:=ext aKE 26 (aS jW)
theorem aJ1:FOk Tryd.prog 26 (aS jW):=aAz xT.1 xT.2
theorem yJ:TOk Tryd.prog aLl∧cP aLl PF:=⟨bK xT.1 aJ1,bF xT.2 fun _=>⟨_,rfl⟩⟩
def aKg:Tbl:=ext aLl 27 (aS eC)
theorem aIr:FOk Tryd.prog 27 (aS eC):=vW yJ.1 yJ.2 rfl
theorem zY:TOk Tryd.prog aKg∧cP aKg PF:=⟨bK yJ.1 aIr,bF yJ.2 fun _=>⟨_,rfl⟩⟩
def aKN:Tbl:=ext aKg 28 (aS gP)
theorem aIj:FOk Tryd.prog 28 (aS gP):=uN zY.1 zY.2 rfl rfl
theorem yV:TOk Tryd.prog aKN∧cP aKN PF:=⟨bK zY.1 aIj,bF zY.2 fun _=>⟨_,rfl⟩⟩
def aLg:Tbl:=ext aKN 59 (pM (oQ 10))
theorem aJq:FOk Tryd.prog 59 (pM (oQ 10)):=aG4 yV.1 yV.2
theorem xI:TOk Tryd.prog aLg∧cP aLg PF:=⟨bK yV.1 aJq,bF yV.2 (fun h=>by cases h)⟩
def aK1:Tbl:=ext aLg 60 (wK 1 eI default)
theorem aIB:FOk Tryd.prog 60 (wK 1 eI default):=qQ xI.1 xI.2
theorem zK:TOk Tryd.prog aK1∧cP aK1 PF:=⟨bK xI.1 aIB,bF xI.2 (fun h=>by cases h)⟩
def aKu:Tbl:=ext aK1 29 (aS iQ)
theorem aJ2:FOk Tryd.prog 29 (aS iQ):=vY zK.1 zK.2 rfl rfl rfl
theorem aAF:TOk Tryd.prog aKu∧cP aKu PF:=⟨bK zK.1 aJ2,bF zK.2 fun _=>⟨_,rfl⟩⟩
def aLm:Tbl:=ext aKu 87 (aS cE)
theorem aIF:FOk Tryd.prog 87 (aS cE):=kK aAF.1 aAF.2
theorem xP:TOk Tryd.prog aLm∧cP aLm PF:=⟨bK aAF.1 aIF,bF aAF.2 fun _=>⟨_,rfl⟩⟩
def aKW:Tbl:=ext aLm 82 (aS cQ)
theorem aIa:FOk Tryd.prog 82 (aS cQ):=lR xP.1 xP.2 rfl
theorem zA:TOk Tryd.prog aKW∧cP aKW PF:=⟨bK xP.1 aIa,bF xP.2 fun _=>⟨_,rfl⟩⟩
def aLd:Tbl:=ext aKW 61 (aS gO)
theorem aIh:FOk Tryd.prog 61 (aS gO):=uL zA.1 zA.2 rfl
theorem aAE:TOk Tryd.prog aLd∧cP aLd PF:=⟨bK zA.1 aIh,bF zA.2 fun _=>⟨_,rfl⟩⟩
def aLs:Tbl:=ext aLd 62 (aS jV)
theorem aIo:FOk Tryd.prog 62 (aS jV):=aAm aAE.1 aAE.2
theorem yU:TOk Tryd.prog aLs∧cP aLs PF:=⟨bK aAE.1 aIo,bF aAE.2 fun _=>⟨_,rfl⟩⟩
def aLv:Tbl:=ext aLs 83 (aS fQ)
theorem aIO:FOk Tryd.prog 83 (aS fQ):=tF yU.1 yU.2
theorem aAl:TOk Tryd.prog aLv∧cP aLv PF:=⟨bK yU.1 aIO,bF yU.2 fun _=>⟨_,rfl⟩⟩
def aKl:Tbl:=ext aLv 63 (aS dQ)
theorem aJA:FOk Tryd.prog 63 (aS dQ):=qY aAl.1 aAl.2 rfl
theorem yX:TOk Tryd.prog aKl∧cP aKl PF:=⟨bK aAl.1 aJA,bF aAl.2 fun _=>⟨_,rfl⟩⟩
def aKA:Tbl:=ext aKl 64 (aS dM)
theorem aI4:FOk Tryd.prog 64 (aS dM):=oX yX.1 yX.2 rfl
theorem xY:TOk Tryd.prog aKA∧cP aKA PF:=⟨bK yX.1 aI4,bF yX.2 fun _=>⟨_,rfl⟩⟩
def aKP:Tbl:=ext aKA 30 (aS eT)
theorem aIy:FOk Tryd.prog 30 (aS eT):=qZ xY.1 xY.2 rfl rfl rfl rfl rfl
theorem aAa:TOk Tryd.prog aKP∧cP aKP PF:=⟨bK xY.1 aIy,bF xY.2 fun _=>⟨_,rfl⟩⟩
def aKm:Tbl:=ext aKP 65 (pM (kS 10))
theorem aI1:FOk Tryd.prog 65 (pM (kS 10)):=aEb aAa.1 aAa.2
theorem aAo:TOk Tryd.prog aKm∧cP aKm PF:=⟨bK aAa.1 aI1,bF aAa.2 (fun h=>by cases h)⟩
def aKo:Tbl:=ext aKm 31 (aS iS)
theorem aJX:FOk Tryd.prog 31 (aS iS):=wG aAo.1 aAo.2 rfl rfl rfl
theorem xV:TOk Tryd.prog aKo∧cP aKo PF:=⟨bK aAo.1 aJX,bF aAo.2 fun _=>⟨_,rfl⟩⟩
def aLu:Tbl:=ext aKo 84 (pM uJ)
theorem aII:FOk Tryd.prog 84 (pM uJ):=aAG xV.1 xV.2
theorem zL:TOk Tryd.prog aLu∧cP aLu PF:=⟨bK xV.1 aII,bF xV.2 (fun h=>by cases h)⟩
def aKp:Tbl:=ext aLu 67 (pM kV)
theorem aIG:FOk Tryd.prog 67 (pM kV):=aBL zL.1 zL.2 rfl
theorem yF:TOk Tryd.prog aKp∧cP aKp PF:=⟨bK zL.1 aIG,bF zL.2 (fun h=>by cases h)⟩
def aKn:Tbl:=ext aKp 66 (pM (gX 10))
theorem aIn:FOk Tryd.prog 66 (pM (gX 10)):=aDG yF.1 yF.2 rfl
theorem xR:TOk Tryd.prog aKn∧cP aKn PF:=⟨bK yF.1 aIn,bF yF.2 (fun h=>by cases h)⟩
def aKx:Tbl:=ext aKn 32 (aS iB)
theorem aJe:FOk Tryd.prog 32 (aS iB):=wD xR.1 xR.2 rfl rfl rfl
theorem aAk:TOk Tryd.prog aKx∧cP aKx PF:=⟨bK xR.1 aJe,bF xR.2 fun _=>⟨_,rfl⟩⟩
def aLo:Tbl:=ext aKx 34 (aS iF)
theorem aJt:FOk Tryd.prog 34 (aS iF):=wH aAk.1 aAk.2 rfl
theorem zJ:TOk Tryd.prog aLo∧cP aLo PF:=⟨bK aAk.1 aJt,bF aAk.2 fun _=>⟨_,rfl⟩⟩
def aKZ:Tbl:=ext aLo 36 (aS jI)
theorem aJO:FOk Tryd.prog 36 (aS jI):=yI zJ.1 zJ.2
theorem aAr:TOk Tryd.prog aKZ∧cP aKZ PF:=⟨bK zJ.1 aJO,bF zJ.2 fun _=>⟨_,rfl⟩⟩
def aKV:Tbl:=ext aKZ 11 (aS jN)
theorem aIZ:FOk Tryd.prog 11 (aS jN):=yQ aAr.1 aAr.2 rfl rfl rfl rfl rfl rfl rfl rfl rfl rfl rfl rfl rfl rfl rfl rfl
theorem yT:TOk Tryd.prog aKV∧cP aKV PF:=⟨bK aAr.1 aIZ,bF aAr.2 fun _=>⟨_,rfl⟩⟩
def aKO:Tbl:=ext aKV 37 (aS hO)
theorem aJv:FOk Tryd.prog 37 (aS hO):=xS yT.1 yT.2
theorem aAx:TOk Tryd.prog aKO∧cP aKO PF:=⟨bK yT.1 aJv,bF yT.2 fun _=>⟨_,rfl⟩⟩
def aLa:Tbl:=ext aKO 17 (aCk iD eQ iJ)
theorem aIQ:FOk Tryd.prog 17 (aCk iD eQ iJ):=wF aAx.1 aAx.2 rfl
theorem xH:TOk Tryd.prog aLa∧cP aLa PF:=⟨bK aAx.1 aIQ,bF aAx.2 (fun h=>by cases h)⟩
def aKI:Tbl:=ext aLa 12 (aS jO)
theorem aJw:FOk Tryd.prog 12 (aS jO):=yG xH.1 xH.2 rfl rfl
theorem yA:TOk Tryd.prog aKI∧cP aKI PF:=⟨bK xH.1 aJw,bF xH.2 fun _=>⟨_,rfl⟩⟩
def aK9:Tbl:=ext aKI 13 (aS hG)
theorem aJm:FOk Tryd.prog 13 (aS hG):=zQ yA.1 yA.2
theorem xZ:TOk Tryd.prog aK9∧cP aK9 PF:=⟨bK yA.1 aJm,bF yA.2 fun _=>⟨_,rfl⟩⟩
def aKH:Tbl:=ext aK9 23 (aS mL)
theorem aH0:FOk Tryd.prog 23 (aS mL):=aB6 xZ.1 xZ.2
theorem yN:TOk Tryd.prog aKH∧cP aKH PF:=⟨bK xZ.1 aH0,bF xZ.2 fun _=>⟨_,rfl⟩⟩
def aKQ:Tbl:=ext aKH 21 (aS lY)
theorem aJ4:FOk Tryd.prog 21 (aS lY):=vK yN.1 yN.2 rfl rfl rfl
theorem zV:TOk Tryd.prog aKQ∧cP aKQ PF:=⟨bK yN.1 aJ4,bF yN.2 fun _=>⟨_,rfl⟩⟩
def aKT:Tbl:=ext aKQ 70 (aS gV)
theorem aJK:FOk Tryd.prog 70 (aS gV):=uA zV.1 zV.2
theorem zB:TOk Tryd.prog aKT∧cP aKT PF:=⟨bK zV.1 aJK,bF zV.2 fun _=>⟨_,rfl⟩⟩
def aLC:Tbl:=ext aKT 35 (aS nJ)
theorem aI3:FOk Tryd.prog 35 (aS nJ):=wB zB.1 zB.2 rfl
theorem aDq:TOk Tryd.prog aLC∧cP aLC PF:=⟨bK zB.1 aI3,bF zB.2 fun _=>⟨_,rfl⟩⟩
theorem aK0:Opn Tryd.prog 3 eI okI:=aI2 Tryd.underlying3
theorem aK6:aIu Tryd.prog 3 eI:=.inr ⟨by rfl,fun _=>⟨rfl,rfl⟩⟩
theorem aE4:OpV Tryd.prog 3 eI okI:=aGe aK0 aK6 fun _=>aGM Tryd.underlying3
def aDa (x:Int×Int):Prop:=okI x.1∧okI x.2
theorem aKC:Opn Tryd.prog 46 dK aDa:=by
 refine aFY (β:=Int×Int×Unit) (fs:=[(3,0),(3,1)]) Tryd.underlying46 (by kernel_rfl) (by kernel_rfl) (aA8 (sz:=1) aK0 (by kernel_rfl) rfl (aA8 (sz:=1) aK0 (by kernel_rfl) rfl aFB)) (fun p=>(p.1,p.2.1)) (fun _=>rfl) ?_
 intro p h
 exact ⟨h.1,h.2.1⟩
theorem aIz:aIu Tryd.prog 46 dK:=.inl ⟨by rfl,fun _=>rfl⟩
theorem aKB:Opn Tryd.prog 22 (eL 2 dK default) (okL aDa):=aFb Tryd.underlying22 (by kernel_rfl) (by decide) aKC aIz
theorem aIW:aIu Tryd.prog 22 (eL 2 dK default):=.inr ⟨by rfl,fun _=>⟨rfl,rfl⟩⟩
theorem aIb:OpV Tryd.prog 22 (eL 2 dK default) (okL aDa):=aGe aKB aIW fun _=>aEq Tryd.underlying22
end Go.Proofs.YtlmboonbfhkfnaaDoor
