import Derived.Test.YtlmboonbfhkfnaaDoorM4
import Derived.Test.YtlmboonbfhkfnaaDoorM3
import Derived.Test.YtlmboonbfhkfnaaDoorM2
set_option linter.unusedVariables false
set_option linter.unusedSimpArgs false
set_option linter.unusedSectionVars false
namespace Go.Proofs.YtlmboonbfhkfnaaDoor
open Go Go.Eng
set_option maxRecDepth 100000
set_option maxHeartbeats 0
set_option maxHeartbeats 0
set_option maxRecDepth 100000
  def eS (a0:aG) (y1:(Ar 8)×Bool) (s2:Int×Int×(Ar 8)):Option (Ct (Int×Int×(Ar 8)) ((List (List Int))×Int)):=cn (decide (s2.1<a0.N)) (bd (oE 10 s2.1 a0 y1.1 s2.2.2 0) fun y3=>
  some (.nx ((wr (s2.1+1)),y3.2.2,y3.2.1))) (some (.bk (s2.1,s2.2.1,s2.2.2)))
def fV (i x:Int) (place:GM Int) (k:Int) (out:List (List Int)):Option (Ct (Int×(GM Int)×(List (List Int))) ((List (List Int))×Int)):=
 gd (out.length≤8) (gd (0≤k∧k<(out.length:Int)) (ap (out.getD k.toNat default) [x] fun l=>some (.nx (wr (i+1),place.put x k,out.set k.toNat l))))
def fX (m5:Ar 8) (l7:List Int) (s:Int×(GM Int)×(List (List Int))):Option (Ct (Int×(GM Int)×(List (List Int))) ((List (List Int))×Int)):=cn (decide (s.1<(l7.length:Int))) (ix l7 default s.1 fun e=>gd (0≤e∧e<(8:Int)) (cn (!(s.2.1.has (wr ((m5.at1 e)-1)))) (gd (s.2.2.length≤7) (fV s.1 e s.2.1 (s.2.2.length:Int) (s.2.2++[[]])))
  (fV s.1 e s.2.1 (s.2.1.get (wr ((m5.at1 e)-1)) 0) s.2.2))) (some (.bk s))
def fN (a0:aG):Option ((List (List Int))×Int):=bd (bP a0) fun y1=>
  cn (!y1.2) (some ([],70)) (bd (lp (eS a0 y1) FU (0,0,(Ar.zero 8))) fun c4=>smK c4 (fun s5=>bd (fK a0.N y1.1) fun y7=>bd (lp (fX s5.2.2 y7) FU (0,GM.mt Int,[])) fun c8=>smK c8 (fun s9=>gd (s9.2.2.length≤8) (some (s9.2.2,0))) (fun r10=>some r10)) (fun r6=>
  some r6))
def gP:List AV→AV→Prop:=fun args r=>∃ a0,args=[bJ a0]∧W (fN a0) fun y=>r=(.tup [(eL 1 (eL 1 eI default) default) y.1,eI y.2])
theorem wT {T:Tbl} (hT:TOk Tryd.prog T) (hpf:cY T PF) (h54:T 54=aK cF) (h57:T 57=aK gM) (h65:T 65=qH (lD 10)):FOk Tryd.prog 31 (aK gP):=by
 refine bG hT hpf Tryd.func31 rfl Tryd.ntmps31 Tryd.results31 (by decide) ?_
 rintro args r ⟨a0,rfl,h⟩
 refine ⟨nle rfl,?_,?_⟩
 ·exact (lsC (cB _) lsN)
 rw [fN.eq_1] at h
 refine aA dCo rfl fun K hK=>?_;conv=>whnf
 refine hK _ _ _ ?_
 refine aA dCo rfl fun K hK=>?_;conv=>whnf
 refine nlA rfl ?_;conv=>whnf
 refine bKo rfl ?_;conv=>whnf
 refine nlA rfl ?_;conv=>whnf
 replace h:=bM h
 refine cC h54 h (WkL.refl _) (fun _ h=>?_);conv=>whnf
 refine aQ ?_;conv=>whnf
 refine aQ ?_;conv=>whnf
 refine aQ ?_;conv=>whnf
 refine bKo rfl ?_;conv=>whnf
 refine pS rfl rfl rfl ?_;conv=>whnf
 refine hK _ _ _ ?_
 refine aE ?_
 refine aA dCo rfl fun K hK=>?_;conv=>whnf
 refine hK _ _ _ ?_
 refine aW fun K1 K2 hK1 hK2=>?_;conv=>whnf
 refine cLk h (fun _ h=>?_) (fun _ h=>?_)
 ·refine hK1 ?_
  refine aA dCo rfl fun K hK=>?_;conv=>whnf
  refine hK _ _ _ ?_
  refine aP ?_
  refine aJ ?_
  replace h:=aO h
  refine aM dCo fun K hK=>?_;conv=>whnf
  refine hK _ ?_
  cases h
  exact pR (aC kX (aC (Wk.refl _) bA))
 refine hK2 ?_
 refine aH ?_
 refine tHn ?_
 refine aA dCo rfl fun K hK=>?_;conv=>whnf
 refine hK _ _ _ ?_
 refine aA dCo rfl fun K hK=>?_;conv=>whnf
 refine hK _ _ _ ?_
 refine aA dCo rfl fun K hK=>?_;conv=>whnf
 refine hK _ _ _ ?_
 refine lU 1 ?_;(conv=>whnf);refine ⟨_,rfl,?_⟩
 refine lU 4 ?_;(conv=>whnf);refine ⟨_,rfl,?_⟩
 refine aA dCo rfl fun K hK=>?_;conv=>whnf
 refine bKo rfl ?_;conv=>whnf
 refine And.intro rfl (And.intro (nle rfl) (And.intro rfl ?_));conv=>whnf
 refine hK _ _ _ ?_
 refine aE ?_
 refine aA dCo rfl fun K hK=>?_;conv=>whnf
 refine gKo rfl ?_;conv=>whnf
 refine hK _ _ _ ?_
 refine aF ?_
 replace h:=bM h
 refine gC (body:=eS _ _) rfl h [1,4,6,7,8,25] [8] [] [7,6] (fun kl kh kr ids b s=>⟨ofL ([(26,eI s.1)]++kl),ofH (([(wW ids 0,.cells [eI s.2.1])]++kh)++([(wW ids 1,.cells (cA s.2.2))]++kr)),b+128⟩) ?_;(conv=>whnf);refine And.intro ?_ (fun s m h=>dG ?_)
 ·refine bE ?_;conv=>whnf
  exact And.intro rfl (And.intro (aLc wkI (aLc (wkr (lsE (lsC (lsI _ _) (lsC (lsL fun _=>(aD _)) lsN)))) (aLc (wkr (lsE (aN _))) (aLc (WkR.ptr (fun _=>rfl)) (aLc (WkR.ptr (fun _=>rfl)) (aLc (WkR.ptr (fun _=>rfl)) (aLc wkI aLn))))))) (aLc ⟨some _,rfl,bRc rfl (cKc wkI cKn)⟩ (aLc ⟨some _,rfl,bRc rfl (cKc (fA bB (aB (wkr (lsE (lsC (lsI _ _) (lsC (lsL fun _=>(aD _)) lsN)))) (aB (wkr (lsE (aN _))) (aB (WkR.ptr (fun _=>rfl)) (aB (WkR.ptr (fun _=>rfl)) (aB (WkR.ptr (fun _=>rfl)) bB)))))) cKn)⟩ (aLc ⟨some _,rfl,aV (x:=(Ar.zero 8)) rfl rfl⟩ aLn))))
 replace h:=bM h;rw [eS.eq_1] at h
 refine aA dCo rfl fun K hK=>?_;conv=>whnf
 refine hK _ _ _ ?_
 refine aE ?_
 refine aW fun K1 K2 hK1 hK2=>?_;conv=>whnf
 refine cLk h (fun _ h=>?_) (fun _ h=>?_)
 ·refine hK1 ?_
  refine aH ?_
  refine tHn ?_
  refine aE ?_
  refine aF ?_
  refine aA dCo rfl fun K hK=>?_;conv=>whnf
  refine hK _ _ _ ?_
  refine aA dCo rfl fun K hK=>?_;conv=>whnf
  refine bKo rfl ?_;conv=>whnf
  refine And.intro rfl (And.intro (nle rfl) (And.intro rfl ?_));conv=>whnf
  refine hK _ _ _ ?_
  refine cK dCo rfl fun K hK=>?_;conv=>whnf
  refine nlA rfl ?_;conv=>whnf
  refine bKo rfl ?_;conv=>whnf
  refine gKo rfl ?_;conv=>whnf
  refine dM (bs:=[.ab _,.ab _,.fn 65 [.v _,.v _,.p 1,.p 0,.p 2]]) (args0:=[_,_,_,.ptr 1 0,.ptr 0 0,.ptr 2 0]) h65 [_,_,_] h (.cons (sE (Wk.refl _) (lsI _ _)) (.cons (bL (lsE (lsC (lsI _ _) (lsC (lsL fun _=>(aD _)) lsN)))) (.cons (bL (lsE (aN _))) (.cons (eU rfl) (.cons (eU rfl) (.cons (eU rfl) .nil)))))) ⟨⟨_,rfl,bkW _⟩,⟨_,rfl,bkW _⟩,rfl,trivial⟩ rfl (nle rfl) (fun y e=>(⟨_,_,_,_,_,_,rfl,rfl,e,rfl,rfl⟩:lD 10 _ _ _ _)) (fun _ h=>?_);conv=>whnf
  refine hK _ _ _ ?_
  refine iBn ?_
  refine tHn ?_
  refine cK dCo rfl fun K hK=>?_;conv=>whnf
  refine hK _ _ _ ?_
  refine tHn ?_
  replace h:=bF h
  refine ⟨_,h,?_⟩
  refine bE ?_;conv=>whnf
  exact And.intro rfl (And.intro (aLc wkI (aLc (wkr (lsE (lsC (lsI _ _) (lsC (lsL fun _=>(aD _)) lsN)))) (aLc (wkr (lsE (aN _))) (aLc (WkR.ptr (fun _=>rfl)) (aLc (WkR.ptr (fun _=>rfl)) (aLc (WkR.ptr (fun _=>rfl)) (aLc wkI aLn))))))) (aLc ⟨some _,rfl,bRc rfl (cKc wkI cKn)⟩ (aLc ⟨some _,rfl,bRc rfl (cKc (fA bB (aB (wkr (lsE (lsC (lsI _ _) (lsC (lsL fun _=>(aD _)) lsN)))) (aB (wkr (lsE (aN _))) (aB (WkR.ptr (fun _=>rfl)) (aB (WkR.ptr (fun _=>rfl)) (aB (WkR.ptr (fun _=>rfl)) bB)))))) cKn)⟩ (aLc ⟨some _,rfl,aV rfl rfl⟩ aLn))))
 refine hK2 ?_
 refine bD ?_
 refine aT ?_
 refine aT ?_
 refine aS ?_
 replace h:=dI h
 replace h:=dK h
 refine tHn ?_
 refine aA dCo rfl fun K hK=>?_;conv=>whnf
 refine hK _ _ _ ?_
 refine aA dCo rfl fun K hK=>?_;conv=>whnf
 refine hK _ _ _ ?_
 refine aE ?_
 refine aA dCo rfl fun K hK=>?_;conv=>whnf
 refine gKo rfl ?_;conv=>whnf
 refine rU rfl ?_;conv=>whnf
 refine aQ ?_;conv=>whnf
 replace h:=bM h
 refine lW h57 h (WkL.refl _) (fun _ h=>?_);conv=>whnf
 refine hK _ _ _ ?_
 refine aF ?_
 replace h:=bM h
 refine gC (body:=fX _ _) rfl h [6,11,37,38] [] [6] [11] (fun kl kh kr ids b s=>⟨ofL ([(39,eI s.1),(10,.so (b+512) 0 s.2.2.length 1)]++kl),ofH (([(wW ids 0,abM eI s.2.1),(b+0,.cells []),(b+64,.cells []),(b+128,.cells []),(b+192,.cells []),(b+256,.cells []),(b+320,.cells []),(b+384,.cells []),(b+448,.cells [])]++kh)++([(b+512,.cells (oC [b+0,b+64,b+128,b+192,b+256,b+320,b+384,b+448] s.2.2))]++kr)),b+576⟩) ?_;(conv=>whnf);refine And.intro ?_ (fun s m h=>dG ?_)
 ·refine gK aM2 ?_;conv=>whnf
  exact And.intro rfl (And.intro (aLc wkI (aLc (WkR.nilso (fun _=>rfl)) (aLc (WkR.ptr (fun _=>rfl)) (aLc (WkR.mp (fun _=>rfl)) (aLc (wkr (lsL fun _=>(lsI _ _))) (aLc wkI aLn)))))) (aLc ⟨some _,rfl,iY (enc:=eI) (m:=(GM.mt Int)) rfl (fun _=>(lsI _ _))⟩ (aLc ⟨none,rfl,sW⟩ (aLc ⟨none,rfl,sW⟩ (aLc ⟨none,rfl,sW⟩ (aLc ⟨none,rfl,sW⟩ (aLc ⟨none,rfl,sW⟩ (aLc ⟨none,rfl,sW⟩ (aLc ⟨none,rfl,sW⟩ (aLc ⟨none,rfl,sW⟩ (aLc ⟨none,rfl,aI3⟩ (aLc ⟨some _,rfl,aV rfl rfl⟩ aLn))))))))))))
 replace h:=bM h;rw [fX.eq_1] at h
 refine aA dCo rfl fun K hK=>?_;conv=>whnf
 refine hK _ _ _ ?_
 refine aE ?_
 refine aW fun K1 K2 hK1 hK2=>?_;conv=>whnf
 refine cLk h (fun _ h=>?_) (fun _ h=>?_)
 ·refine hK1 ?_
  refine aH ?_
  refine tHn ?_
  refine aE ?_
  refine aF ?_
  refine aA dCo rfl fun K hK=>?_;conv=>whnf
  refine gE h fun _ h=>?_;conv=>whnf
  refine gKo rfl ?_;conv=>whnf
  refine hK _ _ _ ?_
  refine aA dCo rfl fun K hK=>?_;conv=>whnf
  refine cH h fun hx h=>?_;conv=>whnf
  refine nlA rfl ?_;conv=>whnf
  refine bKo rfl ?_;conv=>whnf
  refine dS rfl hx ?_;conv=>whnf
  refine aGo (enc:=eI) dCo rfl (0:Int) rfl rfl (nle rfl) ?_;conv=>whnf
  refine hK _ _ _ ?_
  refine aE ?_
  refine aA dCo rfl fun K hK=>?_;conv=>whnf
  refine hK _ _ _ ?_
  refine aW fun K1 K2 hK1 hK2=>?_;conv=>whnf
  refine cLk h (fun _ h=>?_) (fun _ h=>?_)
  ·refine hK1 ?_
   obtain ⟨h7,h⟩:=yV h
   refine aA dCo rfl fun K hK=>?_;conv=>whnf
   refine hK _ _ _ ?_
   refine cK dCo rfl fun K hK=>?_;conv=>whnf
   refine eK (enc:=fun (_:Unit)=>AV.nils) (d:=()) (l:=[()]) (f:=fun _=>some ()) (Φ:=fun _=>True) dCo (jN _) rfl rfl rfl ⟨nle rfl,nle rfl,rfl⟩ rfl ⟨⟨rfl,rfl,rfl⟩,trivial⟩ (fun _=>?_);conv=>whnf
   refine aKp dCo rfl rfl rfl ⟨rfl,nle rfl,nle rfl,rfl⟩ rfl rfl (by omega) rfl ?_;conv=>whnf
   refine hK _ _ _ ?_
   refine tHn ?_
   replace h:=fV.eq_1 _ _ _ _ _ ▸ h
   obtain ⟨h8,h⟩:=yV h
   obtain ⟨hk,h⟩:=yV h
   have hj:(_:Int).toNat<_:=(Int.toNat_lt hk.1).2 hk.2
   generalize hkk:(s.2.2.length:Int)=kk at h hk hj ⊢
   have hc:kk=0∨kk=1∨kk=2∨kk=3∨kk=4∨kk=5∨kk=6∨kk=7:=by omega
   rcases hc with rfl | rfl | rfl | rfl | rfl | rfl | rfl | rfl
   ·refine pK 10 (out:=s.2.2) rfl rfl (by rw [show s.2.2.length=0 by omega];exact ⟨_,_,rfl,rfl⟩) ?_
    refine aA dCo rfl fun K hK=>?_;conv=>whnf
    refine And.intro ⟨by omega,by simp only [List.length_append,List.length_cons,List.length_nil] at *;omega⟩ ?_;conv=>whnf
    refine nlA rfl ?_;conv=>whnf
    refine bKo rfl ?_;conv=>whnf
    refine gKo (jM (j:=0) rfl hj) ?_;conv=>whnf
    refine eK (enc:=eI) (d:=default) (l:=[_]) (f:=fun _=>some ()) (Φ:=fun _=>True) dCo (jN _) rfl rfl rfl ⟨nle rfl,nle rfl,rfl⟩ rfl ⟨⟨rfl,rfl,rfl⟩,trivial⟩ (fun _=>?_);conv=>whnf
    refine mG (enc:=eI) (d:=default) dCo h (.inl rfl) rfl rfl rfl ⟨rfl,nle rfl,nle rfl,nle rfl,rfl⟩ (fun _=>rfl) (.inr (.inr ⟨_,_,rfl,rfl,rfl⟩)) (fun h=>?_);conv=>whnf
    refine And.intro ⟨by omega,by simp only [List.length_append,List.length_cons,List.length_nil] at *;omega⟩ ?_;conv=>whnf
    refine bKo rfl ?_;conv=>whnf
    refine qG (j:=0) (nle rfl) hj rfl rfl rfl rfl ?_;conv=>whnf
    refine hK _ _ _ ?_
    refine cK dCo rfl fun K hK=>?_;conv=>whnf
    refine fM (enc:=eI) dCo rfl rfl ?_;conv=>whnf
    refine hK _ _ _ ?_
    refine iBn ?_
    refine tHn ?_
    refine cK dCo rfl fun K hK=>?_;conv=>whnf
    refine hK _ _ _ ?_
    refine tHn ?_
    replace h:=bF h
    refine ⟨_,h,?_⟩
    refine gK (aBI 32 0 0) ?_;conv=>whnf
    exact And.intro rfl (And.intro (aLc wkI (aLc (WkR.soN (fun _=>rfl) (by simp)) (aLc (WkR.ptr (fun _=>rfl)) (aLc (WkR.mp (fun _=>rfl)) (aLc (wkr (lsL fun _=>(lsI _ _))) (aLc wkI aLn)))))) (aLc ⟨some _,rfl,iY (enc:=eI) rfl (fun _=>(lsI _ _))⟩ (aLc ⟨some _,rfl,bRc rfl cKn⟩ (aLc ⟨some _,rfl,bRc rfl cKn⟩ (aLc ⟨some _,rfl,bRc rfl cKn⟩ (aLc ⟨some _,rfl,bRc rfl cKn⟩ (aLc ⟨some _,rfl,bRc rfl cKn⟩ (aLc ⟨some _,rfl,bRc rfl cKn⟩ (aLc ⟨some _,rfl,bRc rfl cKn⟩ (aLc ⟨some _,rfl,bRc rfl cKn⟩ (aLc ⟨some _,rfl,kW rfl ⟨fun _=>rfl,fun _=>rfl,fun _=>rfl,fun _=>rfl,fun _=>rfl,fun _=>rfl,fun _=>rfl,fun _=>rfl,trivial⟩⟩ (aLc ⟨some _,rfl,aV rfl rfl⟩ aLn))))))))))))
   ·refine pK 10 (out:=s.2.2) rfl rfl (by rw [show s.2.2.length=1 by omega];exact ⟨_,_,rfl,rfl⟩) ?_
    refine aA dCo rfl fun K hK=>?_;conv=>whnf
    refine And.intro ⟨by omega,by simp only [List.length_append,List.length_cons,List.length_nil] at *;omega⟩ ?_;conv=>whnf
    refine nlA rfl ?_;conv=>whnf
    refine bKo rfl ?_;conv=>whnf
    refine gKo (jM (j:=1) rfl hj) ?_;conv=>whnf
    refine eK (enc:=eI) (d:=default) (l:=[_]) (f:=fun _=>some ()) (Φ:=fun _=>True) dCo (jN _) rfl rfl rfl ⟨nle rfl,nle rfl,rfl⟩ rfl ⟨⟨rfl,rfl,rfl⟩,trivial⟩ (fun _=>?_);conv=>whnf
    refine mG (enc:=eI) (d:=default) dCo h (.inl rfl) rfl rfl rfl ⟨rfl,nle rfl,nle rfl,nle rfl,rfl⟩ (fun _=>rfl) (.inr (.inr ⟨_,_,rfl,rfl,rfl⟩)) (fun h=>?_);conv=>whnf
    refine And.intro ⟨by omega,by simp only [List.length_append,List.length_cons,List.length_nil] at *;omega⟩ ?_;conv=>whnf
    refine bKo rfl ?_;conv=>whnf
    refine qG (j:=1) (nle rfl) hj rfl rfl rfl rfl ?_;conv=>whnf
    refine hK _ _ _ ?_
    refine cK dCo rfl fun K hK=>?_;conv=>whnf
    refine fM (enc:=eI) dCo rfl rfl ?_;conv=>whnf
    refine hK _ _ _ ?_
    refine iBn ?_
    refine tHn ?_
    refine cK dCo rfl fun K hK=>?_;conv=>whnf
    refine hK _ _ _ ?_
    refine tHn ?_
    replace h:=bF h
    refine ⟨_,h,?_⟩
    refine gK (aBI 32 0 1) ?_;conv=>whnf
    exact And.intro rfl (And.intro (aLc wkI (aLc (WkR.soN (fun _=>rfl) (by simp)) (aLc (WkR.ptr (fun _=>rfl)) (aLc (WkR.mp (fun _=>rfl)) (aLc (wkr (lsL fun _=>(lsI _ _))) (aLc wkI aLn)))))) (aLc ⟨some _,rfl,iY (enc:=eI) rfl (fun _=>(lsI _ _))⟩ (aLc ⟨some _,rfl,bRc rfl cKn⟩ (aLc ⟨some _,rfl,bRc rfl cKn⟩ (aLc ⟨some _,rfl,bRc rfl cKn⟩ (aLc ⟨some _,rfl,bRc rfl cKn⟩ (aLc ⟨some _,rfl,bRc rfl cKn⟩ (aLc ⟨some _,rfl,bRc rfl cKn⟩ (aLc ⟨some _,rfl,bRc rfl cKn⟩ (aLc ⟨some _,rfl,bRc rfl cKn⟩ (aLc ⟨some _,rfl,kW rfl ⟨fun _=>rfl,fun _=>rfl,fun _=>rfl,fun _=>rfl,fun _=>rfl,fun _=>rfl,fun _=>rfl,fun _=>rfl,trivial⟩⟩ (aLc ⟨some _,rfl,aV rfl rfl⟩ aLn))))))))))))
   ·refine pK 10 (out:=s.2.2) rfl rfl (by rw [show s.2.2.length=2 by omega];exact ⟨_,_,rfl,rfl⟩) ?_
    refine aA dCo rfl fun K hK=>?_;conv=>whnf
    refine And.intro ⟨by omega,by simp only [List.length_append,List.length_cons,List.length_nil] at *;omega⟩ ?_;conv=>whnf
    refine nlA rfl ?_;conv=>whnf
    refine bKo rfl ?_;conv=>whnf
    refine gKo (jM (j:=2) rfl hj) ?_;conv=>whnf
    refine eK (enc:=eI) (d:=default) (l:=[_]) (f:=fun _=>some ()) (Φ:=fun _=>True) dCo (jN _) rfl rfl rfl ⟨nle rfl,nle rfl,rfl⟩ rfl ⟨⟨rfl,rfl,rfl⟩,trivial⟩ (fun _=>?_);conv=>whnf
    refine mG (enc:=eI) (d:=default) dCo h (.inl rfl) rfl rfl rfl ⟨rfl,nle rfl,nle rfl,nle rfl,rfl⟩ (fun _=>rfl) (.inr (.inr ⟨_,_,rfl,rfl,rfl⟩)) (fun h=>?_);conv=>whnf
    refine And.intro ⟨by omega,by simp only [List.length_append,List.length_cons,List.length_nil] at *;omega⟩ ?_;conv=>whnf
    refine bKo rfl ?_;conv=>whnf
    refine qG (j:=2) (nle rfl) hj rfl rfl rfl rfl ?_;conv=>whnf
    refine hK _ _ _ ?_
    refine cK dCo rfl fun K hK=>?_;conv=>whnf
    refine fM (enc:=eI) dCo rfl rfl ?_;conv=>whnf
    refine hK _ _ _ ?_
    refine iBn ?_
    refine tHn ?_
    refine cK dCo rfl fun K hK=>?_;conv=>whnf
    refine hK _ _ _ ?_
    refine tHn ?_
    replace h:=bF h
    refine ⟨_,h,?_⟩
    refine gK (aBI 32 0 2) ?_;conv=>whnf
    exact And.intro rfl (And.intro (aLc wkI (aLc (WkR.soN (fun _=>rfl) (by simp)) (aLc (WkR.ptr (fun _=>rfl)) (aLc (WkR.mp (fun _=>rfl)) (aLc (wkr (lsL fun _=>(lsI _ _))) (aLc wkI aLn)))))) (aLc ⟨some _,rfl,iY (enc:=eI) rfl (fun _=>(lsI _ _))⟩ (aLc ⟨some _,rfl,bRc rfl cKn⟩ (aLc ⟨some _,rfl,bRc rfl cKn⟩ (aLc ⟨some _,rfl,bRc rfl cKn⟩ (aLc ⟨some _,rfl,bRc rfl cKn⟩ (aLc ⟨some _,rfl,bRc rfl cKn⟩ (aLc ⟨some _,rfl,bRc rfl cKn⟩ (aLc ⟨some _,rfl,bRc rfl cKn⟩ (aLc ⟨some _,rfl,bRc rfl cKn⟩ (aLc ⟨some _,rfl,kW rfl ⟨fun _=>rfl,fun _=>rfl,fun _=>rfl,fun _=>rfl,fun _=>rfl,fun _=>rfl,fun _=>rfl,fun _=>rfl,trivial⟩⟩ (aLc ⟨some _,rfl,aV rfl rfl⟩ aLn))))))))))))
   ·refine pK 10 (out:=s.2.2) rfl rfl (by rw [show s.2.2.length=3 by omega];exact ⟨_,_,rfl,rfl⟩) ?_
    refine aA dCo rfl fun K hK=>?_;conv=>whnf
    refine And.intro ⟨by omega,by simp only [List.length_append,List.length_cons,List.length_nil] at *;omega⟩ ?_;conv=>whnf
    refine nlA rfl ?_;conv=>whnf
    refine bKo rfl ?_;conv=>whnf
    refine gKo (jM (j:=3) rfl hj) ?_;conv=>whnf
    refine eK (enc:=eI) (d:=default) (l:=[_]) (f:=fun _=>some ()) (Φ:=fun _=>True) dCo (jN _) rfl rfl rfl ⟨nle rfl,nle rfl,rfl⟩ rfl ⟨⟨rfl,rfl,rfl⟩,trivial⟩ (fun _=>?_);conv=>whnf
    refine mG (enc:=eI) (d:=default) dCo h (.inl rfl) rfl rfl rfl ⟨rfl,nle rfl,nle rfl,nle rfl,rfl⟩ (fun _=>rfl) (.inr (.inr ⟨_,_,rfl,rfl,rfl⟩)) (fun h=>?_);conv=>whnf
    refine And.intro ⟨by omega,by simp only [List.length_append,List.length_cons,List.length_nil] at *;omega⟩ ?_;conv=>whnf
    refine bKo rfl ?_;conv=>whnf
    refine qG (j:=3) (nle rfl) hj rfl rfl rfl rfl ?_;conv=>whnf
    refine hK _ _ _ ?_
    refine cK dCo rfl fun K hK=>?_;conv=>whnf
    refine fM (enc:=eI) dCo rfl rfl ?_;conv=>whnf
    refine hK _ _ _ ?_
    refine iBn ?_
    refine tHn ?_
    refine cK dCo rfl fun K hK=>?_;conv=>whnf
    refine hK _ _ _ ?_
    refine tHn ?_
    replace h:=bF h
    refine ⟨_,h,?_⟩
    refine gK (aBI 32 0 3) ?_;conv=>whnf
    exact And.intro rfl (And.intro (aLc wkI (aLc (WkR.soN (fun _=>rfl) (by simp)) (aLc (WkR.ptr (fun _=>rfl)) (aLc (WkR.mp (fun _=>rfl)) (aLc (wkr (lsL fun _=>(lsI _ _))) (aLc wkI aLn)))))) (aLc ⟨some _,rfl,iY (enc:=eI) rfl (fun _=>(lsI _ _))⟩ (aLc ⟨some _,rfl,bRc rfl cKn⟩ (aLc ⟨some _,rfl,bRc rfl cKn⟩ (aLc ⟨some _,rfl,bRc rfl cKn⟩ (aLc ⟨some _,rfl,bRc rfl cKn⟩ (aLc ⟨some _,rfl,bRc rfl cKn⟩ (aLc ⟨some _,rfl,bRc rfl cKn⟩ (aLc ⟨some _,rfl,bRc rfl cKn⟩ (aLc ⟨some _,rfl,bRc rfl cKn⟩ (aLc ⟨some _,rfl,kW rfl ⟨fun _=>rfl,fun _=>rfl,fun _=>rfl,fun _=>rfl,fun _=>rfl,fun _=>rfl,fun _=>rfl,fun _=>rfl,trivial⟩⟩ (aLc ⟨some _,rfl,aV rfl rfl⟩ aLn))))))))))))
   ·refine pK 10 (out:=s.2.2) rfl rfl (by rw [show s.2.2.length=4 by omega];exact ⟨_,_,rfl,rfl⟩) ?_
    refine aA dCo rfl fun K hK=>?_;conv=>whnf
    refine And.intro ⟨by omega,by simp only [List.length_append,List.length_cons,List.length_nil] at *;omega⟩ ?_;conv=>whnf
    refine nlA rfl ?_;conv=>whnf
    refine bKo rfl ?_;conv=>whnf
    refine gKo (jM (j:=4) rfl hj) ?_;conv=>whnf
    refine eK (enc:=eI) (d:=default) (l:=[_]) (f:=fun _=>some ()) (Φ:=fun _=>True) dCo (jN _) rfl rfl rfl ⟨nle rfl,nle rfl,rfl⟩ rfl ⟨⟨rfl,rfl,rfl⟩,trivial⟩ (fun _=>?_);conv=>whnf
    refine mG (enc:=eI) (d:=default) dCo h (.inl rfl) rfl rfl rfl ⟨rfl,nle rfl,nle rfl,nle rfl,rfl⟩ (fun _=>rfl) (.inr (.inr ⟨_,_,rfl,rfl,rfl⟩)) (fun h=>?_);conv=>whnf
    refine And.intro ⟨by omega,by simp only [List.length_append,List.length_cons,List.length_nil] at *;omega⟩ ?_;conv=>whnf
    refine bKo rfl ?_;conv=>whnf
    refine qG (j:=4) (nle rfl) hj rfl rfl rfl rfl ?_;conv=>whnf
    refine hK _ _ _ ?_
    refine cK dCo rfl fun K hK=>?_;conv=>whnf
    refine fM (enc:=eI) dCo rfl rfl ?_;conv=>whnf
    refine hK _ _ _ ?_
    refine iBn ?_
    refine tHn ?_
    refine cK dCo rfl fun K hK=>?_;conv=>whnf
    refine hK _ _ _ ?_
    refine tHn ?_
    replace h:=bF h
    refine ⟨_,h,?_⟩
    refine gK (aBI 32 0 4) ?_;conv=>whnf
    exact And.intro rfl (And.intro (aLc wkI (aLc (WkR.soN (fun _=>rfl) (by simp)) (aLc (WkR.ptr (fun _=>rfl)) (aLc (WkR.mp (fun _=>rfl)) (aLc (wkr (lsL fun _=>(lsI _ _))) (aLc wkI aLn)))))) (aLc ⟨some _,rfl,iY (enc:=eI) rfl (fun _=>(lsI _ _))⟩ (aLc ⟨some _,rfl,bRc rfl cKn⟩ (aLc ⟨some _,rfl,bRc rfl cKn⟩ (aLc ⟨some _,rfl,bRc rfl cKn⟩ (aLc ⟨some _,rfl,bRc rfl cKn⟩ (aLc ⟨some _,rfl,bRc rfl cKn⟩ (aLc ⟨some _,rfl,bRc rfl cKn⟩ (aLc ⟨some _,rfl,bRc rfl cKn⟩ (aLc ⟨some _,rfl,bRc rfl cKn⟩ (aLc ⟨some _,rfl,kW rfl ⟨fun _=>rfl,fun _=>rfl,fun _=>rfl,fun _=>rfl,fun _=>rfl,fun _=>rfl,fun _=>rfl,fun _=>rfl,trivial⟩⟩ (aLc ⟨some _,rfl,aV rfl rfl⟩ aLn))))))))))))
   ·refine pK 10 (out:=s.2.2) rfl rfl (by rw [show s.2.2.length=5 by omega];exact ⟨_,_,rfl,rfl⟩) ?_
    refine aA dCo rfl fun K hK=>?_;conv=>whnf
    refine And.intro ⟨by omega,by simp only [List.length_append,List.length_cons,List.length_nil] at *;omega⟩ ?_;conv=>whnf
    refine nlA rfl ?_;conv=>whnf
    refine bKo rfl ?_;conv=>whnf
    refine gKo (jM (j:=5) rfl hj) ?_;conv=>whnf
    refine eK (enc:=eI) (d:=default) (l:=[_]) (f:=fun _=>some ()) (Φ:=fun _=>True) dCo (jN _) rfl rfl rfl ⟨nle rfl,nle rfl,rfl⟩ rfl ⟨⟨rfl,rfl,rfl⟩,trivial⟩ (fun _=>?_);conv=>whnf
    refine mG (enc:=eI) (d:=default) dCo h (.inl rfl) rfl rfl rfl ⟨rfl,nle rfl,nle rfl,nle rfl,rfl⟩ (fun _=>rfl) (.inr (.inr ⟨_,_,rfl,rfl,rfl⟩)) (fun h=>?_);conv=>whnf
    refine And.intro ⟨by omega,by simp only [List.length_append,List.length_cons,List.length_nil] at *;omega⟩ ?_;conv=>whnf
    refine bKo rfl ?_;conv=>whnf
    refine qG (j:=5) (nle rfl) hj rfl rfl rfl rfl ?_;conv=>whnf
    refine hK _ _ _ ?_
    refine cK dCo rfl fun K hK=>?_;conv=>whnf
    refine fM (enc:=eI) dCo rfl rfl ?_;conv=>whnf
    refine hK _ _ _ ?_
    refine iBn ?_
    refine tHn ?_
    refine cK dCo rfl fun K hK=>?_;conv=>whnf
    refine hK _ _ _ ?_
    refine tHn ?_
    replace h:=bF h
    refine ⟨_,h,?_⟩
    refine gK (aBI 32 0 5) ?_;conv=>whnf
    exact And.intro rfl (And.intro (aLc wkI (aLc (WkR.soN (fun _=>rfl) (by simp)) (aLc (WkR.ptr (fun _=>rfl)) (aLc (WkR.mp (fun _=>rfl)) (aLc (wkr (lsL fun _=>(lsI _ _))) (aLc wkI aLn)))))) (aLc ⟨some _,rfl,iY (enc:=eI) rfl (fun _=>(lsI _ _))⟩ (aLc ⟨some _,rfl,bRc rfl cKn⟩ (aLc ⟨some _,rfl,bRc rfl cKn⟩ (aLc ⟨some _,rfl,bRc rfl cKn⟩ (aLc ⟨some _,rfl,bRc rfl cKn⟩ (aLc ⟨some _,rfl,bRc rfl cKn⟩ (aLc ⟨some _,rfl,bRc rfl cKn⟩ (aLc ⟨some _,rfl,bRc rfl cKn⟩ (aLc ⟨some _,rfl,bRc rfl cKn⟩ (aLc ⟨some _,rfl,kW rfl ⟨fun _=>rfl,fun _=>rfl,fun _=>rfl,fun _=>rfl,fun _=>rfl,fun _=>rfl,fun _=>rfl,fun _=>rfl,trivial⟩⟩ (aLc ⟨some _,rfl,aV rfl rfl⟩ aLn))))))))))))
   ·refine pK 10 (out:=s.2.2) rfl rfl (by rw [show s.2.2.length=6 by omega];exact ⟨_,_,rfl,rfl⟩) ?_
    refine aA dCo rfl fun K hK=>?_;conv=>whnf
    refine And.intro ⟨by omega,by simp only [List.length_append,List.length_cons,List.length_nil] at *;omega⟩ ?_;conv=>whnf
    refine nlA rfl ?_;conv=>whnf
    refine bKo rfl ?_;conv=>whnf
    refine gKo (jM (j:=6) rfl hj) ?_;conv=>whnf
    refine eK (enc:=eI) (d:=default) (l:=[_]) (f:=fun _=>some ()) (Φ:=fun _=>True) dCo (jN _) rfl rfl rfl ⟨nle rfl,nle rfl,rfl⟩ rfl ⟨⟨rfl,rfl,rfl⟩,trivial⟩ (fun _=>?_);conv=>whnf
    refine mG (enc:=eI) (d:=default) dCo h (.inl rfl) rfl rfl rfl ⟨rfl,nle rfl,nle rfl,nle rfl,rfl⟩ (fun _=>rfl) (.inr (.inr ⟨_,_,rfl,rfl,rfl⟩)) (fun h=>?_);conv=>whnf
    refine And.intro ⟨by omega,by simp only [List.length_append,List.length_cons,List.length_nil] at *;omega⟩ ?_;conv=>whnf
    refine bKo rfl ?_;conv=>whnf
    refine qG (j:=6) (nle rfl) hj rfl rfl rfl rfl ?_;conv=>whnf
    refine hK _ _ _ ?_
    refine cK dCo rfl fun K hK=>?_;conv=>whnf
    refine fM (enc:=eI) dCo rfl rfl ?_;conv=>whnf
    refine hK _ _ _ ?_
    refine iBn ?_
    refine tHn ?_
    refine cK dCo rfl fun K hK=>?_;conv=>whnf
    refine hK _ _ _ ?_
    refine tHn ?_
    replace h:=bF h
    refine ⟨_,h,?_⟩
    refine gK (aBI 32 0 6) ?_;conv=>whnf
    exact And.intro rfl (And.intro (aLc wkI (aLc (WkR.soN (fun _=>rfl) (by simp)) (aLc (WkR.ptr (fun _=>rfl)) (aLc (WkR.mp (fun _=>rfl)) (aLc (wkr (lsL fun _=>(lsI _ _))) (aLc wkI aLn)))))) (aLc ⟨some _,rfl,iY (enc:=eI) rfl (fun _=>(lsI _ _))⟩ (aLc ⟨some _,rfl,bRc rfl cKn⟩ (aLc ⟨some _,rfl,bRc rfl cKn⟩ (aLc ⟨some _,rfl,bRc rfl cKn⟩ (aLc ⟨some _,rfl,bRc rfl cKn⟩ (aLc ⟨some _,rfl,bRc rfl cKn⟩ (aLc ⟨some _,rfl,bRc rfl cKn⟩ (aLc ⟨some _,rfl,bRc rfl cKn⟩ (aLc ⟨some _,rfl,bRc rfl cKn⟩ (aLc ⟨some _,rfl,kW rfl ⟨fun _=>rfl,fun _=>rfl,fun _=>rfl,fun _=>rfl,fun _=>rfl,fun _=>rfl,fun _=>rfl,fun _=>rfl,trivial⟩⟩ (aLc ⟨some _,rfl,aV rfl rfl⟩ aLn))))))))))))
   ·refine pK 10 (out:=s.2.2) rfl rfl (by rw [show s.2.2.length=7 by omega];exact ⟨_,_,rfl,rfl⟩) ?_
    refine aA dCo rfl fun K hK=>?_;conv=>whnf
    refine And.intro ⟨by omega,by simp only [List.length_append,List.length_cons,List.length_nil] at *;omega⟩ ?_;conv=>whnf
    refine nlA rfl ?_;conv=>whnf
    refine bKo rfl ?_;conv=>whnf
    refine gKo (jM (j:=7) rfl hj) ?_;conv=>whnf
    refine eK (enc:=eI) (d:=default) (l:=[_]) (f:=fun _=>some ()) (Φ:=fun _=>True) dCo (jN _) rfl rfl rfl ⟨nle rfl,nle rfl,rfl⟩ rfl ⟨⟨rfl,rfl,rfl⟩,trivial⟩ (fun _=>?_);conv=>whnf
    refine mG (enc:=eI) (d:=default) dCo h (.inl rfl) rfl rfl rfl ⟨rfl,nle rfl,nle rfl,nle rfl,rfl⟩ (fun _=>rfl) (.inr (.inr ⟨_,_,rfl,rfl,rfl⟩)) (fun h=>?_);conv=>whnf
    refine And.intro ⟨by omega,by simp only [List.length_append,List.length_cons,List.length_nil] at *;omega⟩ ?_;conv=>whnf
    refine bKo rfl ?_;conv=>whnf
    refine qG (j:=7) (nle rfl) hj rfl rfl rfl rfl ?_;conv=>whnf
    refine hK _ _ _ ?_
    refine cK dCo rfl fun K hK=>?_;conv=>whnf
    refine fM (enc:=eI) dCo rfl rfl ?_;conv=>whnf
    refine hK _ _ _ ?_
    refine iBn ?_
    refine tHn ?_
    refine cK dCo rfl fun K hK=>?_;conv=>whnf
    refine hK _ _ _ ?_
    refine tHn ?_
    replace h:=bF h
    refine ⟨_,h,?_⟩
    refine gK (aBI 32 0 7) ?_;conv=>whnf
    exact And.intro rfl (And.intro (aLc wkI (aLc (WkR.soN (fun _=>rfl) (by simp)) (aLc (WkR.ptr (fun _=>rfl)) (aLc (WkR.mp (fun _=>rfl)) (aLc (wkr (lsL fun _=>(lsI _ _))) (aLc wkI aLn)))))) (aLc ⟨some _,rfl,iY (enc:=eI) rfl (fun _=>(lsI _ _))⟩ (aLc ⟨some _,rfl,bRc rfl cKn⟩ (aLc ⟨some _,rfl,bRc rfl cKn⟩ (aLc ⟨some _,rfl,bRc rfl cKn⟩ (aLc ⟨some _,rfl,bRc rfl cKn⟩ (aLc ⟨some _,rfl,bRc rfl cKn⟩ (aLc ⟨some _,rfl,bRc rfl cKn⟩ (aLc ⟨some _,rfl,bRc rfl cKn⟩ (aLc ⟨some _,rfl,bRc rfl cKn⟩ (aLc ⟨some _,rfl,kW rfl ⟨fun _=>rfl,fun _=>rfl,fun _=>rfl,fun _=>rfl,fun _=>rfl,fun _=>rfl,fun _=>rfl,fun _=>rfl,trivial⟩⟩ (aLc ⟨some _,rfl,aV rfl rfl⟩ aLn))))))))))))
  refine hK2 ?_
  refine aH ?_
  refine tHn ?_
  replace h:=fV.eq_1 _ _ _ _ _ ▸ h
  obtain ⟨h8,h⟩:=yV h
  obtain ⟨hk,h⟩:=yV h
  have hj:(_:Int).toNat<_:=(Int.toNat_lt hk.1).2 hk.2
  generalize hkk:s.2.1.get _ 0=kk at h hk hj ⊢
  have hc:kk=0∨kk=1∨kk=2∨kk=3∨kk=4∨kk=5∨kk=6∨kk=7:=by omega
  rcases hc with rfl | rfl | rfl | rfl | rfl | rfl | rfl | rfl
  ·refine aA dCo rfl fun K hK=>?_;conv=>whnf
   refine And.intro ⟨by omega,by simp only [List.length_append,List.length_cons,List.length_nil] at *;omega⟩ ?_;conv=>whnf
   refine nlA rfl ?_;conv=>whnf
   refine bKo rfl ?_;conv=>whnf
   refine gKo (jM (j:=0) rfl hj) ?_;conv=>whnf
   refine eK (enc:=eI) (d:=default) (l:=[_]) (f:=fun _=>some ()) (Φ:=fun _=>True) dCo (jN _) rfl rfl rfl ⟨nle rfl,nle rfl,rfl⟩ rfl ⟨⟨rfl,rfl,rfl⟩,trivial⟩ (fun _=>?_);conv=>whnf
   refine mG (enc:=eI) (d:=default) dCo h (.inl rfl) rfl rfl rfl ⟨rfl,nle rfl,nle rfl,nle rfl,rfl⟩ (fun _=>rfl) (.inr (.inr ⟨_,_,rfl,rfl,rfl⟩)) (fun h=>?_);conv=>whnf
   refine And.intro ⟨by omega,by simp only [List.length_append,List.length_cons,List.length_nil] at *;omega⟩ ?_;conv=>whnf
   refine bKo rfl ?_;conv=>whnf
   refine qG (j:=0) (nle rfl) hj rfl rfl rfl rfl ?_;conv=>whnf
   refine hK _ _ _ ?_
   refine cK dCo rfl fun K hK=>?_;conv=>whnf
   refine fM (enc:=eI) dCo rfl rfl ?_;conv=>whnf
   refine hK _ _ _ ?_
   refine iBn ?_
   refine tHn ?_
   refine cK dCo rfl fun K hK=>?_;conv=>whnf
   refine hK _ _ _ ?_
   refine tHn ?_
   replace h:=bF h
   refine ⟨_,h,?_⟩
   refine gK (aBI 25 0 0) ?_;conv=>whnf
   exact And.intro rfl (And.intro (aLc wkI (aLc (WkR.soN (fun _=>rfl) (by simp)) (aLc (WkR.ptr (fun _=>rfl)) (aLc (WkR.mp (fun _=>rfl)) (aLc (wkr (lsL fun _=>(lsI _ _))) (aLc wkI aLn)))))) (aLc ⟨some _,rfl,iY (enc:=eI) rfl (fun _=>(lsI _ _))⟩ (aLc ⟨some _,rfl,bRc rfl cKn⟩ (aLc ⟨some _,rfl,bRc rfl cKn⟩ (aLc ⟨some _,rfl,bRc rfl cKn⟩ (aLc ⟨some _,rfl,bRc rfl cKn⟩ (aLc ⟨some _,rfl,bRc rfl cKn⟩ (aLc ⟨some _,rfl,bRc rfl cKn⟩ (aLc ⟨some _,rfl,bRc rfl cKn⟩ (aLc ⟨some _,rfl,bRc rfl cKn⟩ (aLc ⟨some _,rfl,kW rfl ⟨fun _=>rfl,fun _=>rfl,fun _=>rfl,fun _=>rfl,fun _=>rfl,fun _=>rfl,fun _=>rfl,fun _=>rfl,trivial⟩⟩ (aLc ⟨some _,rfl,aV rfl rfl⟩ aLn))))))))))))
  ·refine aA dCo rfl fun K hK=>?_;conv=>whnf
   refine And.intro ⟨by omega,by simp only [List.length_append,List.length_cons,List.length_nil] at *;omega⟩ ?_;conv=>whnf
   refine nlA rfl ?_;conv=>whnf
   refine bKo rfl ?_;conv=>whnf
   refine gKo (jM (j:=1) rfl hj) ?_;conv=>whnf
   refine eK (enc:=eI) (d:=default) (l:=[_]) (f:=fun _=>some ()) (Φ:=fun _=>True) dCo (jN _) rfl rfl rfl ⟨nle rfl,nle rfl,rfl⟩ rfl ⟨⟨rfl,rfl,rfl⟩,trivial⟩ (fun _=>?_);conv=>whnf
   refine mG (enc:=eI) (d:=default) dCo h (.inl rfl) rfl rfl rfl ⟨rfl,nle rfl,nle rfl,nle rfl,rfl⟩ (fun _=>rfl) (.inr (.inr ⟨_,_,rfl,rfl,rfl⟩)) (fun h=>?_);conv=>whnf
   refine And.intro ⟨by omega,by simp only [List.length_append,List.length_cons,List.length_nil] at *;omega⟩ ?_;conv=>whnf
   refine bKo rfl ?_;conv=>whnf
   refine qG (j:=1) (nle rfl) hj rfl rfl rfl rfl ?_;conv=>whnf
   refine hK _ _ _ ?_
   refine cK dCo rfl fun K hK=>?_;conv=>whnf
   refine fM (enc:=eI) dCo rfl rfl ?_;conv=>whnf
   refine hK _ _ _ ?_
   refine iBn ?_
   refine tHn ?_
   refine cK dCo rfl fun K hK=>?_;conv=>whnf
   refine hK _ _ _ ?_
   refine tHn ?_
   replace h:=bF h
   refine ⟨_,h,?_⟩
   refine gK (aBI 25 0 1) ?_;conv=>whnf
   exact And.intro rfl (And.intro (aLc wkI (aLc (WkR.soN (fun _=>rfl) (by simp)) (aLc (WkR.ptr (fun _=>rfl)) (aLc (WkR.mp (fun _=>rfl)) (aLc (wkr (lsL fun _=>(lsI _ _))) (aLc wkI aLn)))))) (aLc ⟨some _,rfl,iY (enc:=eI) rfl (fun _=>(lsI _ _))⟩ (aLc ⟨some _,rfl,bRc rfl cKn⟩ (aLc ⟨some _,rfl,bRc rfl cKn⟩ (aLc ⟨some _,rfl,bRc rfl cKn⟩ (aLc ⟨some _,rfl,bRc rfl cKn⟩ (aLc ⟨some _,rfl,bRc rfl cKn⟩ (aLc ⟨some _,rfl,bRc rfl cKn⟩ (aLc ⟨some _,rfl,bRc rfl cKn⟩ (aLc ⟨some _,rfl,bRc rfl cKn⟩ (aLc ⟨some _,rfl,kW rfl ⟨fun _=>rfl,fun _=>rfl,fun _=>rfl,fun _=>rfl,fun _=>rfl,fun _=>rfl,fun _=>rfl,fun _=>rfl,trivial⟩⟩ (aLc ⟨some _,rfl,aV rfl rfl⟩ aLn))))))))))))
  ·refine aA dCo rfl fun K hK=>?_;conv=>whnf
   refine And.intro ⟨by omega,by simp only [List.length_append,List.length_cons,List.length_nil] at *;omega⟩ ?_;conv=>whnf
   refine nlA rfl ?_;conv=>whnf
   refine bKo rfl ?_;conv=>whnf
   refine gKo (jM (j:=2) rfl hj) ?_;conv=>whnf
   refine eK (enc:=eI) (d:=default) (l:=[_]) (f:=fun _=>some ()) (Φ:=fun _=>True) dCo (jN _) rfl rfl rfl ⟨nle rfl,nle rfl,rfl⟩ rfl ⟨⟨rfl,rfl,rfl⟩,trivial⟩ (fun _=>?_);conv=>whnf
   refine mG (enc:=eI) (d:=default) dCo h (.inl rfl) rfl rfl rfl ⟨rfl,nle rfl,nle rfl,nle rfl,rfl⟩ (fun _=>rfl) (.inr (.inr ⟨_,_,rfl,rfl,rfl⟩)) (fun h=>?_);conv=>whnf
   refine And.intro ⟨by omega,by simp only [List.length_append,List.length_cons,List.length_nil] at *;omega⟩ ?_;conv=>whnf
   refine bKo rfl ?_;conv=>whnf
   refine qG (j:=2) (nle rfl) hj rfl rfl rfl rfl ?_;conv=>whnf
   refine hK _ _ _ ?_
   refine cK dCo rfl fun K hK=>?_;conv=>whnf
   refine fM (enc:=eI) dCo rfl rfl ?_;conv=>whnf
   refine hK _ _ _ ?_
   refine iBn ?_
   refine tHn ?_
   refine cK dCo rfl fun K hK=>?_;conv=>whnf
   refine hK _ _ _ ?_
   refine tHn ?_
   replace h:=bF h
   refine ⟨_,h,?_⟩
   refine gK (aBI 25 0 2) ?_;conv=>whnf
   exact And.intro rfl (And.intro (aLc wkI (aLc (WkR.soN (fun _=>rfl) (by simp)) (aLc (WkR.ptr (fun _=>rfl)) (aLc (WkR.mp (fun _=>rfl)) (aLc (wkr (lsL fun _=>(lsI _ _))) (aLc wkI aLn)))))) (aLc ⟨some _,rfl,iY (enc:=eI) rfl (fun _=>(lsI _ _))⟩ (aLc ⟨some _,rfl,bRc rfl cKn⟩ (aLc ⟨some _,rfl,bRc rfl cKn⟩ (aLc ⟨some _,rfl,bRc rfl cKn⟩ (aLc ⟨some _,rfl,bRc rfl cKn⟩ (aLc ⟨some _,rfl,bRc rfl cKn⟩ (aLc ⟨some _,rfl,bRc rfl cKn⟩ (aLc ⟨some _,rfl,bRc rfl cKn⟩ (aLc ⟨some _,rfl,bRc rfl cKn⟩ (aLc ⟨some _,rfl,kW rfl ⟨fun _=>rfl,fun _=>rfl,fun _=>rfl,fun _=>rfl,fun _=>rfl,fun _=>rfl,fun _=>rfl,fun _=>rfl,trivial⟩⟩ (aLc ⟨some _,rfl,aV rfl rfl⟩ aLn))))))))))))
  ·refine aA dCo rfl fun K hK=>?_;conv=>whnf
   refine And.intro ⟨by omega,by simp only [List.length_append,List.length_cons,List.length_nil] at *;omega⟩ ?_;conv=>whnf
   refine nlA rfl ?_;conv=>whnf
   refine bKo rfl ?_;conv=>whnf
   refine gKo (jM (j:=3) rfl hj) ?_;conv=>whnf
   refine eK (enc:=eI) (d:=default) (l:=[_]) (f:=fun _=>some ()) (Φ:=fun _=>True) dCo (jN _) rfl rfl rfl ⟨nle rfl,nle rfl,rfl⟩ rfl ⟨⟨rfl,rfl,rfl⟩,trivial⟩ (fun _=>?_);conv=>whnf
   refine mG (enc:=eI) (d:=default) dCo h (.inl rfl) rfl rfl rfl ⟨rfl,nle rfl,nle rfl,nle rfl,rfl⟩ (fun _=>rfl) (.inr (.inr ⟨_,_,rfl,rfl,rfl⟩)) (fun h=>?_);conv=>whnf
   refine And.intro ⟨by omega,by simp only [List.length_append,List.length_cons,List.length_nil] at *;omega⟩ ?_;conv=>whnf
   refine bKo rfl ?_;conv=>whnf
   refine qG (j:=3) (nle rfl) hj rfl rfl rfl rfl ?_;conv=>whnf
   refine hK _ _ _ ?_
   refine cK dCo rfl fun K hK=>?_;conv=>whnf
   refine fM (enc:=eI) dCo rfl rfl ?_;conv=>whnf
   refine hK _ _ _ ?_
   refine iBn ?_
   refine tHn ?_
   refine cK dCo rfl fun K hK=>?_;conv=>whnf
   refine hK _ _ _ ?_
   refine tHn ?_
   replace h:=bF h
   refine ⟨_,h,?_⟩
   refine gK (aBI 25 0 3) ?_;conv=>whnf
   exact And.intro rfl (And.intro (aLc wkI (aLc (WkR.soN (fun _=>rfl) (by simp)) (aLc (WkR.ptr (fun _=>rfl)) (aLc (WkR.mp (fun _=>rfl)) (aLc (wkr (lsL fun _=>(lsI _ _))) (aLc wkI aLn)))))) (aLc ⟨some _,rfl,iY (enc:=eI) rfl (fun _=>(lsI _ _))⟩ (aLc ⟨some _,rfl,bRc rfl cKn⟩ (aLc ⟨some _,rfl,bRc rfl cKn⟩ (aLc ⟨some _,rfl,bRc rfl cKn⟩ (aLc ⟨some _,rfl,bRc rfl cKn⟩ (aLc ⟨some _,rfl,bRc rfl cKn⟩ (aLc ⟨some _,rfl,bRc rfl cKn⟩ (aLc ⟨some _,rfl,bRc rfl cKn⟩ (aLc ⟨some _,rfl,bRc rfl cKn⟩ (aLc ⟨some _,rfl,kW rfl ⟨fun _=>rfl,fun _=>rfl,fun _=>rfl,fun _=>rfl,fun _=>rfl,fun _=>rfl,fun _=>rfl,fun _=>rfl,trivial⟩⟩ (aLc ⟨some _,rfl,aV rfl rfl⟩ aLn))))))))))))
  ·refine aA dCo rfl fun K hK=>?_;conv=>whnf
   refine And.intro ⟨by omega,by simp only [List.length_append,List.length_cons,List.length_nil] at *;omega⟩ ?_;conv=>whnf
   refine nlA rfl ?_;conv=>whnf
   refine bKo rfl ?_;conv=>whnf
   refine gKo (jM (j:=4) rfl hj) ?_;conv=>whnf
   refine eK (enc:=eI) (d:=default) (l:=[_]) (f:=fun _=>some ()) (Φ:=fun _=>True) dCo (jN _) rfl rfl rfl ⟨nle rfl,nle rfl,rfl⟩ rfl ⟨⟨rfl,rfl,rfl⟩,trivial⟩ (fun _=>?_);conv=>whnf
   refine mG (enc:=eI) (d:=default) dCo h (.inl rfl) rfl rfl rfl ⟨rfl,nle rfl,nle rfl,nle rfl,rfl⟩ (fun _=>rfl) (.inr (.inr ⟨_,_,rfl,rfl,rfl⟩)) (fun h=>?_);conv=>whnf
   refine And.intro ⟨by omega,by simp only [List.length_append,List.length_cons,List.length_nil] at *;omega⟩ ?_;conv=>whnf
   refine bKo rfl ?_;conv=>whnf
   refine qG (j:=4) (nle rfl) hj rfl rfl rfl rfl ?_;conv=>whnf
   refine hK _ _ _ ?_
   refine cK dCo rfl fun K hK=>?_;conv=>whnf
   refine fM (enc:=eI) dCo rfl rfl ?_;conv=>whnf
   refine hK _ _ _ ?_
   refine iBn ?_
   refine tHn ?_
   refine cK dCo rfl fun K hK=>?_;conv=>whnf
   refine hK _ _ _ ?_
   refine tHn ?_
   replace h:=bF h
   refine ⟨_,h,?_⟩
   refine gK (aBI 25 0 4) ?_;conv=>whnf
   exact And.intro rfl (And.intro (aLc wkI (aLc (WkR.soN (fun _=>rfl) (by simp)) (aLc (WkR.ptr (fun _=>rfl)) (aLc (WkR.mp (fun _=>rfl)) (aLc (wkr (lsL fun _=>(lsI _ _))) (aLc wkI aLn)))))) (aLc ⟨some _,rfl,iY (enc:=eI) rfl (fun _=>(lsI _ _))⟩ (aLc ⟨some _,rfl,bRc rfl cKn⟩ (aLc ⟨some _,rfl,bRc rfl cKn⟩ (aLc ⟨some _,rfl,bRc rfl cKn⟩ (aLc ⟨some _,rfl,bRc rfl cKn⟩ (aLc ⟨some _,rfl,bRc rfl cKn⟩ (aLc ⟨some _,rfl,bRc rfl cKn⟩ (aLc ⟨some _,rfl,bRc rfl cKn⟩ (aLc ⟨some _,rfl,bRc rfl cKn⟩ (aLc ⟨some _,rfl,kW rfl ⟨fun _=>rfl,fun _=>rfl,fun _=>rfl,fun _=>rfl,fun _=>rfl,fun _=>rfl,fun _=>rfl,fun _=>rfl,trivial⟩⟩ (aLc ⟨some _,rfl,aV rfl rfl⟩ aLn))))))))))))
  ·refine aA dCo rfl fun K hK=>?_;conv=>whnf
   refine And.intro ⟨by omega,by simp only [List.length_append,List.length_cons,List.length_nil] at *;omega⟩ ?_;conv=>whnf
   refine nlA rfl ?_;conv=>whnf
   refine bKo rfl ?_;conv=>whnf
   refine gKo (jM (j:=5) rfl hj) ?_;conv=>whnf
   refine eK (enc:=eI) (d:=default) (l:=[_]) (f:=fun _=>some ()) (Φ:=fun _=>True) dCo (jN _) rfl rfl rfl ⟨nle rfl,nle rfl,rfl⟩ rfl ⟨⟨rfl,rfl,rfl⟩,trivial⟩ (fun _=>?_);conv=>whnf
   refine mG (enc:=eI) (d:=default) dCo h (.inl rfl) rfl rfl rfl ⟨rfl,nle rfl,nle rfl,nle rfl,rfl⟩ (fun _=>rfl) (.inr (.inr ⟨_,_,rfl,rfl,rfl⟩)) (fun h=>?_);conv=>whnf
   refine And.intro ⟨by omega,by simp only [List.length_append,List.length_cons,List.length_nil] at *;omega⟩ ?_;conv=>whnf
   refine bKo rfl ?_;conv=>whnf
   refine qG (j:=5) (nle rfl) hj rfl rfl rfl rfl ?_;conv=>whnf
   refine hK _ _ _ ?_
   refine cK dCo rfl fun K hK=>?_;conv=>whnf
   refine fM (enc:=eI) dCo rfl rfl ?_;conv=>whnf
   refine hK _ _ _ ?_
   refine iBn ?_
   refine tHn ?_
   refine cK dCo rfl fun K hK=>?_;conv=>whnf
   refine hK _ _ _ ?_
   refine tHn ?_
   replace h:=bF h
   refine ⟨_,h,?_⟩
   refine gK (aBI 25 0 5) ?_;conv=>whnf
   exact And.intro rfl (And.intro (aLc wkI (aLc (WkR.soN (fun _=>rfl) (by simp)) (aLc (WkR.ptr (fun _=>rfl)) (aLc (WkR.mp (fun _=>rfl)) (aLc (wkr (lsL fun _=>(lsI _ _))) (aLc wkI aLn)))))) (aLc ⟨some _,rfl,iY (enc:=eI) rfl (fun _=>(lsI _ _))⟩ (aLc ⟨some _,rfl,bRc rfl cKn⟩ (aLc ⟨some _,rfl,bRc rfl cKn⟩ (aLc ⟨some _,rfl,bRc rfl cKn⟩ (aLc ⟨some _,rfl,bRc rfl cKn⟩ (aLc ⟨some _,rfl,bRc rfl cKn⟩ (aLc ⟨some _,rfl,bRc rfl cKn⟩ (aLc ⟨some _,rfl,bRc rfl cKn⟩ (aLc ⟨some _,rfl,bRc rfl cKn⟩ (aLc ⟨some _,rfl,kW rfl ⟨fun _=>rfl,fun _=>rfl,fun _=>rfl,fun _=>rfl,fun _=>rfl,fun _=>rfl,fun _=>rfl,fun _=>rfl,trivial⟩⟩ (aLc ⟨some _,rfl,aV rfl rfl⟩ aLn))))))))))))
  ·refine aA dCo rfl fun K hK=>?_;conv=>whnf
   refine And.intro ⟨by omega,by simp only [List.length_append,List.length_cons,List.length_nil] at *;omega⟩ ?_;conv=>whnf
   refine nlA rfl ?_;conv=>whnf
   refine bKo rfl ?_;conv=>whnf
   refine gKo (jM (j:=6) rfl hj) ?_;conv=>whnf
   refine eK (enc:=eI) (d:=default) (l:=[_]) (f:=fun _=>some ()) (Φ:=fun _=>True) dCo (jN _) rfl rfl rfl ⟨nle rfl,nle rfl,rfl⟩ rfl ⟨⟨rfl,rfl,rfl⟩,trivial⟩ (fun _=>?_);conv=>whnf
   refine mG (enc:=eI) (d:=default) dCo h (.inl rfl) rfl rfl rfl ⟨rfl,nle rfl,nle rfl,nle rfl,rfl⟩ (fun _=>rfl) (.inr (.inr ⟨_,_,rfl,rfl,rfl⟩)) (fun h=>?_);conv=>whnf
   refine And.intro ⟨by omega,by simp only [List.length_append,List.length_cons,List.length_nil] at *;omega⟩ ?_;conv=>whnf
   refine bKo rfl ?_;conv=>whnf
   refine qG (j:=6) (nle rfl) hj rfl rfl rfl rfl ?_;conv=>whnf
   refine hK _ _ _ ?_
   refine cK dCo rfl fun K hK=>?_;conv=>whnf
   refine fM (enc:=eI) dCo rfl rfl ?_;conv=>whnf
   refine hK _ _ _ ?_
   refine iBn ?_
   refine tHn ?_
   refine cK dCo rfl fun K hK=>?_;conv=>whnf
   refine hK _ _ _ ?_
   refine tHn ?_
   replace h:=bF h
   refine ⟨_,h,?_⟩
   refine gK (aBI 25 0 6) ?_;conv=>whnf
   exact And.intro rfl (And.intro (aLc wkI (aLc (WkR.soN (fun _=>rfl) (by simp)) (aLc (WkR.ptr (fun _=>rfl)) (aLc (WkR.mp (fun _=>rfl)) (aLc (wkr (lsL fun _=>(lsI _ _))) (aLc wkI aLn)))))) (aLc ⟨some _,rfl,iY (enc:=eI) rfl (fun _=>(lsI _ _))⟩ (aLc ⟨some _,rfl,bRc rfl cKn⟩ (aLc ⟨some _,rfl,bRc rfl cKn⟩ (aLc ⟨some _,rfl,bRc rfl cKn⟩ (aLc ⟨some _,rfl,bRc rfl cKn⟩ (aLc ⟨some _,rfl,bRc rfl cKn⟩ (aLc ⟨some _,rfl,bRc rfl cKn⟩ (aLc ⟨some _,rfl,bRc rfl cKn⟩ (aLc ⟨some _,rfl,bRc rfl cKn⟩ (aLc ⟨some _,rfl,kW rfl ⟨fun _=>rfl,fun _=>rfl,fun _=>rfl,fun _=>rfl,fun _=>rfl,fun _=>rfl,fun _=>rfl,fun _=>rfl,trivial⟩⟩ (aLc ⟨some _,rfl,aV rfl rfl⟩ aLn))))))))))))
  ·refine aA dCo rfl fun K hK=>?_;conv=>whnf
   refine And.intro ⟨by omega,by simp only [List.length_append,List.length_cons,List.length_nil] at *;omega⟩ ?_;conv=>whnf
   refine nlA rfl ?_;conv=>whnf
   refine bKo rfl ?_;conv=>whnf
   refine gKo (jM (j:=7) rfl hj) ?_;conv=>whnf
   refine eK (enc:=eI) (d:=default) (l:=[_]) (f:=fun _=>some ()) (Φ:=fun _=>True) dCo (jN _) rfl rfl rfl ⟨nle rfl,nle rfl,rfl⟩ rfl ⟨⟨rfl,rfl,rfl⟩,trivial⟩ (fun _=>?_);conv=>whnf
   refine mG (enc:=eI) (d:=default) dCo h (.inl rfl) rfl rfl rfl ⟨rfl,nle rfl,nle rfl,nle rfl,rfl⟩ (fun _=>rfl) (.inr (.inr ⟨_,_,rfl,rfl,rfl⟩)) (fun h=>?_);conv=>whnf
   refine And.intro ⟨by omega,by simp only [List.length_append,List.length_cons,List.length_nil] at *;omega⟩ ?_;conv=>whnf
   refine bKo rfl ?_;conv=>whnf
   refine qG (j:=7) (nle rfl) hj rfl rfl rfl rfl ?_;conv=>whnf
   refine hK _ _ _ ?_
   refine cK dCo rfl fun K hK=>?_;conv=>whnf
   refine fM (enc:=eI) dCo rfl rfl ?_;conv=>whnf
   refine hK _ _ _ ?_
   refine iBn ?_
   refine tHn ?_
   refine cK dCo rfl fun K hK=>?_;conv=>whnf
   refine hK _ _ _ ?_
   refine tHn ?_
   replace h:=bF h
   refine ⟨_,h,?_⟩
   refine gK (aBI 25 0 7) ?_;conv=>whnf
   exact And.intro rfl (And.intro (aLc wkI (aLc (WkR.soN (fun _=>rfl) (by simp)) (aLc (WkR.ptr (fun _=>rfl)) (aLc (WkR.mp (fun _=>rfl)) (aLc (wkr (lsL fun _=>(lsI _ _))) (aLc wkI aLn)))))) (aLc ⟨some _,rfl,iY (enc:=eI) rfl (fun _=>(lsI _ _))⟩ (aLc ⟨some _,rfl,bRc rfl cKn⟩ (aLc ⟨some _,rfl,bRc rfl cKn⟩ (aLc ⟨some _,rfl,bRc rfl cKn⟩ (aLc ⟨some _,rfl,bRc rfl cKn⟩ (aLc ⟨some _,rfl,bRc rfl cKn⟩ (aLc ⟨some _,rfl,bRc rfl cKn⟩ (aLc ⟨some _,rfl,bRc rfl cKn⟩ (aLc ⟨some _,rfl,bRc rfl cKn⟩ (aLc ⟨some _,rfl,kW rfl ⟨fun _=>rfl,fun _=>rfl,fun _=>rfl,fun _=>rfl,fun _=>rfl,fun _=>rfl,fun _=>rfl,fun _=>rfl,trivial⟩⟩ (aLc ⟨some _,rfl,aV rfl rfl⟩ aLn))))))))))))
 refine hK2 ?_
 refine bD ?_
 refine aT ?_
 refine aT ?_
 refine aS ?_
 replace h:=dI h
 replace h:=dK h
 obtain ⟨h8,h⟩:=yV h
 refine tHn ?_
 refine aA dCo rfl fun K hK=>?_;conv=>whnf
 refine hK _ _ _ ?_
 refine aF3 10 rfl rfl (by exact h8) ?_
 refine nY 2 (enc:=eL 1 eI default) (e:=26) default (mI dCo rfl rfl rfl (fun _=>⟨rfl,rfl⟩)) ?_;(conv=>whnf);refine ⟨_,_,rfl,rfl,rfl,?_⟩
 refine aP ?_
 replace h:=aO h
 refine aM dCo fun K hK=>?_;conv=>whnf
 refine hK _ ?_
 cases h
 exact Wk.refl _
theorem oS {T:Tbl} (hT:T 31=aK gP) {args:List AV} {hp:aU} {id:Nat} {k:AV→Prop} {a0:aG} {Φ:(List (List Int))×Int→Prop} (h:W (fN a0) Φ) (hw:WkL args [bJ a0]) (hk:∀ y,Φ y→k (.tup [(eL 1 (eL 1 eI default) default) y.1,eI y.2])):dC T 31 args hp id k:=by
 obtain ⟨y,e,hy⟩:=fG h
 exact aX hT ⟨a0,rfl,kY e rfl⟩ (by exact fO (lsC (lsL fun _=>(lsL fun _=>(lsI _ _))) (lsC (lsI _ _) lsN))) hw (hk y hy)
def zX (a1:Int) (l0:List Int) (s1:Int):Option (Ct Int Int):=cn (decide (s1<(l0.length:Int))) (gd ((0:Int)≤s1∧s1<(l0.length:Int)) (cn (a1 ==
  (l0.getD (s1).toNat default)) (some (.rt s1)) (some (.nx (wr (s1+1)))))) (some (.bk s1))
def zL (a1:Int) (l0:List Int):Option Int:=bd (lp (zX a1 l0) FU 0) fun c2=>smK c2 (fun s3=>some (-1)) (fun r4=>some r4)
def wI:List AV→List BD→AV→List BD→Prop:=fun args bs r bs'=>∃ a1 l0 y,args=[.so 0 0 l0.length 1,eI a1]∧bs=[.ab (.cells (flE (ceE eI) l0))]∧zL a1 l0=some y∧r=eI y∧bs'=[.ab (.cells (flE (ceE eI) l0))]
theorem yI {T:Tbl} (hT:TOk Tryd.prog T) (hpf:cY T PF):FOk Tryd.prog 84 (qH wI):=by
 refine rW hT hpf Tryd.func84 rfl Tryd.ntmps84 Tryd.results84 (by decide) ?_
 rintro args bs r bs' ⟨a1,l0,y,rfl,rfl,hF,rfl,rfl⟩
 refine ⟨nle rfl,Nat.le_refl _,(lsI _ _),⟨(jU (fun _=>(lsC (lsI _ _) lsN)) _),trivial⟩,⟨(jU (fun _=>(lsC (lsI _ _) lsN)) _),trivial⟩,?_⟩
 have h:W (zL a1 l0) (fun z=>z=y):=kY hF rfl
 rw [zL.eq_1] at h
 refine aA dCo rfl fun K hK=>?_;conv=>whnf
 refine hK _ _ _ ?_
 refine aE ?_
 refine aA dCo rfl fun K hK=>?_;conv=>whnf
 refine hK _ _ _ ?_
 refine aF ?_
 replace h:=bM h
 refine gC (body:=zX _ _) rfl h [0,1,7] [] [0] [] (fun kl kh kr ids b s=>⟨ofL ([(8,eI s)]++kl),ofH (([]++kh)++([]++kr)),b+64⟩) ?_;(conv=>whnf);refine And.intro ?_ (fun s m h=>dG ?_)
 ·refine bE ?_;conv=>whnf
  exact And.intro rfl (And.intro (aLc wkI (aLc (WkR.so (fun _=>rfl)) (aLc wkI (aLc wkI aLn)))) (aLc ⟨some _,rfl,gX rfl (fun _=>(lsC (lsI _ _) lsN))⟩ aLn))
 replace h:=bM h;rw [zX.eq_1] at h
 refine aA dCo rfl fun K hK=>?_;conv=>whnf
 refine hK _ _ _ ?_
 refine aE ?_
 refine aW fun K1 K2 hK1 hK2=>?_;conv=>whnf
 refine cLk h (fun _ h=>?_) (fun _ h=>?_)
 ·refine hK1 ?_
  refine aH ?_
  refine tHn ?_
  refine aE ?_
  refine aF ?_
  refine aA dCo rfl fun K hK=>?_;conv=>whnf
  refine hK _ _ _ ?_
  refine aA dCo rfl fun K hK=>?_;conv=>whnf
  refine qP h (rfl) fun hx14 h=>?_;conv=>whnf
  refine nlA rfl ?_;conv=>whnf
  refine bKo rfl ?_;conv=>whnf
  refine qY (enc:=eI) (d:=default) (q:=0) (fun _=>rfl) (rfl) hx14 (nle rfl) rfl ?_;conv=>whnf
  refine hK _ _ _ ?_
  refine aW fun K1 K2 hK1 hK2=>?_;conv=>whnf
  refine cLk h (fun _ h=>?_) (fun _ h=>?_)
  ·refine hK1 ?_
   refine aA dCo rfl fun K hK=>?_;conv=>whnf
   refine hK _ _ _ ?_
   refine aP ?_
   refine aL ?_
   refine aJ ?_
   refine aJ ?_
   refine aL ?_
   refine aJ ?_
   replace h:=gA h
   replace h:=gB h
   replace h:=aO h
   refine iK dCo fun K hK=>?_;conv=>whnf
   refine hK _ ?_
   cases h
   exact ⟨Wk.refl _,⟨_,rfl,bkW _⟩,trivial⟩
  refine hK2 ?_
  refine aH ?_
  refine iBn ?_
  refine tHn ?_
  refine cK dCo rfl fun K hK=>?_;conv=>whnf
  refine hK _ _ _ ?_
  refine tHn ?_
  replace h:=bF h
  refine ⟨_,h,?_⟩
  refine bE ?_;conv=>whnf
  exact And.intro rfl (And.intro (aLc wkI (aLc (WkR.so (fun _=>rfl)) (aLc wkI (aLc wkI aLn)))) (aLc ⟨some _,rfl,gX rfl (fun _=>(lsC (lsI _ _) lsN))⟩ aLn))
 refine hK2 ?_
 refine bD ?_
 refine aT ?_
 refine aT ?_
 refine aS ?_
 replace h:=dI h
 replace h:=dK h
 refine tHn ?_
 refine aA dCo rfl fun K hK=>?_;conv=>whnf
 refine hK _ _ _ ?_
 refine aP ?_
 replace h:=aO h
 refine iK dCo fun K hK=>?_;conv=>whnf
 refine hK _ ?_
 cases h
 exact ⟨Wk.refl _,⟨_,rfl,bkW _⟩,trivial⟩
def qA (a1:Int) (l0:List Int):Option Bool:=bd (zL a1 l0) fun y1=>some (decide (y1≥0))
def lJ:List AV→List BD→AV→List BD→Prop:=fun args bs r bs'=>∃ a1 l0 y,args=[.so 0 0 l0.length 1,eI a1]∧bs=[.ab (.cells (flE (ceE eI) l0))]∧qA a1 l0=some y∧r=eB y∧bs'=[.ab (.cells (flE (ceE eI) l0))]
theorem aB2 {T:Tbl} (hT:TOk Tryd.prog T) (hpf:cY T PF) (h84:T 84=qH wI):FOk Tryd.prog 67 (qH lJ):=by
 refine rW hT hpf Tryd.func67 rfl Tryd.ntmps67 Tryd.results67 (by decide) ?_
 rintro args bs r bs' ⟨a1,l0,y,rfl,rfl,hF,rfl,rfl⟩
 refine ⟨nle rfl,Nat.le_refl _,(lsB _),⟨(jU (fun _=>(lsC (lsI _ _) lsN)) _),trivial⟩,⟨(jU (fun _=>(lsC (lsI _ _) lsN)) _),trivial⟩,?_⟩
 have h:W (qA a1 l0) (fun z=>z=y):=kY hF rfl
 rw [qA.eq_1] at h
 refine aA dCo rfl fun K hK=>?_;conv=>whnf
 refine hK _ _ _ ?_
 refine aA dCo rfl fun K hK=>?_;conv=>whnf
 refine dM (bs:=[.ab _]) (args0:=[.so 0 0 _ 1,_]) h84 [_] h (.cons (aBn rfl) (.cons (sE (Wk.refl _) (lsI _ _)) .nil)) ⟨⟨_,rfl,bkW _⟩,trivial⟩ rfl (nle rfl) (fun y e=>(⟨_,_,_,rfl,rfl,e,rfl,rfl⟩:wI _ _ _ _)) (fun _ h=>?_);conv=>whnf
 refine hK _ _ _ ?_
 refine aP ?_
 replace h:=aO h
 refine iK dCo fun K hK=>?_;conv=>whnf
 refine hK _ ?_
 cases h
 exact ⟨Wk.refl _,⟨_,rfl,bkW _⟩,trivial⟩
def vH (f9002:Int→(Ar 8)→aG→List Int→Option (Option (List Int))) (c1:Int) (c3:Ar 8) (c4:aG) (l0:List Int) (s1:Int):Option (Ct Int (Option (List Int))):=cn (decide (s1<c4.N)) (gd (0≤(l0.getD (wr ((l0.length:Int)-1)).toNat default)∧(l0.getD (wr ((l0.length:Int)-1)).toNat default)<(8:Int)) (gd (0≤s1) (cn ((tL .i64 (rR .i64 (c3.at1 (l0.getD (wr ((l0.length:Int)-1)).toNat default)) s1) 1)==1) (bd (qA s1 l0) fun y2=>cn (!y2) (ap l0 [s1] fun l3=>bd (f9002 c1 c3 c4 l3) fun y4=>cn y4.isSome (some (.rt y4)) (some (.nx (wr (s1+1))))) (some (.nx (wr (s1+1))))) (some (.nx (wr (s1+1))))))) (some (.bk s1))
def zV (f9002:Int→(Ar 8)→aG→List Int→Option (Option (List Int))) (c1:Int) (c3:Ar 8) (c4:aG) (l0:List Int):Option (Option (List Int)):=gd ((0:Int)≤wr ((l0.length:Int)-1)∧wr ((l0.length:Int)-1)<(l0.length:Int)) (cn ((l0.length:Int)==c1) (gd (0≤(l0.getD (wr ((l0.length:Int)-1)).toNat default)∧(l0.getD (wr ((l0.length:Int)-1)).toNat default)<(8:Int)) (gd ((0:Int)≤0∧0<(l0.length:Int)) (gd (0≤l0.getD (0:Int).toNat default) (cn ((tL .i64 (rR .i64 (c3.at1 (l0.getD (wr ((l0.length:Int)-1)).toNat default)) (l0.getD (0:Int).toNat default)) 1)==1) (some (some l0)) (some none))))) (bd (lp (vH f9002 c1 c3 c4 l0) FU 0) fun c5=>smK c5 (fun s6=>some none) (fun r7=>some r7)))
def uG:Nat→Int→(Ar 8)→aG→List Int→Option (Option (List Int))
 | 0=>fun _ _ _ _=>none
 | k+1=>zV (uG k)
def gN (c1:Int) (c3:Ar 8) (c4:aG) (l0:List Int):Option (List Int)→List BD
 | some f=>[.ab (.cells [eL 1 eI default f]),.fn 66 [.v (.ep [eI c1] 0),.p 0,.v (.ep (cA c3) 0),.v (.ep [eI c4.N,(eL 2 jW default) c4.Pairs] 0),.p 1]]
 | none=>[.ab (.cells [.top]),.fn 66 [.v (.ep [eI c1] 0),.p 0,.v (.ep (cA c3) 0),.v (.ep [eI c4.N,(eL 2 jW default) c4.Pairs] 0),.p 1],.ab (.cells (flE (ceE eI) l0))]
def iJ (k:Nat):List AV→List BD→AV→List BD→Prop:=fun args bs r bs'=>∃ c1 c3 c4 l0 y,args=[.so 2 0 l0.length 1,.ep [eI c1] 0,.ptr 0 0,.ep (cA c3) 0,.ep [eI c4.N,(eL 2 jW default) c4.Pairs] 0,.ptr 1 0]∧bs=[.ab (.cells [.top]),.fn 66 [.v (.ep [eI c1] 0),.p 0,.v (.ep (cA c3) 0),.v (.ep [eI c4.N,(eL 2 jW default) c4.Pairs] 0),.p 1],.ab (.cells (flE (ceE eI) l0))]∧uG k c1 c3 c4 l0=some y∧r=eB y.isSome∧bs'=gN c1 c3 c4 l0 y
theorem aEQ (k:Nat) {T:Tbl} (hT:TOk Tryd.prog T) (hpf:cY T PF) (h67:T 67=qH lJ) (h66:T 66=qH (iJ k)):FOk Tryd.prog 66 (qH (iJ (k+1))):=by
 refine rW hT hpf Tryd.func66 rfl Tryd.ntmps66 Tryd.results66 (by decide) ?_
 rintro args bs r bs' ⟨c1,c3,c4,l0,y,rfl,rfl,hF,rfl,rfl⟩
 refine ⟨nle rfl,?_,(lsB _),⟨aHz rP,⟨(lsE (lsC (lsI _ _) lsN)),nle rfl,(lsE (aN _)),(lsE (lsC (lsI _ _) (lsC (lsL fun _=>(aD _)) lsN))),nle rfl,trivial⟩,(jU (fun _=>(lsC (lsI _ _) lsN)) _),trivial⟩,?_,?_⟩
 ·cases y<;>(unfold gN;exact nle rfl)
 ·cases y with
  | none=>unfold gN;exact ⟨aHz rP,⟨(lsE (lsC (lsI _ _) lsN)),nle rfl,(lsE (aN _)),(lsE (lsC (lsI _ _) (lsC (lsL fun _=>(aD _)) lsN))),nle rfl,trivial⟩,(jU (fun _=>(lsC (lsI _ _) lsN)) _),trivial⟩
  | some f=>unfold gN;exact ⟨aHz (lsL fun _=>(lsI _ _)),⟨(lsE (lsC (lsI _ _) lsN)),nle rfl,(lsE (aN _)),(lsE (lsC (lsI _ _) (lsC (lsL fun _=>(aD _)) lsN))),nle rfl,trivial⟩,trivial⟩
 have h:W (zV (uG k) c1 c3 c4 l0) (fun z=>z=y):=kY hF rfl
 rw [zV.eq_1] at h
 refine aA dCo rfl fun K hK=>?_;conv=>whnf
 refine hK _ _ _ ?_
 refine aA dCo rfl fun K hK=>?_;conv=>whnf
 refine qP h (rfl) fun hx1 h=>?_;conv=>whnf
 refine nlA rfl ?_;conv=>whnf
 refine bKo rfl ?_;conv=>whnf
 refine qY (enc:=eI) (d:=default) (q:=0) (fun _=>rfl) (rfl) hx1 (nle rfl) rfl ?_;conv=>whnf
 refine hK _ _ _ ?_
 refine aE ?_
 refine aA dCo rfl fun K hK=>?_;conv=>whnf
 refine gKo rfl ?_;conv=>whnf
 refine hK _ _ _ ?_
 refine aW fun K1 K2 hK1 hK2=>?_;conv=>whnf
 refine cLk h (fun _ h=>?_) (fun _ h=>?_)
 ·refine hK1 ?_
  refine aA dCo rfl fun K hK=>?_;conv=>whnf
  refine bKo rfl ?_;conv=>whnf
  refine And.intro rfl (And.intro (nle rfl) (And.intro rfl ?_));conv=>whnf
  refine hK _ _ _ ?_
  refine rB dCo gD rfl (by kernel_rfl) fun K hK=>?_;conv=>whnf
  refine cH h fun hx2 h=>?_;conv=>whnf
  refine dS rfl hx2 ?_;conv=>whnf
  refine qP h (rfl) fun hx3 h=>?_;conv=>whnf
  refine nlA rfl ?_;conv=>whnf
  refine bKo rfl ?_;conv=>whnf
  refine qY (enc:=eI) (d:=default) (q:=0) (fun _=>rfl) (rfl) hx3 (nle rfl) rfl ?_;conv=>whnf
  refine cH h fun _ h=>?_;conv=>whnf
  refine hK _ _ _ ?_
  refine aIy h (fun hb h=>?_) (fun hb h=>?_)
  ·refine aCP 2 0 (enc:=eI) (e:=3) default (mI dCo rfl rfl rfl (fun _=>⟨rfl,rfl⟩)) ?_;(conv=>whnf);refine ⟨_,_,_,(Nat.ne_of_beq_eq_false rfl),rfl,rfl,rfl,rfl,?_⟩;conv=>whnf
   refine aP ?_
   refine aJ ?_
   replace h:=aO h
   refine iK dCo fun K hK=>?_;conv=>whnf
   refine hK _ ?_
   cases h
   refine And.intro (aMp hb) ?_;unfold gN;exact ⟨⟨_,rfl,bkW _⟩,rfl,trivial⟩
  refine aP ?_
  refine aJ ?_
  replace h:=aO h
  refine iK dCo fun K hK=>?_;conv=>whnf
  refine hK _ ?_
  cases h
  refine And.intro (aMp hb) ?_;unfold gN;exact ⟨⟨_,rfl,aDJ (.cons aJG .nil)⟩,rfl,⟨_,rfl,bkW _⟩,trivial⟩
 refine hK2 ?_
 refine aH ?_
 refine tHn ?_
 refine aE ?_
 refine aA dCo rfl fun K hK=>?_;conv=>whnf
 refine gKo rfl ?_;conv=>whnf
 refine hK _ _ _ ?_
 refine aHO 0 rfl fun m hm=>?_
 refine aF ?_
 replace h:=bM h
 refine aCw (body:=vH _ _ _ _ _) rfl h [0,3,5,8,31] (fun σ=>aBY σ [0,1]++oV σ []++rV σ []) (fun σ=>rV σ []++oV σ []++aBY σ [2]) [] (fun kl kh kr ids b s=>⟨ofL ([(32,eI s)]++kl),ofH (([]++kh)++([]++kr)),b+64⟩) ?_;(conv=>whnf);refine And.intro ?_ (fun s m h=>dG ?_)
 ·refine bE ?_;conv=>whnf
  exact And.intro rfl (And.intro (aLc wkI (aLc (WkR.sl (fun _=>rfl)) (aLc (wkr (lsE (aN _))) (aLc (WkR.ptr (fun _=>rfl)) (aLc wkI (aLc wkI aLn)))))) (aLc ⟨some _,rfl,bRc rfl (cKc (WkR.top _ _) cKn)⟩ (aLc ⟨some _,rfl,bRc rfl (cKc (fA bB (aB (wkr (lsE (lsC (lsI _ _) lsN))) (aB (WkR.ptr (fun _=>rfl)) (aB (wkr (lsE (aN _))) (aB (wkr (lsE (lsC (lsI _ _) (lsC (lsL fun _=>(aD _)) lsN)))) (aB (WkR.ptr (fun _=>rfl)) bB)))))) cKn)⟩ (aLc ⟨some _,rfl,gX rfl (fun _=>(lsC (lsI _ _) lsN))⟩ aLn))))
 replace h:=bM h;rw [vH.eq_1] at h
 refine aA dCo rfl fun K hK=>?_;conv=>whnf
 refine hK _ _ _ ?_
 refine aE ?_
 refine aW fun K1 K2 hK1 hK2=>?_;conv=>whnf
 refine cLk h (fun _ h=>?_) (fun _ h=>?_)
 ·refine hK1 ?_
  refine aH ?_
  refine tHn ?_
  refine aE ?_
  refine aF ?_
  refine aA dCo rfl fun K hK=>?_;conv=>whnf
  refine hK _ _ _ ?_
  refine aIP (.step 0 (.step 1 (.step 2 (.step 3 (.step 4 (.step 5 (.step 6 (.step 7 (.step 8 (.step 9 (.step 10 (.step 11 (.step 12 (.step 13 (.step 15 (.step 16 (.step 17 (.two 14 18 (.step 18 (.step 19 (.step 20 .nil))) (.step 14 (.step 19 (.step 20 .nil))))))))))))))))))))) dCo gD rfl (by kernel_rfl) fun K hK=>?_;conv=>whnf
  refine cH h fun hx4 h=>?_;conv=>whnf
  refine dS rfl hx4 ?_;conv=>whnf
  refine cH h fun _ h=>?_;conv=>whnf
  refine cLk h (fun _ h=>?_) (fun _ h=>?_)<;>(conv=>whnf)
  ·refine dM (bs:=[.ab _]) (args0:=[.so 0 0 _ 1,_]) h67 [_] h (.cons (aEp rfl) (.cons (sE (Wk.refl _) (lsI _ _)) .nil)) ⟨⟨_,rfl,bkW _⟩,trivial⟩ rfl (nle rfl) (fun y e=>(⟨_,_,_,rfl,rfl,e,rfl,rfl⟩:lJ _ _ _ _)) (fun _ h=>?_);conv=>whnf
   refine cLk h (fun _ h=>?_) (fun _ h=>?_)<;>(conv=>whnf)
   ·refine eK (enc:=eI) (d:=default) (l:=[_]) (f:=fun _=>some ()) (Φ:=fun _=>True) dCo (jN _) rfl rfl rfl ⟨nle rfl,nle rfl,rfl⟩ rfl ⟨⟨rfl,rfl,rfl⟩,trivial⟩ (fun _=>?_);conv=>whnf
    rcases Nat.lt_or_eq_of_le hm with hmm | hmm
    ·refine And.intro ?_ ?_
     ·refine nlA rfl ?_;conv=>whnf
      refine bKo rfl ?_;conv=>whnf
      refine gKo rfl ?_;conv=>whnf
      refine aDZ dCo h rfl rfl rfl ⟨rfl,nle rfl,nle rfl,rfl⟩ rfl rfl hmm (fun h=>?_);conv=>whnf
      refine dM (bs:=[.ab (.cells [.top]),.fn 66 [.v (.ep [eI _] 0),.p 0,.v (.ep (cA _) 0),.v (.ep [eI _,_] 0),.p 1],.ab _]) (args0:=[.so 2 0 _ 1,_,.ptr 0 0,_,_,.ptr 1 0]) h66 [_,_,_] h (.cons (aEp rfl) (.cons (bL (lsE (lsC (lsI _ _) lsN))) (.cons (eU rfl) (.cons (bL (lsE (aN _))) (.cons (bL (lsE (lsC (lsI _ _) (lsC (lsL fun _=>(aD _)) lsN)))) (.cons (eU rfl) .nil)))))) ⟨⟨_,rfl,bkW _⟩,rfl,⟨_,rfl,bkW _⟩,trivial⟩ rfl (nle rfl) (fun y e=>(⟨_,_,_,_,_,rfl,rfl,e,rfl,rfl⟩:iJ _ _ _ _ _)) (fun y h=>?_)
      rcases y with _ | f<;>(conv=>whnf)
      ·refine hK _ _ _ ?_
       refine aW fun K1 K2 hK1 hK2=>?_;conv=>whnf
       refine hK2 ?_
       replace h:=sV h
       refine aH ?_
       refine iBn ?_
       refine tHn ?_
       refine cK dCo rfl fun K hK=>?_;conv=>whnf
       refine hK _ _ _ ?_
       refine tHn ?_
       replace h:=bF h
       refine ⟨_,h,?_⟩
       refine bE ?_;conv=>whnf
       exact And.intro rfl (And.intro (aLc wkI (aLc (WkR.sl (fun _=>rfl)) (aLc (wkr (lsE (aN _))) (aLc (WkR.ptr (fun _=>rfl)) (aLc wkI (aLc wkI aLn)))))) (aLc ⟨some _,rfl,bRc rfl (cKc (WkR.top _ _) cKn)⟩ (aLc ⟨some _,rfl,bRc rfl (cKc (fA bB (aB (wkr (lsE (lsC (lsI _ _) lsN))) (aB (WkR.ptr (fun _=>rfl)) (aB (wkr (lsE (aN _))) (aB (wkr (lsE (lsC (lsI _ _) (lsC (lsL fun _=>(aD _)) lsN)))) (aB (WkR.ptr (fun _=>rfl)) bB)))))) cKn)⟩ (aLc ⟨some _,rfl,aDW rfl⟩ aLn))))
      refine hK _ _ _ ?_
      refine aW fun K1 K2 hK1 hK2=>?_;conv=>whnf
      refine hK1 ?_
      replace h:=oB h
      refine aA dCo rfl fun K hK=>?_;conv=>whnf
      refine hK _ _ _ ?_
      refine aP ?_
      refine aL ?_
      refine aJ ?_
      refine aJ ?_
      refine aL ?_
      refine aJ ?_
      replace h:=gA h
      replace h:=gB h
      replace h:=aO h
      refine iK dCo fun K hK=>?_;conv=>whnf
      refine hK _ ?_
      cases h
      refine And.intro (Wk.refl _) ?_;unfold gN;exact ⟨⟨_,rfl,bkW _⟩,rfl,trivial⟩
     ·refine aDZ dCo h rfl rfl rfl ⟨rfl,nle rfl,nle rfl,rfl⟩ rfl rfl hmm (fun h=>?_);conv=>whnf
      refine nlA rfl ?_;conv=>whnf
      refine bKo rfl ?_;conv=>whnf
      refine gKo rfl ?_;conv=>whnf
      refine dM (bs:=[.ab (.cells [.top]),.fn 66 [.v (.ep [eI _] 0),.p 0,.v (.ep (cA _) 0),.v (.ep [eI _,_] 0),.p 1],.ab _]) (args0:=[.so 2 0 _ 1,_,.ptr 0 0,_,_,.ptr 1 0]) h66 [_,_,_] h (.cons (aEp rfl) (.cons (bL (lsE (lsC (lsI _ _) lsN))) (.cons (eU rfl) (.cons (bL (lsE (aN _))) (.cons (bL (lsE (lsC (lsI _ _) (lsC (lsL fun _=>(aD _)) lsN)))) (.cons (eU rfl) .nil)))))) ⟨⟨_,rfl,bkW _⟩,rfl,⟨_,rfl,bkW _⟩,trivial⟩ rfl (nle rfl) (fun y e=>(⟨_,_,_,_,_,rfl,rfl,e,rfl,rfl⟩:iJ _ _ _ _ _)) (fun y h=>?_)
      rcases y with _ | f<;>(conv=>whnf)
      ·refine hK _ _ _ ?_
       refine aW fun K1 K2 hK1 hK2=>?_;conv=>whnf
       refine hK2 ?_
       replace h:=sV h
       refine aH ?_
       refine iBn ?_
       refine tHn ?_
       refine cK dCo rfl fun K hK=>?_;conv=>whnf
       refine hK _ _ _ ?_
       refine tHn ?_
       replace h:=bF h
       refine ⟨_,h,?_⟩
       refine bE ?_;conv=>whnf
       exact And.intro rfl (And.intro (aLc wkI (aLc (WkR.sl (fun _=>rfl)) (aLc (wkr (lsE (aN _))) (aLc (WkR.ptr (fun _=>rfl)) (aLc wkI (aLc wkI aLn)))))) (aLc ⟨some _,rfl,bRc rfl (cKc (WkR.top _ _) cKn)⟩ (aLc ⟨some _,rfl,bRc rfl (cKc (fA bB (aB (wkr (lsE (lsC (lsI _ _) lsN))) (aB (WkR.ptr (fun _=>rfl)) (aB (wkr (lsE (aN _))) (aB (wkr (lsE (lsC (lsI _ _) (lsC (lsL fun _=>(aD _)) lsN)))) (aB (WkR.ptr (fun _=>rfl)) bB)))))) cKn)⟩ (aLc ⟨some _,rfl,aDW rfl⟩ aLn))))
      refine hK _ _ _ ?_
      refine aW fun K1 K2 hK1 hK2=>?_;conv=>whnf
      refine hK1 ?_
      replace h:=oB h
      refine aA dCo rfl fun K hK=>?_;conv=>whnf
      refine hK _ _ _ ?_
      refine aP ?_
      refine aL ?_
      refine aJ ?_
      refine aJ ?_
      refine aL ?_
      refine aJ ?_
      replace h:=gA h
      replace h:=gB h
      replace h:=aO h
      refine iK dCo fun K hK=>?_;conv=>whnf
      refine hK _ ?_
      cases h
      refine And.intro (Wk.refl _) ?_;unfold gN;exact ⟨⟨_,rfl,bkW _⟩,rfl,trivial⟩
    replace hmm:=hmm.symm
    refine And.intro ?_ ?_
    ·refine nlA rfl ?_;conv=>whnf
     refine bKo rfl ?_;conv=>whnf
     refine gKo rfl ?_;conv=>whnf
     refine aEa dCo h rfl rfl rfl ⟨rfl,nle rfl,nle rfl,rfl⟩ rfl rfl hmm (fun h=>?_);conv=>whnf
     refine dM (bs:=[.ab (.cells [.top]),.fn 66 [.v (.ep [eI _] 0),.p 0,.v (.ep (cA _) 0),.v (.ep [eI _,_] 0),.p 1],.ab _]) (args0:=[.so 2 0 _ 1,_,.ptr 0 0,_,_,.ptr 1 0]) h66 [_,_,_] h (.cons (aBn rfl) (.cons (bL (lsE (lsC (lsI _ _) lsN))) (.cons (eU rfl) (.cons (bL (lsE (aN _))) (.cons (bL (lsE (lsC (lsI _ _) (lsC (lsL fun _=>(aD _)) lsN)))) (.cons (eU rfl) .nil)))))) ⟨⟨_,rfl,bkW _⟩,rfl,⟨_,rfl,bkW _⟩,trivial⟩ rfl (nle rfl) (fun y e=>(⟨_,_,_,_,_,rfl,rfl,e,rfl,rfl⟩:iJ _ _ _ _ _)) (fun y h=>?_)
     rcases y with _ | f<;>(conv=>whnf)
     ·refine hK _ _ _ ?_
      refine aW fun K1 K2 hK1 hK2=>?_;conv=>whnf
      refine hK2 ?_
      replace h:=sV h
      refine aH ?_
      refine iBn ?_
      refine tHn ?_
      refine cK dCo rfl fun K hK=>?_;conv=>whnf
      refine hK _ _ _ ?_
      refine tHn ?_
      replace h:=bF h
      refine ⟨_,h,?_⟩
      refine bE ?_;conv=>whnf
      exact And.intro rfl (And.intro (aLc wkI (aLc (WkR.sl (fun _=>rfl)) (aLc (wkr (lsE (aN _))) (aLc (WkR.ptr (fun _=>rfl)) (aLc wkI (aLc wkI aLn)))))) (aLc ⟨some _,rfl,bRc rfl (cKc (WkR.top _ _) cKn)⟩ (aLc ⟨some _,rfl,bRc rfl (cKc (fA bB (aB (wkr (lsE (lsC (lsI _ _) lsN))) (aB (WkR.ptr (fun _=>rfl)) (aB (wkr (lsE (aN _))) (aB (wkr (lsE (lsC (lsI _ _) (lsC (lsL fun _=>(aD _)) lsN)))) (aB (WkR.ptr (fun _=>rfl)) bB)))))) cKn)⟩ (aLc ⟨some _,rfl,gX rfl (fun _=>(lsC (lsI _ _) lsN))⟩ aLn))))
     refine hK _ _ _ ?_
     refine aW fun K1 K2 hK1 hK2=>?_;conv=>whnf
     refine hK1 ?_
     replace h:=oB h
     refine aA dCo rfl fun K hK=>?_;conv=>whnf
     refine hK _ _ _ ?_
     refine aP ?_
     refine aL ?_
     refine aJ ?_
     refine aJ ?_
     refine aL ?_
     refine aJ ?_
     replace h:=gA h
     replace h:=gB h
     replace h:=aO h
     refine iK dCo fun K hK=>?_;conv=>whnf
     refine hK _ ?_
     cases h
     refine And.intro (Wk.refl _) ?_;unfold gN;exact ⟨⟨_,rfl,bkW _⟩,rfl,trivial⟩
    ·refine aEa dCo h rfl rfl rfl ⟨rfl,nle rfl,nle rfl,rfl⟩ rfl rfl hmm (fun h=>?_);conv=>whnf
     refine nlA rfl ?_;conv=>whnf
     refine bKo rfl ?_;conv=>whnf
     refine gKo rfl ?_;conv=>whnf
     refine dM (bs:=[.ab (.cells [.top]),.fn 66 [.v (.ep [eI _] 0),.p 0,.v (.ep (cA _) 0),.v (.ep [eI _,_] 0),.p 1],.ab _]) (args0:=[.so 2 0 _ 1,_,.ptr 0 0,_,_,.ptr 1 0]) h66 [_,_,_] h (.cons (aBn rfl) (.cons (bL (lsE (lsC (lsI _ _) lsN))) (.cons (eU rfl) (.cons (bL (lsE (aN _))) (.cons (bL (lsE (lsC (lsI _ _) (lsC (lsL fun _=>(aD _)) lsN)))) (.cons (eU rfl) .nil)))))) ⟨⟨_,rfl,bkW _⟩,rfl,⟨_,rfl,bkW _⟩,trivial⟩ rfl (nle rfl) (fun y e=>(⟨_,_,_,_,_,rfl,rfl,e,rfl,rfl⟩:iJ _ _ _ _ _)) (fun y h=>?_)
     rcases y with _ | f<;>(conv=>whnf)
     ·refine hK _ _ _ ?_
      refine aW fun K1 K2 hK1 hK2=>?_;conv=>whnf
      refine hK2 ?_
      replace h:=sV h
      refine aH ?_
      refine iBn ?_
      refine tHn ?_
      refine cK dCo rfl fun K hK=>?_;conv=>whnf
      refine hK _ _ _ ?_
      refine tHn ?_
      replace h:=bF h
      refine ⟨_,h,?_⟩
      refine bE ?_;conv=>whnf
      exact And.intro rfl (And.intro (aLc wkI (aLc (WkR.sl (fun _=>rfl)) (aLc (wkr (lsE (aN _))) (aLc (WkR.ptr (fun _=>rfl)) (aLc wkI (aLc wkI aLn)))))) (aLc ⟨some _,rfl,bRc rfl (cKc (WkR.top _ _) cKn)⟩ (aLc ⟨some _,rfl,bRc rfl (cKc (fA bB (aB (wkr (lsE (lsC (lsI _ _) lsN))) (aB (WkR.ptr (fun _=>rfl)) (aB (wkr (lsE (aN _))) (aB (wkr (lsE (lsC (lsI _ _) (lsC (lsL fun _=>(aD _)) lsN)))) (aB (WkR.ptr (fun _=>rfl)) bB)))))) cKn)⟩ (aLc ⟨some _,rfl,gX rfl (fun _=>(lsC (lsI _ _) lsN))⟩ aLn))))
     refine hK _ _ _ ?_
     refine aW fun K1 K2 hK1 hK2=>?_;conv=>whnf
     refine hK1 ?_
     replace h:=oB h
     refine aA dCo rfl fun K hK=>?_;conv=>whnf
     refine hK _ _ _ ?_
     refine aP ?_
     refine aL ?_
     refine aJ ?_
     refine aJ ?_
     refine aL ?_
     refine aJ ?_
     replace h:=gA h
     replace h:=gB h
     replace h:=aO h
     refine iK dCo fun K hK=>?_;conv=>whnf
     refine hK _ ?_
     cases h
     refine And.intro (Wk.refl _) ?_;unfold gN;exact ⟨⟨_,rfl,bkW _⟩,rfl,trivial⟩
   refine And.intro ?_ ?_
   ·refine hK _ _ _ ?_
    refine aW fun K1 K2 hK1 hK2=>?_;conv=>whnf
    refine hK2 ?_
    refine aH ?_
    refine iBn ?_
    refine tHn ?_
    refine cK dCo rfl fun K hK=>?_;conv=>whnf
    refine hK _ _ _ ?_
    refine tHn ?_
    replace h:=bF h
    refine ⟨_,h,?_⟩
    refine bE ?_;conv=>whnf
    exact And.intro rfl (And.intro (aLc wkI (aLc (WkR.sl (fun _=>rfl)) (aLc (wkr (lsE (aN _))) (aLc (WkR.ptr (fun _=>rfl)) (aLc wkI (aLc wkI aLn)))))) (aLc ⟨some _,rfl,bRc rfl (cKc (WkR.top _ _) cKn)⟩ (aLc ⟨some _,rfl,bRc rfl (cKc (fA bB (aB (wkr (lsE (lsC (lsI _ _) lsN))) (aB (WkR.ptr (fun _=>rfl)) (aB (wkr (lsE (aN _))) (aB (wkr (lsE (lsC (lsI _ _) (lsC (lsL fun _=>(aD _)) lsN)))) (aB (WkR.ptr (fun _=>rfl)) bB)))))) cKn)⟩ (aLc ⟨some _,rfl,gX rfl (fun _=>(lsC (lsI _ _) lsN))⟩ aLn))))
   ·refine hK _ _ _ ?_
    refine aW fun K1 K2 hK1 hK2=>?_;conv=>whnf
    refine hK2 ?_
    refine aH ?_
    refine iBn ?_
    refine tHn ?_
    refine cK dCo rfl fun K hK=>?_;conv=>whnf
    refine hK _ _ _ ?_
    refine tHn ?_
    replace h:=bF h
    refine ⟨_,h,?_⟩
    refine bE ?_;conv=>whnf
    exact And.intro rfl (And.intro (aLc wkI (aLc (WkR.sl (fun _=>rfl)) (aLc (wkr (lsE (aN _))) (aLc (WkR.ptr (fun _=>rfl)) (aLc wkI (aLc wkI aLn)))))) (aLc ⟨some _,rfl,bRc rfl (cKc (WkR.top _ _) cKn)⟩ (aLc ⟨some _,rfl,bRc rfl (cKc (fA bB (aB (wkr (lsE (lsC (lsI _ _) lsN))) (aB (WkR.ptr (fun _=>rfl)) (aB (wkr (lsE (aN _))) (aB (wkr (lsE (lsC (lsI _ _) (lsC (lsL fun _=>(aD _)) lsN)))) (aB (WkR.ptr (fun _=>rfl)) bB)))))) cKn)⟩ (aLc ⟨some _,rfl,gX rfl (fun _=>(lsC (lsI _ _) lsN))⟩ aLn))))
  refine And.intro ?_ ?_
  ·refine hK _ _ _ ?_
   refine aW fun K1 K2 hK1 hK2=>?_;conv=>whnf
   refine hK2 ?_
   refine aH ?_
   refine iBn ?_
   refine tHn ?_
   refine cK dCo rfl fun K hK=>?_;conv=>whnf
   refine hK _ _ _ ?_
   refine tHn ?_
   replace h:=bF h
   refine ⟨_,h,?_⟩
   refine bE ?_;conv=>whnf
   exact And.intro rfl (And.intro (aLc wkI (aLc (WkR.sl (fun _=>rfl)) (aLc (wkr (lsE (aN _))) (aLc (WkR.ptr (fun _=>rfl)) (aLc wkI (aLc wkI aLn)))))) (aLc ⟨some _,rfl,bRc rfl (cKc (WkR.top _ _) cKn)⟩ (aLc ⟨some _,rfl,bRc rfl (cKc (fA bB (aB (wkr (lsE (lsC (lsI _ _) lsN))) (aB (WkR.ptr (fun _=>rfl)) (aB (wkr (lsE (aN _))) (aB (wkr (lsE (lsC (lsI _ _) (lsC (lsL fun _=>(aD _)) lsN)))) (aB (WkR.ptr (fun _=>rfl)) bB)))))) cKn)⟩ (aLc ⟨some _,rfl,gX rfl (fun _=>(lsC (lsI _ _) lsN))⟩ aLn))))
  ·refine hK _ _ _ ?_
   refine aW fun K1 K2 hK1 hK2=>?_;conv=>whnf
   refine hK2 ?_
   refine aH ?_
   refine iBn ?_
   refine tHn ?_
   refine cK dCo rfl fun K hK=>?_;conv=>whnf
   refine hK _ _ _ ?_
   refine tHn ?_
   replace h:=bF h
   refine ⟨_,h,?_⟩
   refine bE ?_;conv=>whnf
   exact And.intro rfl (And.intro (aLc wkI (aLc (WkR.sl (fun _=>rfl)) (aLc (wkr (lsE (aN _))) (aLc (WkR.ptr (fun _=>rfl)) (aLc wkI (aLc wkI aLn)))))) (aLc ⟨some _,rfl,bRc rfl (cKc (WkR.top _ _) cKn)⟩ (aLc ⟨some _,rfl,bRc rfl (cKc (fA bB (aB (wkr (lsE (lsC (lsI _ _) lsN))) (aB (WkR.ptr (fun _=>rfl)) (aB (wkr (lsE (aN _))) (aB (wkr (lsE (lsC (lsI _ _) (lsC (lsL fun _=>(aD _)) lsN)))) (aB (WkR.ptr (fun _=>rfl)) bB)))))) cKn)⟩ (aLc ⟨some _,rfl,gX rfl (fun _=>(lsC (lsI _ _) lsN))⟩ aLn))))
 refine hK2 ?_
 refine bD ?_
 refine aT ?_
 refine aT ?_
 refine aS ?_
 replace h:=dI h
 replace h:=dK h
 refine tHn ?_
 refine aA dCo rfl fun K hK=>?_;conv=>whnf
 refine hK _ _ _ ?_
 refine aP ?_
 replace h:=aO h
 refine iK dCo fun K hK=>?_;conv=>whnf
 refine hK _ ?_
 cases h
 refine And.intro (Wk.refl _) ?_;unfold gN;exact ⟨⟨_,rfl,bkW _⟩,rfl,⟨_,rfl,bkW _⟩,trivial⟩
theorem aEk {T:Tbl} (hT:TOk Tryd.prog T) (hpf:cY T PF) (h67:T 67=qH lJ):FOk Tryd.prog 66 (qH (iJ 10)):=
 uB (S:=iJ) hT hpf (by decide) Tryd.func66 rfl (by decide) (by rintro a b c d ⟨c1,c3,c4,l0,y,-,-,h,-⟩;cases h) (fun k T' hT' hpf' hne h=>aEQ k hT' hpf' ((hne 67 (by decide)).trans h67) h) 10
def mT (a0:aG) (s6:Int×(Ar 8)) (s8:Int) (s9:Int):Option (Ct Int ((List Int)×Bool)):=cn (decide (s9<a0.N)) (lt ([s9]:List Int) fun l10=>
  bd (uG 10 s8 s6.2 a0 l10) fun y11=>cn y11.isSome (gd ((y11.getD []).length≤1048576) (lt (y11.getD []) fun m12=>
  some (.rt (m12,true)))) (some (.nx (wr (s9+1))))) (some (.bk s9))
def mV (a0:aG) (s6:Int×(Ar 8)) (s8:Int):Option (Ct Int ((List Int)×Bool)):=cn (decide (s8≤a0.N)) (bd (lp (mT a0 s6 s8) FU 0) fun c13=>
  smK c13 (fun s14=>some (.nx (wr (s8+1)))) (fun r15=>some (.rt r15))) (some (.bk s8))
  def mO (a0:aG) (s2:Int×(Ar 8)):Option (Ct (Int×(Ar 8)) ((List Int)×Bool)):=cn (decide (s2.1<(a0.Pairs.length:Int))) (ix a0.Pairs default s2.1 fun e3=>
  gd (0≤e3.1∧e3.1<(8:Int)) (gd (0≤e3.2) (gd (0≤e3.1∧e3.1<(8:Int)) (let m4:=s2.2.st1 e3.1 (bor .i64 (s2.2.at1 e3.1) (aDz .i64 1 e3.2));
  some (.nx ((wr (s2.1+1)),m4)))))) (some (.bk (s2.1,s2.2)))
def iU (a0:aG):Option ((List Int)×Bool):=bd (dR a0) fun y1=>
  cn (!y1) (some ([],false)) (bd (lp (mO a0) FU (0,(Ar.zero 8))) fun c5=>smK c5 (fun s6=>bd (lp (mV a0 s6) FU 2) fun c16=>smK c16 (fun s17=>
  some ([],false)) (fun r18=>some r18)) (fun r7=>some r7))
def jI:List AV→AV→Prop:=fun args r=>∃ a0,args=[bJ a0]∧W (iU a0) fun y=>r=(.tup [(eL 1 eI default) y.1,eB y.2])
theorem wN {T:Tbl} (hT:TOk Tryd.prog T) (hpf:cY T PF) (h33:T 33=aK eV) (h60:T 60=xA 1 eI default) (h66:T 66=qH (iJ 10)):FOk Tryd.prog 32 (aK jI):=by
 refine bG hT hpf Tryd.func32 rfl Tryd.ntmps32 Tryd.results32 (by decide) ?_
 rintro args r ⟨a0,rfl,h⟩
 refine ⟨nle rfl,?_,?_⟩
 ·exact (lsC (cB _) lsN)
 rw [iU.eq_1] at h
 refine aA dCo rfl fun K hK=>?_;conv=>whnf
 refine hK _ _ _ ?_
 refine aE ?_
 refine aA dCo rfl fun K hK=>?_;conv=>whnf
 refine nlA rfl ?_;conv=>whnf
 refine bKo rfl ?_;conv=>whnf
 refine nlA rfl ?_;conv=>whnf
 replace h:=bM h
 refine gT h33 h (WkL.refl _) (fun _ h=>?_);conv=>whnf
 refine hK _ _ _ ?_
 refine aW fun K1 K2 hK1 hK2=>?_;conv=>whnf
 refine cLk h (fun _ h=>?_) (fun _ h=>?_)
 ·refine hK1 ?_
  refine aA dCo rfl fun K hK=>?_;conv=>whnf
  refine hK _ _ _ ?_
  refine aP ?_
  refine aJ ?_
  replace h:=aO h
  refine aM dCo fun K hK=>?_;conv=>whnf
  refine hK _ ?_
  cases h
  exact pR (aC kX (aC (Wk.refl _) bA))
 refine hK2 ?_
 refine aH ?_
 refine tHn ?_
 refine aA dCo rfl fun K hK=>?_;conv=>whnf
 refine hK _ _ _ ?_
 refine aE ?_
 refine aA dCo rfl fun K hK=>?_;conv=>whnf
 refine nlA rfl ?_;conv=>whnf
 refine bKo rfl ?_;conv=>whnf
 refine gKo rfl ?_;conv=>whnf
 refine hK _ _ _ ?_
 refine aF ?_
 replace h:=bM h
 refine gC (body:=mO _) rfl h [1,4,15,16] [1] [] [4] (fun kl kh kr ids b s=>⟨ofL ([(17,eI s.1)]++kl),ofH (([]++kh)++([(wW ids 0,.cells (cA s.2))]++kr)),b+128⟩) ?_;(conv=>whnf);refine And.intro ?_ (fun s m h=>dG ?_)
 ·refine bE ?_;conv=>whnf
  exact And.intro rfl (And.intro (aLc wkI (aLc (WkR.ptr (fun _=>rfl)) (aLc (WkR.ptr (fun _=>rfl)) (aLc (wkr (lsL fun _=>(aD _))) (aLc wkI aLn))))) (aLc ⟨some _,rfl,bRc rfl (cKc wkI (cKc (wkr (lsL fun _=>(aD _))) cKn))⟩ (aLc ⟨some _,rfl,aV (x:=(Ar.zero 8)) rfl rfl⟩ aLn)))
 replace h:=bM h;rw [mO.eq_1] at h
 refine aA dCo rfl fun K hK=>?_;conv=>whnf
 refine hK _ _ _ ?_
 refine aE ?_
 refine aW fun K1 K2 hK1 hK2=>?_;conv=>whnf
 refine cLk h (fun _ h=>?_) (fun _ h=>?_)
 ·refine hK1 ?_
  refine aH ?_
  refine tHn ?_
  refine aE ?_
  refine aF ?_
  refine aA dCo rfl fun K hK=>?_;conv=>whnf
  refine gE h fun _ h=>?_;conv=>whnf
  refine nlA rfl ?_;conv=>whnf
  refine bKo rfl ?_;conv=>whnf
  refine And.intro rfl (And.intro (nle rfl) (And.intro rfl ?_));conv=>whnf
  refine hK _ _ _ ?_
  refine aBw dCo gD rfl (by kernel_rfl) fun K hK=>?_;conv=>whnf
  refine And.intro (by decide) ?_;conv=>whnf
  refine nlA rfl ?_;conv=>whnf
  refine bKo rfl ?_;conv=>whnf
  refine gKo rfl ?_;conv=>whnf
  refine cH h fun hx27 h=>?_;conv=>whnf
  refine nlA rfl ?_;conv=>whnf
  refine bKo rfl ?_;conv=>whnf
  refine dS rfl hx27 ?_;conv=>whnf
  refine And.intro (by decide) ?_;conv=>whnf
  refine nlA rfl ?_;conv=>whnf
  refine bKo rfl ?_;conv=>whnf
  refine gKo rfl ?_;conv=>whnf
  refine cH h fun _ h=>?_;conv=>whnf
  refine cH h fun hx28 h=>?_;conv=>whnf
  refine bKo rfl ?_;conv=>whnf
  refine tT rfl hx28 rfl rfl ?_;conv=>whnf
  refine hK _ _ _ ?_
  refine iBn ?_
  refine tHn ?_
  refine cK dCo rfl fun K hK=>?_;conv=>whnf
  refine hK _ _ _ ?_
  refine tHn ?_
  replace h:=bF h
  refine ⟨_,h,?_⟩
  refine bE ?_;conv=>whnf
  exact And.intro rfl (And.intro (aLc wkI (aLc (WkR.ptr (fun _=>rfl)) (aLc (WkR.ptr (fun _=>rfl)) (aLc (wkr (lsL fun _=>(aD _))) (aLc wkI aLn))))) (aLc ⟨some _,rfl,bRc rfl (cKc wkI (cKc (wkr (lsL fun _=>(aD _))) cKn))⟩ (aLc ⟨some _,rfl,aV rfl rfl⟩ aLn)))
 refine hK2 ?_
 refine bD ?_
 refine aT ?_
 refine aT ?_
 refine aS ?_
 replace h:=dI h
 replace h:=dK h
 refine tHn ?_
 refine aE ?_
 refine aA dCo rfl fun K hK=>?_;conv=>whnf
 refine bKo rfl ?_;conv=>whnf
 refine And.intro rfl (And.intro (nle rfl) (And.intro rfl ?_));conv=>whnf
 refine hK _ _ _ ?_
 refine lU 1 ?_;(conv=>whnf);refine ⟨_,rfl,?_⟩
 refine lU 4 ?_;(conv=>whnf);refine ⟨_,rfl,?_⟩
 refine aF ?_
 replace h:=bM h
 refine gJ (body:=mV _ _) rfl h [1,4,7] [] [7] (fun kl kh ids b s=>⟨ofL ([]++kl),ofH ([(wW ids 0,.cells [eI s])]++kh),b+64⟩) ?_;(conv=>whnf);refine And.intro ?_ (fun s m h=>dG ?_)
 ·refine aY ?_;conv=>whnf
  exact And.intro rfl (And.intro (aLc (wkr (lsE (lsC (lsI _ _) (lsC (lsL fun _=>(aD _)) lsN)))) (aLc (wkr (lsE (aN _))) (aLc (WkR.ptr (fun _=>rfl)) aLn))) (aLc ⟨some _,rfl,bRc rfl (cKc wkI cKn)⟩ aLn))
 replace h:=bM h;rw [mV.eq_1] at h
 refine aE ?_
 refine aA dCo rfl fun K hK=>?_;conv=>whnf
 refine nlA rfl ?_;conv=>whnf
 refine bKo rfl ?_;conv=>whnf
 refine gKo rfl ?_;conv=>whnf
 refine gKo rfl ?_;conv=>whnf
 refine hK _ _ _ ?_
 refine aW fun K1 K2 hK1 hK2=>?_;conv=>whnf
 refine cLk h (fun _ h=>?_) (fun _ h=>?_)
 ·refine hK1 ?_
  refine aH ?_
  refine tHn ?_
  refine aE ?_
  refine aF ?_
  refine aA dCo rfl fun K hK=>?_;conv=>whnf
  refine hK _ _ _ ?_
  refine aA dCo rfl fun K hK=>?_;conv=>whnf
  refine hK _ _ _ ?_
  refine lU 7 ?_;(conv=>whnf);refine ⟨_,rfl,?_⟩
  refine aA dCo rfl fun K hK=>?_;conv=>whnf
  refine bKo rfl ?_;conv=>whnf
  refine And.intro rfl (And.intro (nle rfl) (And.intro rfl ?_));conv=>whnf
  refine hK _ _ _ ?_
  refine aHf 9 rfl rfl ?_
  refine aA dCo rfl fun K hK=>?_;conv=>whnf
  refine gKo rfl ?_;conv=>whnf
  refine hK _ _ _ ?_
  refine aF ?_
  replace h:=bM h
  refine gJ (body:=mT _ _ _) rfl h [1,4,7,8,9,39] [8,9] [] (fun kl kh ids b s=>⟨ofL ([(40,eI s)]++kl),ofH ([]++kh),b+64⟩) ?_;(conv=>whnf);refine And.intro ?_ (fun s m h=>dG ?_)
  ·refine aY ?_;conv=>whnf
   exact And.intro rfl (And.intro (aLc wkI (aLc (wkr (lsE (lsC (lsI _ _) (lsC (lsL fun _=>(aD _)) lsN)))) (aLc (wkr (lsE (aN _))) (aLc (wkr (lsE (lsC (lsI _ _) lsN))) (aLc (WkR.ptr (fun _=>rfl)) (aLc (WkR.ptr (fun _=>rfl)) (aLc wkI aLn))))))) (aLc ⟨some _,rfl,bRc rfl (cKc (fA bB (aB (wkr (lsE (lsC (lsI _ _) lsN))) (aB (WkR.ptr (fun _=>rfl)) (aB (wkr (lsE (aN _))) (aB (wkr (lsE (lsC (lsI _ _) (lsC (lsL fun _=>(aD _)) lsN)))) (aB (WkR.ptr (fun _=>rfl)) bB)))))) cKn)⟩ (aLc ⟨some _,rfl,bRc rfl (cKc (WkR.top _ _) cKn)⟩ aLn)))
  replace h:=bM h;rw [mT.eq_1] at h
  refine aA dCo rfl fun K hK=>?_;conv=>whnf
  refine hK _ _ _ ?_
  refine aE ?_
  refine aW fun K1 K2 hK1 hK2=>?_;conv=>whnf
  refine cLk h (fun _ h=>?_) (fun _ h=>?_)
  ·refine hK1 ?_
   refine aH ?_
   refine tHn ?_
   refine aE ?_
   refine aF ?_
   refine aA dCo rfl fun K hK=>?_;conv=>whnf
   refine hK _ _ _ ?_
   refine aA dCo rfl fun K hK=>?_;conv=>whnf
   refine nlA rfl ?_;conv=>whnf
   refine bKo rfl ?_;conv=>whnf
   refine gKo rfl ?_;conv=>whnf
   refine aJU (enc:=eI) dCo h rfl rfl rfl ⟨nle rfl,nle rfl,rfl⟩ rfl (aC (Wk.refl _) bA) (fun h=>?_);conv=>whnf
   refine dM (bs:=[.ab (.cells [.top]),.fn 66 [.v (.ep [eI _] 0),.p 0,.v (.ep (cA _) 0),.v (.ep [eI _,_] 0),.p 1],.ab _]) (args0:=[.so 2 0 _ 1,_,.ptr 0 0,_,_,.ptr 1 0]) h66 [_,_,_] h (.cons (aBn rfl) (.cons (bL (lsE (lsC (lsI _ _) lsN))) (.cons (eU rfl) (.cons (bL (lsE (aN _))) (.cons (bL (lsE (lsC (lsI _ _) (lsC (lsL fun _=>(aD _)) lsN)))) (.cons (eU rfl) .nil)))))) ⟨⟨_,rfl,bkW _⟩,rfl,⟨_,rfl,bkW _⟩,trivial⟩ rfl (nle rfl) (fun y e=>(⟨_,_,_,_,_,rfl,rfl,e,rfl,rfl⟩:iJ 10 _ _ _ _)) (fun y h=>?_)
   rcases y with _ | f<;>(conv=>whnf)
   ·replace h:=sV h
    refine hK _ _ _ ?_
    refine aW fun K1 K2 hK1 hK2=>?_;conv=>whnf
    refine hK2 ?_
    refine aH ?_
    refine iBn ?_
    refine tHn ?_
    refine cK dCo rfl fun K hK=>?_;conv=>whnf
    refine hK _ _ _ ?_
    refine tHn ?_
    replace h:=bF h
    refine ⟨_,h,?_⟩
    refine aY ?_;conv=>whnf
    exact And.intro rfl (And.intro (aLc wkI (aLc (wkr (lsE (lsC (lsI _ _) (lsC (lsL fun _=>(aD _)) lsN)))) (aLc (wkr (lsE (aN _))) (aLc (wkr (lsE (lsC (lsI _ _) lsN))) (aLc (WkR.ptr (fun _=>rfl)) (aLc (WkR.ptr (fun _=>rfl)) (aLc wkI aLn))))))) (aLc ⟨some _,rfl,bRc rfl (cKc (fA bB (aB (wkr (lsE (lsC (lsI _ _) lsN))) (aB (WkR.ptr (fun _=>rfl)) (aB (wkr (lsE (aN _))) (aB (wkr (lsE (lsC (lsI _ _) (lsC (lsL fun _=>(aD _)) lsN)))) (aB (WkR.ptr (fun _=>rfl)) bB)))))) cKn)⟩ (aLc ⟨some _,rfl,bRc rfl (cKc (WkR.top _ _) cKn)⟩ aLn)))
   replace h:=oB h
   refine hK _ _ _ ?_
   refine aW fun K1 K2 hK1 hK2=>?_;conv=>whnf
   refine hK1 ?_
   refine aA dCo rfl fun K hK=>?_;conv=>whnf
   refine nlA rfl ?_;conv=>whnf
   refine bKo rfl ?_;conv=>whnf
   refine gKo rfl ?_;conv=>whnf
   refine aEb h fun hg h=>?_
   replace h:=aLd h
   refine tQ h60 (aC (Wk.refl _) bA) hg (fun _=>(lsC (lsI _ _) lsN)) ?_;conv=>whnf
   refine hK _ _ _ ?_
   refine nY 2 (enc:=eI) (e:=3) default (mI dCo rfl rfl rfl (fun _=>⟨rfl,rfl⟩)) ?_;(conv=>whnf);refine ⟨_,_,rfl,rfl,rfl,?_⟩
   refine aP ?_
   refine aL ?_
   refine aJ ?_
   refine aJ ?_
   refine aL ?_
   refine aL ?_
   refine aJ ?_
   refine aJ ?_
   refine aL ?_
   refine aJ ?_
   replace h:=gA h
   replace h:=gB h
   replace h:=gA h
   replace h:=gB h
   replace h:=aO h
   refine aM dCo fun K hK=>?_;conv=>whnf
   refine hK _ ?_
   cases h
   exact Wk.refl _
  refine hK2 ?_
  refine bD ?_
  refine aT ?_
  refine aT ?_
  refine aS ?_
  replace h:=dI h
  replace h:=dK h
  refine iBn ?_
  refine tHn ?_
  refine aE ?_
  refine aA dCo rfl fun K hK=>?_;conv=>whnf
  refine gKo rfl ?_;conv=>whnf
  refine hK _ _ _ ?_
  refine cK dCo rfl fun K hK=>?_;conv=>whnf
  refine bKo rfl ?_;conv=>whnf
  refine And.intro rfl (And.intro (nle rfl) (And.intro rfl ?_));conv=>whnf
  refine hK _ _ _ ?_
  refine tHn ?_
  refine cK dCo rfl fun K hK=>?_;conv=>whnf
  refine nlA rfl ?_;conv=>whnf
  refine bKo rfl ?_;conv=>whnf
  refine gKo rfl ?_;conv=>whnf
  refine bKo rfl ?_;conv=>whnf
  refine And.intro rfl (And.intro (nle rfl) (And.intro rfl ?_));conv=>whnf
  refine hK _ _ _ ?_
  refine tHn ?_
  replace h:=bF h
  refine ⟨_,h,?_⟩
  refine aY ?_;conv=>whnf
  exact And.intro rfl (And.intro (aLc (wkr (lsE (lsC (lsI _ _) (lsC (lsL fun _=>(aD _)) lsN)))) (aLc (wkr (lsE (aN _))) (aLc (WkR.ptr (fun _=>rfl)) aLn))) (aLc ⟨some _,rfl,bRc rfl (cKc wkI cKn)⟩ aLn))
 refine hK2 ?_
 refine bD ?_
 refine aT ?_
 refine aT ?_
 refine aS ?_
 replace h:=dI h
 replace h:=dK h
 refine tHn ?_
 refine aA dCo rfl fun K hK=>?_;conv=>whnf
 refine hK _ _ _ ?_
 refine aP ?_
 replace h:=aO h
 refine aM dCo fun K hK=>?_;conv=>whnf
 refine hK _ ?_
 cases h
 exact pR (aC kX (aC (Wk.refl _) bA))
theorem oT {T:Tbl} (hT:T 32=aK jI) {args:List AV} {hp:aU} {id:Nat} {k:AV→Prop} {a0:aG} {Φ:(List Int)×Bool→Prop} (h:W (iU a0) Φ) (hw:WkL args [bJ a0]) (hk:∀ y,Φ y→k (.tup [(eL 1 eI default) y.1,eB y.2])):dC T 32 args hp id k:=by
 obtain ⟨y,e,hy⟩:=fG h
 exact aX hT ⟨a0,rfl,kY e rfl⟩ (by exact fO (lsC (lsL fun _=>(lsI _ _)) (lsC (lsB _) lsN))) hw (hk y hy)
  def mC (a0:aG) (e5:Int) (y1:(Ar 8)×Bool) (s6:Int×(List Int)):Option (Ct (Int×(List Int)) ((List Int)×Int)):=cn (decide (s6.1<a0.N)) (gd (0≤e5∧e5<(8:Int)) (gd (0≤s6.1) (jn (fun p7:(List Int)=>
  some (.nx ((wr (s6.1+1)),p7))) fun k8=>cn ((tL .i64 (rR .i64 (y1.1.at1 e5) s6.1) 1) ==
  1) (gd ((0:Int)≤e5∧e5<(s6.2.length:Int)) (gd ((0:Int)≤s6.1∧s6.1<(s6.2.length:Int)) (gd ((0:Int)≤e5∧e5<(s6.2.length:Int)) (st s6.2 (e5) (aEf (s6.2.getD (e5).toNat default) (wr ((s6.2.getD (s6.1).toNat default)+1))) fun l9=>
  k8 l9)))) (k8 s6.2)))) (some (.bk (s6.1,s6.2)))
  def mD (a0:aG) (y1:(Ar 8)×Bool) (y3:List Int) (s4:Int×(List Int)):Option (Ct (Int×(List Int)) ((List Int)×Int)):=cn (decide (s4.1<(y3.length:Int))) (ix y3 default s4.1 fun e5=>
  bd (lp (mC a0 e5 y1) FU (0,s4.2)) fun c10=>smK c10 (fun s11=>some (.nx ((wr (s4.1+1)),s11.2))) (fun r12=>some (.rt r12))) (some (.bk (s4.1,s4.2)))
def jY (a0:aG):Option ((List Int)×Int):=bd (bP a0) fun y1=>
  cn (!y1.2) (some ([],70)) (gd ((0:Int)≤a0.N∧a0.N≤(1048576:Int)) (lt (List.replicate (a0.N).toNat (0:Int)) fun l2=>bd (fK a0.N y1.1) fun y3=>
  bd (lp (mD a0 y1 y3) FU (0,l2)) fun c13=>smK c13 (fun s14=>some (s14.2,0)) (fun r15=>some r15)))
def iF:List AV→AV→Prop:=fun args r=>∃ a0,args=[bJ a0]∧W (jY a0) fun y=>r=(.tup [(eL 1 eI default) y.1,eI y.2])
theorem uV {T:Tbl} (hT:TOk Tryd.prog T) (hpf:cY T PF) (h54:T 54=aK cF) (h57:T 57=aK gM):FOk Tryd.prog 28 (aK iF):=by
 refine bG hT hpf Tryd.func28 rfl Tryd.ntmps28 Tryd.results28 (by decide) ?_
 rintro args r ⟨a0,rfl,h⟩
 refine ⟨nle rfl,?_,?_⟩
 ·exact (lsC (cB _) lsN)
 rw [jY.eq_1] at h
 refine aA dCo rfl fun K hK=>?_;conv=>whnf
 refine hK _ _ _ ?_
 refine aA dCo rfl fun K hK=>?_;conv=>whnf
 refine nlA rfl ?_;conv=>whnf
 refine bKo rfl ?_;conv=>whnf
 refine nlA rfl ?_;conv=>whnf
 replace h:=bM h
 refine cC h54 h (WkL.refl _) (fun _ h=>?_);conv=>whnf
 refine aQ ?_;conv=>whnf
 refine aQ ?_;conv=>whnf
 refine aQ ?_;conv=>whnf
 refine bKo rfl ?_;conv=>whnf
 refine pS rfl rfl rfl ?_;conv=>whnf
 refine hK _ _ _ ?_
 refine aE ?_
 refine aA dCo rfl fun K hK=>?_;conv=>whnf
 refine hK _ _ _ ?_
 refine aW fun K1 K2 hK1 hK2=>?_;conv=>whnf
 refine cLk h (fun _ h=>?_) (fun _ h=>?_)
 ·refine hK1 ?_
  refine aA dCo rfl fun K hK=>?_;conv=>whnf
  refine hK _ _ _ ?_
  refine aP ?_
  refine aJ ?_
  replace h:=aO h
  refine aM dCo fun K hK=>?_;conv=>whnf
  refine hK _ ?_
  cases h
  exact pR (aC kX (aC (Wk.refl _) bA))
 refine hK2 ?_
 refine aH ?_
 refine tHn ?_
 refine aA dCo rfl fun K hK=>?_;conv=>whnf
 refine nlA rfl ?_;conv=>whnf
 refine bKo rfl ?_;conv=>whnf
 refine gKo rfl ?_;conv=>whnf
 refine aJI (enc:=eI) dCo (0:Int) h rfl rfl ⟨nle rfl,nle rfl,rfl⟩ rfl (fun h=>?_);conv=>whnf
 refine hK _ _ _ ?_
 refine aE ?_
 refine aA dCo rfl fun K hK=>?_;conv=>whnf
 refine nlA rfl ?_;conv=>whnf
 refine bKo rfl ?_;conv=>whnf
 refine gKo rfl ?_;conv=>whnf
 refine nlA rfl ?_;conv=>whnf
 refine bKo rfl ?_;conv=>whnf
 refine rU rfl ?_;conv=>whnf
 refine aQ ?_;conv=>whnf
 replace h:=bM h
 refine lW h57 h (WkL.refl _) (fun _ h=>?_);conv=>whnf
 refine hK _ _ _ ?_
 refine aF ?_
 replace h:=bM h
 refine gC (body:=mD _ _ _) rfl h [1,4,23,24] [1] [4] [] (fun kl kh kr ids b s=>⟨ofL ([(25,eI s.1),(6,.so (b+0) 0 s.2.length 1)]++kl),ofH (([]++kh)++([(b+0,.cells (flE (ceE eI) s.2))]++kr)),b+128⟩) ?_;(conv=>whnf);refine And.intro ?_ (fun s m h=>dG ?_)
 ·refine bE ?_;conv=>whnf
  exact And.intro rfl (And.intro (aLc wkI (aLc (WkR.so (fun _=>rfl)) (aLc (WkR.ptr (fun _=>rfl)) (aLc (WkR.ptr (fun _=>rfl)) (aLc (wkr (lsL fun _=>(lsI _ _))) (aLc wkI aLn)))))) (aLc ⟨some _,rfl,bRc rfl (cKc wkI (cKc (wkr (lsL fun _=>(aD _))) cKn))⟩ (aLc ⟨some _,rfl,gX rfl (fun _=>(lsC (lsI _ _) lsN))⟩ (aLc ⟨some _,rfl,aV rfl rfl⟩ aLn))))
 replace h:=bM h;rw [mD.eq_1] at h
 refine aA dCo rfl fun K hK=>?_;conv=>whnf
 refine hK _ _ _ ?_
 refine aE ?_
 refine aW fun K1 K2 hK1 hK2=>?_;conv=>whnf
 refine cLk h (fun _ h=>?_) (fun _ h=>?_)
 ·refine hK1 ?_
  refine aH ?_
  refine tHn ?_
  refine aE ?_
  refine aF ?_
  refine aA dCo rfl fun K hK=>?_;conv=>whnf
  refine gE h fun _ h=>?_;conv=>whnf
  refine gKo rfl ?_;conv=>whnf
  refine hK _ _ _ ?_
  refine aA dCo rfl fun K hK=>?_;conv=>whnf
  refine nlA rfl ?_;conv=>whnf
  refine bKo rfl ?_;conv=>whnf
  refine gKo rfl ?_;conv=>whnf
  refine hK _ _ _ ?_
  refine aF ?_
  replace h:=bM h
  refine gC (body:=mC _ _ _) rfl h [1,4,8,23,24,25,30] [1] [4] [] (fun kl kh kr ids b s=>⟨ofL ([(31,eI s.1),(6,.so (b+0) 0 s.2.length 1)]++kl),ofH (([]++kh)++([(b+0,.cells (flE (ceE eI) s.2))]++kr)),b+128⟩) ?_;(conv=>whnf);refine And.intro ?_ (fun s m h=>dG ?_)
  ·refine bE ?_;conv=>whnf
   exact And.intro rfl (And.intro (aLc wkI (aLc (WkR.so (fun _=>rfl)) (aLc (WkR.ptr (fun _=>rfl)) (aLc (WkR.ptr (fun _=>rfl)) (aLc wkI (aLc (wkr (lsL fun _=>(lsI _ _))) (aLc wkI (aLc wkI (aLc wkI aLn))))))))) (aLc ⟨some _,rfl,bRc rfl (cKc wkI (cKc (wkr (lsL fun _=>(aD _))) cKn))⟩ (aLc ⟨some _,rfl,gX rfl (fun _=>(lsC (lsI _ _) lsN))⟩ (aLc ⟨some _,rfl,aV rfl rfl⟩ aLn))))
  replace h:=bM h;rw [mC.eq_1] at h
  refine aA dCo rfl fun K hK=>?_;conv=>whnf
  refine hK _ _ _ ?_
  refine aE ?_
  refine aW fun K1 K2 hK1 hK2=>?_;conv=>whnf
  refine cLk h (fun _ h=>?_) (fun _ h=>?_)
  ·refine hK1 ?_
   refine aH ?_
   refine tHn ?_
   refine aE ?_
   refine aF ?_
   refine aA dCo rfl fun K hK=>?_;conv=>whnf
   refine hK _ _ _ ?_
   refine aA dCo rfl fun K hK=>?_;conv=>whnf
   refine cH h fun hx1359 h=>?_;conv=>whnf
   refine nlA rfl ?_;conv=>whnf
   refine bKo rfl ?_;conv=>whnf
   refine dS rfl hx1359 ?_;conv=>whnf
   refine cH h fun _ h=>?_;conv=>whnf
   refine hK _ _ _ ?_
   replace h:=nL h
   refine aW fun K1 K2 hK1 hK2=>?_;conv=>whnf
   refine cLk h (fun _ h=>?_) (fun _ h=>?_)
   ·refine hK1 ?_
    refine aBw dCo gD rfl (by kernel_rfl) fun K hK=>?_;conv=>whnf
    refine qP h (rfl) fun hx1363 h=>?_;conv=>whnf
    refine nlA rfl ?_;conv=>whnf
    refine bKo rfl ?_;conv=>whnf
    refine qY (enc:=eI) (d:=default) (q:=0) (fun _=>rfl) (rfl) hx1363 (nle rfl) rfl ?_;conv=>whnf
    refine qP h (rfl) fun hx1364 h=>?_;conv=>whnf
    refine nlA rfl ?_;conv=>whnf
    refine bKo rfl ?_;conv=>whnf
    refine qY (enc:=eI) (d:=default) (q:=0) (fun _=>rfl) (rfl) hx1364 (nle rfl) rfl ?_;conv=>whnf
    refine qP h (rfl) fun hx1365 h=>?_;conv=>whnf
    refine bKo rfl ?_;conv=>whnf
    refine aJq (enc:=eI) (d:=default) (q:=0) h (fun _=>rfl) (rfl) hx1365 rfl (nle rfl) rfl rfl (fun h=>?_);conv=>whnf
    refine hK _ _ _ ?_
    refine iBn ?_
    refine tHn ?_
    refine cK dCo rfl fun K hK=>?_;conv=>whnf
    refine hK _ _ _ ?_
    refine tHn ?_
    replace h:=bF h
    refine ⟨_,h,?_⟩
    refine bE ?_;conv=>whnf
    exact And.intro rfl (And.intro (aLc wkI (aLc (WkR.soN (fun _=>rfl) (aGR rfl).symm) (aLc (WkR.ptr (fun _=>rfl)) (aLc (WkR.ptr (fun _=>rfl)) (aLc wkI (aLc (wkr (lsL fun _=>(lsI _ _))) (aLc wkI (aLc wkI (aLc wkI aLn))))))))) (aLc ⟨some _,rfl,bRc rfl (cKc wkI (cKc (wkr (lsL fun _=>(aD _))) cKn))⟩ (aLc ⟨some _,rfl,gX rfl (fun _=>(lsC (lsI _ _) lsN))⟩ (aLc ⟨some _,rfl,aV rfl rfl⟩ aLn))))
   refine hK2 ?_
   refine aH ?_
   refine iBn ?_
   refine tHn ?_
   refine cK dCo rfl fun K hK=>?_;conv=>whnf
   refine hK _ _ _ ?_
   refine tHn ?_
   replace h:=bF h
   refine ⟨_,h,?_⟩
   refine bE ?_;conv=>whnf
   exact And.intro rfl (And.intro (aLc wkI (aLc (WkR.so (fun _=>rfl)) (aLc (WkR.ptr (fun _=>rfl)) (aLc (WkR.ptr (fun _=>rfl)) (aLc wkI (aLc (wkr (lsL fun _=>(lsI _ _))) (aLc wkI (aLc wkI (aLc wkI aLn))))))))) (aLc ⟨some _,rfl,bRc rfl (cKc wkI (cKc (wkr (lsL fun _=>(aD _))) cKn))⟩ (aLc ⟨some _,rfl,gX rfl (fun _=>(lsC (lsI _ _) lsN))⟩ (aLc ⟨some _,rfl,aV rfl rfl⟩ aLn))))
  refine hK2 ?_
  refine bD ?_
  refine aT ?_
  refine aT ?_
  refine aS ?_
  replace h:=dI h
  replace h:=dK h
  refine iBn ?_
  refine tHn ?_
  refine cK dCo rfl fun K hK=>?_;conv=>whnf
  refine hK _ _ _ ?_
  refine tHn ?_
  replace h:=bF h
  refine ⟨_,h,?_⟩
  refine bE ?_;conv=>whnf
  exact And.intro rfl (And.intro (aLc wkI (aLc (WkR.so (fun _=>rfl)) (aLc (WkR.ptr (fun _=>rfl)) (aLc (WkR.ptr (fun _=>rfl)) (aLc (wkr (lsL fun _=>(lsI _ _))) (aLc wkI aLn)))))) (aLc ⟨some _,rfl,bRc rfl (cKc wkI (cKc (wkr (lsL fun _=>(aD _))) cKn))⟩ (aLc ⟨some _,rfl,gX rfl (fun _=>(lsC (lsI _ _) lsN))⟩ (aLc ⟨some _,rfl,aV rfl rfl⟩ aLn))))
 refine hK2 ?_
 refine bD ?_
 refine aT ?_
 refine aT ?_
 refine aS ?_
 replace h:=dI h
 replace h:=dK h
 refine tHn ?_
 refine aA dCo rfl fun K hK=>?_;conv=>whnf
 refine hK _ _ _ ?_
 refine nY 2 (enc:=eI) (e:=3) default (mI dCo rfl rfl rfl (fun _=>⟨rfl,rfl⟩)) ?_;(conv=>whnf);refine ⟨_,_,rfl,rfl,rfl,?_⟩
 refine aP ?_
 replace h:=aO h
 refine aM dCo fun K hK=>?_;conv=>whnf
 refine hK _ ?_
 cases h
 exact Wk.refl _
theorem sL {T:Tbl} (hT:T 28=aK iF) {args:List AV} {hp:aU} {id:Nat} {k:AV→Prop} {a0:aG} {Φ:(List Int)×Int→Prop} (h:W (jY a0) Φ) (hw:WkL args [bJ a0]) (hk:∀ y,Φ y→k (.tup [(eL 1 eI default) y.1,eI y.2])):dC T 28 args hp id k:=by
 obtain ⟨y,e,hy⟩:=fG h
 exact aX hT ⟨a0,rfl,kY e rfl⟩ (by exact fO (lsC (lsL fun _=>(lsI _ _)) (lsC (lsI _ _) lsN))) hw (hk y hy)
  def dV (y1:(Ar 8)×Bool) (y3:List Int) (s4:Int×Int):Option (Ct (Int×Int) ((List Int)×Int)):=cn (decide (s4.2<(y3.length:Int))) (ix y3 default s4.2 fun e5=>
  gd (0≤e5∧e5<(8:Int)) (let v6:=(bor .i64 s4.1 (y1.1.at1 e5));some (.nx (v6,(wr (s4.2+1)))))) (some (.bk (s4.1,s4.2)))
  def dW (a0:aG) (y1:(Ar 8)×Bool) (s2:(List Int)×Int):Option (Ct ((List Int)×Int) ((List Int)×Int)):=cn (decide (s2.2<(aDz .i64 1 a0.N))) (bd (fU s2.2) fun y3=>
  bd (lp (dV y1 y3) FU (0,0)) fun c7=>smK c7 (fun s8=>jn (fun p10:Bool=>jn (fun p16:(List Int)=>some (.nx (p16,(wr (s2.2+1))))) fun k17=>
  cn p10 (k17 y3) (k17 s2.1)) fun k11=>cn ((tL .i64 s8.1 s2.2)==0) (bd (dL (s2.1.length:Int) (y3.length:Int)) fun y12=>
  bd (bU y3 s2.1) fun y13=>lt ([y12,y13]:List Int) fun l14=>bd (iQ l14) fun y15=>k11 (decide (y15<0))) (k11 false)) (fun r9=>
  some (.rt r9))) (some (.bk (s2.1,s2.2)))
def dN (a0:aG):Option ((List Int)×Int):=bd (bP a0) fun y1=>
  cn (!y1.2) (some ([],70)) (gd (0≤a0.N) (bd (lp (dW a0 y1) FU ([],0)) fun c18=>smK c18 (fun s19=>some (s19.1,0)) (fun r20=>some r20)))
def eE:List AV→AV→Prop:=fun args r=>∃ a0,args=[bJ a0]∧W (dN a0) fun y=>r=(.tup [(eL 1 eI default) y.1,eI y.2])
theorem rQ {T:Tbl} (hT:TOk Tryd.prog T) (hpf:cY T PF) (h54:T 54=aK cF) (h61:T 61=aK hG) (h62:T 62=aK kF) (h63:T 63=aK eF) (h64:T 64=aK dY):FOk Tryd.prog 30 (aK eE):=by
 refine bG hT hpf Tryd.func30 rfl Tryd.ntmps30 Tryd.results30 (by decide) ?_
 rintro args r ⟨a0,rfl,h⟩
 refine ⟨nle rfl,?_,?_⟩
 ·exact (lsC (cB _) lsN)
 rw [dN.eq_1] at h
 refine aA dCo rfl fun K hK=>?_;conv=>whnf
 refine hK _ _ _ ?_
 refine aA dCo rfl fun K hK=>?_;conv=>whnf
 refine nlA rfl ?_;conv=>whnf
 refine bKo rfl ?_;conv=>whnf
 refine nlA rfl ?_;conv=>whnf
 replace h:=bM h
 refine cC h54 h (WkL.refl _) (fun _ h=>?_);conv=>whnf
 refine aQ ?_;conv=>whnf
 refine aQ ?_;conv=>whnf
 refine aQ ?_;conv=>whnf
 refine bKo rfl ?_;conv=>whnf
 refine pS rfl rfl rfl ?_;conv=>whnf
 refine hK _ _ _ ?_
 refine aE ?_
 refine aA dCo rfl fun K hK=>?_;conv=>whnf
 refine hK _ _ _ ?_
 refine aW fun K1 K2 hK1 hK2=>?_;conv=>whnf
 refine cLk h (fun _ h=>?_) (fun _ h=>?_)
 ·refine hK1 ?_
  refine aA dCo rfl fun K hK=>?_;conv=>whnf
  refine hK _ _ _ ?_
  refine aP ?_
  refine aJ ?_
  replace h:=aO h
  refine aM dCo fun K hK=>?_;conv=>whnf
  refine hK _ ?_
  cases h
  exact pR (aC kX (aC (Wk.refl _) bA))
 refine hK2 ?_
 refine aH ?_
 refine tHn ?_
 refine aA dCo rfl fun K hK=>?_;conv=>whnf
 refine hK _ _ _ ?_
 refine aE ?_
 refine aA dCo rfl fun K hK=>?_;conv=>whnf
 refine nlA rfl ?_;conv=>whnf
 refine bKo rfl ?_;conv=>whnf
 refine gKo rfl ?_;conv=>whnf
 refine cH h fun _ h=>?_;conv=>whnf
 refine hK _ _ _ ?_
 refine aF ?_
 replace h:=bM h
 refine gC (body:=dW _ _) rfl h [4,21] [] [4] [] (fun kl kh kr ids b s=>⟨ofL ([(6,(eL 1 eI default) s.1),(22,eI s.2)]++kl),ofH (([]++kh)++([]++kr)),b+64⟩) ?_;(conv=>whnf);refine And.intro ?_ (fun s m h=>dG ?_)
 ·refine bE ?_;conv=>whnf
  exact And.intro rfl (And.intro (aLc (WkR.wk kX (lsL fun _=>(lsI _ _))) (aLc wkI (aLc (WkR.ptr (fun _=>rfl)) (aLc wkI aLn)))) (aLc ⟨some _,rfl,aV rfl rfl⟩ aLn))
 replace h:=bM h;rw [dW.eq_1] at h
 refine aA dCo rfl fun K hK=>?_;conv=>whnf
 refine hK _ _ _ ?_
 refine aE ?_
 refine aW fun K1 K2 hK1 hK2=>?_;conv=>whnf
 refine cLk h (fun _ h=>?_) (fun _ h=>?_)
 ·refine hK1 ?_
  refine aH ?_
  refine tHn ?_
  refine aE ?_
  refine aF ?_
  refine aA dCo rfl fun K hK=>?_;conv=>whnf
  refine hK _ _ _ ?_
  refine aA dCo rfl fun K hK=>?_;conv=>whnf
  replace h:=bM h
  refine sH h61 h (WkL.refl _) (fun _ h=>?_);conv=>whnf
  refine hK _ _ _ ?_
  refine aE ?_
  refine aA dCo rfl fun K hK=>?_;conv=>whnf
  refine hK _ _ _ ?_
  refine aF ?_
  replace h:=bM h
  refine gC (body:=dV _ _) rfl h [4,6,7,9,21,22,27,28] [] [4] [] (fun kl kh kr ids b s=>⟨ofL ([(8,eI s.1),(29,eI s.2)]++kl),ofH (([]++kh)++([]++kr)),b+64⟩) ?_;(conv=>whnf);refine And.intro ?_ (fun s m h=>dG ?_)
  ·refine bE ?_;conv=>whnf
   exact And.intro rfl (And.intro (aLc wkI (aLc wkI (aLc (WkR.ptr (fun _=>rfl)) (aLc (wkr (lsL fun _=>(lsI _ _))) (aLc wkI (aLc (wkr (lsL fun _=>(lsI _ _))) (aLc wkI (aLc wkI (aLc (wkr (lsL fun _=>(lsI _ _))) (aLc wkI aLn)))))))))) (aLc ⟨some _,rfl,aV rfl rfl⟩ aLn))
  replace h:=bM h;rw [dV.eq_1] at h
  refine aA dCo rfl fun K hK=>?_;conv=>whnf
  refine hK _ _ _ ?_
  refine aE ?_
  refine aW fun K1 K2 hK1 hK2=>?_;conv=>whnf
  refine cLk h (fun _ h=>?_) (fun _ h=>?_)
  ·refine hK1 ?_
   refine aH ?_
   refine tHn ?_
   refine aE ?_
   refine aF ?_
   refine aA dCo rfl fun K hK=>?_;conv=>whnf
   refine gE h fun _ h=>?_;conv=>whnf
   refine gKo rfl ?_;conv=>whnf
   refine hK _ _ _ ?_
   refine cK dCo rfl fun K hK=>?_;conv=>whnf
   refine cH h fun hx1428 h=>?_;conv=>whnf
   refine nlA rfl ?_;conv=>whnf
   refine bKo rfl ?_;conv=>whnf
   refine dS rfl hx1428 ?_;conv=>whnf
   refine hK _ _ _ ?_
   refine iBn ?_
   refine tHn ?_
   refine cK dCo rfl fun K hK=>?_;conv=>whnf
   refine hK _ _ _ ?_
   refine tHn ?_
   replace h:=bF h
   refine ⟨_,h,?_⟩
   refine bE ?_;conv=>whnf
   exact And.intro rfl (And.intro (aLc wkI (aLc wkI (aLc (WkR.ptr (fun _=>rfl)) (aLc (wkr (lsL fun _=>(lsI _ _))) (aLc wkI (aLc (wkr (lsL fun _=>(lsI _ _))) (aLc wkI (aLc wkI (aLc (wkr (lsL fun _=>(lsI _ _))) (aLc wkI aLn)))))))))) (aLc ⟨some _,rfl,aV rfl rfl⟩ aLn))
  refine hK2 ?_
  refine bD ?_
  refine aT ?_
  refine aT ?_
  refine aS ?_
  replace h:=dI h
  replace h:=dK h
  refine tHn ?_
  refine aA dCo rfl fun K hK=>?_;conv=>whnf
  replace h:=nL h
  refine cLk h (fun _ h=>?_) (fun _ h=>?_)<;>(conv=>whnf)
  ·replace h:=bM h
   refine kU h63 h (WkL.refl _) (fun _ h=>?_);conv=>whnf
   replace h:=bM h
   refine oA h64 h (WkL.refl _) (fun _ h=>?_);conv=>whnf
   refine eK (enc:=eI) (d:=default) dCo h rfl rfl rfl ⟨nle rfl,nle rfl,rfl⟩ rfl ⟨⟨rfl,rfl,rfl⟩,⟨⟨rfl,rfl,rfl⟩,trivial⟩⟩ (fun h=>?_);conv=>whnf
   replace h:=bM h
   refine uT h62 h (aC cD bA) (fun _ h=>?_);conv=>whnf
   refine hK _ _ _ ?_
   replace h:=nL h
   refine aW fun K1 K2 hK1 hK2=>?_;conv=>whnf
   refine cLk h (fun _ h=>?_) (fun _ h=>?_)
   ·refine hK1 ?_
    refine cK dCo rfl fun K hK=>?_;conv=>whnf
    refine hK _ _ _ ?_
    refine iBn ?_
    refine tHn ?_
    refine cK dCo rfl fun K hK=>?_;conv=>whnf
    refine hK _ _ _ ?_
    refine tHn ?_
    replace h:=bF h
    refine ⟨_,h,?_⟩
    refine bE ?_;conv=>whnf
    exact And.intro rfl (And.intro (aLc (wkr (lsL fun _=>(lsI _ _))) (aLc wkI (aLc (WkR.ptr (fun _=>rfl)) (aLc wkI aLn)))) (aLc ⟨some _,rfl,aV rfl rfl⟩ aLn))
   refine hK2 ?_
   refine aH ?_
   refine iBn ?_
   refine tHn ?_
   refine cK dCo rfl fun K hK=>?_;conv=>whnf
   refine hK _ _ _ ?_
   refine tHn ?_
   replace h:=bF h
   refine ⟨_,h,?_⟩
   refine bE ?_;conv=>whnf
   exact And.intro rfl (And.intro (aLc (wkr (lsL fun _=>(lsI _ _))) (aLc wkI (aLc (WkR.ptr (fun _=>rfl)) (aLc wkI aLn)))) (aLc ⟨some _,rfl,aV rfl rfl⟩ aLn))
  refine hK _ _ _ ?_
  replace h:=nL h
  refine aW fun K1 K2 hK1 hK2=>?_;conv=>whnf
  refine hK2 ?_
  replace h:=sV h
  refine aH ?_
  refine iBn ?_
  refine tHn ?_
  refine cK dCo rfl fun K hK=>?_;conv=>whnf
  refine hK _ _ _ ?_
  refine tHn ?_
  replace h:=bF h
  refine ⟨_,h,?_⟩
  refine bE ?_;conv=>whnf
  exact And.intro rfl (And.intro (aLc (wkr (lsL fun _=>(lsI _ _))) (aLc wkI (aLc (WkR.ptr (fun _=>rfl)) (aLc wkI aLn)))) (aLc ⟨some _,rfl,aV rfl rfl⟩ aLn))
 refine hK2 ?_
 refine bD ?_
 refine aT ?_
 refine aT ?_
 refine aS ?_
 replace h:=dI h
 replace h:=dK h
 refine tHn ?_
 refine aA dCo rfl fun K hK=>?_;conv=>whnf
 refine hK _ _ _ ?_
 refine aP ?_
 replace h:=aO h
 refine aM dCo fun K hK=>?_;conv=>whnf
 refine hK _ ?_
 cases h
 exact Wk.refl _
theorem kV {T:Tbl} (hT:T 30=aK eE) {args:List AV} {hp:aU} {id:Nat} {k:AV→Prop} {a0:aG} {Φ:(List Int)×Int→Prop} (h:W (dN a0) Φ) (hw:WkL args [bJ a0]) (hk:∀ y,Φ y→k (.tup [(eL 1 eI default) y.1,eI y.2])):dC T 30 args hp id k:=by
 obtain ⟨y,e,hy⟩:=fG h
 exact aX hT ⟨a0,rfl,kY e rfl⟩ (by exact fO (lsC (lsL fun _=>(lsI _ _)) (lsC (lsI _ _) lsN))) hw (hk y hy)
def iA (a1:List (Int×Int)) (s2:Int×aG):Option (Ct (Int×aG) aG):=jn (fun p3:Bool=>cn p3 (ix a1 default s2.1 fun e5=>
  bd (fI e5.1 s2.2.N) fun y6=>ix a1 default s2.1 fun e7=>bd (fI e7.2 (wr (s2.2.N-1))) fun y8=>
  gd (s2.2.N≠0) (lt ([(y6,(Int.tmod (wr ((wr (y6+1))+y8)) s2.2.N))]:List (Int×Int)) fun l9=>ap s2.2.Pairs l9 fun l10=>
  some (.nx ((wr (s2.1+1)),(⟨s2.2.N,l10⟩:aG))))) (some (.bk (s2.1,s2.2)))) fun k4=>
  cn (decide (s2.1<(a1.length:Int))) (cn (decide (s2.1<20)) (k4 (decide (s2.2.N>1))) (k4 false)) (k4 false)
def gW (a0:Int) (a1:List (Int×Int)):Option aG:=bd (fI a0 9) fun y1=>bd (lp (iA a1) FU (0,(⟨y1,[]⟩:aG))) fun c11=>
  smK c11 (fun s12=>some s12.2) (fun r13=>some r13)
def jK (y:aG) (b:Nat):AV:=.agg [eI y.N,.so b 0 y.Pairs.length 2]
def eZ (y:aG):List AB:=[.cells (flE (ceE jW) y.Pairs)]
def iZ:List AV→aG→Prop:=fun args y=>∃ a0 a1,args=[eI a0,(eL 2 jW default) a1]∧gW a0 a1=some y
theorem wL {T:Tbl} (hT:TOk Tryd.prog T) (hpf:cY T PF) (h37:T 37=aK iR):FOk Tryd.prog 17 (aCO jK eZ iZ):=by
 refine aCf hT hpf Tryd.func17 rfl Tryd.ntmps17 Tryd.results17 (by decide) (fun y=>⟨by simp [eZ],by simp [eZ,uJ]⟩) ?_
 rintro args y ⟨a0,a1,rfl,hF⟩
 refine ⟨nle rfl,(lsC (lsI _ _) (lsC (lsL fun _=>(aD _)) lsN)),fun base=>?_⟩
 have h:W (gW a0 a1) (fun z=>z=y):=kY hF rfl
 rw [gW.eq_1] at h
 refine aA dCo rfl fun K hK=>?_;conv=>whnf
 refine hK _ _ _ ?_
 refine aA dCo rfl fun K hK=>?_;conv=>whnf
 replace h:=bM h
 refine iV h37 h (WkL.refl _) (fun _ h=>?_);conv=>whnf
 refine bKo rfl ?_;conv=>whnf
 refine And.intro rfl (And.intro (nle rfl) (And.intro rfl ?_));conv=>whnf
 refine hK _ _ _ ?_
 refine aE ?_
 refine aA dCo rfl fun K hK=>?_;conv=>whnf
 refine hK _ _ _ ?_
 refine aF ?_
 replace h:=bM h
 refine gC (body:=iA _) rfl h [1,4,5] [4] [] [5] (fun kl kh kr ids b s=>⟨ofL ([(6,eI s.1)]++kl),ofH (([(wW ids 0,.cells [eI s.2.N,.so (b+0) 0 s.2.Pairs.length 2])]++kh)++([(b+0,.cells (flE (ceE jW) s.2.Pairs))]++kr)),b+128⟩) ?_;(conv=>whnf);refine And.intro ?_ (fun s m h=>dG ?_)
 ·refine bE ?_;conv=>whnf
  exact And.intro rfl (And.intro (aLc wkI (aLc (wkr (lsL fun _=>(aD _))) (aLc (WkR.ptr (fun _=>rfl)) (aLc (WkR.ptr (fun _=>rfl)) aLn)))) (aLc ⟨some _,rfl,bRc rfl (cKc wkI (cKc (WkR.nilso (fun _=>rfl)) cKn))⟩ (aLc ⟨some _,rfl,bRc rfl (cKc wkI (cKc (wkr bW) cKn))⟩ (aLc ⟨none,rfl,aBC⟩ aLn))))
 replace h:=bM h;rw [iA.eq_1] at h
 refine aE ?_
 refine aA dCo rfl fun K hK=>?_;conv=>whnf
 replace h:=nL h
 refine cLk h (fun _ h=>?_) (fun _ h=>?_)<;>(conv=>whnf)
 ·refine cLk h (fun _ h=>?_) (fun _ h=>?_)<;>(conv=>whnf)
  ·refine nlA rfl ?_;conv=>whnf
   refine bKo rfl ?_;conv=>whnf
   refine gKo rfl ?_;conv=>whnf
   refine hK _ _ _ ?_
   refine aW fun K1 K2 hK1 hK2=>?_;conv=>whnf
   refine cLk h (fun _ h=>?_) (fun _ h=>?_)
   ·refine hK1 ?_
    refine aH ?_
    refine tHn ?_
    refine aE ?_
    refine aF ?_
    refine rB dCo gD rfl (by kernel_rfl) fun K hK=>?_;conv=>whnf
    refine gE h fun _ h=>?_;conv=>whnf
    refine And.intro (by decide) ?_;conv=>whnf
    refine gKo rfl ?_;conv=>whnf
    refine nlA rfl ?_;conv=>whnf
    refine bKo rfl ?_;conv=>whnf
    refine gKo rfl ?_;conv=>whnf
    replace h:=bM h
    refine iV h37 h (WkL.refl _) (fun _ h=>?_);conv=>whnf
    refine hK _ _ _ ?_
    refine aBw dCo gD rfl (by kernel_rfl) fun K hK=>?_;conv=>whnf
    refine nlA rfl ?_;conv=>whnf
    refine bKo rfl ?_;conv=>whnf
    refine gKo rfl ?_;conv=>whnf
    refine gE h fun _ h=>?_;conv=>whnf
    refine And.intro (by decide) ?_;conv=>whnf
    refine gKo rfl ?_;conv=>whnf
    refine nlA rfl ?_;conv=>whnf
    refine bKo rfl ?_;conv=>whnf
    refine gKo rfl ?_;conv=>whnf
    replace h:=bM h
    refine iV h37 h (WkL.refl _) (fun _ h=>?_);conv=>whnf
    refine nlA rfl ?_;conv=>whnf
    refine bKo rfl ?_;conv=>whnf
    refine gKo rfl ?_;conv=>whnf
    refine cH h fun _ h=>?_;conv=>whnf
    refine eK (enc:=jW) (d:=default) dCo h rfl rfl rfl ⟨nle rfl,nle rfl,rfl⟩ rfl ⟨⟨rfl,nle rfl⟩,trivial⟩ (fun h=>?_);conv=>whnf
    refine aBf (enc:=jW) (d:=default) dCo h rfl rfl rfl ⟨rfl,nle rfl,nle rfl,nle rfl,rfl⟩ (fun _=>rfl) (fun _=>rfl) (fun _=>nofun) rfl (rfl) (fun h=>?_);conv=>whnf
    refine bKo rfl ?_;conv=>whnf
    refine And.intro rfl (And.intro (nle rfl) (And.intro rfl ?_));conv=>whnf
    refine hK _ _ _ ?_
    refine iBn ?_
    refine tHn ?_
    refine cK dCo rfl fun K hK=>?_;conv=>whnf
    refine hK _ _ _ ?_
    refine tHn ?_
    replace h:=bF h
    refine ⟨_,h,?_⟩
    refine bE ?_;conv=>whnf
    exact And.intro rfl (And.intro (aLc wkI (aLc (wkr (lsL fun _=>(aD _))) (aLc (WkR.ptr (fun _=>rfl)) (aLc (WkR.ptr (fun _=>rfl)) aLn)))) (aLc ⟨some _,rfl,bRc rfl (cKc wkI (cKc (WkR.so (fun _=>rfl)) cKn))⟩ (aLc ⟨some _,rfl,bRc rfl (cKc wkI (cKc (wkr bW) cKn))⟩ (aLc ⟨some _,rfl,gX rfl (fun _=>(lsC (lsI _ _) (lsC (lsI _ _) lsN)))⟩ aLn))))
   refine hK2 ?_
   refine bD ?_
   refine aT ?_
   refine aT ?_
   refine aS ?_
   replace h:=dI h
   replace h:=dK h
   refine tHn ?_
   refine aA dCo rfl fun K hK=>?_;conv=>whnf
   refine nlA rfl ?_;conv=>whnf
   refine bKo rfl ?_;conv=>whnf
   refine nlA rfl ?_;conv=>whnf
   refine bKo rfl ?_;conv=>whnf
   refine And.intro rfl (And.intro (nle rfl) (And.intro rfl ?_));conv=>whnf
   refine hK _ _ _ ?_
   refine aP ?_
   replace h:=aO h
   refine vL dCo fun K hK=>?_;conv=>whnf
   refine nlA rfl ?_;conv=>whnf
   refine bKo rfl ?_;conv=>whnf
   refine nlA rfl ?_;conv=>whnf
   refine hK _ ?_
   cases h
   refine ⟨rfl,rfl,rfl,(aB9 (mM (mF (Wk.refl _) (lsI _ _)) (mM (uR (aEd (k:=0) rfl) rfl) qT))),fun k n x h1 h2=>?_⟩
   exact match k,n,x,h1,h2 with | 0,n,x,h1,h2=>by cases h1;cases h2;exact ⟨_,rfl,xO (fun _=>(lsC (lsI _ _) (lsC (lsI _ _) lsN))) _⟩ | k+1,n,x,h1,h2=>by cases h1
  refine hK _ _ _ ?_
  refine aW fun K1 K2 hK1 hK2=>?_;conv=>whnf
  refine hK2 ?_
  replace h:=sV h
  refine bD ?_
  refine aT ?_
  refine aT ?_
  refine aS ?_
  replace h:=dI h
  replace h:=dK h
  refine tHn ?_
  refine aA dCo rfl fun K hK=>?_;conv=>whnf
  refine nlA rfl ?_;conv=>whnf
  refine bKo rfl ?_;conv=>whnf
  refine nlA rfl ?_;conv=>whnf
  refine bKo rfl ?_;conv=>whnf
  refine And.intro rfl (And.intro (nle rfl) (And.intro rfl ?_));conv=>whnf
  refine hK _ _ _ ?_
  refine aP ?_
  replace h:=aO h
  refine vL dCo fun K hK=>?_;conv=>whnf
  refine nlA rfl ?_;conv=>whnf
  refine bKo rfl ?_;conv=>whnf
  refine nlA rfl ?_;conv=>whnf
  refine hK _ ?_
  cases h
  refine ⟨rfl,rfl,rfl,(aB9 (mM (mF (Wk.refl _) (lsI _ _)) (mM (uR (aEd (k:=0) rfl) rfl) qT))),fun k n x h1 h2=>?_⟩
  exact match k,n,x,h1,h2 with | 0,n,x,h1,h2=>by cases h1;cases h2;exact ⟨_,rfl,xO (fun _=>(lsC (lsI _ _) (lsC (lsI _ _) lsN))) _⟩ | k+1,n,x,h1,h2=>by cases h1
 refine hK _ _ _ ?_
 refine aW fun K1 K2 hK1 hK2=>?_;conv=>whnf
 refine hK2 ?_
 replace h:=sV h
 refine bD ?_
 refine aT ?_
 refine aT ?_
 refine aS ?_
 replace h:=dI h
 replace h:=dK h
 refine tHn ?_
 refine aA dCo rfl fun K hK=>?_;conv=>whnf
 refine nlA rfl ?_;conv=>whnf
 refine bKo rfl ?_;conv=>whnf
 refine nlA rfl ?_;conv=>whnf
 refine bKo rfl ?_;conv=>whnf
 refine And.intro rfl (And.intro (nle rfl) (And.intro rfl ?_));conv=>whnf
 refine hK _ _ _ ?_
 refine aP ?_
 replace h:=aO h
 refine vL dCo fun K hK=>?_;conv=>whnf
 refine nlA rfl ?_;conv=>whnf
 refine bKo rfl ?_;conv=>whnf
 refine nlA rfl ?_;conv=>whnf
 refine hK _ ?_
 cases h
 refine ⟨rfl,rfl,rfl,(aB9 (mM (mF (Wk.refl _) (lsI _ _)) (mM (uR (aEd (k:=0) rfl) rfl) qT))),fun k n x h1 h2=>?_⟩
 exact match k,n,x,h1,h2 with | 0,n,x,h1,h2=>by cases h1;cases h2;exact ⟨_,rfl,xO (fun _=>(lsC (lsI _ _) (lsC (lsI _ _) lsN))) _⟩ | k+1,n,x,h1,h2=>by cases h1
  def gQ (s19:(List Int)×Int×(List Int)) (s21:Int×aG):Option (Ct (Int×aG) aG):=cn (decide (s21.1<(s21.2.Pairs.length:Int))) (gd ((0:Int)≤s21.1∧s21.1<(s21.2.Pairs.length:Int)) (gd ((0:Int)≤(s21.2.Pairs.getD (s21.1).toNat default).1∧(s21.2.Pairs.getD (s21.1).toNat default).1<(s19.1.length:Int)) (gd ((0:Int)≤(s21.2.Pairs.getD (s21.1).toNat default).2∧(s21.2.Pairs.getD (s21.1).toNat default).2<(s19.1.length:Int)) (jn (fun p22:aG=>
  some (.nx ((wr (s21.1+1)),p22))) fun k23=>cn (decide ((s19.1.getD ((s21.2.Pairs.getD (s21.1).toNat default).1).toNat default) >
  (s19.1.getD ((s21.2.Pairs.getD (s21.1).toNat default).2).toNat default))) (gd ((0:Int)≤s21.1∧s21.1<(s21.2.Pairs.length:Int)) (st s21.2.Pairs (s21.1) ((s21.2.Pairs.getD (s21.1).toNat default).2,(s21.2.Pairs.getD (s21.1).toNat default).1) fun l24=>
  k23 (⟨s21.2.N,l24⟩:aG))) (k23 s21.2))))) (some (.bk (s21.1,s21.2)))
def iS (s9:(List Int)×Int×(List Int)):Option (Ct ((List Int)×Int×(List Int)) aG):=cn (decide ((s9.2.2.length:Int) >
  0)) (gd ((s9.2.2.length:Int)≠0) (let v10:=(Int.tmod s9.2.1 (s9.2.2.length:Int));gd ((s9.2.2.length:Int)≠0) (let v11:=(wr (Int.tdiv s9.2.1 (s9.2.2.length:Int)));
  ix s9.2.2 default v10 fun e12=>lt ([e12]:List Int) fun l13=>ap s9.1 l13 fun l14=>slc s9.2.2 0 v10 fun l15=>slc s9.2.2 (wr (v10+1)) (s9.2.2.length:Int) fun l16=>
  ap l15 l16 fun l17=>some (.nx (l14,v11,l17))))) (some (.bk (s9.1,s9.2.1,s9.2.2)))
def gU (y1:aG) (s3:(List Int)×Int):Option (Ct ((List Int)×Int) aG):=cn (decide (s3.2<y1.N)) (lt ([s3.2]:List Int) fun l4=>ap s3.1 l4 fun l5=>
  some (.nx (l5,(wr (s3.2+1))))) (some (.bk (s3.1,s3.2)))
def iP (a0:Int) (a1:List (Int×Int)) (a2:Int):Option aG:=bd (gW a0 a1) fun y1=>bd (fI a2 40320) fun y2=>
  bd (lp (gU y1) FU ([],0)) fun c6=>smK c6 (fun s7=>bd (lp (iS) FU ([],y2,s7.1)) fun c18=>smK c18 (fun s19=>
  bd (lp (gQ s19) FU (0,(⟨y1.N,y1.Pairs⟩:aG))) fun c25=>smK c25 (fun s26=>some (⟨s26.2.N,s26.2.Pairs⟩:aG)) (fun r27=>some r27)) (fun r20=>
  some r20)) (fun r8=>some r8)
def kD:List AV→AV→Prop:=fun args r=>∃ a0 a1 a2,args=[eI a0,(eL 2 jW default) a1,eI a2]∧W (iP a0 a1 a2) fun y=>r=(bJ y)
theorem aAC {T:Tbl} (hT:TOk Tryd.prog T) (hpf:cY T PF) (h17:T 17=aCO jK eZ iZ) (h37:T 37=aK iR):FOk Tryd.prog 12 (aK kD):=by
 refine bG hT hpf Tryd.func12 rfl Tryd.ntmps12 Tryd.results12 (by decide) ?_
 rintro args r ⟨a0,a1,a2,rfl,h⟩
 refine ⟨nle rfl,?_,?_⟩
 ·exact (lsC (lsI _ _) (lsC (lsL fun _=>(aD _)) (lsC (lsI _ _) lsN)))
 rw [iP.eq_1] at h
 refine aA dCo rfl fun K hK=>?_;conv=>whnf
 refine hK _ _ _ ?_
 refine aA dCo rfl fun K hK=>?_;conv=>whnf
 refine sQ h17 h (fun y e=>(⟨_,_,rfl,e⟩:iZ _ _)) (WkL.refl _) (fun _ h=>?_);conv=>whnf
 refine bKo rfl ?_;conv=>whnf
 refine And.intro rfl (And.intro (nle rfl) (And.intro rfl ?_));conv=>whnf
 refine hK _ _ _ ?_
 refine aA dCo rfl fun K hK=>?_;conv=>whnf
 refine hK _ _ _ ?_
 refine aA dCo rfl fun K hK=>?_;conv=>whnf
 replace h:=bM h
 refine iV h37 h (WkL.refl _) (fun _ h=>?_);conv=>whnf
 refine hK _ _ _ ?_
 refine aA dCo rfl fun K hK=>?_;conv=>whnf
 refine hK _ _ _ ?_
 refine aE ?_
 refine aA dCo rfl fun K hK=>?_;conv=>whnf
 refine hK _ _ _ ?_
 refine aF ?_
 replace h:=bM h
 refine aCw (body:=gU _) rfl h [6,7,8,9] (fun σ=>oV σ [6,7]++rV σ []) (fun σ=>rV σ [(7,1)]++oV σ []++aBY σ []) [] (fun kl kh kr ids b s=>⟨ofL ([(10,.so (b+0) 0 s.1.length 1),(11,eI s.2)]++kl),ofH (([]++kh)++([(b+0,.cells (flE (ceE eI) s.1))]++kr)),b+128⟩) ?_;(conv=>whnf);refine And.intro ?_ (fun s m h=>dG ?_)
 ·refine bE ?_;conv=>whnf
  exact And.intro rfl (And.intro (aLc (WkR.nilso (fun _=>rfl)) (aLc wkI (aLc (WkR.ptr (fun _=>rfl)) (aLc (WkR.ptr (fun _=>rfl)) (aLc (wkr bW) (aLc wkI aLn)))))) (aLc ⟨some _,rfl,bRc rfl (cKc wkI (cKc (wkr bW) cKn))⟩ (aLc ⟨some _,rfl,bRc rfl (cKc wkI (cKc (WkR.so (fun _=>rfl)) cKn))⟩ (aLc ⟨none,rfl,aBC⟩ (aLc ⟨some _,rfl,gX rfl (fun _=>(lsC (lsI _ _) (lsC (lsI _ _) lsN)))⟩ aLn)))))
 replace h:=bM h;rw [gU.eq_1] at h
 refine aE ?_
 refine aA dCo rfl fun K hK=>?_;conv=>whnf
 refine nlA rfl ?_;conv=>whnf
 refine bKo rfl ?_;conv=>whnf
 refine gKo rfl ?_;conv=>whnf
 refine hK _ _ _ ?_
 refine aW fun K1 K2 hK1 hK2=>?_;conv=>whnf
 refine cLk h (fun _ h=>?_) (fun _ h=>?_)
 ·refine hK1 ?_
  refine aH ?_
  refine tHn ?_
  refine aE ?_
  refine aF ?_
  refine cK dCo rfl fun K hK=>?_;conv=>whnf
  refine eK (enc:=eI) (d:=default) dCo h rfl rfl rfl ⟨nle rfl,nle rfl,rfl⟩ rfl ⟨⟨rfl,rfl,rfl⟩,trivial⟩ (fun h=>?_);conv=>whnf
  refine aBf (enc:=eI) (d:=default) dCo h rfl rfl rfl ⟨rfl,nle rfl,nle rfl,nle rfl,rfl⟩ (fun _=>rfl) (fun _=>rfl) (fun _=>nofun) rfl (rfl) (fun h=>?_);conv=>whnf
  refine hK _ _ _ ?_
  refine iBn ?_
  refine tHn ?_
  refine cK dCo rfl fun K hK=>?_;conv=>whnf
  refine hK _ _ _ ?_
  refine tHn ?_
  replace h:=bF h
  refine ⟨_,h,?_⟩
  refine bE ?_;conv=>whnf
  exact And.intro rfl (And.intro (aLc (WkR.so (fun _=>rfl)) (aLc wkI (aLc (WkR.ptr (fun _=>rfl)) (aLc (WkR.ptr (fun _=>rfl)) (aLc (wkr bW) (aLc wkI aLn)))))) (aLc ⟨some _,rfl,bRc rfl (cKc wkI (cKc (wkr bW) cKn))⟩ (aLc ⟨some _,rfl,bRc rfl (cKc wkI (cKc (WkR.so (fun _=>rfl)) cKn))⟩ (aLc ⟨some _,rfl,gX rfl (fun _=>(lsC (lsI _ _) lsN))⟩ (aLc ⟨some _,rfl,gX rfl (fun _=>(lsC (lsI _ _) (lsC (lsI _ _) lsN)))⟩ aLn)))))
 refine hK2 ?_
 refine bD ?_
 refine aT ?_
 refine aT ?_
 refine aS ?_
 replace h:=dI h
 replace h:=dK h
 refine tHn ?_
 refine aE ?_
 refine nY 10 (enc:=eI) (e:=3) default (mI dCo rfl rfl rfl (fun _=>⟨rfl,rfl⟩)) ?_;(conv=>whnf);refine ⟨_,_,rfl,rfl,rfl,?_⟩
 refine aF ?_
 replace h:=bM h
 refine aCw (body:=iS) rfl h [6,7] (fun σ=>oV σ [6,7]++rV σ []) (fun σ=>rV σ [(7,1)]++oV σ []++aBY σ []) [] (fun kl kh kr ids b s=>⟨ofL ([(8,.so (b+0) 0 s.1.length 1),(9,eI s.2.1),(10,(eL 1 eI default) s.2.2)]++kl),ofH (([]++kh)++([(b+0,.cells (flE (ceE eI) s.1))]++kr)),b+128⟩) ?_;(conv=>whnf);refine And.intro ?_ (fun s m h=>dG ?_)
 ·refine bE ?_;conv=>whnf
  exact And.intro rfl (And.intro (aLc (WkR.nilso (fun _=>rfl)) (aLc wkI (aLc (wkr (lsL fun _=>(lsI _ _))) (aLc (WkR.ptr (fun _=>rfl)) (aLc (WkR.ptr (fun _=>rfl)) aLn))))) (aLc ⟨some _,rfl,bRc rfl (cKc wkI (cKc (wkr bW) cKn))⟩ (aLc ⟨some _,rfl,bRc rfl (cKc wkI (cKc (WkR.so (fun _=>rfl)) cKn))⟩ (aLc ⟨none,rfl,aBC⟩ (aLc ⟨some _,rfl,gX rfl (fun _=>(lsC (lsI _ _) (lsC (lsI _ _) lsN)))⟩ aLn)))))
 replace h:=bM h;rw [iS.eq_1] at h
 refine aE ?_
 refine aA dCo rfl fun K hK=>?_;conv=>whnf
 refine hK _ _ _ ?_
 refine aW fun K1 K2 hK1 hK2=>?_;conv=>whnf
 refine cLk h (fun _ h=>?_) (fun _ h=>?_)
 ·refine hK1 ?_
  refine aH ?_
  refine tHn ?_
  refine aF ?_
  refine aA dCo rfl fun K hK=>?_;conv=>whnf
  refine cH h fun _ h=>?_;conv=>whnf
  refine hK _ _ _ ?_
  refine aA dCo rfl fun K hK=>?_;conv=>whnf
  refine cH h fun _ h=>?_;conv=>whnf
  refine hK _ _ _ ?_
  refine aA dCo rfl fun K hK=>?_;conv=>whnf
  refine gE h fun _ h=>?_;conv=>whnf
  refine gKo rfl ?_;conv=>whnf
  refine eK (enc:=eI) (d:=default) dCo h rfl rfl rfl ⟨nle rfl,nle rfl,rfl⟩ rfl ⟨⟨rfl,rfl,rfl⟩,trivial⟩ (fun h=>?_);conv=>whnf
  refine aBf (enc:=eI) (d:=default) dCo h rfl rfl rfl ⟨rfl,nle rfl,nle rfl,nle rfl,rfl⟩ (fun _=>rfl) (fun _=>rfl) (fun _=>nofun) rfl (rfl) (fun h=>?_);conv=>whnf
  refine hK _ _ _ ?_
  refine aBw dCo gD rfl (by kernel_rfl) fun K hK=>?_;conv=>whnf
  refine aKe h (.inl ⟨rfl,rfl⟩) (fun h=>?_);conv=>whnf
  refine aLM h (.inr ⟨_,rfl⟩) (.inl ⟨rfl,rfl⟩) (fun h=>?_);conv=>whnf
  refine mG (enc:=eI) (d:=default) dCo h (.inl rfl) rfl rfl rfl ⟨rfl,nle rfl,nle rfl,nle rfl,rfl⟩ (fun _=>rfl) (.inr (.inl ⟨rfl,rfl⟩)) (fun h=>?_);conv=>whnf
  refine hK _ _ _ ?_
  refine iBn ?_
  refine tHn ?_
  replace h:=bF h
  refine ⟨_,h,?_⟩
  refine bE ?_;conv=>whnf
  exact And.intro rfl (And.intro (aLc (WkR.so (fun _=>rfl)) (aLc wkI (aLc (WkR.wk cD (lsL fun _=>(lsI _ _))) (aLc (WkR.ptr (fun _=>rfl)) (aLc (WkR.ptr (fun _=>rfl)) aLn))))) (aLc ⟨some _,rfl,bRc rfl (cKc wkI (cKc (wkr bW) cKn))⟩ (aLc ⟨some _,rfl,bRc rfl (cKc wkI (cKc (WkR.so (fun _=>rfl)) cKn))⟩ (aLc ⟨some _,rfl,gX rfl (fun _=>(lsC (lsI _ _) lsN))⟩ (aLc ⟨some _,rfl,gX rfl (fun _=>(lsC (lsI _ _) (lsC (lsI _ _) lsN)))⟩ aLn)))))
 refine hK2 ?_
 refine bD ?_
 refine aT ?_
 refine aT ?_
 refine aS ?_
 replace h:=dI h
 replace h:=dK h
 refine tHn ?_
 refine aE ?_
 refine aA dCo rfl fun K hK=>?_;conv=>whnf
 refine hK _ _ _ ?_
 refine aF ?_
 replace h:=bM h
 refine gC (body:=gQ _) rfl h [6,7,8] [6] [8] [7] (fun kl kh kr ids b s=>⟨ofL ([(13,eI s.1)]++kl),ofH (([(wW ids 0,.cells [eI s.2.N,.so (b+0) 0 s.2.Pairs.length 2])]++kh)++([(b+0,.cells (flE (ceE jW) s.2.Pairs))]++kr)),b+128⟩) ?_;(conv=>whnf);refine And.intro ?_ (fun s m h=>dG ?_)
 ·refine bE ?_;conv=>whnf
  exact And.intro rfl (And.intro (aLc wkI (aLc (WkR.ptr (fun _=>rfl)) (aLc (WkR.ptr (fun _=>rfl)) (aLc (WkR.so (fun _=>rfl)) aLn)))) (aLc ⟨some _,rfl,bRc rfl (cKc wkI (cKc (WkR.so (fun _=>rfl)) cKn))⟩ (aLc ⟨some _,rfl,bRc rfl (cKc wkI (cKc (wkr bW) cKn))⟩ (aLc ⟨some _,rfl,gX rfl (fun _=>(lsC (lsI _ _) (lsC (lsI _ _) lsN)))⟩ (aLc ⟨some _,rfl,gX rfl (fun _=>(lsC (lsI _ _) lsN))⟩ aLn)))))
 replace h:=bM h;rw [gQ.eq_1] at h
 refine aE ?_
 refine aA dCo rfl fun K hK=>?_;conv=>whnf
 refine nlA rfl ?_;conv=>whnf
 refine bKo rfl ?_;conv=>whnf
 refine gKo rfl ?_;conv=>whnf
 refine hK _ _ _ ?_
 refine aW fun K1 K2 hK1 hK2=>?_;conv=>whnf
 refine cLk h (fun _ h=>?_) (fun _ h=>?_)
 ·refine hK1 ?_
  refine aH ?_
  refine tHn ?_
  refine aE ?_
  refine aF ?_
  refine aA dCo rfl fun K hK=>?_;conv=>whnf
  refine nlA rfl ?_;conv=>whnf
  refine bKo rfl ?_;conv=>whnf
  refine gKo rfl ?_;conv=>whnf
  refine qP h (rfl) fun hx115 h=>?_;conv=>whnf
  refine nlA rfl ?_;conv=>whnf
  refine bKo rfl ?_;conv=>whnf
  refine aGv (enc:=jW) (d:=default) (fun _=>rfl) (rfl) hx115 ?_;conv=>whnf
  refine bKo rfl ?_;conv=>whnf
  refine And.intro rfl (And.intro (nle rfl) (And.intro rfl ?_));conv=>whnf
  refine hK _ _ _ ?_
  refine rB dCo gD rfl (by kernel_rfl) fun K hK=>?_;conv=>whnf
  refine And.intro (by decide) ?_;conv=>whnf
  refine nlA rfl ?_;conv=>whnf
  refine bKo rfl ?_;conv=>whnf
  refine gKo rfl ?_;conv=>whnf
  refine qP h (rfl) fun hx116 h=>?_;conv=>whnf
  refine nlA rfl ?_;conv=>whnf
  refine bKo rfl ?_;conv=>whnf
  refine qY (enc:=eI) (d:=default) (q:=0) (fun _=>rfl) (rfl) hx116 (nle rfl) rfl ?_;conv=>whnf
  refine And.intro (by decide) ?_;conv=>whnf
  refine nlA rfl ?_;conv=>whnf
  refine bKo rfl ?_;conv=>whnf
  refine gKo rfl ?_;conv=>whnf
  refine qP h (rfl) fun hx117 h=>?_;conv=>whnf
  refine nlA rfl ?_;conv=>whnf
  refine bKo rfl ?_;conv=>whnf
  refine qY (enc:=eI) (d:=default) (q:=0) (fun _=>rfl) (rfl) hx117 (nle rfl) rfl ?_;conv=>whnf
  refine hK _ _ _ ?_
  replace h:=nL h
  refine aW fun K1 K2 hK1 hK2=>?_;conv=>whnf
  refine cLk h (fun _ h=>?_) (fun _ h=>?_)
  ·refine hK1 ?_
   refine cK dCo rfl fun K hK=>?_;conv=>whnf
   refine nlA rfl ?_;conv=>whnf
   refine bKo rfl ?_;conv=>whnf
   refine gKo rfl ?_;conv=>whnf
   refine And.intro (by decide) ?_;conv=>whnf
   refine nlA rfl ?_;conv=>whnf
   refine bKo rfl ?_;conv=>whnf
   refine gKo rfl ?_;conv=>whnf
   refine And.intro (by decide) ?_;conv=>whnf
   refine nlA rfl ?_;conv=>whnf
   refine bKo rfl ?_;conv=>whnf
   refine gKo rfl ?_;conv=>whnf
   refine qP h (rfl) fun hx119 h=>?_;conv=>whnf
   refine bKo rfl ?_;conv=>whnf
   refine aJq (enc:=jW) (d:=default) (q:=0) h (fun _=>rfl) (rfl) hx119 rfl (nle rfl) rfl rfl (fun h=>?_);conv=>whnf
   refine hK _ _ _ ?_
   refine iBn ?_
   refine tHn ?_
   refine cK dCo rfl fun K hK=>?_;conv=>whnf
   refine hK _ _ _ ?_
   refine tHn ?_
   replace h:=bF h
   refine ⟨_,h,?_⟩
   refine bE ?_;conv=>whnf
   exact And.intro rfl (And.intro (aLc wkI (aLc (WkR.ptr (fun _=>rfl)) (aLc (WkR.ptr (fun _=>rfl)) (aLc (WkR.so (fun _=>rfl)) aLn)))) (aLc ⟨some _,rfl,bRc rfl (cKc wkI (cKc (WkR.soN (fun _=>rfl) (aGR rfl).symm) cKn))⟩ (aLc ⟨some _,rfl,bRc rfl (cKc wkI (cKc (wkr bW) cKn))⟩ (aLc ⟨some _,rfl,gX rfl (fun _=>(lsC (lsI _ _) (lsC (lsI _ _) lsN)))⟩ (aLc ⟨some _,rfl,gX rfl (fun _=>(lsC (lsI _ _) lsN))⟩ aLn)))))
  refine hK2 ?_
  refine aH ?_
  refine iBn ?_
  refine tHn ?_
  refine cK dCo rfl fun K hK=>?_;conv=>whnf
  refine hK _ _ _ ?_
  refine tHn ?_
  replace h:=bF h
  refine ⟨_,h,?_⟩
  refine bE ?_;conv=>whnf
  exact And.intro rfl (And.intro (aLc wkI (aLc (WkR.ptr (fun _=>rfl)) (aLc (WkR.ptr (fun _=>rfl)) (aLc (WkR.so (fun _=>rfl)) aLn)))) (aLc ⟨some _,rfl,bRc rfl (cKc wkI (cKc (WkR.so (fun _=>rfl)) cKn))⟩ (aLc ⟨some _,rfl,bRc rfl (cKc wkI (cKc (wkr bW) cKn))⟩ (aLc ⟨some _,rfl,gX rfl (fun _=>(lsC (lsI _ _) (lsC (lsI _ _) lsN)))⟩ (aLc ⟨some _,rfl,gX rfl (fun _=>(lsC (lsI _ _) lsN))⟩ aLn)))))
 refine hK2 ?_
 refine bD ?_
 refine aT ?_
 refine aT ?_
 refine aS ?_
 replace h:=dI h
 replace h:=dK h
 refine tHn ?_
 refine aCP 7 1 (enc:=jW) (e:=46) default (aFE dCo rfl rfl (fun _=>rfl) (fun _=>rfl)) ?_;(conv=>whnf);refine ⟨_,_,_,(Nat.ne_of_beq_eq_false rfl),rfl,rfl,rfl,rfl,?_⟩;conv=>whnf
 refine aA dCo rfl fun K hK=>?_;conv=>whnf
 refine nlA rfl ?_;conv=>whnf
 refine bKo rfl ?_;conv=>whnf
 refine nlA rfl ?_;conv=>whnf
 refine bKo rfl ?_;conv=>whnf
 refine And.intro rfl (And.intro (nle rfl) (And.intro rfl ?_));conv=>whnf
 refine hK _ _ _ ?_
 refine aP ?_
 replace h:=aO h
 refine aM dCo fun K hK=>?_;conv=>whnf
 refine nlA rfl ?_;conv=>whnf
 refine bKo rfl ?_;conv=>whnf
 refine nlA rfl ?_;conv=>whnf
 refine hK _ ?_
 cases h
 exact Wk.refl _
theorem uL {T:Tbl} (hT:T 12=aK kD) {args:List AV} {hp:aU} {id:Nat} {k:AV→Prop} {a0:Int} {a1:List (Int×Int)} {a2:Int} {Φ:aG→Prop} (h:W (iP a0 a1 a2) Φ) (hw:WkL args [eI a0,(eL 2 jW default) a1,eI a2]) (hk:∀ y,Φ y→k (bJ y)):dC T 12 args hp id k:=by
 obtain ⟨y,e,hy⟩:=fG h
 exact aX hT ⟨a0,a1,a2,rfl,kY e rfl⟩ (by exact (cB _)) hw (hk y hy)
  def lV (a0:aG) (s1:(List Int)) (s2:(List Int)×Int) (s4:Bool×Int):Option (Ct (Bool×Int) (List Int)):=cn (decide (s4.2<a0.N)) (jn (fun p5:Bool=>
  some (.nx (p5,(wr (s4.2+1))))) fun k6=>cn s4.1 (bd (nI s1 s4.2) fun y7=>cn y7 (k6 true) (bd (cE a0 s4.2 s2.2) fun y8=>
  k6 (!y8))) (k6 false)) (some (.bk (s4.1,s4.2)))
  def mE (a0:aG) (s1:(List Int)) (s2:(List Int)×Int):Option (Ct ((List Int)×Int) (List Int)):=cn (decide (s2.2<a0.N)) (bd (nI s1 s2.2) fun y3=>
  bd (lp (lV a0 s1 s2) FU ((!y3),0)) fun c9=>smK c9 (fun s10=>jn (fun p12:(List Int)=>some (.nx (p12,(wr (s2.2+1))))) fun k13=>
  cn s10.1 (lt ([s2.2]:List Int) fun l14=>ap s2.1 l14 fun l15=>k13 l15) (k13 s2.1)) (fun r11=>some (.rt r11))) (some (.bk (s2.1,s2.2)))
  def lR (a0:aG) (a1:List Int) (s1:(List Int)):Option (Ct ((List Int)) (List Int)):=cn (decide ((s1.length:Int)<a0.N)) (bd (lp (mE a0 s1) FU ([],0)) fun c16=>
  smK c16 (fun s17=>cn ((s17.1.length:Int)==0) (some (.rt s1)) (jn (fun p19:Int=>ix s17.1 default p19 fun e23=>lt ([e23]:List Int) fun l24=>ap s1 l24 fun l25=>
  some (.nx l25)) fun k20=>cn (decide ((s1.length:Int)<(a1.length:Int))) (ix a1 default (s1.length:Int) fun e21=>bd (fH e21 (s17.1.length:Int)) fun y22=>
  k20 y22) (k20 0))) (fun r18=>some (.rt r18))) (some (.bk s1))
def qM (a0:aG) (a1:List Int):Option (List Int):=bd (lp (lR a0 a1) FU ([])) fun c26=>smK c26 (fun s27=>some s27) (fun r28=>some r28)
def mW:List AV→AV→Prop:=fun args r=>∃ a0 a1,args=[bJ a0,(eL 1 eI default) a1]∧W (qM a0 a1) fun y=>r=((eL 1 eI default) y)
theorem vE {T:Tbl} (hT:TOk Tryd.prog T) (hpf:cY T PF) (h13:T 13=aK iO) (h23:T 23=aK nG) (h27:T 27=aK eR):FOk Tryd.prog 21 (aK mW):=by
 refine bG hT hpf Tryd.func21 rfl Tryd.ntmps21 Tryd.results21 (by decide) ?_
 rintro args r ⟨a0,a1,rfl,h⟩
 refine ⟨nle rfl,?_,?_⟩
 ·exact (lsC (cB _) (lsC (lsL fun _=>(lsI _ _)) lsN))
 rw [qM.eq_1] at h
 refine aA dCo rfl fun K hK=>?_;conv=>whnf
 refine hK _ _ _ ?_
 refine aA dCo rfl fun K hK=>?_;conv=>whnf
 refine hK _ _ _ ?_
 refine aE ?_
 refine aF ?_
 replace h:=bM h
 refine gJ (body:=lR _ _) rfl h [1,2] [2] [] (fun kl kh ids b s=>⟨ofL ([(5,.lst (.tok (b+0)) 1 s.length (fun j=>eI (s.getD j default)))]++kl),ofH ([(b+0,.cells [])]++kh),b+128⟩) ?_;(conv=>whnf);refine And.intro ?_ (fun s m h=>dG ?_)
 ·refine aY ?_;conv=>whnf
  exact And.intro rfl (And.intro (aLc (WkR.nil (fun _=>rfl)) (aLc (wkr (lsL fun _=>(lsI _ _))) (aLc (WkR.ptr (fun _=>rfl)) aLn))) (aLc ⟨none,rfl,sW⟩ (aLc ⟨some _,rfl,bRc rfl (cKc wkI (cKc (wkr (lsL fun _=>(aD _))) cKn))⟩ aLn)))
 replace h:=bM h;rw [lR.eq_1] at h
 refine aE ?_
 refine aA dCo rfl fun K hK=>?_;conv=>whnf
 refine nlA rfl ?_;conv=>whnf
 refine bKo rfl ?_;conv=>whnf
 refine gKo rfl ?_;conv=>whnf
 refine hK _ _ _ ?_
 refine aW fun K1 K2 hK1 hK2=>?_;conv=>whnf
 refine cLk h (fun _ h=>?_) (fun _ h=>?_)
 ·refine hK1 ?_
  refine aH ?_
  refine tHn ?_
  refine aF ?_
  refine aA dCo rfl fun K hK=>?_;conv=>whnf
  refine hK _ _ _ ?_
  refine aE ?_
  refine aA dCo rfl fun K hK=>?_;conv=>whnf
  refine hK _ _ _ ?_
  refine aF ?_
  replace h:=bM h
  refine gJ (body:=mE _ _) rfl h [1,2,5] [2,5] [] (fun kl kh ids b s=>⟨ofL ([(6,.lst (.tok (b+0)) 1 s.1.length (fun j=>eI (s.1.getD j default))),(7,eI s.2)]++kl),ofH ([(b+0,.cells [])]++kh),b+128⟩) ?_;(conv=>whnf);refine And.intro ?_ (fun s m h=>dG ?_)
  ·refine aY ?_;conv=>whnf
   exact And.intro rfl (And.intro (aLc (WkR.nil (fun _=>rfl)) (aLc wkI (aLc (wkr (lsL fun _=>(lsI _ _))) (aLc (WkR.ptr (fun _=>rfl)) (aLc (WkR.tok (fun _=>rfl) rfl (fun _ _=>Wk.refl _) (fun _=>(lsI _ _))) aLn))))) (aLc ⟨none,rfl,sW⟩ (aLc ⟨some _,rfl,bRc rfl (cKc wkI (cKc (wkr (lsL fun _=>(aD _))) cKn))⟩ (aLc ⟨some _,rfl,bRc rfl cKn⟩ aLn))))
  replace h:=bM h;rw [mE.eq_1] at h
  refine aE ?_
  refine aA dCo rfl fun K hK=>?_;conv=>whnf
  refine nlA rfl ?_;conv=>whnf
  refine bKo rfl ?_;conv=>whnf
  refine gKo rfl ?_;conv=>whnf
  refine hK _ _ _ ?_
  refine aW fun K1 K2 hK1 hK2=>?_;conv=>whnf
  refine cLk h (fun _ h=>?_) (fun _ h=>?_)
  ·refine hK1 ?_
   refine aH ?_
   refine tHn ?_
   refine aE ?_
   refine aF ?_
   refine aA dCo rfl fun K hK=>?_;conv=>whnf
   replace h:=bM h
   refine rK h23 h (aC cD (aC (Wk.refl _) bA)) (fun _ h=>?_);conv=>whnf
   refine hK _ _ _ ?_
   refine aE ?_
   refine aA dCo rfl fun K hK=>?_;conv=>whnf
   refine hK _ _ _ ?_
   refine aF ?_
   replace h:=bM h
   refine gJ (body:=lV _ _ _) rfl h [1,2,5,6,7] [2,5,6] [] (fun kl kh ids b s=>⟨ofL ([(8,eB s.1),(9,eI s.2)]++kl),ofH ([]++kh),b+64⟩) ?_;(conv=>whnf);refine And.intro ?_ (fun s m h=>dG ?_)
   ·refine aY ?_;conv=>whnf
    exact And.intro rfl (And.intro (aLc (wkr (lsB _)) (aLc wkI (aLc (wkr (lsL fun _=>(lsI _ _))) (aLc (WkR.ptr (fun _=>rfl)) (aLc (WkR.tok (fun _=>rfl) rfl (fun _ _=>Wk.refl _) (fun _=>(lsI _ _))) (aLc (WkR.tok (fun _=>rfl) rfl (fun _ _=>Wk.refl _) (fun _=>(lsI _ _))) (aLc wkI aLn))))))) (aLc ⟨some _,rfl,bRc rfl (cKc wkI (cKc (wkr (lsL fun _=>(aD _))) cKn))⟩ (aLc ⟨some _,rfl,bRc rfl cKn⟩ (aLc ⟨some _,rfl,bRc rfl cKn⟩ aLn))))
   replace h:=bM h;rw [lV.eq_1] at h
   refine aE ?_
   refine aA dCo rfl fun K hK=>?_;conv=>whnf
   refine nlA rfl ?_;conv=>whnf
   refine bKo rfl ?_;conv=>whnf
   refine gKo rfl ?_;conv=>whnf
   refine hK _ _ _ ?_
   refine aW fun K1 K2 hK1 hK2=>?_;conv=>whnf
   refine cLk h (fun _ h=>?_) (fun _ h=>?_)
   ·refine hK1 ?_
    refine aH ?_
    refine tHn ?_
    refine aE ?_
    refine aF ?_
    refine cK dCo rfl fun K hK=>?_;conv=>whnf
    replace h:=nL h
    refine cLk h (fun _ h=>?_) (fun _ h=>?_)<;>(conv=>whnf)
    ·replace h:=bM h
     refine rK h23 h (aC cD (aC (Wk.refl _) bA)) (fun _ h=>?_);conv=>whnf
     refine cLk h (fun _ h=>?_) (fun _ h=>?_)<;>(conv=>whnf)
     ·refine hK _ _ _ ?_
      refine iBn ?_
      refine tHn ?_
      refine cK dCo rfl fun K hK=>?_;conv=>whnf
      refine hK _ _ _ ?_
      refine tHn ?_
      replace h:=bF h
      refine ⟨_,h,?_⟩
      refine aY ?_;conv=>whnf
      exact And.intro rfl (And.intro (aLc (wkr (lsB _)) (aLc wkI (aLc (wkr (lsL fun _=>(lsI _ _))) (aLc (WkR.ptr (fun _=>rfl)) (aLc (WkR.tok (fun _=>rfl) rfl (fun _ _=>Wk.refl _) (fun _=>(lsI _ _))) (aLc (WkR.tok (fun _=>rfl) rfl (fun _ _=>Wk.refl _) (fun _=>(lsI _ _))) (aLc wkI aLn))))))) (aLc ⟨some _,rfl,bRc rfl (cKc wkI (cKc (wkr (lsL fun _=>(aD _))) cKn))⟩ (aLc ⟨some _,rfl,bRc rfl cKn⟩ (aLc ⟨some _,rfl,bRc rfl cKn⟩ aLn))))
     refine nlA rfl ?_;conv=>whnf
     refine bKo rfl ?_;conv=>whnf
     refine nlA rfl ?_;conv=>whnf
     replace h:=bM h
     refine cQ h27 h (WkL.refl _) (fun _ h=>?_);conv=>whnf
     refine hK _ _ _ ?_
     refine iBn ?_
     refine tHn ?_
     refine cK dCo rfl fun K hK=>?_;conv=>whnf
     refine hK _ _ _ ?_
     refine tHn ?_
     replace h:=bF h
     refine ⟨_,h,?_⟩
     refine aY ?_;conv=>whnf
     exact And.intro rfl (And.intro (aLc (wkr (lsB _)) (aLc wkI (aLc (wkr (lsL fun _=>(lsI _ _))) (aLc (WkR.ptr (fun _=>rfl)) (aLc (WkR.tok (fun _=>rfl) rfl (fun _ _=>Wk.refl _) (fun _=>(lsI _ _))) (aLc (WkR.tok (fun _=>rfl) rfl (fun _ _=>Wk.refl _) (fun _=>(lsI _ _))) (aLc wkI aLn))))))) (aLc ⟨some _,rfl,bRc rfl (cKc wkI (cKc (wkr (lsL fun _=>(aD _))) cKn))⟩ (aLc ⟨some _,rfl,bRc rfl cKn⟩ (aLc ⟨some _,rfl,bRc rfl cKn⟩ aLn))))
    refine hK _ _ _ ?_
    refine iBn ?_
    refine tHn ?_
    refine cK dCo rfl fun K hK=>?_;conv=>whnf
    refine hK _ _ _ ?_
    refine tHn ?_
    replace h:=bF h
    refine ⟨_,h,?_⟩
    refine aY ?_;conv=>whnf
    exact And.intro rfl (And.intro (aLc (wkr (lsB _)) (aLc wkI (aLc (wkr (lsL fun _=>(lsI _ _))) (aLc (WkR.ptr (fun _=>rfl)) (aLc (WkR.tok (fun _=>rfl) rfl (fun _ _=>Wk.refl _) (fun _=>(lsI _ _))) (aLc (WkR.tok (fun _=>rfl) rfl (fun _ _=>Wk.refl _) (fun _=>(lsI _ _))) (aLc wkI aLn))))))) (aLc ⟨some _,rfl,bRc rfl (cKc wkI (cKc (wkr (lsL fun _=>(aD _))) cKn))⟩ (aLc ⟨some _,rfl,bRc rfl cKn⟩ (aLc ⟨some _,rfl,bRc rfl cKn⟩ aLn))))
   refine hK2 ?_
   refine bD ?_
   refine aT ?_
   refine aT ?_
   refine aS ?_
   replace h:=dI h
   replace h:=dK h
   refine tHn ?_
   refine aA dCo rfl fun K hK=>?_;conv=>whnf
   refine hK _ _ _ ?_
   replace h:=nL h
   refine aW fun K1 K2 hK1 hK2=>?_;conv=>whnf
   refine cLk h (fun _ h=>?_) (fun _ h=>?_)
   ·refine hK1 ?_
    refine cK dCo rfl fun K hK=>?_;conv=>whnf
    refine eK (enc:=eI) (d:=default) dCo h rfl rfl rfl ⟨nle rfl,nle rfl,rfl⟩ rfl ⟨⟨rfl,rfl,rfl⟩,trivial⟩ (fun h=>?_);conv=>whnf
    refine mG (enc:=eI) (d:=default) dCo h (.inl rfl) rfl rfl rfl ⟨rfl,nle rfl,nle rfl,nle rfl,rfl⟩ (fun _=>rfl) (.inr (.inr ⟨_,_,rfl,rfl,rfl⟩)) (fun h=>?_);conv=>whnf
    refine hK _ _ _ ?_
    refine iBn ?_
    refine tHn ?_
    refine cK dCo rfl fun K hK=>?_;conv=>whnf
    refine hK _ _ _ ?_
    refine tHn ?_
    replace h:=bF h
    refine ⟨_,h,?_⟩
    refine aY ?_;conv=>whnf
    exact And.intro rfl (And.intro (aLc (WkR.tok (fun _=>rfl) rfl (fun _ _=>Wk.refl _) (fun _=>(lsI _ _))) (aLc wkI (aLc (wkr (lsL fun _=>(lsI _ _))) (aLc (WkR.ptr (fun _=>rfl)) (aLc (WkR.tok (fun _=>rfl) rfl (fun _ _=>Wk.refl _) (fun _=>(lsI _ _))) aLn))))) (aLc ⟨some _,rfl,bRc rfl cKn⟩ (aLc ⟨some _,rfl,bRc rfl (cKc wkI (cKc (wkr (lsL fun _=>(aD _))) cKn))⟩ (aLc ⟨some _,rfl,bRc rfl cKn⟩ aLn))))
   refine hK2 ?_
   refine aH ?_
   refine iBn ?_
   refine tHn ?_
   refine cK dCo rfl fun K hK=>?_;conv=>whnf
   refine hK _ _ _ ?_
   refine tHn ?_
   replace h:=bF h
   refine ⟨_,h,?_⟩
   refine aY ?_;conv=>whnf
   exact And.intro rfl (And.intro (aLc (WkR.tok (fun _=>rfl) rfl (fun _ _=>Wk.refl _) (fun _=>(lsI _ _))) (aLc wkI (aLc (wkr (lsL fun _=>(lsI _ _))) (aLc (WkR.ptr (fun _=>rfl)) (aLc (WkR.tok (fun _=>rfl) rfl (fun _ _=>Wk.refl _) (fun _=>(lsI _ _))) aLn))))) (aLc ⟨some _,rfl,bRc rfl cKn⟩ (aLc ⟨some _,rfl,bRc rfl (cKc wkI (cKc (wkr (lsL fun _=>(aD _))) cKn))⟩ (aLc ⟨some _,rfl,bRc rfl cKn⟩ aLn))))
  refine hK2 ?_
  refine bD ?_
  refine aT ?_
  refine aT ?_
  refine aS ?_
  replace h:=dI h
  replace h:=dK h
  refine tHn ?_
  refine aE ?_
  refine aA dCo rfl fun K hK=>?_;conv=>whnf
  refine hK _ _ _ ?_
  refine aW fun K1 K2 hK1 hK2=>?_;conv=>whnf
  refine cLk h (fun _ h=>?_) (fun _ h=>?_)
  ·refine hK1 ?_
   refine aA dCo rfl fun K hK=>?_;conv=>whnf
   refine hK _ _ _ ?_
   refine aP ?_
   refine aJ ?_
   refine aL ?_
   refine aJ ?_
   refine aL ?_
   refine aJ ?_
   replace h:=gA h
   replace h:=gB h
   replace h:=aO h
   refine aM dCo fun K hK=>?_;conv=>whnf
   refine hK _ ?_
   cases h
   exact cD
  refine hK2 ?_
  refine aH ?_
  refine tHn ?_
  refine aA dCo rfl fun K hK=>?_;conv=>whnf
  refine hK _ _ _ ?_
  refine aE ?_
  refine aA dCo rfl fun K hK=>?_;conv=>whnf
  refine hK _ _ _ ?_
  replace h:=nL h
  refine aW fun K1 K2 hK1 hK2=>?_;conv=>whnf
  refine cLk h (fun _ h=>?_) (fun _ h=>?_)
  ·refine hK1 ?_
   refine cK dCo rfl fun K hK=>?_;conv=>whnf
   refine gE h fun _ h=>?_;conv=>whnf
   refine gKo rfl ?_;conv=>whnf
   replace h:=bM h
   refine pG h13 h (WkL.refl _) (fun _ h=>?_);conv=>whnf
   refine hK _ _ _ ?_
   refine tHn ?_
   refine cK dCo rfl fun K hK=>?_;conv=>whnf
   refine gE h fun _ h=>?_;conv=>whnf
   refine gKo rfl ?_;conv=>whnf
   refine eK (enc:=eI) (d:=default) dCo h rfl rfl rfl ⟨nle rfl,nle rfl,rfl⟩ rfl ⟨⟨rfl,rfl,rfl⟩,trivial⟩ (fun h=>?_);conv=>whnf
   refine mG (enc:=eI) (d:=default) dCo h (.inl rfl) rfl rfl rfl ⟨rfl,nle rfl,nle rfl,nle rfl,rfl⟩ (fun _=>rfl) (.inr (.inr ⟨_,_,rfl,rfl,rfl⟩)) (fun h=>?_);conv=>whnf
   refine hK _ _ _ ?_
   refine iBn ?_
   refine tHn ?_
   replace h:=bF h
   refine ⟨_,h,?_⟩
   refine aY ?_;conv=>whnf
   exact And.intro rfl (And.intro (aLc (WkR.tok (fun _=>rfl) rfl (fun _ _=>Wk.refl _) (fun _=>(lsI _ _))) (aLc (wkr (lsL fun _=>(lsI _ _))) (aLc (WkR.ptr (fun _=>rfl)) aLn))) (aLc ⟨some _,rfl,bRc rfl cKn⟩ (aLc ⟨some _,rfl,bRc rfl (cKc wkI (cKc (wkr (lsL fun _=>(aD _))) cKn))⟩ aLn)))
  refine hK2 ?_
  refine aH ?_
  refine tHn ?_
  refine cK dCo rfl fun K hK=>?_;conv=>whnf
  refine gE h fun _ h=>?_;conv=>whnf
  refine gKo rfl ?_;conv=>whnf
  refine eK (enc:=eI) (d:=default) dCo h rfl rfl rfl ⟨nle rfl,nle rfl,rfl⟩ rfl ⟨⟨rfl,rfl,rfl⟩,trivial⟩ (fun h=>?_);conv=>whnf
  refine mG (enc:=eI) (d:=default) dCo h (.inl rfl) rfl rfl rfl ⟨rfl,nle rfl,nle rfl,nle rfl,rfl⟩ (fun _=>rfl) (.inr (.inr ⟨_,_,rfl,rfl,rfl⟩)) (fun h=>?_);conv=>whnf
  refine hK _ _ _ ?_
  refine iBn ?_
  refine tHn ?_
  replace h:=bF h
  refine ⟨_,h,?_⟩
  refine aY ?_;conv=>whnf
  exact And.intro rfl (And.intro (aLc (WkR.tok (fun _=>rfl) rfl (fun _ _=>Wk.refl _) (fun _=>(lsI _ _))) (aLc (wkr (lsL fun _=>(lsI _ _))) (aLc (WkR.ptr (fun _=>rfl)) aLn))) (aLc ⟨some _,rfl,bRc rfl cKn⟩ (aLc ⟨some _,rfl,bRc rfl (cKc wkI (cKc (wkr (lsL fun _=>(aD _))) cKn))⟩ aLn)))
 refine hK2 ?_
 refine bD ?_
 refine aT ?_
 refine aT ?_
 refine aS ?_
 replace h:=dI h
 replace h:=dK h
 refine tHn ?_
 refine aA dCo rfl fun K hK=>?_;conv=>whnf
 refine hK _ _ _ ?_
 refine aP ?_
 replace h:=aO h
 refine aM dCo fun K hK=>?_;conv=>whnf
 refine hK _ ?_
 cases h
 exact cD
def kK:Option Bool:=lt ([(0,2),(1,2),(2,3),(0,3),(1,4)]:List (Int×Int)) fun l1=>lt ([]:List (Int×Int)) fun l2=>ap l2 l1 fun l3=>
  lt ([(3,1)]:List (Int×Int)) fun l4=>ap l3 l4 fun l5=>bd (lB (⟨5,l1⟩:aG)) fun y6=>bd (jV (⟨5,l1⟩:aG)) fun y7=>
  bd (iI (⟨5,l1⟩:aG)) fun y8=>bd (mL (⟨5,l1⟩:aG)) fun y9=>bd (jJ (⟨5,l1⟩:aG)) fun y10=>
  bd (jY (⟨5,l1⟩:aG)) fun y11=>bd (lI (⟨5,l1⟩:aG)) fun y12=>bd (dN (⟨5,l1⟩:aG)) fun y13=>
  bd (fN (⟨5,l1⟩:aG)) fun y14=>bd (iU (⟨5,l5⟩:aG)) fun y15=>bd (iU (⟨5,l1⟩:aG)) fun y16=>
  bd (jJ (⟨5,l5⟩:aG)) fun y17=>jn (fun p18:Bool=>cn p18 (some false) (jn (fun p20:Bool=>jn (fun p26:Bool=>jn (fun p36:Bool=>
  jn (fun p45:Bool=>jn (fun p53:Bool=>some p53) fun k54=>cn p20 (cn p26 (cn p36 (cn p45 (bd (cE (⟨5,l1⟩:aG) 1 3) fun y55=>
  cn y55 (bd (cE (⟨5,l1⟩:aG) 3 1) fun y56=>cn (!y56) (bd (cE (⟨5,l1⟩:aG) 0 1) fun y57=>
  k54 (!y57)) (k54 false)) (k54 false)) (k54 false)) (k54 false)) (k54 false)) (k54 false)) fun k46=>cn y15.2 (cn (!y16.2) (lt ([1,2,3]:List Int) fun l47=>
  bd (eN y15.1 l47) fun y48=>cn y48 (bd (jA (⟨5,l1⟩:aG)) fun y49=>cn y49 (bd (jA (⟨5,l5⟩:aG)) fun y50=>
  cn (!y50) (bd (dR (⟨5,l5⟩:aG)) fun y51=>cn y51 (bd (dR (⟨9,[]⟩:aG)) fun y52=>
  k46 (!y52)) (k46 false)) (k46 false)) (k46 false)) (k46 false)) (k46 false)) (k46 false)) fun k37=>lt ([0,0,1,2,1]:List Int) fun l38=>
  bd (eN y11.1 l38) fun y39=>cn y39 (lt ([0,2,3]:List Int) fun l40=>bd (eN y12.1 l40) fun y41=>cn y41 (lt ([0,1]:List Int) fun l42=>
  bd (eN y13.1 l42) fun y43=>cn y43 (let v44:=((y14.1.length:Int)==2);k37 v44) (k37 false)) (k37 false)) (k37 false)) fun k27=>
  lt ([0,1,2,3,7,15,18,19,23,31]:List Int) fun l28=>bd (eN y8.1 l28) fun y29=>cn y29 (lt ([0,1,2,3,4]:List Int) fun l30=>
  bd (eN y9.1 l30) fun y31=>cn y31 (cn (y10.1==7) (lt ([1,4,0,2,3]:List Int) fun l32=>bd (hZ (⟨5,l1⟩:aG) l32) fun y33=>
  cn y33 (lt ([1,2,0,3,4]:List Int) fun l34=>bd (hZ (⟨5,l1⟩:aG) l34) fun y35=>
  k27 (!y35)) (k27 false)) (k27 false)) (k27 false)) (k27 false)) fun k21=>lt ([(0,2),(0,3),(1,2),(1,3),(1,4),(2,3)]:List (Int×Int)) fun l22=>
  bd (kJ y6.1 (⟨5,l22⟩:aG)) fun y23=>cn y23 (lt ([(0,2),(1,2),(1,4),(2,3)]:List (Int×Int)) fun l24=>
  bd (kJ y7.1 (⟨5,l24⟩:aG)) fun y25=>k21 y25) (k21 false))) fun k19=>cn (y6.2 != 0) (k19 true) (cn (y7.2 != 0) (k19 true) (cn (y8.2 !=
  0) (k19 true) (cn (y9.2 != 0) (k19 true) (cn (y10.2 != 0) (k19 true) (cn (y11.2 != 0) (k19 true) (cn (y12.2 != 0) (k19 true) (cn (y13.2 != 0) (k19 true) (cn (y14.2 !=
  0) (k19 true) (k19 (y17.2 != 70))))))))))
def kC:List AV→AV→Prop:=fun args r =>  args=[]∧W (kK ) fun y=>r=(eB y)
theorem yX {T:Tbl} (hT:TOk Tryd.prog T) (hpf:cY T PF) (h18:T 18=aK fR) (h19:T 19=aK kM) (h20:T 20=aK jB) (h22:T 22=aK iC) (h24:T 24=aK iW) (h25:T 25=aK iB) (h26:T 26=aK kL) (h27:T 27=aK eR) (h28:T 28=aK iF) (h29:T 29=aK jF) (h30:T 30=aK eE) (h31:T 31=aK gP) (h32:T 32=aK jI) (h33:T 33=aK eV) (h34:T 34=aK jH) (h36:T 36=aK kI):FOk Tryd.prog 11 (aK kC):=by
 refine bG hT hpf Tryd.func11 rfl Tryd.ntmps11 Tryd.results11 (by decide) ?_
 rintro args r ⟨rfl,h⟩
 refine ⟨nle rfl,?_,?_⟩
 ·exact lsN
 rw [kK.eq_1] at h
 refine aA dCo rfl fun K hK=>?_;conv=>whnf
 refine hK _ _ _ ?_
 refine aA dCo rfl fun K hK=>?_;conv=>whnf
 refine eK (enc:=jW) (d:=default) dCo h rfl rfl rfl ⟨nle rfl,nle rfl,rfl⟩ rfl ⟨⟨rfl,nle rfl⟩,⟨⟨rfl,nle rfl⟩,⟨⟨rfl,nle rfl⟩,⟨⟨rfl,nle rfl⟩,⟨⟨rfl,nle rfl⟩,trivial⟩⟩⟩⟩⟩ (fun h=>?_);conv=>whnf
 refine bKo rfl ?_;conv=>whnf
 refine And.intro rfl (And.intro (nle rfl) (And.intro rfl ?_));conv=>whnf
 refine hK _ _ _ ?_
 refine aA dCo rfl fun K hK=>?_;conv=>whnf
 refine eK (enc:=jW) (d:=default) dCo h rfl rfl rfl ⟨nle rfl,nle rfl,rfl⟩ rfl trivial (fun h=>?_);conv=>whnf
 refine nlA rfl ?_;conv=>whnf
 refine bKo rfl ?_;conv=>whnf
 refine gKo rfl ?_;conv=>whnf
 refine aGT (enc:=jW) (d:=default) dCo h rfl rfl rfl ⟨rfl,nle rfl,nle rfl,nle rfl,rfl⟩ (fun _=>rfl) (fun h=>?_);conv=>whnf
 refine eK (enc:=jW) (d:=default) dCo h rfl rfl rfl ⟨nle rfl,nle rfl,rfl⟩ rfl ⟨⟨rfl,nle rfl⟩,trivial⟩ (fun h=>?_);conv=>whnf
 refine mG (enc:=jW) (d:=default) dCo h (.inl rfl) rfl rfl rfl ⟨rfl,nle rfl,nle rfl,nle rfl,rfl⟩ (fun _=>rfl) (.inr (.inr ⟨_,_,rfl,rfl,rfl⟩)) (fun h=>?_);conv=>whnf
 refine bKo rfl ?_;conv=>whnf
 refine And.intro rfl (And.intro (nle rfl) (And.intro rfl ?_));conv=>whnf
 refine hK _ _ _ ?_
 refine aA dCo rfl fun K hK=>?_;conv=>whnf
 refine nlA rfl ?_;conv=>whnf
 refine bKo rfl ?_;conv=>whnf
 refine nlA rfl ?_;conv=>whnf
 replace h:=bM h
 refine tX h24 h (aC (fJ (aC (Wk.refl _) (aC cD bA))) bA) (fun _ h=>?_);conv=>whnf
 refine bKo rfl ?_;conv=>whnf
 refine And.intro rfl (And.intro (nle rfl) (And.intro rfl ?_));conv=>whnf
 refine hK _ _ _ ?_
 refine aA dCo rfl fun K hK=>?_;conv=>whnf
 refine nlA rfl ?_;conv=>whnf
 refine bKo rfl ?_;conv=>whnf
 refine nlA rfl ?_;conv=>whnf
 replace h:=bM h
 refine sM h25 h (aC (fJ (aC (Wk.refl _) (aC cD bA))) bA) (fun _ h=>?_);conv=>whnf
 refine bKo rfl ?_;conv=>whnf
 refine And.intro rfl (And.intro (nle rfl) (And.intro rfl ?_));conv=>whnf
 refine hK _ _ _ ?_
 refine aA dCo rfl fun K hK=>?_;conv=>whnf
 refine nlA rfl ?_;conv=>whnf
 refine bKo rfl ?_;conv=>whnf
 refine nlA rfl ?_;conv=>whnf
 replace h:=bM h
 refine qR h18 h (aC (fJ (aC (Wk.refl _) (aC cD bA))) bA) (fun _ h=>?_);conv=>whnf
 refine hK _ _ _ ?_
 refine aA dCo rfl fun K hK=>?_;conv=>whnf
 refine nlA rfl ?_;conv=>whnf
 refine bKo rfl ?_;conv=>whnf
 refine nlA rfl ?_;conv=>whnf
 replace h:=bM h
 refine uO h19 h (aC (fJ (aC (Wk.refl _) (aC cD bA))) bA) (fun _ h=>?_);conv=>whnf
 refine hK _ _ _ ?_
 refine aA dCo rfl fun K hK=>?_;conv=>whnf
 refine nlA rfl ?_;conv=>whnf
 refine bKo rfl ?_;conv=>whnf
 refine nlA rfl ?_;conv=>whnf
 replace h:=bM h
 refine oR h20 h (aC (fJ (aC (Wk.refl _) (aC cD bA))) bA) (fun _ h=>?_);conv=>whnf
 refine hK _ _ _ ?_
 refine aA dCo rfl fun K hK=>?_;conv=>whnf
 refine nlA rfl ?_;conv=>whnf
 refine bKo rfl ?_;conv=>whnf
 refine nlA rfl ?_;conv=>whnf
 replace h:=bM h
 refine sL h28 h (aC (fJ (aC (Wk.refl _) (aC cD bA))) bA) (fun _ h=>?_);conv=>whnf
 refine hK _ _ _ ?_
 refine aA dCo rfl fun K hK=>?_;conv=>whnf
 refine nlA rfl ?_;conv=>whnf
 refine bKo rfl ?_;conv=>whnf
 refine nlA rfl ?_;conv=>whnf
 replace h:=bM h
 refine tV h29 h (aC (fJ (aC (Wk.refl _) (aC cD bA))) bA) (fun _ h=>?_);conv=>whnf
 refine hK _ _ _ ?_
 refine aA dCo rfl fun K hK=>?_;conv=>whnf
 refine nlA rfl ?_;conv=>whnf
 refine bKo rfl ?_;conv=>whnf
 refine nlA rfl ?_;conv=>whnf
 replace h:=bM h
 refine kV h30 h (aC (fJ (aC (Wk.refl _) (aC cD bA))) bA) (fun _ h=>?_);conv=>whnf
 refine hK _ _ _ ?_
 refine aA dCo rfl fun K hK=>?_;conv=>whnf
 refine nlA rfl ?_;conv=>whnf
 refine bKo rfl ?_;conv=>whnf
 refine nlA rfl ?_;conv=>whnf
 replace h:=bM h
 refine oS h31 h (aC (fJ (aC (Wk.refl _) (aC cD bA))) bA) (fun _ h=>?_);conv=>whnf
 refine hK _ _ _ ?_
 refine aA dCo rfl fun K hK=>?_;conv=>whnf
 refine nlA rfl ?_;conv=>whnf
 refine bKo rfl ?_;conv=>whnf
 refine nlA rfl ?_;conv=>whnf
 replace h:=bM h
 refine oT h32 h (aC (fJ (aC (Wk.refl _) (aC cD bA))) bA) (fun _ h=>?_);conv=>whnf
 refine hK _ _ _ ?_
 refine aA dCo rfl fun K hK=>?_;conv=>whnf
 refine nlA rfl ?_;conv=>whnf
 refine bKo rfl ?_;conv=>whnf
 refine nlA rfl ?_;conv=>whnf
 replace h:=bM h
 refine oT h32 h (aC (fJ (aC (Wk.refl _) (aC cD bA))) bA) (fun _ h=>?_);conv=>whnf
 refine hK _ _ _ ?_
 refine aA dCo rfl fun K hK=>?_;conv=>whnf
 refine nlA rfl ?_;conv=>whnf
 refine bKo rfl ?_;conv=>whnf
 refine nlA rfl ?_;conv=>whnf
 replace h:=bM h
 refine oR h20 h (aC (fJ (aC (Wk.refl _) (aC cD bA))) bA) (fun _ h=>?_);conv=>whnf
 refine hK _ _ _ ?_
 refine aE ?_
 refine aCT rfl h [1,2,3,5,7,9,11,13,15,17,19,21,22,24] (fun σ=>oV σ [1,2,3,5]++rV σ [(2,1)]) [] (fun kl kh ids b s=>⟨ofL ([(143,eB s)]++kl),ofH ([]++kh),b+64⟩) ?_;(conv=>whnf);refine And.intro (fun s h=>dG ?_) (fun k h=>?_)
 ·refine aW fun K1 K2 hK1 hK2=>?_;conv=>whnf
  refine cLk h (fun _ h=>?_) (fun _ h=>?_)
  ·refine hK1 ?_
   refine aA dCo rfl fun K hK=>?_;conv=>whnf
   refine hK _ _ _ ?_
   refine aP ?_
   refine aJ ?_
   replace h:=aO h
   refine aM dCo fun K hK=>?_;conv=>whnf
   refine hK _ ?_
   cases h
   exact Wk.refl _
  refine hK2 ?_
  refine aH ?_
  refine tHn ?_
  refine aCT rfl h [1,2,7,9,11,13,15,17,19,21,22,24] (fun σ=>oV σ [1,2]++rV σ [(2,1)]) [] (fun kl kh ids b s=>⟨ofL ([(27,eB s)]++kl),ofH ([]++kh),b+64⟩) ?_;(conv=>whnf);refine And.intro (fun s h=>dG ?_) (fun k h=>?_)
  ·refine aCT rfl h [1,2,13,15,17,19,21,22,24,27] (fun σ=>oV σ [1,2]++rV σ [(2,1)]) [] (fun kl kh ids b s=>⟨ofL ([(28,eB s)]++kl),ofH ([]++kh),b+64⟩) ?_;(conv=>whnf);refine And.intro (fun s h=>dG ?_) (fun k h=>?_)
   ·refine aCT rfl h [1,2,21,22,24,27,28] (fun σ=>oV σ [1,2]++rV σ [(2,1)]) [] (fun kl kh ids b s=>⟨ofL ([(29,eB s)]++kl),ofH ([]++kh),b+64⟩) ?_;(conv=>whnf);refine And.intro (fun s h=>dG ?_) (fun k h=>?_)
    ·refine aKo rfl h [1,27,28,29] [1] [] (fun kl kh ids b s=>⟨ofL ([(30,eB s)]++kl),ofH ([]++kh),b+64⟩) ?_;(conv=>whnf);refine And.intro (fun s h=>dG ?_) (fun k h=>?_)
     ·refine aA dCo rfl fun K hK=>?_;conv=>whnf
      replace h:=nL h
      refine cLk h (fun _ h=>?_) (fun _ h=>?_)<;>(conv=>whnf)
      ·refine cLk h (fun _ h=>?_) (fun _ h=>?_)<;>(conv=>whnf)
       ·refine cLk h (fun _ h=>?_) (fun _ h=>?_)<;>(conv=>whnf)
        ·refine cLk h (fun _ h=>?_) (fun _ h=>?_)<;>(conv=>whnf)
         ·refine nlA rfl ?_;conv=>whnf
          refine bKo rfl ?_;conv=>whnf
          refine nlA rfl ?_;conv=>whnf
          replace h:=bM h
          refine cQ h27 h (aC (fJ (aC (Wk.refl _) (aC cD bA))) (aC (Wk.refl _) (aC (Wk.refl _) bA))) (fun _ h=>?_);conv=>whnf
          refine cLk h (fun _ h=>?_) (fun _ h=>?_)<;>(conv=>whnf)
          ·refine nlA rfl ?_;conv=>whnf
           refine bKo rfl ?_;conv=>whnf
           refine nlA rfl ?_;conv=>whnf
           replace h:=bM h
           refine cQ h27 h (aC (fJ (aC (Wk.refl _) (aC cD bA))) (aC (Wk.refl _) (aC (Wk.refl _) bA))) (fun _ h=>?_);conv=>whnf
           refine cLk h (fun _ h=>?_) (fun _ h=>?_)<;>(conv=>whnf)
           ·refine nlA rfl ?_;conv=>whnf
            refine bKo rfl ?_;conv=>whnf
            refine nlA rfl ?_;conv=>whnf
            replace h:=bM h
            refine cQ h27 h (aC (fJ (aC (Wk.refl _) (aC cD bA))) (aC (Wk.refl _) (aC (Wk.refl _) bA))) (fun _ h=>?_);conv=>whnf
            refine hK _ _ _ ?_
            refine aP ?_
            replace h:=aO h
            refine aM dCo fun K hK=>?_;conv=>whnf
            refine hK _ ?_
            cases h
            exact Wk.refl _
           refine hK _ _ _ ?_
           refine aP ?_
           replace h:=aO h
           refine aM dCo fun K hK=>?_;conv=>whnf
           refine hK _ ?_
           cases h
           exact Wk.refl _
          refine hK _ _ _ ?_
          refine aP ?_
          replace h:=aO h
          refine aM dCo fun K hK=>?_;conv=>whnf
          refine hK _ ?_
          cases h
          exact Wk.refl _
         refine hK _ _ _ ?_
         refine aP ?_
         replace h:=aO h
         refine aM dCo fun K hK=>?_;conv=>whnf
         refine hK _ ?_
         cases h
         exact Wk.refl _
        refine hK _ _ _ ?_
        refine aP ?_
        replace h:=aO h
        refine aM dCo fun K hK=>?_;conv=>whnf
        refine hK _ ?_
        cases h
        exact Wk.refl _
       refine hK _ _ _ ?_
       refine aP ?_
       replace h:=aO h
       refine aM dCo fun K hK=>?_;conv=>whnf
       refine hK _ ?_
       cases h
       exact Wk.refl _
      refine hK _ _ _ ?_
      refine aP ?_
      replace h:=aO h
      refine aM dCo fun K hK=>?_;conv=>whnf
      refine hK _ ?_
      cases h
      exact Wk.refl _
     refine cK dCo rfl fun K hK=>?_;conv=>whnf
     refine cLk h (fun _ h=>?_) (fun _ h=>?_)<;>(conv=>whnf)
     ·refine cLk h (fun _ h=>?_) (fun _ h=>?_)<;>(conv=>whnf)
      ·refine eK (enc:=eI) (d:=default) dCo h rfl rfl rfl ⟨nle rfl,nle rfl,rfl⟩ rfl ⟨⟨rfl,rfl,rfl⟩,⟨⟨rfl,rfl,rfl⟩,⟨⟨rfl,rfl,rfl⟩,trivial⟩⟩⟩ (fun h=>?_);conv=>whnf
       replace h:=bM h
       refine fD h36 h (aC (Wk.refl _) (aC cD bA)) (fun _ h=>?_);conv=>whnf
       refine cLk h (fun _ h=>?_) (fun _ h=>?_)<;>(conv=>whnf)
       ·refine nlA rfl ?_;conv=>whnf
        refine bKo rfl ?_;conv=>whnf
        refine nlA rfl ?_;conv=>whnf
        replace h:=bM h
        refine oQ h34 h (aC (fJ (aC (Wk.refl _) (aC cD bA))) bA) (fun _ h=>?_);conv=>whnf
        refine cLk h (fun _ h=>?_) (fun _ h=>?_)<;>(conv=>whnf)
        ·refine nlA rfl ?_;conv=>whnf
         refine bKo rfl ?_;conv=>whnf
         refine nlA rfl ?_;conv=>whnf
         replace h:=bM h
         refine oQ h34 h (aC (fJ (aC (Wk.refl _) (aC cD bA))) bA) (fun _ h=>?_);conv=>whnf
         refine cLk h (fun _ h=>?_) (fun _ h=>?_)<;>(conv=>whnf)
         ·refine nlA rfl ?_;conv=>whnf
          refine bKo rfl ?_;conv=>whnf
          refine nlA rfl ?_;conv=>whnf
          replace h:=bM h
          refine gT h33 h (aC (fJ (aC (Wk.refl _) (aC cD bA))) bA) (fun _ h=>?_);conv=>whnf
          refine cLk h (fun _ h=>?_) (fun _ h=>?_)<;>(conv=>whnf)
          ·replace h:=bM h
           refine gT h33 h (aC (fJ (aC (Wk.refl _) (aC kX bA))) bA) (fun _ h=>?_);conv=>whnf
           refine hK _ _ _ ?_
           refine tHn ?_
           refine ⟨_,h,?_⟩
           refine aY ?_;conv=>whnf
           exact And.intro rfl (And.intro (aLc (wkr (lsB _)) (aLc (WkR.ptr (fun _=>rfl)) (aLc (wkr (lsB _)) (aLc (wkr (lsB _)) (aLc (wkr (lsB _)) aLn))))) (aLc ⟨some _,rfl,bRc rfl (cKc wkI (cKc (wkr (bI fun _=>(aD _))) cKn))⟩ aLn))
          refine hK _ _ _ ?_
          refine tHn ?_
          refine ⟨_,h,?_⟩
          refine aY ?_;conv=>whnf
          exact And.intro rfl (And.intro (aLc (wkr (lsB _)) (aLc (WkR.ptr (fun _=>rfl)) (aLc (wkr (lsB _)) (aLc (wkr (lsB _)) (aLc (wkr (lsB _)) aLn))))) (aLc ⟨some _,rfl,bRc rfl (cKc wkI (cKc (wkr (bI fun _=>(aD _))) cKn))⟩ aLn))
         refine hK _ _ _ ?_
         refine tHn ?_
         refine ⟨_,h,?_⟩
         refine aY ?_;conv=>whnf
         exact And.intro rfl (And.intro (aLc (wkr (lsB _)) (aLc (WkR.ptr (fun _=>rfl)) (aLc (wkr (lsB _)) (aLc (wkr (lsB _)) (aLc (wkr (lsB _)) aLn))))) (aLc ⟨some _,rfl,bRc rfl (cKc wkI (cKc (wkr (bI fun _=>(aD _))) cKn))⟩ aLn))
        refine hK _ _ _ ?_
        refine tHn ?_
        refine ⟨_,h,?_⟩
        refine aY ?_;conv=>whnf
        exact And.intro rfl (And.intro (aLc (wkr (lsB _)) (aLc (WkR.ptr (fun _=>rfl)) (aLc (wkr (lsB _)) (aLc (wkr (lsB _)) (aLc (wkr (lsB _)) aLn))))) (aLc ⟨some _,rfl,bRc rfl (cKc wkI (cKc (wkr (bI fun _=>(aD _))) cKn))⟩ aLn))
       refine hK _ _ _ ?_
       refine tHn ?_
       refine ⟨_,h,?_⟩
       refine aY ?_;conv=>whnf
       exact And.intro rfl (And.intro (aLc (wkr (lsB _)) (aLc (WkR.ptr (fun _=>rfl)) (aLc (wkr (lsB _)) (aLc (wkr (lsB _)) (aLc (wkr (lsB _)) aLn))))) (aLc ⟨some _,rfl,bRc rfl (cKc wkI (cKc (wkr (bI fun _=>(aD _))) cKn))⟩ aLn))
      refine hK _ _ _ ?_
      refine tHn ?_
      refine ⟨_,h,?_⟩
      refine aY ?_;conv=>whnf
      exact And.intro rfl (And.intro (aLc (wkr (lsB _)) (aLc (WkR.ptr (fun _=>rfl)) (aLc (wkr (lsB _)) (aLc (wkr (lsB _)) (aLc (wkr (lsB _)) aLn))))) (aLc ⟨some _,rfl,bRc rfl (cKc wkI (cKc (wkr (bI fun _=>(aD _))) cKn))⟩ aLn))
     refine hK _ _ _ ?_
     refine tHn ?_
     refine ⟨_,h,?_⟩
     refine aY ?_;conv=>whnf
     exact And.intro rfl (And.intro (aLc (wkr (lsB _)) (aLc (WkR.ptr (fun _=>rfl)) (aLc (wkr (lsB _)) (aLc (wkr (lsB _)) (aLc (wkr (lsB _)) aLn))))) (aLc ⟨some _,rfl,bRc rfl (cKc wkI (cKc (wkr (bI fun _=>(aD _))) cKn))⟩ aLn))
    refine cK dCo rfl fun K hK=>?_;conv=>whnf
    refine eK (enc:=eI) (d:=default) dCo h rfl rfl rfl ⟨nle rfl,nle rfl,rfl⟩ rfl ⟨⟨rfl,rfl,rfl⟩,⟨⟨rfl,rfl,rfl⟩,⟨⟨rfl,rfl,rfl⟩,⟨⟨rfl,rfl,rfl⟩,⟨⟨rfl,rfl,rfl⟩,trivial⟩⟩⟩⟩⟩ (fun h=>?_);conv=>whnf
    replace h:=bM h
    refine fD h36 h (aC (Wk.refl _) (aC cD bA)) (fun _ h=>?_);conv=>whnf
    refine cLk h (fun _ h=>?_) (fun _ h=>?_)<;>(conv=>whnf)
    ·refine eK (enc:=eI) (d:=default) dCo h rfl rfl rfl ⟨nle rfl,nle rfl,rfl⟩ rfl ⟨⟨rfl,rfl,rfl⟩,⟨⟨rfl,rfl,rfl⟩,⟨⟨rfl,rfl,rfl⟩,trivial⟩⟩⟩ (fun h=>?_);conv=>whnf
     replace h:=bM h
     refine fD h36 h (aC (Wk.refl _) (aC cD bA)) (fun _ h=>?_);conv=>whnf
     refine cLk h (fun _ h=>?_) (fun _ h=>?_)<;>(conv=>whnf)
     ·refine eK (enc:=eI) (d:=default) dCo h rfl rfl rfl ⟨nle rfl,nle rfl,rfl⟩ rfl ⟨⟨rfl,rfl,rfl⟩,⟨⟨rfl,rfl,rfl⟩,trivial⟩⟩ (fun h=>?_);conv=>whnf
      replace h:=bM h
      refine fD h36 h (aC (Wk.refl _) (aC cD bA)) (fun _ h=>?_);conv=>whnf
      refine cLk h (fun _ h=>?_) (fun _ h=>?_)<;>(conv=>whnf)
      ·refine hK _ _ _ ?_
       refine tHn ?_
       refine ⟨_,h,?_⟩
       refine aY ?_;conv=>whnf
       exact And.intro rfl (And.intro (aLc (wkr (lsB _)) (aLc (WkR.ptr (fun _=>rfl)) (aLc (WkR.ptr (fun _=>rfl)) (aLc (wkr (lsL fun _=>(lsI _ _))) (aLc (wkr (lsB _)) (aLc (wkr (lsB _)) (aLc (wkr (lsB _)) (aLc (wkr (lsB _)) aLn)))))))) (aLc ⟨some _,rfl,bRc rfl (cKc wkI (cKc (wkr (bI fun _=>(aD _))) cKn))⟩ (aLc ⟨some _,rfl,bRc rfl (cKc wkI (cKc (WkR.tok (fun _=>rfl) rfl (fun _ _=>Wk.refl _) (fun _=>(aD _))) cKn))⟩ (aLc ⟨some _,rfl,bRc rfl cKn⟩ aLn))))
      refine hK _ _ _ ?_
      refine tHn ?_
      refine ⟨_,h,?_⟩
      refine aY ?_;conv=>whnf
      exact And.intro rfl (And.intro (aLc (wkr (lsB _)) (aLc (WkR.ptr (fun _=>rfl)) (aLc (WkR.ptr (fun _=>rfl)) (aLc (wkr (lsL fun _=>(lsI _ _))) (aLc (wkr (lsB _)) (aLc (wkr (lsB _)) (aLc (wkr (lsB _)) (aLc (wkr (lsB _)) aLn)))))))) (aLc ⟨some _,rfl,bRc rfl (cKc wkI (cKc (wkr (bI fun _=>(aD _))) cKn))⟩ (aLc ⟨some _,rfl,bRc rfl (cKc wkI (cKc (WkR.tok (fun _=>rfl) rfl (fun _ _=>Wk.refl _) (fun _=>(aD _))) cKn))⟩ (aLc ⟨some _,rfl,bRc rfl cKn⟩ aLn))))
     refine hK _ _ _ ?_
     refine tHn ?_
     refine ⟨_,h,?_⟩
     refine aY ?_;conv=>whnf
     exact And.intro rfl (And.intro (aLc (wkr (lsB _)) (aLc (WkR.ptr (fun _=>rfl)) (aLc (WkR.ptr (fun _=>rfl)) (aLc (wkr (lsL fun _=>(lsI _ _))) (aLc (wkr (lsB _)) (aLc (wkr (lsB _)) (aLc (wkr (lsB _)) (aLc (wkr (lsB _)) aLn)))))))) (aLc ⟨some _,rfl,bRc rfl (cKc wkI (cKc (wkr (bI fun _=>(aD _))) cKn))⟩ (aLc ⟨some _,rfl,bRc rfl (cKc wkI (cKc (WkR.tok (fun _=>rfl) rfl (fun _ _=>Wk.refl _) (fun _=>(aD _))) cKn))⟩ (aLc ⟨some _,rfl,bRc rfl cKn⟩ aLn))))
    refine hK _ _ _ ?_
    refine tHn ?_
    refine ⟨_,h,?_⟩
    refine aY ?_;conv=>whnf
    exact And.intro rfl (And.intro (aLc (wkr (lsB _)) (aLc (WkR.ptr (fun _=>rfl)) (aLc (WkR.ptr (fun _=>rfl)) (aLc (wkr (lsL fun _=>(lsI _ _))) (aLc (wkr (lsB _)) (aLc (wkr (lsB _)) (aLc (wkr (lsB _)) (aLc (wkr (lsB _)) aLn)))))))) (aLc ⟨some _,rfl,bRc rfl (cKc wkI (cKc (wkr (bI fun _=>(aD _))) cKn))⟩ (aLc ⟨some _,rfl,bRc rfl (cKc wkI (cKc (WkR.tok (fun _=>rfl) rfl (fun _ _=>Wk.refl _) (fun _=>(aD _))) cKn))⟩ (aLc ⟨some _,rfl,bRc rfl cKn⟩ aLn))))
   refine cK dCo rfl fun K hK=>?_;conv=>whnf
   refine eK (enc:=eI) (d:=default) dCo h rfl rfl rfl ⟨nle rfl,nle rfl,rfl⟩ rfl ⟨⟨rfl,rfl,rfl⟩,⟨⟨rfl,rfl,rfl⟩,⟨⟨rfl,rfl,rfl⟩,⟨⟨rfl,rfl,rfl⟩,⟨⟨rfl,rfl,rfl⟩,⟨⟨rfl,rfl,rfl⟩,⟨⟨rfl,rfl,rfl⟩,⟨⟨rfl,rfl,rfl⟩,⟨⟨rfl,rfl,rfl⟩,⟨⟨rfl,rfl,rfl⟩,trivial⟩⟩⟩⟩⟩⟩⟩⟩⟩⟩ (fun h=>?_);conv=>whnf
   replace h:=bM h
   refine fD h36 h (aC (Wk.refl _) (aC cD bA)) (fun _ h=>?_);conv=>whnf
   refine cLk h (fun _ h=>?_) (fun _ h=>?_)<;>(conv=>whnf)
   ·refine eK (enc:=eI) (d:=default) dCo h rfl rfl rfl ⟨nle rfl,nle rfl,rfl⟩ rfl ⟨⟨rfl,rfl,rfl⟩,⟨⟨rfl,rfl,rfl⟩,⟨⟨rfl,rfl,rfl⟩,⟨⟨rfl,rfl,rfl⟩,⟨⟨rfl,rfl,rfl⟩,trivial⟩⟩⟩⟩⟩ (fun h=>?_);conv=>whnf
    replace h:=bM h
    refine fD h36 h (aC (Wk.refl _) (aC cD bA)) (fun _ h=>?_);conv=>whnf
    refine cLk h (fun _ h=>?_) (fun _ h=>?_)<;>(conv=>whnf)
    ·refine cLk h (fun _ h=>?_) (fun _ h=>?_)<;>(conv=>whnf)
     ·refine nlA rfl ?_;conv=>whnf
      refine bKo rfl ?_;conv=>whnf
      refine nlA rfl ?_;conv=>whnf
      refine eK (enc:=eI) (d:=default) dCo h rfl rfl rfl ⟨nle rfl,nle rfl,rfl⟩ rfl ⟨⟨rfl,rfl,rfl⟩,⟨⟨rfl,rfl,rfl⟩,⟨⟨rfl,rfl,rfl⟩,⟨⟨rfl,rfl,rfl⟩,⟨⟨rfl,rfl,rfl⟩,trivial⟩⟩⟩⟩⟩ (fun h=>?_);conv=>whnf
      replace h:=bM h
      refine nH h22 h (aC (fJ (aC (Wk.refl _) (aC cD bA))) (aC cD bA)) (fun _ h=>?_);conv=>whnf
      refine cLk h (fun _ h=>?_) (fun _ h=>?_)<;>(conv=>whnf)
      ·refine nlA rfl ?_;conv=>whnf
       refine bKo rfl ?_;conv=>whnf
       refine nlA rfl ?_;conv=>whnf
       refine eK (enc:=eI) (d:=default) dCo h rfl rfl rfl ⟨nle rfl,nle rfl,rfl⟩ rfl ⟨⟨rfl,rfl,rfl⟩,⟨⟨rfl,rfl,rfl⟩,⟨⟨rfl,rfl,rfl⟩,⟨⟨rfl,rfl,rfl⟩,⟨⟨rfl,rfl,rfl⟩,trivial⟩⟩⟩⟩⟩ (fun h=>?_);conv=>whnf
       replace h:=bM h
       refine nH h22 h (aC (fJ (aC (Wk.refl _) (aC cD bA))) (aC cD bA)) (fun _ h=>?_);conv=>whnf
       refine hK _ _ _ ?_
       refine tHn ?_
       refine ⟨_,h,?_⟩
       refine aY ?_;conv=>whnf
       exact And.intro rfl (And.intro (aLc (wkr (lsB _)) (aLc (WkR.ptr (fun _=>rfl)) (aLc (WkR.ptr (fun _=>rfl)) (aLc (wkr (lsL fun _=>(lsI _ _))) (aLc (wkr (lsL fun _=>(lsI _ _))) (aLc (wkr (lsL fun _=>(lsI _ _))) (aLc (wkr (lsL fun _=>(lsL fun _=>(lsI _ _)))) (aLc (wkr (lsL fun _=>(lsI _ _))) (aLc (wkr (lsB _)) (aLc (wkr (lsB _)) (aLc (wkr (lsB _)) aLn))))))))))) (aLc ⟨some _,rfl,bRc rfl (cKc wkI (cKc (wkr (bI fun _=>(aD _))) cKn))⟩ (aLc ⟨some _,rfl,bRc rfl (cKc wkI (cKc (WkR.tok (fun _=>rfl) rfl (fun _ _=>Wk.refl _) (fun _=>(aD _))) cKn))⟩ (aLc ⟨some _,rfl,bRc rfl cKn⟩ aLn))))
      refine hK _ _ _ ?_
      refine tHn ?_
      refine ⟨_,h,?_⟩
      refine aY ?_;conv=>whnf
      exact And.intro rfl (And.intro (aLc (wkr (lsB _)) (aLc (WkR.ptr (fun _=>rfl)) (aLc (WkR.ptr (fun _=>rfl)) (aLc (wkr (lsL fun _=>(lsI _ _))) (aLc (wkr (lsL fun _=>(lsI _ _))) (aLc (wkr (lsL fun _=>(lsI _ _))) (aLc (wkr (lsL fun _=>(lsL fun _=>(lsI _ _)))) (aLc (wkr (lsL fun _=>(lsI _ _))) (aLc (wkr (lsB _)) (aLc (wkr (lsB _)) (aLc (wkr (lsB _)) aLn))))))))))) (aLc ⟨some _,rfl,bRc rfl (cKc wkI (cKc (wkr (bI fun _=>(aD _))) cKn))⟩ (aLc ⟨some _,rfl,bRc rfl (cKc wkI (cKc (WkR.tok (fun _=>rfl) rfl (fun _ _=>Wk.refl _) (fun _=>(aD _))) cKn))⟩ (aLc ⟨some _,rfl,bRc rfl cKn⟩ aLn))))
     refine hK _ _ _ ?_
     refine tHn ?_
     refine ⟨_,h,?_⟩
     refine aY ?_;conv=>whnf
     exact And.intro rfl (And.intro (aLc (wkr (lsB _)) (aLc (WkR.ptr (fun _=>rfl)) (aLc (WkR.ptr (fun _=>rfl)) (aLc (wkr (lsL fun _=>(lsI _ _))) (aLc (wkr (lsL fun _=>(lsI _ _))) (aLc (wkr (lsL fun _=>(lsI _ _))) (aLc (wkr (lsL fun _=>(lsL fun _=>(lsI _ _)))) (aLc (wkr (lsL fun _=>(lsI _ _))) (aLc (wkr (lsB _)) (aLc (wkr (lsB _)) (aLc (wkr (lsB _)) aLn))))))))))) (aLc ⟨some _,rfl,bRc rfl (cKc wkI (cKc (wkr (bI fun _=>(aD _))) cKn))⟩ (aLc ⟨some _,rfl,bRc rfl (cKc wkI (cKc (WkR.tok (fun _=>rfl) rfl (fun _ _=>Wk.refl _) (fun _=>(aD _))) cKn))⟩ (aLc ⟨some _,rfl,bRc rfl cKn⟩ aLn))))
    refine hK _ _ _ ?_
    refine tHn ?_
    refine ⟨_,h,?_⟩
    refine aY ?_;conv=>whnf
    exact And.intro rfl (And.intro (aLc (wkr (lsB _)) (aLc (WkR.ptr (fun _=>rfl)) (aLc (WkR.ptr (fun _=>rfl)) (aLc (wkr (lsL fun _=>(lsI _ _))) (aLc (wkr (lsL fun _=>(lsI _ _))) (aLc (wkr (lsL fun _=>(lsI _ _))) (aLc (wkr (lsL fun _=>(lsL fun _=>(lsI _ _)))) (aLc (wkr (lsL fun _=>(lsI _ _))) (aLc (wkr (lsB _)) (aLc (wkr (lsB _)) (aLc (wkr (lsB _)) aLn))))))))))) (aLc ⟨some _,rfl,bRc rfl (cKc wkI (cKc (wkr (bI fun _=>(aD _))) cKn))⟩ (aLc ⟨some _,rfl,bRc rfl (cKc wkI (cKc (WkR.tok (fun _=>rfl) rfl (fun _ _=>Wk.refl _) (fun _=>(aD _))) cKn))⟩ (aLc ⟨some _,rfl,bRc rfl cKn⟩ aLn))))
   refine hK _ _ _ ?_
   refine tHn ?_
   refine ⟨_,h,?_⟩
   refine aY ?_;conv=>whnf
   exact And.intro rfl (And.intro (aLc (wkr (lsB _)) (aLc (WkR.ptr (fun _=>rfl)) (aLc (WkR.ptr (fun _=>rfl)) (aLc (wkr (lsL fun _=>(lsI _ _))) (aLc (wkr (lsL fun _=>(lsI _ _))) (aLc (wkr (lsL fun _=>(lsI _ _))) (aLc (wkr (lsL fun _=>(lsL fun _=>(lsI _ _)))) (aLc (wkr (lsL fun _=>(lsI _ _))) (aLc (wkr (lsB _)) (aLc (wkr (lsB _)) (aLc (wkr (lsB _)) aLn))))))))))) (aLc ⟨some _,rfl,bRc rfl (cKc wkI (cKc (wkr (bI fun _=>(aD _))) cKn))⟩ (aLc ⟨some _,rfl,bRc rfl (cKc wkI (cKc (WkR.tok (fun _=>rfl) rfl (fun _ _=>Wk.refl _) (fun _=>(aD _))) cKn))⟩ (aLc ⟨some _,rfl,bRc rfl cKn⟩ aLn))))
  refine cK dCo rfl fun K hK=>?_;conv=>whnf
  refine nlA rfl ?_;conv=>whnf
  refine bKo rfl ?_;conv=>whnf
  refine nlA rfl ?_;conv=>whnf
  refine eK (enc:=jW) (d:=default) dCo h rfl rfl rfl ⟨nle rfl,nle rfl,rfl⟩ rfl ⟨⟨rfl,nle rfl⟩,⟨⟨rfl,nle rfl⟩,⟨⟨rfl,nle rfl⟩,⟨⟨rfl,nle rfl⟩,⟨⟨rfl,nle rfl⟩,⟨⟨rfl,nle rfl⟩,trivial⟩⟩⟩⟩⟩⟩ (fun h=>?_);conv=>whnf
  replace h:=bM h
  refine pI h26 h (aC (Wk.refl _) (aC (fJ (aC (Wk.refl _) (aC cD bA))) bA)) (fun _ h=>?_);conv=>whnf
  refine cLk h (fun _ h=>?_) (fun _ h=>?_)<;>(conv=>whnf)
  ·refine nlA rfl ?_;conv=>whnf
   refine bKo rfl ?_;conv=>whnf
   refine nlA rfl ?_;conv=>whnf
   refine eK (enc:=jW) (d:=default) dCo h rfl rfl rfl ⟨nle rfl,nle rfl,rfl⟩ rfl ⟨⟨rfl,nle rfl⟩,⟨⟨rfl,nle rfl⟩,⟨⟨rfl,nle rfl⟩,⟨⟨rfl,nle rfl⟩,trivial⟩⟩⟩⟩ (fun h=>?_);conv=>whnf
   replace h:=bM h
   refine pI h26 h (aC (Wk.refl _) (aC (fJ (aC (Wk.refl _) (aC cD bA))) bA)) (fun _ h=>?_);conv=>whnf
   refine hK _ _ _ ?_
   refine tHn ?_
   refine ⟨_,h,?_⟩
   refine aY ?_;conv=>whnf
   exact And.intro rfl (And.intro (aLc (wkr (lsB _)) (aLc (WkR.ptr (fun _=>rfl)) (aLc (WkR.ptr (fun _=>rfl)) (aLc (wkr (lsL fun _=>(lsI _ _))) (aLc (wkr (lsL fun _=>(lsI _ _))) (aLc wkI (aLc (wkr (lsL fun _=>(lsI _ _))) (aLc (wkr (lsL fun _=>(lsI _ _))) (aLc (wkr (lsL fun _=>(lsI _ _))) (aLc (wkr (lsL fun _=>(lsL fun _=>(lsI _ _)))) (aLc (wkr (lsL fun _=>(lsI _ _))) (aLc (wkr (lsB _)) (aLc (wkr (lsB _)) aLn))))))))))))) (aLc ⟨some _,rfl,bRc rfl (cKc wkI (cKc (wkr (bI fun _=>(aD _))) cKn))⟩ (aLc ⟨some _,rfl,bRc rfl (cKc wkI (cKc (WkR.tok (fun _=>rfl) rfl (fun _ _=>Wk.refl _) (fun _=>(aD _))) cKn))⟩ (aLc ⟨some _,rfl,bRc rfl cKn⟩ aLn))))
  refine hK _ _ _ ?_
  refine tHn ?_
  refine ⟨_,h,?_⟩
  refine aY ?_;conv=>whnf
  exact And.intro rfl (And.intro (aLc (wkr (lsB _)) (aLc (WkR.ptr (fun _=>rfl)) (aLc (WkR.ptr (fun _=>rfl)) (aLc (wkr (lsL fun _=>(lsI _ _))) (aLc (wkr (lsL fun _=>(lsI _ _))) (aLc wkI (aLc (wkr (lsL fun _=>(lsI _ _))) (aLc (wkr (lsL fun _=>(lsI _ _))) (aLc (wkr (lsL fun _=>(lsI _ _))) (aLc (wkr (lsL fun _=>(lsL fun _=>(lsI _ _)))) (aLc (wkr (lsL fun _=>(lsI _ _))) (aLc (wkr (lsB _)) (aLc (wkr (lsB _)) aLn))))))))))))) (aLc ⟨some _,rfl,bRc rfl (cKc wkI (cKc (wkr (bI fun _=>(aD _))) cKn))⟩ (aLc ⟨some _,rfl,bRc rfl (cKc wkI (cKc (WkR.tok (fun _=>rfl) rfl (fun _ _=>Wk.refl _) (fun _=>(aD _))) cKn))⟩ (aLc ⟨some _,rfl,bRc rfl cKn⟩ aLn))))
 refine cK dCo rfl fun K hK=>?_;conv=>whnf
 refine cLk h (fun _ h=>?_) (fun _ h=>?_)<;>(conv=>whnf)
 ·refine hK _ _ _ ?_
  refine tHn ?_
  refine ⟨_,h,?_⟩
  refine aY ?_;conv=>whnf
  exact And.intro rfl (And.intro (aLc (wkr (lsB _)) (aLc (WkR.ptr (fun _=>rfl)) (aLc (WkR.ptr (fun _=>rfl)) (aLc (WkR.ptr (fun _=>rfl)) (aLc (WkR.ptr (fun _=>rfl)) (aLc (wkr (lsL fun _=>(lsI _ _))) (aLc (wkr (lsL fun _=>(lsI _ _))) (aLc wkI (aLc (wkr (lsL fun _=>(lsI _ _))) (aLc (wkr (lsL fun _=>(lsI _ _))) (aLc (wkr (lsL fun _=>(lsI _ _))) (aLc (wkr (lsL fun _=>(lsL fun _=>(lsI _ _)))) (aLc (wkr (lsL fun _=>(lsI _ _))) (aLc (wkr (lsB _)) (aLc (wkr (lsB _)) aLn))))))))))))))) (aLc ⟨some _,rfl,bRc rfl (cKc wkI (cKc (wkr (bI fun _=>(aD _))) cKn))⟩ (aLc ⟨some _,rfl,bRc rfl (cKc wkI (cKc (WkR.tok (fun _=>rfl) rfl (fun _ _=>Wk.refl _) (fun _=>(aD _))) cKn))⟩ (aLc ⟨some _,rfl,bRc rfl (cKc wkI (cKc (wkr (lsL fun _=>(aD _))) cKn))⟩ (aLc ⟨some _,rfl,bRc rfl (cKc wkI (cKc (wkr (lsL fun _=>(aD _))) cKn))⟩ (aLc ⟨some _,rfl,bRc rfl cKn⟩ aLn))))))
 refine cLk h (fun _ h=>?_) (fun _ h=>?_)<;>(conv=>whnf)
 ·refine hK _ _ _ ?_
  refine tHn ?_
  refine ⟨_,h,?_⟩
  refine aY ?_;conv=>whnf
  exact And.intro rfl (And.intro (aLc (wkr (lsB _)) (aLc (WkR.ptr (fun _=>rfl)) (aLc (WkR.ptr (fun _=>rfl)) (aLc (WkR.ptr (fun _=>rfl)) (aLc (WkR.ptr (fun _=>rfl)) (aLc (wkr (lsL fun _=>(lsI _ _))) (aLc (wkr (lsL fun _=>(lsI _ _))) (aLc wkI (aLc (wkr (lsL fun _=>(lsI _ _))) (aLc (wkr (lsL fun _=>(lsI _ _))) (aLc (wkr (lsL fun _=>(lsI _ _))) (aLc (wkr (lsL fun _=>(lsL fun _=>(lsI _ _)))) (aLc (wkr (lsL fun _=>(lsI _ _))) (aLc (wkr (lsB _)) (aLc (wkr (lsB _)) aLn))))))))))))))) (aLc ⟨some _,rfl,bRc rfl (cKc wkI (cKc (wkr (bI fun _=>(aD _))) cKn))⟩ (aLc ⟨some _,rfl,bRc rfl (cKc wkI (cKc (WkR.tok (fun _=>rfl) rfl (fun _ _=>Wk.refl _) (fun _=>(aD _))) cKn))⟩ (aLc ⟨some _,rfl,bRc rfl (cKc wkI (cKc (wkr (lsL fun _=>(aD _))) cKn))⟩ (aLc ⟨some _,rfl,bRc rfl (cKc wkI (cKc (wkr (lsL fun _=>(aD _))) cKn))⟩ (aLc ⟨some _,rfl,bRc rfl cKn⟩ aLn))))))
 refine cLk h (fun _ h=>?_) (fun _ h=>?_)<;>(conv=>whnf)
 ·refine hK _ _ _ ?_
  refine tHn ?_
  refine ⟨_,h,?_⟩
  refine aY ?_;conv=>whnf
  exact And.intro rfl (And.intro (aLc (wkr (lsB _)) (aLc (WkR.ptr (fun _=>rfl)) (aLc (WkR.ptr (fun _=>rfl)) (aLc (WkR.ptr (fun _=>rfl)) (aLc (WkR.ptr (fun _=>rfl)) (aLc (wkr (lsL fun _=>(lsI _ _))) (aLc (wkr (lsL fun _=>(lsI _ _))) (aLc wkI (aLc (wkr (lsL fun _=>(lsI _ _))) (aLc (wkr (lsL fun _=>(lsI _ _))) (aLc (wkr (lsL fun _=>(lsI _ _))) (aLc (wkr (lsL fun _=>(lsL fun _=>(lsI _ _)))) (aLc (wkr (lsL fun _=>(lsI _ _))) (aLc (wkr (lsB _)) (aLc (wkr (lsB _)) aLn))))))))))))))) (aLc ⟨some _,rfl,bRc rfl (cKc wkI (cKc (wkr (bI fun _=>(aD _))) cKn))⟩ (aLc ⟨some _,rfl,bRc rfl (cKc wkI (cKc (WkR.tok (fun _=>rfl) rfl (fun _ _=>Wk.refl _) (fun _=>(aD _))) cKn))⟩ (aLc ⟨some _,rfl,bRc rfl (cKc wkI (cKc (wkr (lsL fun _=>(aD _))) cKn))⟩ (aLc ⟨some _,rfl,bRc rfl (cKc wkI (cKc (wkr (lsL fun _=>(aD _))) cKn))⟩ (aLc ⟨some _,rfl,bRc rfl cKn⟩ aLn))))))
 refine cLk h (fun _ h=>?_) (fun _ h=>?_)<;>(conv=>whnf)
 ·refine hK _ _ _ ?_
  refine tHn ?_
  refine ⟨_,h,?_⟩
  refine aY ?_;conv=>whnf
  exact And.intro rfl (And.intro (aLc (wkr (lsB _)) (aLc (WkR.ptr (fun _=>rfl)) (aLc (WkR.ptr (fun _=>rfl)) (aLc (WkR.ptr (fun _=>rfl)) (aLc (WkR.ptr (fun _=>rfl)) (aLc (wkr (lsL fun _=>(lsI _ _))) (aLc (wkr (lsL fun _=>(lsI _ _))) (aLc wkI (aLc (wkr (lsL fun _=>(lsI _ _))) (aLc (wkr (lsL fun _=>(lsI _ _))) (aLc (wkr (lsL fun _=>(lsI _ _))) (aLc (wkr (lsL fun _=>(lsL fun _=>(lsI _ _)))) (aLc (wkr (lsL fun _=>(lsI _ _))) (aLc (wkr (lsB _)) (aLc (wkr (lsB _)) aLn))))))))))))))) (aLc ⟨some _,rfl,bRc rfl (cKc wkI (cKc (wkr (bI fun _=>(aD _))) cKn))⟩ (aLc ⟨some _,rfl,bRc rfl (cKc wkI (cKc (WkR.tok (fun _=>rfl) rfl (fun _ _=>Wk.refl _) (fun _=>(aD _))) cKn))⟩ (aLc ⟨some _,rfl,bRc rfl (cKc wkI (cKc (wkr (lsL fun _=>(aD _))) cKn))⟩ (aLc ⟨some _,rfl,bRc rfl (cKc wkI (cKc (wkr (lsL fun _=>(aD _))) cKn))⟩ (aLc ⟨some _,rfl,bRc rfl cKn⟩ aLn))))))
 refine cLk h (fun _ h=>?_) (fun _ h=>?_)<;>(conv=>whnf)
 ·refine hK _ _ _ ?_
  refine tHn ?_
  refine ⟨_,h,?_⟩
  refine aY ?_;conv=>whnf
  exact And.intro rfl (And.intro (aLc (wkr (lsB _)) (aLc (WkR.ptr (fun _=>rfl)) (aLc (WkR.ptr (fun _=>rfl)) (aLc (WkR.ptr (fun _=>rfl)) (aLc (WkR.ptr (fun _=>rfl)) (aLc (wkr (lsL fun _=>(lsI _ _))) (aLc (wkr (lsL fun _=>(lsI _ _))) (aLc wkI (aLc (wkr (lsL fun _=>(lsI _ _))) (aLc (wkr (lsL fun _=>(lsI _ _))) (aLc (wkr (lsL fun _=>(lsI _ _))) (aLc (wkr (lsL fun _=>(lsL fun _=>(lsI _ _)))) (aLc (wkr (lsL fun _=>(lsI _ _))) (aLc (wkr (lsB _)) (aLc (wkr (lsB _)) aLn))))))))))))))) (aLc ⟨some _,rfl,bRc rfl (cKc wkI (cKc (wkr (bI fun _=>(aD _))) cKn))⟩ (aLc ⟨some _,rfl,bRc rfl (cKc wkI (cKc (WkR.tok (fun _=>rfl) rfl (fun _ _=>Wk.refl _) (fun _=>(aD _))) cKn))⟩ (aLc ⟨some _,rfl,bRc rfl (cKc wkI (cKc (wkr (lsL fun _=>(aD _))) cKn))⟩ (aLc ⟨some _,rfl,bRc rfl (cKc wkI (cKc (wkr (lsL fun _=>(aD _))) cKn))⟩ (aLc ⟨some _,rfl,bRc rfl cKn⟩ aLn))))))
 refine cLk h (fun _ h=>?_) (fun _ h=>?_)<;>(conv=>whnf)
 ·refine hK _ _ _ ?_
  refine tHn ?_
  refine ⟨_,h,?_⟩
  refine aY ?_;conv=>whnf
  exact And.intro rfl (And.intro (aLc (wkr (lsB _)) (aLc (WkR.ptr (fun _=>rfl)) (aLc (WkR.ptr (fun _=>rfl)) (aLc (WkR.ptr (fun _=>rfl)) (aLc (WkR.ptr (fun _=>rfl)) (aLc (wkr (lsL fun _=>(lsI _ _))) (aLc (wkr (lsL fun _=>(lsI _ _))) (aLc wkI (aLc (wkr (lsL fun _=>(lsI _ _))) (aLc (wkr (lsL fun _=>(lsI _ _))) (aLc (wkr (lsL fun _=>(lsI _ _))) (aLc (wkr (lsL fun _=>(lsL fun _=>(lsI _ _)))) (aLc (wkr (lsL fun _=>(lsI _ _))) (aLc (wkr (lsB _)) (aLc (wkr (lsB _)) aLn))))))))))))))) (aLc ⟨some _,rfl,bRc rfl (cKc wkI (cKc (wkr (bI fun _=>(aD _))) cKn))⟩ (aLc ⟨some _,rfl,bRc rfl (cKc wkI (cKc (WkR.tok (fun _=>rfl) rfl (fun _ _=>Wk.refl _) (fun _=>(aD _))) cKn))⟩ (aLc ⟨some _,rfl,bRc rfl (cKc wkI (cKc (wkr (lsL fun _=>(aD _))) cKn))⟩ (aLc ⟨some _,rfl,bRc rfl (cKc wkI (cKc (wkr (lsL fun _=>(aD _))) cKn))⟩ (aLc ⟨some _,rfl,bRc rfl cKn⟩ aLn))))))
 refine cLk h (fun _ h=>?_) (fun _ h=>?_)<;>(conv=>whnf)
 ·refine hK _ _ _ ?_
  refine tHn ?_
  refine ⟨_,h,?_⟩
  refine aY ?_;conv=>whnf
  exact And.intro rfl (And.intro (aLc (wkr (lsB _)) (aLc (WkR.ptr (fun _=>rfl)) (aLc (WkR.ptr (fun _=>rfl)) (aLc (WkR.ptr (fun _=>rfl)) (aLc (WkR.ptr (fun _=>rfl)) (aLc (wkr (lsL fun _=>(lsI _ _))) (aLc (wkr (lsL fun _=>(lsI _ _))) (aLc wkI (aLc (wkr (lsL fun _=>(lsI _ _))) (aLc (wkr (lsL fun _=>(lsI _ _))) (aLc (wkr (lsL fun _=>(lsI _ _))) (aLc (wkr (lsL fun _=>(lsL fun _=>(lsI _ _)))) (aLc (wkr (lsL fun _=>(lsI _ _))) (aLc (wkr (lsB _)) (aLc (wkr (lsB _)) aLn))))))))))))))) (aLc ⟨some _,rfl,bRc rfl (cKc wkI (cKc (wkr (bI fun _=>(aD _))) cKn))⟩ (aLc ⟨some _,rfl,bRc rfl (cKc wkI (cKc (WkR.tok (fun _=>rfl) rfl (fun _ _=>Wk.refl _) (fun _=>(aD _))) cKn))⟩ (aLc ⟨some _,rfl,bRc rfl (cKc wkI (cKc (wkr (lsL fun _=>(aD _))) cKn))⟩ (aLc ⟨some _,rfl,bRc rfl (cKc wkI (cKc (wkr (lsL fun _=>(aD _))) cKn))⟩ (aLc ⟨some _,rfl,bRc rfl cKn⟩ aLn))))))
 refine cLk h (fun _ h=>?_) (fun _ h=>?_)<;>(conv=>whnf)
 ·refine hK _ _ _ ?_
  refine tHn ?_
  refine ⟨_,h,?_⟩
  refine aY ?_;conv=>whnf
  exact And.intro rfl (And.intro (aLc (wkr (lsB _)) (aLc (WkR.ptr (fun _=>rfl)) (aLc (WkR.ptr (fun _=>rfl)) (aLc (WkR.ptr (fun _=>rfl)) (aLc (WkR.ptr (fun _=>rfl)) (aLc (wkr (lsL fun _=>(lsI _ _))) (aLc (wkr (lsL fun _=>(lsI _ _))) (aLc wkI (aLc (wkr (lsL fun _=>(lsI _ _))) (aLc (wkr (lsL fun _=>(lsI _ _))) (aLc (wkr (lsL fun _=>(lsI _ _))) (aLc (wkr (lsL fun _=>(lsL fun _=>(lsI _ _)))) (aLc (wkr (lsL fun _=>(lsI _ _))) (aLc (wkr (lsB _)) (aLc (wkr (lsB _)) aLn))))))))))))))) (aLc ⟨some _,rfl,bRc rfl (cKc wkI (cKc (wkr (bI fun _=>(aD _))) cKn))⟩ (aLc ⟨some _,rfl,bRc rfl (cKc wkI (cKc (WkR.tok (fun _=>rfl) rfl (fun _ _=>Wk.refl _) (fun _=>(aD _))) cKn))⟩ (aLc ⟨some _,rfl,bRc rfl (cKc wkI (cKc (wkr (lsL fun _=>(aD _))) cKn))⟩ (aLc ⟨some _,rfl,bRc rfl (cKc wkI (cKc (wkr (lsL fun _=>(aD _))) cKn))⟩ (aLc ⟨some _,rfl,bRc rfl cKn⟩ aLn))))))
 refine cLk h (fun _ h=>?_) (fun _ h=>?_)<;>(conv=>whnf)
 ·refine hK _ _ _ ?_
  refine tHn ?_
  refine ⟨_,h,?_⟩
  refine aY ?_;conv=>whnf
  exact And.intro rfl (And.intro (aLc (wkr (lsB _)) (aLc (WkR.ptr (fun _=>rfl)) (aLc (WkR.ptr (fun _=>rfl)) (aLc (WkR.ptr (fun _=>rfl)) (aLc (WkR.ptr (fun _=>rfl)) (aLc (wkr (lsL fun _=>(lsI _ _))) (aLc (wkr (lsL fun _=>(lsI _ _))) (aLc wkI (aLc (wkr (lsL fun _=>(lsI _ _))) (aLc (wkr (lsL fun _=>(lsI _ _))) (aLc (wkr (lsL fun _=>(lsI _ _))) (aLc (wkr (lsL fun _=>(lsL fun _=>(lsI _ _)))) (aLc (wkr (lsL fun _=>(lsI _ _))) (aLc (wkr (lsB _)) (aLc (wkr (lsB _)) aLn))))))))))))))) (aLc ⟨some _,rfl,bRc rfl (cKc wkI (cKc (wkr (bI fun _=>(aD _))) cKn))⟩ (aLc ⟨some _,rfl,bRc rfl (cKc wkI (cKc (WkR.tok (fun _=>rfl) rfl (fun _ _=>Wk.refl _) (fun _=>(aD _))) cKn))⟩ (aLc ⟨some _,rfl,bRc rfl (cKc wkI (cKc (wkr (lsL fun _=>(aD _))) cKn))⟩ (aLc ⟨some _,rfl,bRc rfl (cKc wkI (cKc (wkr (lsL fun _=>(aD _))) cKn))⟩ (aLc ⟨some _,rfl,bRc rfl cKn⟩ aLn))))))
 refine hK _ _ _ ?_
 refine tHn ?_
 refine ⟨_,h,?_⟩
 refine aY ?_;conv=>whnf
 exact And.intro rfl (And.intro (aLc (wkr (lsB _)) (aLc (WkR.ptr (fun _=>rfl)) (aLc (WkR.ptr (fun _=>rfl)) (aLc (WkR.ptr (fun _=>rfl)) (aLc (WkR.ptr (fun _=>rfl)) (aLc (wkr (lsL fun _=>(lsI _ _))) (aLc (wkr (lsL fun _=>(lsI _ _))) (aLc wkI (aLc (wkr (lsL fun _=>(lsI _ _))) (aLc (wkr (lsL fun _=>(lsI _ _))) (aLc (wkr (lsL fun _=>(lsI _ _))) (aLc (wkr (lsL fun _=>(lsL fun _=>(lsI _ _)))) (aLc (wkr (lsL fun _=>(lsI _ _))) (aLc (wkr (lsB _)) (aLc (wkr (lsB _)) aLn))))))))))))))) (aLc ⟨some _,rfl,bRc rfl (cKc wkI (cKc (wkr (bI fun _=>(aD _))) cKn))⟩ (aLc ⟨some _,rfl,bRc rfl (cKc wkI (cKc (WkR.tok (fun _=>rfl) rfl (fun _ _=>Wk.refl _) (fun _=>(aD _))) cKn))⟩ (aLc ⟨some _,rfl,bRc rfl (cKc wkI (cKc (wkr (lsL fun _=>(aD _))) cKn))⟩ (aLc ⟨some _,rfl,bRc rfl (cKc wkI (cKc (wkr (lsL fun _=>(aD _))) cKn))⟩ (aLc ⟨some _,rfl,bRc rfl cKn⟩ aLn))))))
theorem uS {T:Tbl} (hT:T 11=aK kC) {args:List AV} {hp:aU} {id:Nat} {k:AV→Prop} {Φ:Bool→Prop} (h:W (kK ) Φ) (hw:WkL args []) (hk:∀ y,Φ y→k (eB y)):dC T 11 args hp id k:=by
 obtain ⟨y,e,hy⟩:=fG h
 exact aX hT ⟨rfl,kY e rfl⟩ (by exact (lsB _)) hw (hk y hy)
theorem aBu {M:List (Nat×Nat)} {q k n:Nat} {b:AB} {α:Type} {ce:α→List AV} {l:List α} {hp:aU} (h1:[q][k]?=some n) (h2:[AB.cells (flE ce l)][k]?=some b) (h:hp q=some (.cells (flE ce l))) (hl:∀ x,∀ a∈ce x,a.loose):∃ b0,hp n=some b0∧BkX (WkB M) b0 b:=by
 cases k with
 | zero=>simp only [List.getElem?_cons_zero,Option.some.injEq] at h1 h2;subst h1 h2;exact ⟨_,h,xO hl l⟩
 | succ k=>simp at h1
theorem qS {T:Tbl} (hT:TOk Tryd.prog T) (hpf:cY T PF):FOk Tryd.prog 60 (xA 1 eI default):=by
 refine aCd hT hpf Tryd.func60 rfl Tryd.ntmps60 Tryd.results60 (by decide) ?_
 rintro args H base r H' ⟨l,rfl,hl,rfl,rfl⟩
 refine ⟨[],[eL 1 eI default l],[],[],[.cells (flE (ceE eI) l)],nle rfl,Nat.zero_le _,nle rfl,.nil,rfl,rfl,.cons (bL (lsL fun _=>(lsI _ _))) .nil,(fun j i b h=>by cases h),(fun k b h=>?_),(fun j=>rfl),(fun i b h=>?_),?_⟩
 ·cases k with
  | zero=>cases h;rfl
  | succ k=>cases h
 ·by_cases e:i=base
  ·subst e;rw [gR] at h;exact .inr (.inr ⟨0,rfl,h⟩)
  ·rw [aI _ _ e] at h;exact .inl ⟨by simp,h⟩
 refine aA dCo rfl fun K hK=>?_;conv=>whnf
 refine hK _ _ _ ?_
 refine aE ?_
 refine aGt rfl rfl rfl rfl rfl rfl Tryd.underlying26 rfl rfl fun b hb=>?_
 cases b
 ·refine aW fun K1 K2 hK1 hK2=>?_;conv=>whnf
  refine hK2 ?_
  refine aH ?_
  refine tHn ?_
  refine aA dCo rfl fun K hK=>?_;conv=>whnf
  refine eK (enc:=eI) (d:=default) (l:=[]) (f:=some) (Φ:=fun _=>True) dCo (kY (a:=[]) (by unfold lt;rfl) trivial) rfl rfl rfl ⟨nle rfl,nle rfl,rfl⟩ rfl trivial (fun _=>?_);conv=>whnf
  refine aHp (enc:=eI) (d:=default) dCo rfl rfl rfl ⟨rfl,nle rfl,nle rfl,nle rfl,rfl⟩ (fun _=>rfl) (fun _=>nofun) hl ?_;conv=>whnf
  refine hK _ _ _ ?_
  refine aP ?_
  refine ⟨_,[256],rfl,by simp,by simp,rfl,aD8 (by simp [mm]),fun j b h=>by simp at h,fun k n b h1 h2=>?_⟩;exact aBu h1 h2 rfl (fun _=>(lsC (lsI _ _) lsN))
 refine aW fun K1 K2 hK1 hK2=>?_;conv=>whnf
 refine hK1 ?_
 refine aA dCo rfl fun K hK=>?_;conv=>whnf
 refine hK _ _ _ ?_
 have hn:=List.length_eq_zero_iff.1 (hb rfl)
 subst hn
 refine xZ rfl (σ':=⟨ofL [(2,.so 64 0 0 1)],ofH [(64,.cells [])],1024⟩) (xY [(64,none)] ⟨WkR.nilso (fun _=>rfl),trivial⟩ ⟨⟨_,rfl,sW⟩,trivial⟩ rfl) ?_
 refine aP ?_
 refine aJ ?_
 refine ⟨_,[64],rfl,by simp,by simp,rfl,aD8 (by simp [mm]),fun j b h=>by simp at h,fun k n b h1 h2=>?_⟩;exact aBu h1 h2 rfl (fun _=>(lsC (lsI _ _) lsN))
theorem aGk:TOk Tryd.prog T0∧cY T0 PF:=⟨aJJ _,aIr _⟩
def aLk:Tbl:=ext T0 69 (aK eG)
theorem aI9:FOk Tryd.prog 69 (aK eG):=sP aGk.1 aGk.2
theorem aAI:TOk Tryd.prog aLk∧cY aLk PF:=⟨bH aGk.1 aI9,bC aGk.2 fun _=>⟨_,rfl⟩⟩
def aLf:Tbl:=ext aLk 85 (aK cP)
theorem aJM:FOk Tryd.prog 85 (aK cP):=nM aAI.1 aAI.2 rfl
theorem zF:TOk Tryd.prog aLf∧cY aLf PF:=⟨bH aAI.1 aJM,bC aAI.2 fun _=>⟨_,rfl⟩⟩
def aLo:Tbl:=ext aLf 68 (aK cR)
theorem aJv:FOk Tryd.prog 68 (aK cR):=lO zF.1 zF.2 rfl
theorem zN:TOk Tryd.prog aLo∧cY aLo PF:=⟨bH zF.1 aJv,bC zF.2 fun _=>⟨_,rfl⟩⟩
def aLv:Tbl:=ext aLo 33 (aK eV)
theorem aKb:FOk Tryd.prog 33 (aK eV):=wD zN.1 zN.2 rfl
theorem aAo:TOk Tryd.prog aLv∧cY aLv PF:=⟨bH zN.1 aKb,bC zN.2 fun _=>⟨_,rfl⟩⟩
def aL4:Tbl:=ext aLv 79 (aK hO)
theorem aKu:FOk Tryd.prog 79 (aK hO):=wB aAo.1 aAo.2
theorem zC:TOk Tryd.prog aL4∧cY aL4 PF:=⟨bH aAo.1 aKu,bC aAo.2 fun _=>⟨_,rfl⟩⟩
def aMl:Tbl:=ext aL4 54 (aK cF)
theorem aJD:FOk Tryd.prog 54 (aK cF):=aAx zC.1 zC.2 rfl rfl
theorem aAt:TOk Tryd.prog aMl∧cY aMl PF:=⟨bH zC.1 aJD,bC zC.2 fun _=>⟨_,rfl⟩⟩
def aLI:Tbl:=ext aMl 81 (itR Tryd.prog (fun x=>[Value.int .i64 x]) eO)
theorem aJP:FOk Tryd.prog 81 (itR Tryd.prog (fun x=>[Value.int .i64 x]) eO):=rA aAt.1 aAt.2
theorem zS:TOk Tryd.prog aLI∧cY aLI PF:=⟨bH aAt.1 aJP,bC aAt.2 (fun h=>by cases h)⟩
def aLR:Tbl:=ext aLI 80 (aCO pT kQ dJ)
theorem aJA:FOk Tryd.prog 80 (aCO pT kQ dJ):=nX zS.1 zS.2 rfl
theorem aAn:TOk Tryd.prog aLR∧cY aLR PF:=⟨bH zS.1 aJA,bC zS.2 (fun h=>by cases h)⟩
def aLP:Tbl:=ext aLR 55 (aCO pT kQ dZ)
theorem aKR:FOk Tryd.prog 55 (aCO pT kQ dZ):=pB aAn.1 aAn.2 rfl
theorem aAf:TOk Tryd.prog aLP∧cY aLP PF:=⟨bH aAn.1 aKR,bC aAn.2 (fun h=>by cases h)⟩
def aMc:Tbl:=ext aLP 56 (aK dX)
theorem aJj:FOk Tryd.prog 56 (aK dX):=tB aAf.1 aAf.2
theorem yY:TOk Tryd.prog aMc∧cY aMc PF:=⟨bH aAf.1 aJj,bC aAf.2 fun _=>⟨_,rfl⟩⟩
def aLu:Tbl:=ext aMc 18 (aK fR)
theorem aKJ:FOk Tryd.prog 18 (aK fR):=sR yY.1 yY.2 rfl rfl rfl
theorem yA:TOk Tryd.prog aLu∧cY aLu PF:=⟨bH yY.1 aKJ,bC yY.2 fun _=>⟨_,rfl⟩⟩
def aLE:Tbl:=ext aLu 57 (aK gM)
theorem aKI:FOk Tryd.prog 57 (aK gM):=yD yA.1 yA.2
theorem aAu:TOk Tryd.prog aLE∧cY aLE PF:=⟨bH yA.1 aKI,bC yA.2 fun _=>⟨_,rfl⟩⟩
def aMa:Tbl:=ext aLE 19 (aK kM)
theorem aKS:FOk Tryd.prog 19 (aK kM):=yR aAu.1 aAu.2 rfl rfl
theorem aAh:TOk Tryd.prog aMa∧cY aMa PF:=⟨bH aAu.1 aKS,bC aAu.2 fun _=>⟨_,rfl⟩⟩
def aLt:Tbl:=ext aMa 20 (aK jB)
theorem aJd:FOk Tryd.prog 20 (aK jB):=wU aAh.1 aAh.2 rfl rfl rfl
theorem xW:TOk Tryd.prog aLt∧cY aLt PF:=⟨bH aAh.1 aJd,bC aAh.2 fun _=>⟨_,rfl⟩⟩
def aLl:Tbl:=ext aLt 22 (aK iC)
theorem aKt:FOk Tryd.prog 22 (aK iC):=vB xW.1 xW.2 rfl
theorem yP:TOk Tryd.prog aLl∧cY aLl PF:=⟨bH xW.1 aKt,bC xW.2 fun _=>⟨_,rfl⟩⟩
def aLJ:Tbl:=ext aLl 58 (aK fW)
theorem aKf:FOk Tryd.prog 58 (aK fW):=vG yP.1 yP.2
theorem yK:TOk Tryd.prog aLJ∧cY aLJ PF:=⟨bH yP.1 aKf,bC yP.2 fun _=>⟨_,rfl⟩⟩
def aLy:Tbl:=ext aLJ 24 (aK iW)
theorem aKm:FOk Tryd.prog 24 (aK iW):=wM yK.1 yK.2 rfl rfl
theorem aAa:TOk Tryd.prog aLy∧cY aLy PF:=⟨bH yK.1 aKm,bC yK.2 fun _=>⟨_,rfl⟩⟩
def aL7:Tbl:=ext aLy 25 (aK iB)
theorem aJg:FOk Tryd.prog 25 (aK iB):=uP aAa.1 aAa.2 rfl rfl
theorem yN:TOk Tryd.prog aL7∧cY aL7 PF:=⟨bH aAa.1 aJg,bC aAa.2 fun _=>⟨_,rfl⟩⟩
def aLW:Tbl:=ext aL7 26 (aK kL)
theorem aIR:FOk Tryd.prog 26 (aK kL):=zW yN.1 yN.2
theorem aAq:TOk Tryd.prog aLW∧cY aLW PF:=⟨bH yN.1 aIR,bC yN.2 fun _=>⟨_,rfl⟩⟩
def aLe:Tbl:=ext aLW 27 (aK eR)
theorem aJ8:FOk Tryd.prog 27 (aK eR):=wA aAq.1 aAq.2 rfl
theorem aAp:TOk Tryd.prog aLe∧cY aLe PF:=⟨bH aAq.1 aJ8,bC aAq.2 fun _=>⟨_,rfl⟩⟩
def aMg:Tbl:=ext aLe 28 (aK iF)
theorem aI8:FOk Tryd.prog 28 (aK iF):=uV aAp.1 aAp.2 rfl rfl
theorem aAG:TOk Tryd.prog aMg∧cY aMg PF:=⟨bH aAp.1 aI8,bC aAp.2 fun _=>⟨_,rfl⟩⟩
def aLs:Tbl:=ext aMg 59 (qH (pE 10))
theorem aKT:FOk Tryd.prog 59 (qH (pE 10)):=aIe aAG.1 aAG.2
theorem zR:TOk Tryd.prog aLs∧cY aLs PF:=⟨bH aAG.1 aKT,bC aAG.2 (fun h=>by cases h)⟩
def aL2:Tbl:=ext aLs 60 (xA 1 eI default)
theorem aJ9:FOk Tryd.prog 60 (xA 1 eI default):=qS zR.1 zR.2
theorem yQ:TOk Tryd.prog aL2∧cY aL2 PF:=⟨bH zR.1 aJ9,bC zR.2 (fun h=>by cases h)⟩
def aLm:Tbl:=ext aL2 29 (aK jF)
theorem aIW:FOk Tryd.prog 29 (aK jF):=wV yQ.1 yQ.2 rfl rfl rfl
theorem zU:TOk Tryd.prog aLm∧cY aLm PF:=⟨bH yQ.1 aIW,bC yQ.2 fun _=>⟨_,rfl⟩⟩
def aLO:Tbl:=ext aLm 87 (aK cN)
theorem aIX:FOk Tryd.prog 87 (aK cN):=lG zU.1 zU.2
theorem xX:TOk Tryd.prog aLO∧cY aLO PF:=⟨bH zU.1 aIX,bC zU.2 fun _=>⟨_,rfl⟩⟩
def aLz:Tbl:=ext aLO 82 (aK cX)
theorem aKs:FOk Tryd.prog 82 (aK cX):=mH xX.1 xX.2 rfl
theorem zQ:TOk Tryd.prog aLz∧cY aLz PF:=⟨bH xX.1 aKs,bC xX.2 fun _=>⟨_,rfl⟩⟩
def aLq:Tbl:=ext aLz 61 (aK hG)
theorem aJF:FOk Tryd.prog 61 (aK hG):=uM zQ.1 zQ.2 rfl
theorem zE:TOk Tryd.prog aLq∧cY aLq PF:=⟨bH zQ.1 aJF,bC zQ.2 fun _=>⟨_,rfl⟩⟩
def aLh:Tbl:=ext aLq 62 (aK kF)
theorem aKV:FOk Tryd.prog 62 (aK kF):=aAF zE.1 zE.2
theorem yO:TOk Tryd.prog aLh∧cY aLh PF:=⟨bH zE.1 aKV,bC zE.2 fun _=>⟨_,rfl⟩⟩
def aMb:Tbl:=ext aLh 83 (aK gI)
theorem aJb:FOk Tryd.prog 83 (aK gI):=tU yO.1 yO.2
theorem zB:TOk Tryd.prog aMb∧cY aMb PF:=⟨bH yO.1 aJb,bC yO.2 fun _=>⟨_,rfl⟩⟩
def aLg:Tbl:=ext aMb 63 (aK eF)
theorem aJ1:FOk Tryd.prog 63 (aK eF):=rL zB.1 zB.2 rfl
theorem zG:TOk Tryd.prog aLg∧cY aLg PF:=⟨bH zB.1 aJ1,bC zB.2 fun _=>⟨_,rfl⟩⟩
def aLr:Tbl:=ext aLg 64 (aK dY)
theorem aIV:FOk Tryd.prog 64 (aK dY):=pO zG.1 zG.2 rfl
theorem aAy:TOk Tryd.prog aLr∧cY aLr PF:=⟨bH zG.1 aIV,bC zG.2 fun _=>⟨_,rfl⟩⟩
def aLT:Tbl:=ext aLr 30 (aK eE)
theorem aJL:FOk Tryd.prog 30 (aK eE):=rQ aAy.1 aAy.2 rfl rfl rfl rfl rfl
theorem yZ:TOk Tryd.prog aLT∧cY aLT PF:=⟨bH aAy.1 aJL,bC aAy.2 fun _=>⟨_,rfl⟩⟩
def aLw:Tbl:=ext aLT 65 (qH (lD 10))
theorem aIO:FOk Tryd.prog 65 (qH (lD 10)):=aFi yZ.1 yZ.2
theorem zH:TOk Tryd.prog aLw∧cY aLw PF:=⟨bH yZ.1 aIO,bC yZ.2 (fun h=>by cases h)⟩
def aL9:Tbl:=ext aLw 31 (aK gP)
theorem aKk:FOk Tryd.prog 31 (aK gP):=wT zH.1 zH.2 rfl rfl rfl
theorem aAE:TOk Tryd.prog aL9∧cY aL9 PF:=⟨bH zH.1 aKk,bC zH.2 fun _=>⟨_,rfl⟩⟩
def aLx:Tbl:=ext aL9 84 (qH wI)
theorem aKn:FOk Tryd.prog 84 (qH wI):=yI aAE.1 aAE.2
theorem zP:TOk Tryd.prog aLx∧cY aLx PF:=⟨bH aAE.1 aKn,bC aAE.2 (fun h=>by cases h)⟩
def aLD:Tbl:=ext aLx 67 (qH lJ)
theorem aKD:FOk Tryd.prog 67 (qH lJ):=aB2 zP.1 zP.2 rfl
theorem yC:TOk Tryd.prog aLD∧cY aLD PF:=⟨bH zP.1 aKD,bC zP.2 (fun h=>by cases h)⟩
def aL6:Tbl:=ext aLD 66 (qH (iJ 10))
theorem aKz:FOk Tryd.prog 66 (qH (iJ 10)):=aEk yC.1 yC.2 rfl
theorem aAv:TOk Tryd.prog aL6∧cY aL6 PF:=⟨bH yC.1 aKz,bC yC.2 (fun h=>by cases h)⟩
def aK5:Tbl:=ext aL6 32 (aK jI)
theorem aKQ:FOk Tryd.prog 32 (aK jI):=wN aAv.1 aAv.2 rfl rfl rfl
theorem zO:TOk Tryd.prog aK5∧cY aK5 PF:=⟨bH aAv.1 aKQ,bC aAv.2 fun _=>⟨_,rfl⟩⟩
def aMi:Tbl:=ext aK5 34 (aK jH)
theorem aJN:FOk Tryd.prog 34 (aK jH):=wR zO.1 zO.2 rfl
theorem yG:TOk Tryd.prog aMi∧cY aMi PF:=⟨bH zO.1 aJN,bC zO.2 fun _=>⟨_,rfl⟩⟩
def aK4:Tbl:=ext aMi 36 (aK kI)
theorem aJy:FOk Tryd.prog 36 (aK kI):=aAs yG.1 yG.2
theorem aAH:TOk Tryd.prog aK4∧cY aK4 PF:=⟨bH yG.1 aJy,bC yG.2 fun _=>⟨_,rfl⟩⟩
def aLA:Tbl:=ext aK4 11 (aK kC)
theorem aJY:FOk Tryd.prog 11 (aK kC):=yX aAH.1 aAH.2 rfl rfl rfl rfl rfl rfl rfl rfl rfl rfl rfl rfl rfl rfl rfl rfl
theorem aAL:TOk Tryd.prog aLA∧cY aLA PF:=⟨bH aAH.1 aJY,bC aAH.2 fun _=>⟨_,rfl⟩⟩
def aLL:Tbl:=ext aLA 37 (aK iR)
theorem aI5:FOk Tryd.prog 37 (aK iR):=yB aAL.1 aAL.2
theorem aAg:TOk Tryd.prog aLL∧cY aLL PF:=⟨bH aAL.1 aI5,bC aAL.2 fun _=>⟨_,rfl⟩⟩
def aMd:Tbl:=ext aLL 17 (aCO jK eZ iZ)
theorem aIM:FOk Tryd.prog 17 (aCO jK eZ iZ):=wL aAg.1 aAg.2 rfl
theorem aAb:TOk Tryd.prog aMd∧cY aMd PF:=⟨bH aAg.1 aIM,bC aAg.2 (fun h=>by cases h)⟩
def aMh:Tbl:=ext aMd 12 (aK kD)
theorem aIS:FOk Tryd.prog 12 (aK kD):=aAC aAb.1 aAb.2 rfl rfl
theorem yU:TOk Tryd.prog aMh∧cY aMh PF:=⟨bH aAb.1 aIS,bC aAb.2 fun _=>⟨_,rfl⟩⟩
def aK9:Tbl:=ext aMh 13 (aK iO)
theorem aI7:FOk Tryd.prog 13 (aK iO):=yF yU.1 yU.2
theorem aAd:TOk Tryd.prog aK9∧cY aK9 PF:=⟨bH yU.1 aI7,bC yU.2 fun _=>⟨_,rfl⟩⟩
def aLG:Tbl:=ext aK9 23 (aK nG)
theorem aJ2:FOk Tryd.prog 23 (aK nG):=aCc aAd.1 aAd.2
theorem aAD:TOk Tryd.prog aLG∧cY aLG PF:=⟨bH aAd.1 aJ2,bC aAd.2 fun _=>⟨_,rfl⟩⟩
def aLV:Tbl:=ext aLG 21 (aK mW)
theorem aJw:FOk Tryd.prog 21 (aK mW):=vE aAD.1 aAD.2 rfl rfl rfl
theorem yJ:TOk Tryd.prog aLV∧cY aLV PF:=⟨bH aAD.1 aJw,bC aAD.2 fun _=>⟨_,rfl⟩⟩
def aLY:Tbl:=ext aLV 70 (aK iH)
theorem aIN:FOk Tryd.prog 70 (aK iH):=vO yJ.1 yJ.2
theorem xV:TOk Tryd.prog aLY∧cY aLY PF:=⟨bH yJ.1 aIN,bC yJ.2 fun _=>⟨_,rfl⟩⟩
def aMu:Tbl:=ext aLY 35 (aK oM)
theorem aKE:FOk Tryd.prog 35 (aK oM):=wQ xV.1 xV.2 rfl
theorem aFe:TOk Tryd.prog aMu∧cY aMu PF:=⟨bH xV.1 aKE,bC xV.2 fun _=>⟨_,rfl⟩⟩
theorem aLj:Opn Tryd.prog 3 eI okI:=aKU Tryd.underlying3
theorem aLa:aIY Tryd.prog 3 eI:=.inr ⟨by rfl,fun _=>⟨rfl,rfl⟩⟩
theorem aHL:OpV Tryd.prog 3 eI okI:=aGP aLj aLa fun _=>aHI Tryd.underlying3
def aDf (x:Int×Int):Prop:=okI x.1∧okI x.2
theorem aLN:Opn Tryd.prog 46 jW aDf:=by
 refine aGa (β:=Int×Int×Unit) (fs:=[(3,0),(3,1)]) Tryd.underlying46 (by kernel_rfl) (by kernel_rfl) (aBj (sz:=1) aLj (by kernel_rfl) rfl (aBj (sz:=1) aLj (by kernel_rfl) rfl aGy)) (fun p=>(p.1,p.2.1)) (fun _=>rfl) ?_
 intro p h
 exact ⟨h.1,h.2.1⟩
theorem aKH:aIY Tryd.prog 46 jW:=.inl ⟨by rfl,fun _=>rfl⟩
theorem aMj:Opn Tryd.prog 22 (eL 2 jW default) (okL aDf):=aGB Tryd.underlying22 (by kernel_rfl) (by decide) aLN aKH
theorem aKO:aIY Tryd.prog 22 (eL 2 jW default):=.inr ⟨by rfl,fun _=>⟨rfl,rfl⟩⟩
theorem aJi:OpV Tryd.prog 22 (eL 2 jW default) (okL aDf):=aGP aMj aKO fun _=>aD7 Tryd.underlying22
end Go.Proofs.YtlmboonbfhkfnaaDoor
