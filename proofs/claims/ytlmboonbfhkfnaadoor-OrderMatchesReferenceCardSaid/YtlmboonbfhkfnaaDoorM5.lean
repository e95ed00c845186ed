import Derived.Test.YtlmboonbfhkfnaaDoorM4
import Derived.Test.YtlmboonbfhkfnaaDoorM3
set_option linter.unusedVariables false
set_option linter.unusedSimpArgs false
set_option linter.unusedSectionVars false
namespace Go.Proofs.YtlmboonbfhkfnaaDoor
open Go Go.Eng
set_option maxRecDepth 100000
set_option maxHeartbeats 0
set_option maxHeartbeats 0
set_option maxRecDepth 100000
  def jL (a0:aE) (y1:(Ar 8)×Bool) (s2:Int×Int×(Ar 8)):Option (Ct (Int×Int×(Ar 8)) ((List (List Int))×Int)):=cn (decide (s2.1<a0.N)) (bd (uM 10 s2.1 a0 y1.1 s2.2.2 0) fun y3=>
  some (.nx ((wr (s2.1+1)),y3.2.2,y3.2.1))) (some (.bk (s2.1,s2.2.1,s2.2.2)))
def lP (i x:Int) (place:GM Int) (k:Int) (out:List (List Int)):Option (Ct (Int×(GM Int)×(List (List Int))) ((List (List Int))×Int)):=
 gd (out.length≤8) (gd (0≤k∧k<(out.length:Int)) (ap (out.getD k.toNat default) [x] fun l=>some (.nx (wr (i+1),place.put x k,out.set k.toNat l))))
def lT (m5:Ar 8) (l7:List Int) (s:Int×(GM Int)×(List (List Int))):Option (Ct (Int×(GM Int)×(List (List Int))) ((List (List Int))×Int)):=cn (decide (s.1<(l7.length:Int))) (ix l7 default s.1 fun e=>gd (0≤e∧e<(8:Int)) (cn (!(s.2.1.has (wr ((m5.at1 e)-1)))) (gd (s.2.2.length≤7) (lP s.1 e s.2.1 (s.2.2.length:Int) (s.2.2++[[]])))
  (lP s.1 e s.2.1 (s.2.1.get (wr ((m5.at1 e)-1)) 0) s.2.2))) (some (.bk s))
def fJ (a0:aE):Option ((List (List Int))×Int):=bd (bS a0) fun y1=>
  cn (!y1.2) (some ([],70)) (bd (lp (jL a0 y1) FU (0,0,(Ar.zero 8))) fun c4=>smK c4 (fun s5=>bd (kV a0.N y1.1) fun y7=>bd (lp (lT s5.2.2 y7) FU (0,GM.mt Int,[])) fun c8=>smK c8 (fun s9=>gd (s9.2.2.length≤8) (some (s9.2.2,0))) (fun r10=>some r10)) (fun r6=>
  some r6))
def nI:List AV→AV→Prop:=fun args r=>∃ a0,args=[bF a0]∧W (fJ a0) fun y=>r=(.tup [(eL 1 (eL 1 eI default) default) y.1,eI y.2])
theorem aCg {T:Tbl} (hT:TOk Tryd.prog T) (hpf:cP T PF) (h54:T 54=aH dJ) (h57:T 57=aH mN) (h65:T 65=wS (rW 10)):FOk Tryd.prog 31 (aH nI):=by
 refine bM hT hpf Tryd.func31 rfl Tryd.ntmps31 Tryd.results31 (by decide) ?_
 rintro args r ⟨a0,rfl,h⟩
 refine ⟨nle rfl,?_,?_⟩
 ·exact (lsC (bT _) lsN)
 rw [fJ.eq_1] at h
 refine aC dCo rfl fun K hK=>?_;conv=>whnf
 refine hK _ _ _ ?_
 refine aC dCo rfl fun K hK=>?_;conv=>whnf
 refine nlA rfl ?_;conv=>whnf
 refine bKo rfl ?_;conv=>whnf
 refine nlA rfl ?_;conv=>whnf
 replace h:=bL h
 refine dH h54 h (WkL.refl _) (fun _ h=>?_);conv=>whnf
 refine aL ?_;conv=>whnf
 refine aL ?_;conv=>whnf
 refine aL ?_;conv=>whnf
 refine bKo rfl ?_;conv=>whnf
 refine vY rfl rfl rfl ?_;conv=>whnf
 refine hK _ _ _ ?_
 refine aF ?_
 refine aC dCo rfl fun K hK=>?_;conv=>whnf
 refine hK _ _ _ ?_
 refine aW fun K1 K2 hK1 hK2=>?_;conv=>whnf
 refine cLk h (fun _ h=>?_) (fun _ h=>?_)
 ·refine hK1 ?_
  refine aC dCo rfl fun K hK=>?_;conv=>whnf
  refine hK _ _ _ ?_
  refine aP ?_
  refine aQ ?_
  replace h:=aO h
  refine aK dCo fun K hK=>?_;conv=>whnf
  refine hK _ ?_
  cases h
  exact mL (aD iO (aD (Wk.refl _) bE))
 refine hK2 ?_
 refine aG ?_
 refine tHn ?_
 refine aC dCo rfl fun K hK=>?_;conv=>whnf
 refine hK _ _ _ ?_
 refine aC dCo rfl fun K hK=>?_;conv=>whnf
 refine hK _ _ _ ?_
 refine aC dCo rfl fun K hK=>?_;conv=>whnf
 refine hK _ _ _ ?_
 refine sH 1 ?_;(conv=>whnf);refine ⟨_,rfl,?_⟩
 refine sH 4 ?_;(conv=>whnf);refine ⟨_,rfl,?_⟩
 refine aC dCo rfl fun K hK=>?_;conv=>whnf
 refine bKo rfl ?_;conv=>whnf
 refine And.intro rfl (And.intro (nle rfl) (And.intro rfl ?_));conv=>whnf
 refine hK _ _ _ ?_
 refine aF ?_
 refine aC dCo rfl fun K hK=>?_;conv=>whnf
 refine gKo rfl ?_;conv=>whnf
 refine hK _ _ _ ?_
 refine aJ ?_
 replace h:=bL h
 refine cY (body:=jL _ _) rfl h [1,4,6,7,8,25] [8] [] [7,6] (fun kl kh kr ids b s=>⟨ofL ([(26,eI s.1)]++kl),ofH (([(xW ids 0,.cells [eI s.2.1])]++kh)++([(xW ids 1,.cells (cA s.2.2))]++kr)),b+128⟩) ?_;(conv=>whnf);refine And.intro ?_ (fun s m h=>cR ?_)
 ·refine aR ?_;conv=>whnf
  exact And.intro rfl (And.intro (aLc wkI (aLc (wkr (lsE (lsC (lsI _ _) (lsC (lsL fun _=>(aI _)) lsN)))) (aLc (wkr (lsE (bD _))) (aLc (WkR.ptr (fun _=>rfl)) (aLc (WkR.ptr (fun _=>rfl)) (aLc (WkR.ptr (fun _=>rfl)) (aLc wkI aLn))))))) (aLc ⟨some _,rfl,bRc rfl (cKc wkI cKn)⟩ (aLc ⟨some _,rfl,bRc rfl (cKc (jX bV (aM (wkr (lsE (lsC (lsI _ _) (lsC (lsL fun _=>(aI _)) lsN)))) (aM (wkr (lsE (bD _))) (aM (WkR.ptr (fun _=>rfl)) (aM (WkR.ptr (fun _=>rfl)) (aM (WkR.ptr (fun _=>rfl)) bV)))))) cKn)⟩ (aLc ⟨some _,rfl,bO (x:=(Ar.zero 8)) rfl rfl⟩ aLn))))
 replace h:=bL h;rw [jL.eq_1] at h
 refine aC dCo rfl fun K hK=>?_;conv=>whnf
 refine hK _ _ _ ?_
 refine aF ?_
 refine aW fun K1 K2 hK1 hK2=>?_;conv=>whnf
 refine cLk h (fun _ h=>?_) (fun _ h=>?_)
 ·refine hK1 ?_
  refine aG ?_
  refine tHn ?_
  refine aF ?_
  refine aJ ?_
  refine aC dCo rfl fun K hK=>?_;conv=>whnf
  refine hK _ _ _ ?_
  refine aC dCo rfl fun K hK=>?_;conv=>whnf
  refine bKo rfl ?_;conv=>whnf
  refine And.intro rfl (And.intro (nle rfl) (And.intro rfl ?_));conv=>whnf
  refine hK _ _ _ ?_
  refine bY dCo rfl fun K hK=>?_;conv=>whnf
  refine nlA rfl ?_;conv=>whnf
  refine bKo rfl ?_;conv=>whnf
  refine gKo rfl ?_;conv=>whnf
  refine fQ (bs:=[.ab _,.ab _,.fn 65 [.v _,.v _,.p 1,.p 0,.p 2]]) (args0:=[_,_,_,.ptr 1 0,.ptr 0 0,.ptr 2 0]) h65 [_,_,_] h (.cons (yD (Wk.refl _) (lsI _ _)) (.cons (cM (lsE (lsC (lsI _ _) (lsC (lsL fun _=>(aI _)) lsN)))) (.cons (cM (lsE (bD _))) (.cons (jJ rfl) (.cons (jJ rfl) (.cons (jJ rfl) .nil)))))) ⟨⟨_,rfl,bkW _⟩,⟨_,rfl,bkW _⟩,rfl,trivial⟩ rfl (nle rfl) (fun y e=>(⟨_,_,_,_,_,_,rfl,rfl,e,rfl,rfl⟩:rW 10 _ _ _ _)) (fun _ h=>?_);conv=>whnf
  refine hK _ _ _ ?_
  refine iBn ?_
  refine tHn ?_
  refine bY dCo rfl fun K hK=>?_;conv=>whnf
  refine hK _ _ _ ?_
  refine tHn ?_
  replace h:=bK h
  refine ⟨_,h,?_⟩
  refine aR ?_;conv=>whnf
  exact And.intro rfl (And.intro (aLc wkI (aLc (wkr (lsE (lsC (lsI _ _) (lsC (lsL fun _=>(aI _)) lsN)))) (aLc (wkr (lsE (bD _))) (aLc (WkR.ptr (fun _=>rfl)) (aLc (WkR.ptr (fun _=>rfl)) (aLc (WkR.ptr (fun _=>rfl)) (aLc wkI aLn))))))) (aLc ⟨some _,rfl,bRc rfl (cKc wkI cKn)⟩ (aLc ⟨some _,rfl,bRc rfl (cKc (jX bV (aM (wkr (lsE (lsC (lsI _ _) (lsC (lsL fun _=>(aI _)) lsN)))) (aM (wkr (lsE (bD _))) (aM (WkR.ptr (fun _=>rfl)) (aM (WkR.ptr (fun _=>rfl)) (aM (WkR.ptr (fun _=>rfl)) bV)))))) cKn)⟩ (aLc ⟨some _,rfl,bO rfl rfl⟩ aLn))))
 refine hK2 ?_
 refine bI ?_
 refine aT ?_
 refine aT ?_
 refine aS ?_
 replace h:=cV h
 replace h:=cU h
 refine tHn ?_
 refine aC dCo rfl fun K hK=>?_;conv=>whnf
 refine hK _ _ _ ?_
 refine aC dCo rfl fun K hK=>?_;conv=>whnf
 refine hK _ _ _ ?_
 refine aF ?_
 refine aC dCo rfl fun K hK=>?_;conv=>whnf
 refine gKo rfl ?_;conv=>whnf
 refine yH rfl ?_;conv=>whnf
 refine aL ?_;conv=>whnf
 replace h:=bL h
 refine sO h57 h (WkL.refl _) (fun _ h=>?_);conv=>whnf
 refine hK _ _ _ ?_
 refine aJ ?_
 replace h:=bL h
 refine cY (body:=lT _ _) rfl h [6,11,37,38] [] [6] [11] (fun kl kh kr ids b s=>⟨ofL ([(39,eI s.1),(10,.so (b+512) 0 s.2.2.length 1)]++kl),ofH (([(xW ids 0,abM eI s.2.1),(b+0,.cells []),(b+64,.cells []),(b+128,.cells []),(b+192,.cells []),(b+256,.cells []),(b+320,.cells []),(b+384,.cells []),(b+448,.cells [])]++kh)++([(b+512,.cells (oC [b+0,b+64,b+128,b+192,b+256,b+320,b+384,b+448] s.2.2))]++kr)),b+576⟩) ?_;(conv=>whnf);refine And.intro ?_ (fun s m h=>cR ?_)
 ·refine dQ aSt ?_;conv=>whnf
  exact And.intro rfl (And.intro (aLc wkI (aLc (WkR.nilso (fun _=>rfl)) (aLc (WkR.ptr (fun _=>rfl)) (aLc (WkR.mp (fun _=>rfl)) (aLc (wkr (lsL fun _=>(lsI _ _))) (aLc wkI aLn)))))) (aLc ⟨some _,rfl,pQ (enc:=eI) (m:=(GM.mt Int)) rfl (fun _=>(lsI _ _))⟩ (aLc ⟨none,rfl,oH⟩ (aLc ⟨none,rfl,oH⟩ (aLc ⟨none,rfl,oH⟩ (aLc ⟨none,rfl,oH⟩ (aLc ⟨none,rfl,oH⟩ (aLc ⟨none,rfl,oH⟩ (aLc ⟨none,rfl,oH⟩ (aLc ⟨none,rfl,oH⟩ (aLc ⟨none,rfl,aKe⟩ (aLc ⟨some _,rfl,bO rfl rfl⟩ aLn))))))))))))
 replace h:=bL h;rw [lT.eq_1] at h
 refine aC dCo rfl fun K hK=>?_;conv=>whnf
 refine hK _ _ _ ?_
 refine aF ?_
 refine aW fun K1 K2 hK1 hK2=>?_;conv=>whnf
 refine cLk h (fun _ h=>?_) (fun _ h=>?_)
 ·refine hK1 ?_
  refine aG ?_
  refine tHn ?_
  refine aF ?_
  refine aJ ?_
  refine aC dCo rfl fun K hK=>?_;conv=>whnf
  refine dD h fun _ h=>?_;conv=>whnf
  refine gKo rfl ?_;conv=>whnf
  refine hK _ _ _ ?_
  refine aC dCo rfl fun K hK=>?_;conv=>whnf
  refine bW h fun hx h=>?_;conv=>whnf
  refine nlA rfl ?_;conv=>whnf
  refine bKo rfl ?_;conv=>whnf
  refine iM rfl hx ?_;conv=>whnf
  refine aLK (enc:=eI) dCo rfl (0:Int) rfl rfl (nle rfl) ?_;conv=>whnf
  refine hK _ _ _ ?_
  refine aF ?_
  refine aC dCo rfl fun K hK=>?_;conv=>whnf
  refine hK _ _ _ ?_
  refine aW fun K1 K2 hK1 hK2=>?_;conv=>whnf
  refine cLk h (fun _ h=>?_) (fun _ h=>?_)
  ·refine hK1 ?_
   obtain ⟨h7,h⟩:=vE h
   refine aC dCo rfl fun K hK=>?_;conv=>whnf
   refine hK _ _ _ ?_
   refine bY dCo rfl fun K hK=>?_;conv=>whnf
   refine dL (enc:=fun (_:Unit)=>AV.nils) (d:=()) (l:=[()]) (f:=fun _=>some ()) (Φ:=fun _=>True) dCo (nN _) rfl rfl rfl ⟨nle rfl,nle rfl,rfl⟩ rfl ⟨⟨rfl,rfl,rfl⟩,trivial⟩ (fun _=>?_);conv=>whnf
   refine aRi dCo rfl rfl rfl ⟨rfl,nle rfl,nle rfl,rfl⟩ rfl rfl (by omega) rfl ?_;conv=>whnf
   refine hK _ _ _ ?_
   refine tHn ?_
   replace h:=lP.eq_1 _ _ _ _ _ ▸ h
   obtain ⟨h8,h⟩:=vE h
   obtain ⟨hk,h⟩:=vE h
   have hj:(_:Int).toNat<_:=(Int.toNat_lt hk.1).2 hk.2
   generalize hkk:(s.2.2.length:Int)=kk at h hk hj ⊢
   have hc:kk=0∨kk=1∨kk=2∨kk=3∨kk=4∨kk=5∨kk=6∨kk=7:=by omega
   rcases hc with rfl | rfl | rfl | rfl | rfl | rfl | rfl | rfl
   ·refine vT 10 (out:=s.2.2) rfl rfl (by rw [show s.2.2.length=0 by omega];exact ⟨_,_,rfl,rfl⟩) ?_
    refine aC dCo rfl fun K hK=>?_;conv=>whnf
    refine And.intro ⟨by omega,by simp only [List.length_append,List.length_cons,List.length_nil] at *;omega⟩ ?_;conv=>whnf
    refine nlA rfl ?_;conv=>whnf
    refine bKo rfl ?_;conv=>whnf
    refine gKo (gL (j:=0) rfl hj) ?_;conv=>whnf
    refine dL (enc:=eI) (d:=default) (l:=[_]) (f:=fun _=>some ()) (Φ:=fun _=>True) dCo (nN _) rfl rfl rfl ⟨nle rfl,nle rfl,rfl⟩ rfl ⟨⟨rfl,rfl,rfl⟩,trivial⟩ (fun _=>?_);conv=>whnf
    refine gX (enc:=eI) (d:=default) dCo h (.inl rfl) rfl rfl rfl ⟨rfl,nle rfl,nle rfl,nle rfl,rfl⟩ (fun _=>rfl) (.inr (.inr ⟨_,_,rfl,rfl,rfl⟩)) (fun h=>?_);conv=>whnf
    refine And.intro ⟨by omega,by simp only [List.length_append,List.length_cons,List.length_nil] at *;omega⟩ ?_;conv=>whnf
    refine bKo rfl ?_;conv=>whnf
    refine nV (j:=0) (nle rfl) hj rfl rfl rfl rfl ?_;conv=>whnf
    refine hK _ _ _ ?_
    refine bY dCo rfl fun K hK=>?_;conv=>whnf
    refine kZ (enc:=eI) dCo rfl rfl ?_;conv=>whnf
    refine hK _ _ _ ?_
    refine iBn ?_
    refine tHn ?_
    refine bY dCo rfl fun K hK=>?_;conv=>whnf
    refine hK _ _ _ ?_
    refine tHn ?_
    replace h:=bK h
    refine ⟨_,h,?_⟩
    refine dQ (xB 32 0 0) ?_;conv=>whnf
    exact And.intro rfl (And.intro (aLc wkI (aLc (WkR.soN (fun _=>rfl) (by simp)) (aLc (WkR.ptr (fun _=>rfl)) (aLc (WkR.mp (fun _=>rfl)) (aLc (wkr (lsL fun _=>(lsI _ _))) (aLc wkI aLn)))))) (aLc ⟨some _,rfl,pQ (enc:=eI) rfl (fun _=>(lsI _ _))⟩ (aLc ⟨some _,rfl,bRc rfl cKn⟩ (aLc ⟨some _,rfl,bRc rfl cKn⟩ (aLc ⟨some _,rfl,bRc rfl cKn⟩ (aLc ⟨some _,rfl,bRc rfl cKn⟩ (aLc ⟨some _,rfl,bRc rfl cKn⟩ (aLc ⟨some _,rfl,bRc rfl cKn⟩ (aLc ⟨some _,rfl,bRc rfl cKn⟩ (aLc ⟨some _,rfl,bRc rfl cKn⟩ (aLc ⟨some _,rfl,iC rfl ⟨fun _=>rfl,fun _=>rfl,fun _=>rfl,fun _=>rfl,fun _=>rfl,fun _=>rfl,fun _=>rfl,fun _=>rfl,trivial⟩⟩ (aLc ⟨some _,rfl,bO rfl rfl⟩ aLn))))))))))))
   ·refine vT 10 (out:=s.2.2) rfl rfl (by rw [show s.2.2.length=1 by omega];exact ⟨_,_,rfl,rfl⟩) ?_
    refine aC dCo rfl fun K hK=>?_;conv=>whnf
    refine And.intro ⟨by omega,by simp only [List.length_append,List.length_cons,List.length_nil] at *;omega⟩ ?_;conv=>whnf
    refine nlA rfl ?_;conv=>whnf
    refine bKo rfl ?_;conv=>whnf
    refine gKo (gL (j:=1) rfl hj) ?_;conv=>whnf
    refine dL (enc:=eI) (d:=default) (l:=[_]) (f:=fun _=>some ()) (Φ:=fun _=>True) dCo (nN _) rfl rfl rfl ⟨nle rfl,nle rfl,rfl⟩ rfl ⟨⟨rfl,rfl,rfl⟩,trivial⟩ (fun _=>?_);conv=>whnf
    refine gX (enc:=eI) (d:=default) dCo h (.inl rfl) rfl rfl rfl ⟨rfl,nle rfl,nle rfl,nle rfl,rfl⟩ (fun _=>rfl) (.inr (.inr ⟨_,_,rfl,rfl,rfl⟩)) (fun h=>?_);conv=>whnf
    refine And.intro ⟨by omega,by simp only [List.length_append,List.length_cons,List.length_nil] at *;omega⟩ ?_;conv=>whnf
    refine bKo rfl ?_;conv=>whnf
    refine nV (j:=1) (nle rfl) hj rfl rfl rfl rfl ?_;conv=>whnf
    refine hK _ _ _ ?_
    refine bY dCo rfl fun K hK=>?_;conv=>whnf
    refine kZ (enc:=eI) dCo rfl rfl ?_;conv=>whnf
    refine hK _ _ _ ?_
    refine iBn ?_
    refine tHn ?_
    refine bY dCo rfl fun K hK=>?_;conv=>whnf
    refine hK _ _ _ ?_
    refine tHn ?_
    replace h:=bK h
    refine ⟨_,h,?_⟩
    refine dQ (xB 32 0 1) ?_;conv=>whnf
    exact And.intro rfl (And.intro (aLc wkI (aLc (WkR.soN (fun _=>rfl) (by simp)) (aLc (WkR.ptr (fun _=>rfl)) (aLc (WkR.mp (fun _=>rfl)) (aLc (wkr (lsL fun _=>(lsI _ _))) (aLc wkI aLn)))))) (aLc ⟨some _,rfl,pQ (enc:=eI) rfl (fun _=>(lsI _ _))⟩ (aLc ⟨some _,rfl,bRc rfl cKn⟩ (aLc ⟨some _,rfl,bRc rfl cKn⟩ (aLc ⟨some _,rfl,bRc rfl cKn⟩ (aLc ⟨some _,rfl,bRc rfl cKn⟩ (aLc ⟨some _,rfl,bRc rfl cKn⟩ (aLc ⟨some _,rfl,bRc rfl cKn⟩ (aLc ⟨some _,rfl,bRc rfl cKn⟩ (aLc ⟨some _,rfl,bRc rfl cKn⟩ (aLc ⟨some _,rfl,iC rfl ⟨fun _=>rfl,fun _=>rfl,fun _=>rfl,fun _=>rfl,fun _=>rfl,fun _=>rfl,fun _=>rfl,fun _=>rfl,trivial⟩⟩ (aLc ⟨some _,rfl,bO rfl rfl⟩ aLn))))))))))))
   ·refine vT 10 (out:=s.2.2) rfl rfl (by rw [show s.2.2.length=2 by omega];exact ⟨_,_,rfl,rfl⟩) ?_
    refine aC dCo rfl fun K hK=>?_;conv=>whnf
    refine And.intro ⟨by omega,by simp only [List.length_append,List.length_cons,List.length_nil] at *;omega⟩ ?_;conv=>whnf
    refine nlA rfl ?_;conv=>whnf
    refine bKo rfl ?_;conv=>whnf
    refine gKo (gL (j:=2) rfl hj) ?_;conv=>whnf
    refine dL (enc:=eI) (d:=default) (l:=[_]) (f:=fun _=>some ()) (Φ:=fun _=>True) dCo (nN _) rfl rfl rfl ⟨nle rfl,nle rfl,rfl⟩ rfl ⟨⟨rfl,rfl,rfl⟩,trivial⟩ (fun _=>?_);conv=>whnf
    refine gX (enc:=eI) (d:=default) dCo h (.inl rfl) rfl rfl rfl ⟨rfl,nle rfl,nle rfl,nle rfl,rfl⟩ (fun _=>rfl) (.inr (.inr ⟨_,_,rfl,rfl,rfl⟩)) (fun h=>?_);conv=>whnf
    refine And.intro ⟨by omega,by simp only [List.length_append,List.length_cons,List.length_nil] at *;omega⟩ ?_;conv=>whnf
    refine bKo rfl ?_;conv=>whnf
    refine nV (j:=2) (nle rfl) hj rfl rfl rfl rfl ?_;conv=>whnf
    refine hK _ _ _ ?_
    refine bY dCo rfl fun K hK=>?_;conv=>whnf
    refine kZ (enc:=eI) dCo rfl rfl ?_;conv=>whnf
    refine hK _ _ _ ?_
    refine iBn ?_
    refine tHn ?_
    refine bY dCo rfl fun K hK=>?_;conv=>whnf
    refine hK _ _ _ ?_
    refine tHn ?_
    replace h:=bK h
    refine ⟨_,h,?_⟩
    refine dQ (xB 32 0 2) ?_;conv=>whnf
    exact And.intro rfl (And.intro (aLc wkI (aLc (WkR.soN (fun _=>rfl) (by simp)) (aLc (WkR.ptr (fun _=>rfl)) (aLc (WkR.mp (fun _=>rfl)) (aLc (wkr (lsL fun _=>(lsI _ _))) (aLc wkI aLn)))))) (aLc ⟨some _,rfl,pQ (enc:=eI) rfl (fun _=>(lsI _ _))⟩ (aLc ⟨some _,rfl,bRc rfl cKn⟩ (aLc ⟨some _,rfl,bRc rfl cKn⟩ (aLc ⟨some _,rfl,bRc rfl cKn⟩ (aLc ⟨some _,rfl,bRc rfl cKn⟩ (aLc ⟨some _,rfl,bRc rfl cKn⟩ (aLc ⟨some _,rfl,bRc rfl cKn⟩ (aLc ⟨some _,rfl,bRc rfl cKn⟩ (aLc ⟨some _,rfl,bRc rfl cKn⟩ (aLc ⟨some _,rfl,iC rfl ⟨fun _=>rfl,fun _=>rfl,fun _=>rfl,fun _=>rfl,fun _=>rfl,fun _=>rfl,fun _=>rfl,fun _=>rfl,trivial⟩⟩ (aLc ⟨some _,rfl,bO rfl rfl⟩ aLn))))))))))))
   ·refine vT 10 (out:=s.2.2) rfl rfl (by rw [show s.2.2.length=3 by omega];exact ⟨_,_,rfl,rfl⟩) ?_
    refine aC dCo rfl fun K hK=>?_;conv=>whnf
    refine And.intro ⟨by omega,by simp only [List.length_append,List.length_cons,List.length_nil] at *;omega⟩ ?_;conv=>whnf
    refine nlA rfl ?_;conv=>whnf
    refine bKo rfl ?_;conv=>whnf
    refine gKo (gL (j:=3) rfl hj) ?_;conv=>whnf
    refine dL (enc:=eI) (d:=default) (l:=[_]) (f:=fun _=>some ()) (Φ:=fun _=>True) dCo (nN _) rfl rfl rfl ⟨nle rfl,nle rfl,rfl⟩ rfl ⟨⟨rfl,rfl,rfl⟩,trivial⟩ (fun _=>?_);conv=>whnf
    refine gX (enc:=eI) (d:=default) dCo h (.inl rfl) rfl rfl rfl ⟨rfl,nle rfl,nle rfl,nle rfl,rfl⟩ (fun _=>rfl) (.inr (.inr ⟨_,_,rfl,rfl,rfl⟩)) (fun h=>?_);conv=>whnf
    refine And.intro ⟨by omega,by simp only [List.length_append,List.length_cons,List.length_nil] at *;omega⟩ ?_;conv=>whnf
    refine bKo rfl ?_;conv=>whnf
    refine nV (j:=3) (nle rfl) hj rfl rfl rfl rfl ?_;conv=>whnf
    refine hK _ _ _ ?_
    refine bY dCo rfl fun K hK=>?_;conv=>whnf
    refine kZ (enc:=eI) dCo rfl rfl ?_;conv=>whnf
    refine hK _ _ _ ?_
    refine iBn ?_
    refine tHn ?_
    refine bY dCo rfl fun K hK=>?_;conv=>whnf
    refine hK _ _ _ ?_
    refine tHn ?_
    replace h:=bK h
    refine ⟨_,h,?_⟩
    refine dQ (xB 32 0 3) ?_;conv=>whnf
    exact And.intro rfl (And.intro (aLc wkI (aLc (WkR.soN (fun _=>rfl) (by simp)) (aLc (WkR.ptr (fun _=>rfl)) (aLc (WkR.mp (fun _=>rfl)) (aLc (wkr (lsL fun _=>(lsI _ _))) (aLc wkI aLn)))))) (aLc ⟨some _,rfl,pQ (enc:=eI) rfl (fun _=>(lsI _ _))⟩ (aLc ⟨some _,rfl,bRc rfl cKn⟩ (aLc ⟨some _,rfl,bRc rfl cKn⟩ (aLc ⟨some _,rfl,bRc rfl cKn⟩ (aLc ⟨some _,rfl,bRc rfl cKn⟩ (aLc ⟨some _,rfl,bRc rfl cKn⟩ (aLc ⟨some _,rfl,bRc rfl cKn⟩ (aLc ⟨some _,rfl,bRc rfl cKn⟩ (aLc ⟨some _,rfl,bRc rfl cKn⟩ (aLc ⟨some _,rfl,iC rfl ⟨fun _=>rfl,fun _=>rfl,fun _=>rfl,fun _=>rfl,fun _=>rfl,fun _=>rfl,fun _=>rfl,fun _=>rfl,trivial⟩⟩ (aLc ⟨some _,rfl,bO rfl rfl⟩ aLn))))))))))))
   ·refine vT 10 (out:=s.2.2) rfl rfl (by rw [show s.2.2.length=4 by omega];exact ⟨_,_,rfl,rfl⟩) ?_
    refine aC dCo rfl fun K hK=>?_;conv=>whnf
    refine And.intro ⟨by omega,by simp only [List.length_append,List.length_cons,List.length_nil] at *;omega⟩ ?_;conv=>whnf
    refine nlA rfl ?_;conv=>whnf
    refine bKo rfl ?_;conv=>whnf
    refine gKo (gL (j:=4) rfl hj) ?_;conv=>whnf
    refine dL (enc:=eI) (d:=default) (l:=[_]) (f:=fun _=>some ()) (Φ:=fun _=>True) dCo (nN _) rfl rfl rfl ⟨nle rfl,nle rfl,rfl⟩ rfl ⟨⟨rfl,rfl,rfl⟩,trivial⟩ (fun _=>?_);conv=>whnf
    refine gX (enc:=eI) (d:=default) dCo h (.inl rfl) rfl rfl rfl ⟨rfl,nle rfl,nle rfl,nle rfl,rfl⟩ (fun _=>rfl) (.inr (.inr ⟨_,_,rfl,rfl,rfl⟩)) (fun h=>?_);conv=>whnf
    refine And.intro ⟨by omega,by simp only [List.length_append,List.length_cons,List.length_nil] at *;omega⟩ ?_;conv=>whnf
    refine bKo rfl ?_;conv=>whnf
    refine nV (j:=4) (nle rfl) hj rfl rfl rfl rfl ?_;conv=>whnf
    refine hK _ _ _ ?_
    refine bY dCo rfl fun K hK=>?_;conv=>whnf
    refine kZ (enc:=eI) dCo rfl rfl ?_;conv=>whnf
    refine hK _ _ _ ?_
    refine iBn ?_
    refine tHn ?_
    refine bY dCo rfl fun K hK=>?_;conv=>whnf
    refine hK _ _ _ ?_
    refine tHn ?_
    replace h:=bK h
    refine ⟨_,h,?_⟩
    refine dQ (xB 32 0 4) ?_;conv=>whnf
    exact And.intro rfl (And.intro (aLc wkI (aLc (WkR.soN (fun _=>rfl) (by simp)) (aLc (WkR.ptr (fun _=>rfl)) (aLc (WkR.mp (fun _=>rfl)) (aLc (wkr (lsL fun _=>(lsI _ _))) (aLc wkI aLn)))))) (aLc ⟨some _,rfl,pQ (enc:=eI) rfl (fun _=>(lsI _ _))⟩ (aLc ⟨some _,rfl,bRc rfl cKn⟩ (aLc ⟨some _,rfl,bRc rfl cKn⟩ (aLc ⟨some _,rfl,bRc rfl cKn⟩ (aLc ⟨some _,rfl,bRc rfl cKn⟩ (aLc ⟨some _,rfl,bRc rfl cKn⟩ (aLc ⟨some _,rfl,bRc rfl cKn⟩ (aLc ⟨some _,rfl,bRc rfl cKn⟩ (aLc ⟨some _,rfl,bRc rfl cKn⟩ (aLc ⟨some _,rfl,iC rfl ⟨fun _=>rfl,fun _=>rfl,fun _=>rfl,fun _=>rfl,fun _=>rfl,fun _=>rfl,fun _=>rfl,fun _=>rfl,trivial⟩⟩ (aLc ⟨some _,rfl,bO rfl rfl⟩ aLn))))))))))))
   ·refine vT 10 (out:=s.2.2) rfl rfl (by rw [show s.2.2.length=5 by omega];exact ⟨_,_,rfl,rfl⟩) ?_
    refine aC dCo rfl fun K hK=>?_;conv=>whnf
    refine And.intro ⟨by omega,by simp only [List.length_append,List.length_cons,List.length_nil] at *;omega⟩ ?_;conv=>whnf
    refine nlA rfl ?_;conv=>whnf
    refine bKo rfl ?_;conv=>whnf
    refine gKo (gL (j:=5) rfl hj) ?_;conv=>whnf
    refine dL (enc:=eI) (d:=default) (l:=[_]) (f:=fun _=>some ()) (Φ:=fun _=>True) dCo (nN _) rfl rfl rfl ⟨nle rfl,nle rfl,rfl⟩ rfl ⟨⟨rfl,rfl,rfl⟩,trivial⟩ (fun _=>?_);conv=>whnf
    refine gX (enc:=eI) (d:=default) dCo h (.inl rfl) rfl rfl rfl ⟨rfl,nle rfl,nle rfl,nle rfl,rfl⟩ (fun _=>rfl) (.inr (.inr ⟨_,_,rfl,rfl,rfl⟩)) (fun h=>?_);conv=>whnf
    refine And.intro ⟨by omega,by simp only [List.length_append,List.length_cons,List.length_nil] at *;omega⟩ ?_;conv=>whnf
    refine bKo rfl ?_;conv=>whnf
    refine nV (j:=5) (nle rfl) hj rfl rfl rfl rfl ?_;conv=>whnf
    refine hK _ _ _ ?_
    refine bY dCo rfl fun K hK=>?_;conv=>whnf
    refine kZ (enc:=eI) dCo rfl rfl ?_;conv=>whnf
    refine hK _ _ _ ?_
    refine iBn ?_
    refine tHn ?_
    refine bY dCo rfl fun K hK=>?_;conv=>whnf
    refine hK _ _ _ ?_
    refine tHn ?_
    replace h:=bK h
    refine ⟨_,h,?_⟩
    refine dQ (xB 32 0 5) ?_;conv=>whnf
    exact And.intro rfl (And.intro (aLc wkI (aLc (WkR.soN (fun _=>rfl) (by simp)) (aLc (WkR.ptr (fun _=>rfl)) (aLc (WkR.mp (fun _=>rfl)) (aLc (wkr (lsL fun _=>(lsI _ _))) (aLc wkI aLn)))))) (aLc ⟨some _,rfl,pQ (enc:=eI) rfl (fun _=>(lsI _ _))⟩ (aLc ⟨some _,rfl,bRc rfl cKn⟩ (aLc ⟨some _,rfl,bRc rfl cKn⟩ (aLc ⟨some _,rfl,bRc rfl cKn⟩ (aLc ⟨some _,rfl,bRc rfl cKn⟩ (aLc ⟨some _,rfl,bRc rfl cKn⟩ (aLc ⟨some _,rfl,bRc rfl cKn⟩ (aLc ⟨some _,rfl,bRc rfl cKn⟩ (aLc ⟨some _,rfl,bRc rfl cKn⟩ (aLc ⟨some _,rfl,iC rfl ⟨fun _=>rfl,fun _=>rfl,fun _=>rfl,fun _=>rfl,fun _=>rfl,fun _=>rfl,fun _=>rfl,fun _=>rfl,trivial⟩⟩ (aLc ⟨some _,rfl,bO rfl rfl⟩ aLn))))))))))))
   ·refine vT 10 (out:=s.2.2) rfl rfl (by rw [show s.2.2.length=6 by omega];exact ⟨_,_,rfl,rfl⟩) ?_
    refine aC dCo rfl fun K hK=>?_;conv=>whnf
    refine And.intro ⟨by omega,by simp only [List.length_append,List.length_cons,List.length_nil] at *;omega⟩ ?_;conv=>whnf
    refine nlA rfl ?_;conv=>whnf
    refine bKo rfl ?_;conv=>whnf
    refine gKo (gL (j:=6) rfl hj) ?_;conv=>whnf
    refine dL (enc:=eI) (d:=default) (l:=[_]) (f:=fun _=>some ()) (Φ:=fun _=>True) dCo (nN _) rfl rfl rfl ⟨nle rfl,nle rfl,rfl⟩ rfl ⟨⟨rfl,rfl,rfl⟩,trivial⟩ (fun _=>?_);conv=>whnf
    refine gX (enc:=eI) (d:=default) dCo h (.inl rfl) rfl rfl rfl ⟨rfl,nle rfl,nle rfl,nle rfl,rfl⟩ (fun _=>rfl) (.inr (.inr ⟨_,_,rfl,rfl,rfl⟩)) (fun h=>?_);conv=>whnf
    refine And.intro ⟨by omega,by simp only [List.length_append,List.length_cons,List.length_nil] at *;omega⟩ ?_;conv=>whnf
    refine bKo rfl ?_;conv=>whnf
    refine nV (j:=6) (nle rfl) hj rfl rfl rfl rfl ?_;conv=>whnf
    refine hK _ _ _ ?_
    refine bY dCo rfl fun K hK=>?_;conv=>whnf
    refine kZ (enc:=eI) dCo rfl rfl ?_;conv=>whnf
    refine hK _ _ _ ?_
    refine iBn ?_
    refine tHn ?_
    refine bY dCo rfl fun K hK=>?_;conv=>whnf
    refine hK _ _ _ ?_
    refine tHn ?_
    replace h:=bK h
    refine ⟨_,h,?_⟩
    refine dQ (xB 32 0 6) ?_;conv=>whnf
    exact And.intro rfl (And.intro (aLc wkI (aLc (WkR.soN (fun _=>rfl) (by simp)) (aLc (WkR.ptr (fun _=>rfl)) (aLc (WkR.mp (fun _=>rfl)) (aLc (wkr (lsL fun _=>(lsI _ _))) (aLc wkI aLn)))))) (aLc ⟨some _,rfl,pQ (enc:=eI) rfl (fun _=>(lsI _ _))⟩ (aLc ⟨some _,rfl,bRc rfl cKn⟩ (aLc ⟨some _,rfl,bRc rfl cKn⟩ (aLc ⟨some _,rfl,bRc rfl cKn⟩ (aLc ⟨some _,rfl,bRc rfl cKn⟩ (aLc ⟨some _,rfl,bRc rfl cKn⟩ (aLc ⟨some _,rfl,bRc rfl cKn⟩ (aLc ⟨some _,rfl,bRc rfl cKn⟩ (aLc ⟨some _,rfl,bRc rfl cKn⟩ (aLc ⟨some _,rfl,iC rfl ⟨fun _=>rfl,fun _=>rfl,fun _=>rfl,fun _=>rfl,fun _=>rfl,fun _=>rfl,fun _=>rfl,fun _=>rfl,trivial⟩⟩ (aLc ⟨some _,rfl,bO rfl rfl⟩ aLn))))))))))))
   ·refine vT 10 (out:=s.2.2) rfl rfl (by rw [show s.2.2.length=7 by omega];exact ⟨_,_,rfl,rfl⟩) ?_
    refine aC dCo rfl fun K hK=>?_;conv=>whnf
    refine And.intro ⟨by omega,by simp only [List.length_append,List.length_cons,List.length_nil] at *;omega⟩ ?_;conv=>whnf
    refine nlA rfl ?_;conv=>whnf
    refine bKo rfl ?_;conv=>whnf
    refine gKo (gL (j:=7) rfl hj) ?_;conv=>whnf
    refine dL (enc:=eI) (d:=default) (l:=[_]) (f:=fun _=>some ()) (Φ:=fun _=>True) dCo (nN _) rfl rfl rfl ⟨nle rfl,nle rfl,rfl⟩ rfl ⟨⟨rfl,rfl,rfl⟩,trivial⟩ (fun _=>?_);conv=>whnf
    refine gX (enc:=eI) (d:=default) dCo h (.inl rfl) rfl rfl rfl ⟨rfl,nle rfl,nle rfl,nle rfl,rfl⟩ (fun _=>rfl) (.inr (.inr ⟨_,_,rfl,rfl,rfl⟩)) (fun h=>?_);conv=>whnf
    refine And.intro ⟨by omega,by simp only [List.length_append,List.length_cons,List.length_nil] at *;omega⟩ ?_;conv=>whnf
    refine bKo rfl ?_;conv=>whnf
    refine nV (j:=7) (nle rfl) hj rfl rfl rfl rfl ?_;conv=>whnf
    refine hK _ _ _ ?_
    refine bY dCo rfl fun K hK=>?_;conv=>whnf
    refine kZ (enc:=eI) dCo rfl rfl ?_;conv=>whnf
    refine hK _ _ _ ?_
    refine iBn ?_
    refine tHn ?_
    refine bY dCo rfl fun K hK=>?_;conv=>whnf
    refine hK _ _ _ ?_
    refine tHn ?_
    replace h:=bK h
    refine ⟨_,h,?_⟩
    refine dQ (xB 32 0 7) ?_;conv=>whnf
    exact And.intro rfl (And.intro (aLc wkI (aLc (WkR.soN (fun _=>rfl) (by simp)) (aLc (WkR.ptr (fun _=>rfl)) (aLc (WkR.mp (fun _=>rfl)) (aLc (wkr (lsL fun _=>(lsI _ _))) (aLc wkI aLn)))))) (aLc ⟨some _,rfl,pQ (enc:=eI) rfl (fun _=>(lsI _ _))⟩ (aLc ⟨some _,rfl,bRc rfl cKn⟩ (aLc ⟨some _,rfl,bRc rfl cKn⟩ (aLc ⟨some _,rfl,bRc rfl cKn⟩ (aLc ⟨some _,rfl,bRc rfl cKn⟩ (aLc ⟨some _,rfl,bRc rfl cKn⟩ (aLc ⟨some _,rfl,bRc rfl cKn⟩ (aLc ⟨some _,rfl,bRc rfl cKn⟩ (aLc ⟨some _,rfl,bRc rfl cKn⟩ (aLc ⟨some _,rfl,iC rfl ⟨fun _=>rfl,fun _=>rfl,fun _=>rfl,fun _=>rfl,fun _=>rfl,fun _=>rfl,fun _=>rfl,fun _=>rfl,trivial⟩⟩ (aLc ⟨some _,rfl,bO rfl rfl⟩ aLn))))))))))))
  refine hK2 ?_
  refine aG ?_
  refine tHn ?_
  replace h:=lP.eq_1 _ _ _ _ _ ▸ h
  obtain ⟨h8,h⟩:=vE h
  obtain ⟨hk,h⟩:=vE h
  have hj:(_:Int).toNat<_:=(Int.toNat_lt hk.1).2 hk.2
  generalize hkk:s.2.1.get _ 0=kk at h hk hj ⊢
  have hc:kk=0∨kk=1∨kk=2∨kk=3∨kk=4∨kk=5∨kk=6∨kk=7:=by omega
  rcases hc with rfl | rfl | rfl | rfl | rfl | rfl | rfl | rfl
  ·refine aC dCo rfl fun K hK=>?_;conv=>whnf
   refine And.intro ⟨by omega,by simp only [List.length_append,List.length_cons,List.length_nil] at *;omega⟩ ?_;conv=>whnf
   refine nlA rfl ?_;conv=>whnf
   refine bKo rfl ?_;conv=>whnf
   refine gKo (gL (j:=0) rfl hj) ?_;conv=>whnf
   refine dL (enc:=eI) (d:=default) (l:=[_]) (f:=fun _=>some ()) (Φ:=fun _=>True) dCo (nN _) rfl rfl rfl ⟨nle rfl,nle rfl,rfl⟩ rfl ⟨⟨rfl,rfl,rfl⟩,trivial⟩ (fun _=>?_);conv=>whnf
   refine gX (enc:=eI) (d:=default) dCo h (.inl rfl) rfl rfl rfl ⟨rfl,nle rfl,nle rfl,nle rfl,rfl⟩ (fun _=>rfl) (.inr (.inr ⟨_,_,rfl,rfl,rfl⟩)) (fun h=>?_);conv=>whnf
   refine And.intro ⟨by omega,by simp only [List.length_append,List.length_cons,List.length_nil] at *;omega⟩ ?_;conv=>whnf
   refine bKo rfl ?_;conv=>whnf
   refine nV (j:=0) (nle rfl) hj rfl rfl rfl rfl ?_;conv=>whnf
   refine hK _ _ _ ?_
   refine bY dCo rfl fun K hK=>?_;conv=>whnf
   refine kZ (enc:=eI) dCo rfl rfl ?_;conv=>whnf
   refine hK _ _ _ ?_
   refine iBn ?_
   refine tHn ?_
   refine bY dCo rfl fun K hK=>?_;conv=>whnf
   refine hK _ _ _ ?_
   refine tHn ?_
   replace h:=bK h
   refine ⟨_,h,?_⟩
   refine dQ (xB 25 0 0) ?_;conv=>whnf
   exact And.intro rfl (And.intro (aLc wkI (aLc (WkR.soN (fun _=>rfl) (by simp)) (aLc (WkR.ptr (fun _=>rfl)) (aLc (WkR.mp (fun _=>rfl)) (aLc (wkr (lsL fun _=>(lsI _ _))) (aLc wkI aLn)))))) (aLc ⟨some _,rfl,pQ (enc:=eI) rfl (fun _=>(lsI _ _))⟩ (aLc ⟨some _,rfl,bRc rfl cKn⟩ (aLc ⟨some _,rfl,bRc rfl cKn⟩ (aLc ⟨some _,rfl,bRc rfl cKn⟩ (aLc ⟨some _,rfl,bRc rfl cKn⟩ (aLc ⟨some _,rfl,bRc rfl cKn⟩ (aLc ⟨some _,rfl,bRc rfl cKn⟩ (aLc ⟨some _,rfl,bRc rfl cKn⟩ (aLc ⟨some _,rfl,bRc rfl cKn⟩ (aLc ⟨some _,rfl,iC rfl ⟨fun _=>rfl,fun _=>rfl,fun _=>rfl,fun _=>rfl,fun _=>rfl,fun _=>rfl,fun _=>rfl,fun _=>rfl,trivial⟩⟩ (aLc ⟨some _,rfl,bO rfl rfl⟩ aLn))))))))))))
  ·refine aC dCo rfl fun K hK=>?_;conv=>whnf
   refine And.intro ⟨by omega,by simp only [List.length_append,List.length_cons,List.length_nil] at *;omega⟩ ?_;conv=>whnf
   refine nlA rfl ?_;conv=>whnf
   refine bKo rfl ?_;conv=>whnf
   refine gKo (gL (j:=1) rfl hj) ?_;conv=>whnf
   refine dL (enc:=eI) (d:=default) (l:=[_]) (f:=fun _=>some ()) (Φ:=fun _=>True) dCo (nN _) rfl rfl rfl ⟨nle rfl,nle rfl,rfl⟩ rfl ⟨⟨rfl,rfl,rfl⟩,trivial⟩ (fun _=>?_);conv=>whnf
   refine gX (enc:=eI) (d:=default) dCo h (.inl rfl) rfl rfl rfl ⟨rfl,nle rfl,nle rfl,nle rfl,rfl⟩ (fun _=>rfl) (.inr (.inr ⟨_,_,rfl,rfl,rfl⟩)) (fun h=>?_);conv=>whnf
   refine And.intro ⟨by omega,by simp only [List.length_append,List.length_cons,List.length_nil] at *;omega⟩ ?_;conv=>whnf
   refine bKo rfl ?_;conv=>whnf
   refine nV (j:=1) (nle rfl) hj rfl rfl rfl rfl ?_;conv=>whnf
   refine hK _ _ _ ?_
   refine bY dCo rfl fun K hK=>?_;conv=>whnf
   refine kZ (enc:=eI) dCo rfl rfl ?_;conv=>whnf
   refine hK _ _ _ ?_
   refine iBn ?_
   refine tHn ?_
   refine bY dCo rfl fun K hK=>?_;conv=>whnf
   refine hK _ _ _ ?_
   refine tHn ?_
   replace h:=bK h
   refine ⟨_,h,?_⟩
   refine dQ (xB 25 0 1) ?_;conv=>whnf
   exact And.intro rfl (And.intro (aLc wkI (aLc (WkR.soN (fun _=>rfl) (by simp)) (aLc (WkR.ptr (fun _=>rfl)) (aLc (WkR.mp (fun _=>rfl)) (aLc (wkr (lsL fun _=>(lsI _ _))) (aLc wkI aLn)))))) (aLc ⟨some _,rfl,pQ (enc:=eI) rfl (fun _=>(lsI _ _))⟩ (aLc ⟨some _,rfl,bRc rfl cKn⟩ (aLc ⟨some _,rfl,bRc rfl cKn⟩ (aLc ⟨some _,rfl,bRc rfl cKn⟩ (aLc ⟨some _,rfl,bRc rfl cKn⟩ (aLc ⟨some _,rfl,bRc rfl cKn⟩ (aLc ⟨some _,rfl,bRc rfl cKn⟩ (aLc ⟨some _,rfl,bRc rfl cKn⟩ (aLc ⟨some _,rfl,bRc rfl cKn⟩ (aLc ⟨some _,rfl,iC rfl ⟨fun _=>rfl,fun _=>rfl,fun _=>rfl,fun _=>rfl,fun _=>rfl,fun _=>rfl,fun _=>rfl,fun _=>rfl,trivial⟩⟩ (aLc ⟨some _,rfl,bO rfl rfl⟩ aLn))))))))))))
  ·refine aC dCo rfl fun K hK=>?_;conv=>whnf
   refine And.intro ⟨by omega,by simp only [List.length_append,List.length_cons,List.length_nil] at *;omega⟩ ?_;conv=>whnf
   refine nlA rfl ?_;conv=>whnf
   refine bKo rfl ?_;conv=>whnf
   refine gKo (gL (j:=2) rfl hj) ?_;conv=>whnf
   refine dL (enc:=eI) (d:=default) (l:=[_]) (f:=fun _=>some ()) (Φ:=fun _=>True) dCo (nN _) rfl rfl rfl ⟨nle rfl,nle rfl,rfl⟩ rfl ⟨⟨rfl,rfl,rfl⟩,trivial⟩ (fun _=>?_);conv=>whnf
   refine gX (enc:=eI) (d:=default) dCo h (.inl rfl) rfl rfl rfl ⟨rfl,nle rfl,nle rfl,nle rfl,rfl⟩ (fun _=>rfl) (.inr (.inr ⟨_,_,rfl,rfl,rfl⟩)) (fun h=>?_);conv=>whnf
   refine And.intro ⟨by omega,by simp only [List.length_append,List.length_cons,List.length_nil] at *;omega⟩ ?_;conv=>whnf
   refine bKo rfl ?_;conv=>whnf
   refine nV (j:=2) (nle rfl) hj rfl rfl rfl rfl ?_;conv=>whnf
   refine hK _ _ _ ?_
   refine bY dCo rfl fun K hK=>?_;conv=>whnf
   refine kZ (enc:=eI) dCo rfl rfl ?_;conv=>whnf
   refine hK _ _ _ ?_
   refine iBn ?_
   refine tHn ?_
   refine bY dCo rfl fun K hK=>?_;conv=>whnf
   refine hK _ _ _ ?_
   refine tHn ?_
   replace h:=bK h
   refine ⟨_,h,?_⟩
   refine dQ (xB 25 0 2) ?_;conv=>whnf
   exact And.intro rfl (And.intro (aLc wkI (aLc (WkR.soN (fun _=>rfl) (by simp)) (aLc (WkR.ptr (fun _=>rfl)) (aLc (WkR.mp (fun _=>rfl)) (aLc (wkr (lsL fun _=>(lsI _ _))) (aLc wkI aLn)))))) (aLc ⟨some _,rfl,pQ (enc:=eI) rfl (fun _=>(lsI _ _))⟩ (aLc ⟨some _,rfl,bRc rfl cKn⟩ (aLc ⟨some _,rfl,bRc rfl cKn⟩ (aLc ⟨some _,rfl,bRc rfl cKn⟩ (aLc ⟨some _,rfl,bRc rfl cKn⟩ (aLc ⟨some _,rfl,bRc rfl cKn⟩ (aLc ⟨some _,rfl,bRc rfl cKn⟩ (aLc ⟨some _,rfl,bRc rfl cKn⟩ (aLc ⟨some _,rfl,bRc rfl cKn⟩ (aLc ⟨some _,rfl,iC rfl ⟨fun _=>rfl,fun _=>rfl,fun _=>rfl,fun _=>rfl,fun _=>rfl,fun _=>rfl,fun _=>rfl,fun _=>rfl,trivial⟩⟩ (aLc ⟨some _,rfl,bO rfl rfl⟩ aLn))))))))))))
  ·refine aC dCo rfl fun K hK=>?_;conv=>whnf
   refine And.intro ⟨by omega,by simp only [List.length_append,List.length_cons,List.length_nil] at *;omega⟩ ?_;conv=>whnf
   refine nlA rfl ?_;conv=>whnf
   refine bKo rfl ?_;conv=>whnf
   refine gKo (gL (j:=3) rfl hj) ?_;conv=>whnf
   refine dL (enc:=eI) (d:=default) (l:=[_]) (f:=fun _=>some ()) (Φ:=fun _=>True) dCo (nN _) rfl rfl rfl ⟨nle rfl,nle rfl,rfl⟩ rfl ⟨⟨rfl,rfl,rfl⟩,trivial⟩ (fun _=>?_);conv=>whnf
   refine gX (enc:=eI) (d:=default) dCo h (.inl rfl) rfl rfl rfl ⟨rfl,nle rfl,nle rfl,nle rfl,rfl⟩ (fun _=>rfl) (.inr (.inr ⟨_,_,rfl,rfl,rfl⟩)) (fun h=>?_);conv=>whnf
   refine And.intro ⟨by omega,by simp only [List.length_append,List.length_cons,List.length_nil] at *;omega⟩ ?_;conv=>whnf
   refine bKo rfl ?_;conv=>whnf
   refine nV (j:=3) (nle rfl) hj rfl rfl rfl rfl ?_;conv=>whnf
   refine hK _ _ _ ?_
   refine bY dCo rfl fun K hK=>?_;conv=>whnf
   refine kZ (enc:=eI) dCo rfl rfl ?_;conv=>whnf
   refine hK _ _ _ ?_
   refine iBn ?_
   refine tHn ?_
   refine bY dCo rfl fun K hK=>?_;conv=>whnf
   refine hK _ _ _ ?_
   refine tHn ?_
   replace h:=bK h
   refine ⟨_,h,?_⟩
   refine dQ (xB 25 0 3) ?_;conv=>whnf
   exact And.intro rfl (And.intro (aLc wkI (aLc (WkR.soN (fun _=>rfl) (by simp)) (aLc (WkR.ptr (fun _=>rfl)) (aLc (WkR.mp (fun _=>rfl)) (aLc (wkr (lsL fun _=>(lsI _ _))) (aLc wkI aLn)))))) (aLc ⟨some _,rfl,pQ (enc:=eI) rfl (fun _=>(lsI _ _))⟩ (aLc ⟨some _,rfl,bRc rfl cKn⟩ (aLc ⟨some _,rfl,bRc rfl cKn⟩ (aLc ⟨some _,rfl,bRc rfl cKn⟩ (aLc ⟨some _,rfl,bRc rfl cKn⟩ (aLc ⟨some _,rfl,bRc rfl cKn⟩ (aLc ⟨some _,rfl,bRc rfl cKn⟩ (aLc ⟨some _,rfl,bRc rfl cKn⟩ (aLc ⟨some _,rfl,bRc rfl cKn⟩ (aLc ⟨some _,rfl,iC rfl ⟨fun _=>rfl,fun _=>rfl,fun _=>rfl,fun _=>rfl,fun _=>rfl,fun _=>rfl,fun _=>rfl,fun _=>rfl,trivial⟩⟩ (aLc ⟨some _,rfl,bO rfl rfl⟩ aLn))))))))))))
  ·refine aC dCo rfl fun K hK=>?_;conv=>whnf
   refine And.intro ⟨by omega,by simp only [List.length_append,List.length_cons,List.length_nil] at *;omega⟩ ?_;conv=>whnf
   refine nlA rfl ?_;conv=>whnf
   refine bKo rfl ?_;conv=>whnf
   refine gKo (gL (j:=4) rfl hj) ?_;conv=>whnf
   refine dL (enc:=eI) (d:=default) (l:=[_]) (f:=fun _=>some ()) (Φ:=fun _=>True) dCo (nN _) rfl rfl rfl ⟨nle rfl,nle rfl,rfl⟩ rfl ⟨⟨rfl,rfl,rfl⟩,trivial⟩ (fun _=>?_);conv=>whnf
   refine gX (enc:=eI) (d:=default) dCo h (.inl rfl) rfl rfl rfl ⟨rfl,nle rfl,nle rfl,nle rfl,rfl⟩ (fun _=>rfl) (.inr (.inr ⟨_,_,rfl,rfl,rfl⟩)) (fun h=>?_);conv=>whnf
   refine And.intro ⟨by omega,by simp only [List.length_append,List.length_cons,List.length_nil] at *;omega⟩ ?_;conv=>whnf
   refine bKo rfl ?_;conv=>whnf
   refine nV (j:=4) (nle rfl) hj rfl rfl rfl rfl ?_;conv=>whnf
   refine hK _ _ _ ?_
   refine bY dCo rfl fun K hK=>?_;conv=>whnf
   refine kZ (enc:=eI) dCo rfl rfl ?_;conv=>whnf
   refine hK _ _ _ ?_
   refine iBn ?_
   refine tHn ?_
   refine bY dCo rfl fun K hK=>?_;conv=>whnf
   refine hK _ _ _ ?_
   refine tHn ?_
   replace h:=bK h
   refine ⟨_,h,?_⟩
   refine dQ (xB 25 0 4) ?_;conv=>whnf
   exact And.intro rfl (And.intro (aLc wkI (aLc (WkR.soN (fun _=>rfl) (by simp)) (aLc (WkR.ptr (fun _=>rfl)) (aLc (WkR.mp (fun _=>rfl)) (aLc (wkr (lsL fun _=>(lsI _ _))) (aLc wkI aLn)))))) (aLc ⟨some _,rfl,pQ (enc:=eI) rfl (fun _=>(lsI _ _))⟩ (aLc ⟨some _,rfl,bRc rfl cKn⟩ (aLc ⟨some _,rfl,bRc rfl cKn⟩ (aLc ⟨some _,rfl,bRc rfl cKn⟩ (aLc ⟨some _,rfl,bRc rfl cKn⟩ (aLc ⟨some _,rfl,bRc rfl cKn⟩ (aLc ⟨some _,rfl,bRc rfl cKn⟩ (aLc ⟨some _,rfl,bRc rfl cKn⟩ (aLc ⟨some _,rfl,bRc rfl cKn⟩ (aLc ⟨some _,rfl,iC rfl ⟨fun _=>rfl,fun _=>rfl,fun _=>rfl,fun _=>rfl,fun _=>rfl,fun _=>rfl,fun _=>rfl,fun _=>rfl,trivial⟩⟩ (aLc ⟨some _,rfl,bO rfl rfl⟩ aLn))))))))))))
  ·refine aC dCo rfl fun K hK=>?_;conv=>whnf
   refine And.intro ⟨by omega,by simp only [List.length_append,List.length_cons,List.length_nil] at *;omega⟩ ?_;conv=>whnf
   refine nlA rfl ?_;conv=>whnf
   refine bKo rfl ?_;conv=>whnf
   refine gKo (gL (j:=5) rfl hj) ?_;conv=>whnf
   refine dL (enc:=eI) (d:=default) (l:=[_]) (f:=fun _=>some ()) (Φ:=fun _=>True) dCo (nN _) rfl rfl rfl ⟨nle rfl,nle rfl,rfl⟩ rfl ⟨⟨rfl,rfl,rfl⟩,trivial⟩ (fun _=>?_);conv=>whnf
   refine gX (enc:=eI) (d:=default) dCo h (.inl rfl) rfl rfl rfl ⟨rfl,nle rfl,nle rfl,nle rfl,rfl⟩ (fun _=>rfl) (.inr (.inr ⟨_,_,rfl,rfl,rfl⟩)) (fun h=>?_);conv=>whnf
   refine And.intro ⟨by omega,by simp only [List.length_append,List.length_cons,List.length_nil] at *;omega⟩ ?_;conv=>whnf
   refine bKo rfl ?_;conv=>whnf
   refine nV (j:=5) (nle rfl) hj rfl rfl rfl rfl ?_;conv=>whnf
   refine hK _ _ _ ?_
   refine bY dCo rfl fun K hK=>?_;conv=>whnf
   refine kZ (enc:=eI) dCo rfl rfl ?_;conv=>whnf
   refine hK _ _ _ ?_
   refine iBn ?_
   refine tHn ?_
   refine bY dCo rfl fun K hK=>?_;conv=>whnf
   refine hK _ _ _ ?_
   refine tHn ?_
   replace h:=bK h
   refine ⟨_,h,?_⟩
   refine dQ (xB 25 0 5) ?_;conv=>whnf
   exact And.intro rfl (And.intro (aLc wkI (aLc (WkR.soN (fun _=>rfl) (by simp)) (aLc (WkR.ptr (fun _=>rfl)) (aLc (WkR.mp (fun _=>rfl)) (aLc (wkr (lsL fun _=>(lsI _ _))) (aLc wkI aLn)))))) (aLc ⟨some _,rfl,pQ (enc:=eI) rfl (fun _=>(lsI _ _))⟩ (aLc ⟨some _,rfl,bRc rfl cKn⟩ (aLc ⟨some _,rfl,bRc rfl cKn⟩ (aLc ⟨some _,rfl,bRc rfl cKn⟩ (aLc ⟨some _,rfl,bRc rfl cKn⟩ (aLc ⟨some _,rfl,bRc rfl cKn⟩ (aLc ⟨some _,rfl,bRc rfl cKn⟩ (aLc ⟨some _,rfl,bRc rfl cKn⟩ (aLc ⟨some _,rfl,bRc rfl cKn⟩ (aLc ⟨some _,rfl,iC rfl ⟨fun _=>rfl,fun _=>rfl,fun _=>rfl,fun _=>rfl,fun _=>rfl,fun _=>rfl,fun _=>rfl,fun _=>rfl,trivial⟩⟩ (aLc ⟨some _,rfl,bO rfl rfl⟩ aLn))))))))))))
  ·refine aC dCo rfl fun K hK=>?_;conv=>whnf
   refine And.intro ⟨by omega,by simp only [List.length_append,List.length_cons,List.length_nil] at *;omega⟩ ?_;conv=>whnf
   refine nlA rfl ?_;conv=>whnf
   refine bKo rfl ?_;conv=>whnf
   refine gKo (gL (j:=6) rfl hj) ?_;conv=>whnf
   refine dL (enc:=eI) (d:=default) (l:=[_]) (f:=fun _=>some ()) (Φ:=fun _=>True) dCo (nN _) rfl rfl rfl ⟨nle rfl,nle rfl,rfl⟩ rfl ⟨⟨rfl,rfl,rfl⟩,trivial⟩ (fun _=>?_);conv=>whnf
   refine gX (enc:=eI) (d:=default) dCo h (.inl rfl) rfl rfl rfl ⟨rfl,nle rfl,nle rfl,nle rfl,rfl⟩ (fun _=>rfl) (.inr (.inr ⟨_,_,rfl,rfl,rfl⟩)) (fun h=>?_);conv=>whnf
   refine And.intro ⟨by omega,by simp only [List.length_append,List.length_cons,List.length_nil] at *;omega⟩ ?_;conv=>whnf
   refine bKo rfl ?_;conv=>whnf
   refine nV (j:=6) (nle rfl) hj rfl rfl rfl rfl ?_;conv=>whnf
   refine hK _ _ _ ?_
   refine bY dCo rfl fun K hK=>?_;conv=>whnf
   refine kZ (enc:=eI) dCo rfl rfl ?_;conv=>whnf
   refine hK _ _ _ ?_
   refine iBn ?_
   refine tHn ?_
   refine bY dCo rfl fun K hK=>?_;conv=>whnf
   refine hK _ _ _ ?_
   refine tHn ?_
   replace h:=bK h
   refine ⟨_,h,?_⟩
   refine dQ (xB 25 0 6) ?_;conv=>whnf
   exact And.intro rfl (And.intro (aLc wkI (aLc (WkR.soN (fun _=>rfl) (by simp)) (aLc (WkR.ptr (fun _=>rfl)) (aLc (WkR.mp (fun _=>rfl)) (aLc (wkr (lsL fun _=>(lsI _ _))) (aLc wkI aLn)))))) (aLc ⟨some _,rfl,pQ (enc:=eI) rfl (fun _=>(lsI _ _))⟩ (aLc ⟨some _,rfl,bRc rfl cKn⟩ (aLc ⟨some _,rfl,bRc rfl cKn⟩ (aLc ⟨some _,rfl,bRc rfl cKn⟩ (aLc ⟨some _,rfl,bRc rfl cKn⟩ (aLc ⟨some _,rfl,bRc rfl cKn⟩ (aLc ⟨some _,rfl,bRc rfl cKn⟩ (aLc ⟨some _,rfl,bRc rfl cKn⟩ (aLc ⟨some _,rfl,bRc rfl cKn⟩ (aLc ⟨some _,rfl,iC rfl ⟨fun _=>rfl,fun _=>rfl,fun _=>rfl,fun _=>rfl,fun _=>rfl,fun _=>rfl,fun _=>rfl,fun _=>rfl,trivial⟩⟩ (aLc ⟨some _,rfl,bO rfl rfl⟩ aLn))))))))))))
  ·refine aC dCo rfl fun K hK=>?_;conv=>whnf
   refine And.intro ⟨by omega,by simp only [List.length_append,List.length_cons,List.length_nil] at *;omega⟩ ?_;conv=>whnf
   refine nlA rfl ?_;conv=>whnf
   refine bKo rfl ?_;conv=>whnf
   refine gKo (gL (j:=7) rfl hj) ?_;conv=>whnf
   refine dL (enc:=eI) (d:=default) (l:=[_]) (f:=fun _=>some ()) (Φ:=fun _=>True) dCo (nN _) rfl rfl rfl ⟨nle rfl,nle rfl,rfl⟩ rfl ⟨⟨rfl,rfl,rfl⟩,trivial⟩ (fun _=>?_);conv=>whnf
   refine gX (enc:=eI) (d:=default) dCo h (.inl rfl) rfl rfl rfl ⟨rfl,nle rfl,nle rfl,nle rfl,rfl⟩ (fun _=>rfl) (.inr (.inr ⟨_,_,rfl,rfl,rfl⟩)) (fun h=>?_);conv=>whnf
   refine And.intro ⟨by omega,by simp only [List.length_append,List.length_cons,List.length_nil] at *;omega⟩ ?_;conv=>whnf
   refine bKo rfl ?_;conv=>whnf
   refine nV (j:=7) (nle rfl) hj rfl rfl rfl rfl ?_;conv=>whnf
   refine hK _ _ _ ?_
   refine bY dCo rfl fun K hK=>?_;conv=>whnf
   refine kZ (enc:=eI) dCo rfl rfl ?_;conv=>whnf
   refine hK _ _ _ ?_
   refine iBn ?_
   refine tHn ?_
   refine bY dCo rfl fun K hK=>?_;conv=>whnf
   refine hK _ _ _ ?_
   refine tHn ?_
   replace h:=bK h
   refine ⟨_,h,?_⟩
   refine dQ (xB 25 0 7) ?_;conv=>whnf
   exact And.intro rfl (And.intro (aLc wkI (aLc (WkR.soN (fun _=>rfl) (by simp)) (aLc (WkR.ptr (fun _=>rfl)) (aLc (WkR.mp (fun _=>rfl)) (aLc (wkr (lsL fun _=>(lsI _ _))) (aLc wkI aLn)))))) (aLc ⟨some _,rfl,pQ (enc:=eI) rfl (fun _=>(lsI _ _))⟩ (aLc ⟨some _,rfl,bRc rfl cKn⟩ (aLc ⟨some _,rfl,bRc rfl cKn⟩ (aLc ⟨some _,rfl,bRc rfl cKn⟩ (aLc ⟨some _,rfl,bRc rfl cKn⟩ (aLc ⟨some _,rfl,bRc rfl cKn⟩ (aLc ⟨some _,rfl,bRc rfl cKn⟩ (aLc ⟨some _,rfl,bRc rfl cKn⟩ (aLc ⟨some _,rfl,bRc rfl cKn⟩ (aLc ⟨some _,rfl,iC rfl ⟨fun _=>rfl,fun _=>rfl,fun _=>rfl,fun _=>rfl,fun _=>rfl,fun _=>rfl,fun _=>rfl,fun _=>rfl,trivial⟩⟩ (aLc ⟨some _,rfl,bO rfl rfl⟩ aLn))))))))))))
 refine hK2 ?_
 refine bI ?_
 refine aT ?_
 refine aT ?_
 refine aS ?_
 replace h:=cV h
 replace h:=cU h
 obtain ⟨h8,h⟩:=vE h
 refine tHn ?_
 refine aC dCo rfl fun K hK=>?_;conv=>whnf
 refine hK _ _ _ ?_
 refine aMd 10 rfl rfl (by exact h8) ?_
 refine qM 2 (enc:=eL 1 eI default) (e:=26) default (pS dCo rfl rfl rfl (fun _=>⟨rfl,rfl⟩)) ?_;(conv=>whnf);refine ⟨_,_,rfl,rfl,rfl,?_⟩
 refine aP ?_
 replace h:=aO h
 refine aK dCo fun K hK=>?_;conv=>whnf
 refine hK _ ?_
 cases h
 exact Wk.refl _
theorem vB {T:Tbl} (hT:T 31=aH nI) {args:List AV} {hp:bH} {id:Nat} {k:AV→Prop} {a0:aE} {Φ:(List (List Int))×Int→Prop} (h:W (fJ a0) Φ) (hw:WkL args [bF a0]) (hk:∀ y,Φ y→k (.tup [(eL 1 (eL 1 eI default) default) y.1,eI y.2])):cH T 31 args hp id k:=by
 obtain ⟨y,e,hy⟩:=dY h
 exact aV hT ⟨a0,rfl,lR e rfl⟩ (by exact eJ (lsC (lsL fun _=>(lsL fun _=>(lsI _ _))) (lsC (lsI _ _) lsN))) hw (hk y hy)
def tB (a1:Int) (l0:List Int) (s1:Int):Option (Ct Int Int):=cn (decide (s1<(l0.length:Int))) (gd ((0:Int)≤s1∧s1<(l0.length:Int)) (cn (a1 ==
  (l0.getD (s1).toNat default)) (some (.rt s1)) (some (.nx (wr (s1+1)))))) (some (.bk s1))
def aBQ (a1:Int) (l0:List Int):Option Int:=bd (lp (tB a1 l0) FU 0) fun c2=>smK c2 (fun s3=>some (-1)) (fun r4=>some r4)
def aBM:List AV→List BD→AV→List BD→Prop:=fun args bs r bs'=>∃ a1 l0 y,args=[.so 0 0 l0.length 1,eI a1]∧bs=[.ab (.cells (flE (ceE eI) l0))]∧aBQ a1 l0=some y∧r=eI y∧bs'=[.ab (.cells (flE (ceE eI) l0))]
theorem aDy {T:Tbl} (hT:TOk Tryd.prog T) (hpf:cP T PF):FOk Tryd.prog 84 (wS aBM):=by
 refine yO hT hpf Tryd.func84 rfl Tryd.ntmps84 Tryd.results84 (by decide) ?_
 rintro args bs r bs' ⟨a1,l0,y,rfl,rfl,hF,rfl,rfl⟩
 refine ⟨nle rfl,Nat.le_refl _,(lsI _ _),⟨(qN (fun _=>(lsC (lsI _ _) lsN)) _),trivial⟩,⟨(qN (fun _=>(lsC (lsI _ _) lsN)) _),trivial⟩,?_⟩
 have h:W (aBQ a1 l0) (fun z=>z=y):=lR hF rfl
 rw [aBQ.eq_1] at h
 refine aC dCo rfl fun K hK=>?_;conv=>whnf
 refine hK _ _ _ ?_
 refine aF ?_
 refine aC dCo rfl fun K hK=>?_;conv=>whnf
 refine hK _ _ _ ?_
 refine aJ ?_
 replace h:=bL h
 refine cY (body:=tB _ _) rfl h [0,1,7] [] [0] [] (fun kl kh kr ids b s=>⟨ofL ([(8,eI s)]++kl),ofH (([]++kh)++([]++kr)),b+64⟩) ?_;(conv=>whnf);refine And.intro ?_ (fun s m h=>cR ?_)
 ·refine aR ?_;conv=>whnf
  exact And.intro rfl (And.intro (aLc wkI (aLc (WkR.so (fun _=>rfl)) (aLc wkI (aLc wkI aLn)))) (aLc ⟨some _,rfl,kA rfl (fun _=>(lsC (lsI _ _) lsN))⟩ aLn))
 replace h:=bL h;rw [tB.eq_1] at h
 refine aC dCo rfl fun K hK=>?_;conv=>whnf
 refine hK _ _ _ ?_
 refine aF ?_
 refine aW fun K1 K2 hK1 hK2=>?_;conv=>whnf
 refine cLk h (fun _ h=>?_) (fun _ h=>?_)
 ·refine hK1 ?_
  refine aG ?_
  refine tHn ?_
  refine aF ?_
  refine aJ ?_
  refine aC dCo rfl fun K hK=>?_;conv=>whnf
  refine hK _ _ _ ?_
  refine aC dCo rfl fun K hK=>?_;conv=>whnf
  refine qZ h (rfl) fun hx14 h=>?_;conv=>whnf
  refine nlA rfl ?_;conv=>whnf
  refine bKo rfl ?_;conv=>whnf
  refine sF (enc:=eI) (d:=default) (q:=0) (fun _=>rfl) (rfl) hx14 (nle rfl) rfl ?_;conv=>whnf
  refine hK _ _ _ ?_
  refine aW fun K1 K2 hK1 hK2=>?_;conv=>whnf
  refine cLk h (fun _ h=>?_) (fun _ h=>?_)
  ·refine hK1 ?_
   refine aC dCo rfl fun K hK=>?_;conv=>whnf
   refine hK _ _ _ ?_
   refine aP ?_
   refine aU ?_
   refine aQ ?_
   refine aQ ?_
   refine aU ?_
   refine aQ ?_
   replace h:=jO h
   replace h:=jN h
   replace h:=aO h
   refine oL dCo fun K hK=>?_;conv=>whnf
   refine hK _ ?_
   cases h
   exact ⟨Wk.refl _,⟨_,rfl,bkW _⟩,trivial⟩
  refine hK2 ?_
  refine aG ?_
  refine iBn ?_
  refine tHn ?_
  refine bY dCo rfl fun K hK=>?_;conv=>whnf
  refine hK _ _ _ ?_
  refine tHn ?_
  replace h:=bK h
  refine ⟨_,h,?_⟩
  refine aR ?_;conv=>whnf
  exact And.intro rfl (And.intro (aLc wkI (aLc (WkR.so (fun _=>rfl)) (aLc wkI (aLc wkI aLn)))) (aLc ⟨some _,rfl,kA rfl (fun _=>(lsC (lsI _ _) lsN))⟩ aLn))
 refine hK2 ?_
 refine bI ?_
 refine aT ?_
 refine aT ?_
 refine aS ?_
 replace h:=cV h
 replace h:=cU h
 refine tHn ?_
 refine aC dCo rfl fun K hK=>?_;conv=>whnf
 refine hK _ _ _ ?_
 refine aP ?_
 replace h:=aO h
 refine oL dCo fun K hK=>?_;conv=>whnf
 refine hK _ ?_
 cases h
 exact ⟨Wk.refl _,⟨_,rfl,bkW _⟩,trivial⟩
def sC (a1:Int) (l0:List Int):Option Bool:=bd (aBQ a1 l0) fun y1=>some (decide (y1≥0))
def sE:List AV→List BD→AV→List BD→Prop:=fun args bs r bs'=>∃ a1 l0 y,args=[.so 0 0 l0.length 1,eI a1]∧bs=[.ab (.cells (flE (ceE eI) l0))]∧sC a1 l0=some y∧r=eB y∧bs'=[.ab (.cells (flE (ceE eI) l0))]
theorem aGS {T:Tbl} (hT:TOk Tryd.prog T) (hpf:cP T PF) (h84:T 84=wS aBM):FOk Tryd.prog 67 (wS sE):=by
 refine yO hT hpf Tryd.func67 rfl Tryd.ntmps67 Tryd.results67 (by decide) ?_
 rintro args bs r bs' ⟨a1,l0,y,rfl,rfl,hF,rfl,rfl⟩
 refine ⟨nle rfl,Nat.le_refl _,(lsB _),⟨(qN (fun _=>(lsC (lsI _ _) lsN)) _),trivial⟩,⟨(qN (fun _=>(lsC (lsI _ _) lsN)) _),trivial⟩,?_⟩
 have h:W (sC a1 l0) (fun z=>z=y):=lR hF rfl
 rw [sC.eq_1] at h
 refine aC dCo rfl fun K hK=>?_;conv=>whnf
 refine hK _ _ _ ?_
 refine aC dCo rfl fun K hK=>?_;conv=>whnf
 refine fQ (bs:=[.ab _]) (args0:=[.so 0 0 _ 1,_]) h84 [_] h (.cons (aFf rfl) (.cons (yD (Wk.refl _) (lsI _ _)) .nil)) ⟨⟨_,rfl,bkW _⟩,trivial⟩ rfl (nle rfl) (fun y e=>(⟨_,_,_,rfl,rfl,e,rfl,rfl⟩:aBM _ _ _ _)) (fun _ h=>?_);conv=>whnf
 refine hK _ _ _ ?_
 refine aP ?_
 replace h:=aO h
 refine oL dCo fun K hK=>?_;conv=>whnf
 refine hK _ ?_
 cases h
 exact ⟨Wk.refl _,⟨_,rfl,bkW _⟩,trivial⟩
def vV (f9002:Int→(Ar 8)→aE→List Int→Option (Option (List Int))) (c1:Int) (c3:Ar 8) (c4:aE) (l0:List Int) (s1:Int):Option (Ct Int (Option (List Int))):=cn (decide (s1<c4.N)) (gd (0≤(l0.getD (wr ((l0.length:Int)-1)).toNat default)∧(l0.getD (wr ((l0.length:Int)-1)).toNat default)<(8:Int)) (gd (0≤s1) (cn ((aAo .i64 (wW .i64 (c3.at1 (l0.getD (wr ((l0.length:Int)-1)).toNat default)) s1) 1)==1) (bd (sC s1 l0) fun y2=>cn (!y2) (ap l0 [s1] fun l3=>bd (f9002 c1 c3 c4 l3) fun y4=>cn y4.isSome (some (.rt y4)) (some (.nx (wr (s1+1))))) (some (.nx (wr (s1+1))))) (some (.nx (wr (s1+1))))))) (some (.bk s1))
def xT (f9002:Int→(Ar 8)→aE→List Int→Option (Option (List Int))) (c1:Int) (c3:Ar 8) (c4:aE) (l0:List Int):Option (Option (List Int)):=gd ((0:Int)≤wr ((l0.length:Int)-1)∧wr ((l0.length:Int)-1)<(l0.length:Int)) (cn ((l0.length:Int)==c1) (gd (0≤(l0.getD (wr ((l0.length:Int)-1)).toNat default)∧(l0.getD (wr ((l0.length:Int)-1)).toNat default)<(8:Int)) (gd ((0:Int)≤0∧0<(l0.length:Int)) (gd (0≤l0.getD (0:Int).toNat default) (cn ((aAo .i64 (wW .i64 (c3.at1 (l0.getD (wr ((l0.length:Int)-1)).toNat default)) (l0.getD (0:Int).toNat default)) 1)==1) (some (some l0)) (some none))))) (bd (lp (vV f9002 c1 c3 c4 l0) FU 0) fun c5=>smK c5 (fun s6=>some none) (fun r7=>some r7)))
def uR:Nat→Int→(Ar 8)→aE→List Int→Option (Option (List Int))
 | 0=>fun _ _ _ _=>none
 | k+1=>xT (uR k)
def mO (c1:Int) (c3:Ar 8) (c4:aE) (l0:List Int):Option (List Int)→List BD
 | some f=>[.ab (.cells [eL 1 eI default f]),.fn 66 [.v (.ep [eI c1] 0),.p 0,.v (.ep (cA c3) 0),.v (.ep [eI c4.N,(eL 2 kT default) c4.Pairs] 0),.p 1]]
 | none=>[.ab (.cells [.top]),.fn 66 [.v (.ep [eI c1] 0),.p 0,.v (.ep (cA c3) 0),.v (.ep [eI c4.N,(eL 2 kT default) c4.Pairs] 0),.p 1],.ab (.cells (flE (ceE eI) l0))]
def oI (k:Nat):List AV→List BD→AV→List BD→Prop:=fun args bs r bs'=>∃ c1 c3 c4 l0 y,args=[.so 2 0 l0.length 1,.ep [eI c1] 0,.ptr 0 0,.ep (cA c3) 0,.ep [eI c4.N,(eL 2 kT default) c4.Pairs] 0,.ptr 1 0]∧bs=[.ab (.cells [.top]),.fn 66 [.v (.ep [eI c1] 0),.p 0,.v (.ep (cA c3) 0),.v (.ep [eI c4.N,(eL 2 kT default) c4.Pairs] 0),.p 1],.ab (.cells (flE (ceE eI) l0))]∧uR k c1 c3 c4 l0=some y∧r=eB y.isSome∧bs'=mO c1 c3 c4 l0 y
theorem aKo (k:Nat) {T:Tbl} (hT:TOk Tryd.prog T) (hpf:cP T PF) (h67:T 67=wS sE) (h66:T 66=wS (oI k)):FOk Tryd.prog 66 (wS (oI (k+1))):=by
 refine yO hT hpf Tryd.func66 rfl Tryd.ntmps66 Tryd.results66 (by decide) ?_
 rintro args bs r bs' ⟨c1,c3,c4,l0,y,rfl,rfl,hF,rfl,rfl⟩
 refine ⟨nle rfl,?_,(lsB _),⟨aNA xZ,⟨(lsE (lsC (lsI _ _) lsN)),nle rfl,(lsE (bD _)),(lsE (lsC (lsI _ _) (lsC (lsL fun _=>(aI _)) lsN))),nle rfl,trivial⟩,(qN (fun _=>(lsC (lsI _ _) lsN)) _),trivial⟩,?_,?_⟩
 ·cases y<;>(unfold mO;exact nle rfl)
 ·cases y with
  | none=>unfold mO;exact ⟨aNA xZ,⟨(lsE (lsC (lsI _ _) lsN)),nle rfl,(lsE (bD _)),(lsE (lsC (lsI _ _) (lsC (lsL fun _=>(aI _)) lsN))),nle rfl,trivial⟩,(qN (fun _=>(lsC (lsI _ _) lsN)) _),trivial⟩
  | some f=>unfold mO;exact ⟨aNA (lsL fun _=>(lsI _ _)),⟨(lsE (lsC (lsI _ _) lsN)),nle rfl,(lsE (bD _)),(lsE (lsC (lsI _ _) (lsC (lsL fun _=>(aI _)) lsN))),nle rfl,trivial⟩,trivial⟩
 have h:W (xT (uR k) c1 c3 c4 l0) (fun z=>z=y):=lR hF rfl
 rw [xT.eq_1] at h
 refine aC dCo rfl fun K hK=>?_;conv=>whnf
 refine hK _ _ _ ?_
 refine aC dCo rfl fun K hK=>?_;conv=>whnf
 refine qZ h (rfl) fun hx1 h=>?_;conv=>whnf
 refine nlA rfl ?_;conv=>whnf
 refine bKo rfl ?_;conv=>whnf
 refine sF (enc:=eI) (d:=default) (q:=0) (fun _=>rfl) (rfl) hx1 (nle rfl) rfl ?_;conv=>whnf
 refine hK _ _ _ ?_
 refine aF ?_
 refine aC dCo rfl fun K hK=>?_;conv=>whnf
 refine gKo rfl ?_;conv=>whnf
 refine hK _ _ _ ?_
 refine aW fun K1 K2 hK1 hK2=>?_;conv=>whnf
 refine cLk h (fun _ h=>?_) (fun _ h=>?_)
 ·refine hK1 ?_
  refine aC dCo rfl fun K hK=>?_;conv=>whnf
  refine bKo rfl ?_;conv=>whnf
  refine And.intro rfl (And.intro (nle rfl) (And.intro rfl ?_));conv=>whnf
  refine hK _ _ _ ?_
  refine qA dCo cG rfl (by kernel_rfl) fun K hK=>?_;conv=>whnf
  refine bW h fun hx2 h=>?_;conv=>whnf
  refine iM rfl hx2 ?_;conv=>whnf
  refine qZ h (rfl) fun hx3 h=>?_;conv=>whnf
  refine nlA rfl ?_;conv=>whnf
  refine bKo rfl ?_;conv=>whnf
  refine sF (enc:=eI) (d:=default) (q:=0) (fun _=>rfl) (rfl) hx3 (nle rfl) rfl ?_;conv=>whnf
  refine bW h fun _ h=>?_;conv=>whnf
  refine hK _ _ _ ?_
  refine aM4 h (fun hb h=>?_) (fun hb h=>?_)
  ·refine tF 2 0 (enc:=eI) (e:=3) default (pS dCo rfl rfl rfl (fun _=>⟨rfl,rfl⟩)) ?_;(conv=>whnf);refine ⟨_,_,_,(Nat.ne_of_beq_eq_false rfl),rfl,rfl,rfl,rfl,?_⟩;conv=>whnf
   refine aP ?_
   refine aQ ?_
   replace h:=aO h
   refine oL dCo fun K hK=>?_;conv=>whnf
   refine hK _ ?_
   cases h
   refine And.intro (aTo hb) ?_;unfold mO;exact ⟨⟨_,rfl,bkW _⟩,rfl,trivial⟩
  refine aP ?_
  refine aQ ?_
  replace h:=aO h
  refine oL dCo fun K hK=>?_;conv=>whnf
  refine hK _ ?_
  cases h
  refine And.intro (aTo hb) ?_;unfold mO;exact ⟨⟨_,rfl,aJJ (.cons aRf .nil)⟩,rfl,⟨_,rfl,bkW _⟩,trivial⟩
 refine hK2 ?_
 refine aG ?_
 refine tHn ?_
 refine aF ?_
 refine aC dCo rfl fun K hK=>?_;conv=>whnf
 refine gKo rfl ?_;conv=>whnf
 refine hK _ _ _ ?_
 refine aN3 0 rfl fun m hm=>?_
 refine aJ ?_
 replace h:=bL h
 refine aHa (body:=vV _ _ _ _ _) rfl h [0,3,5,8,31] (fun σ=>aGy σ [0,1]++uE σ []++yN σ []) (fun σ=>yN σ []++uE σ []++aGy σ [2]) [] (fun kl kh kr ids b s=>⟨ofL ([(32,eI s)]++kl),ofH (([]++kh)++([]++kr)),b+64⟩) ?_;(conv=>whnf);refine And.intro ?_ (fun s m h=>cR ?_)
 ·refine aR ?_;conv=>whnf
  exact And.intro rfl (And.intro (aLc wkI (aLc (WkR.sl (fun _=>rfl)) (aLc (wkr (lsE (bD _))) (aLc (WkR.ptr (fun _=>rfl)) (aLc wkI (aLc wkI aLn)))))) (aLc ⟨some _,rfl,bRc rfl (cKc (WkR.top _ _) cKn)⟩ (aLc ⟨some _,rfl,bRc rfl (cKc (jX bV (aM (wkr (lsE (lsC (lsI _ _) lsN))) (aM (WkR.ptr (fun _=>rfl)) (aM (wkr (lsE (bD _))) (aM (wkr (lsE (lsC (lsI _ _) (lsC (lsL fun _=>(aI _)) lsN)))) (aM (WkR.ptr (fun _=>rfl)) bV)))))) cKn)⟩ (aLc ⟨some _,rfl,kA rfl (fun _=>(lsC (lsI _ _) lsN))⟩ aLn))))
 replace h:=bL h;rw [vV.eq_1] at h
 refine aC dCo rfl fun K hK=>?_;conv=>whnf
 refine hK _ _ _ ?_
 refine aF ?_
 refine aW fun K1 K2 hK1 hK2=>?_;conv=>whnf
 refine cLk h (fun _ h=>?_) (fun _ h=>?_)
 ·refine hK1 ?_
  refine aG ?_
  refine tHn ?_
  refine aF ?_
  refine aJ ?_
  refine aC dCo rfl fun K hK=>?_;conv=>whnf
  refine hK _ _ _ ?_
  refine aFh (.step 0 (.step 1 (.step 2 (.step 3 (.step 4 (.step 5 (.step 6 (.step 7 (.step 8 (.step 9 (.step 10 (.step 11 (.step 12 (.step 13 (.step 15 (.step 16 (.step 17 (.two 14 18 (.step 18 (.step 19 (.step 20 .nil))) (.step 14 (.step 19 (.step 20 .nil))))))))))))))))))))) dCo cG rfl (by kernel_rfl) fun K hK=>?_;conv=>whnf
  refine bW h fun hx4 h=>?_;conv=>whnf
  refine iM rfl hx4 ?_;conv=>whnf
  refine bW h fun _ h=>?_;conv=>whnf
  refine cLk h (fun _ h=>?_) (fun _ h=>?_)<;>(conv=>whnf)
  ·refine fQ (bs:=[.ab _]) (args0:=[.so 0 0 _ 1,_]) h67 [_] h (.cons (aKJ rfl) (.cons (yD (Wk.refl _) (lsI _ _)) .nil)) ⟨⟨_,rfl,bkW _⟩,trivial⟩ rfl (nle rfl) (fun y e=>(⟨_,_,_,rfl,rfl,e,rfl,rfl⟩:sE _ _ _ _)) (fun _ h=>?_);conv=>whnf
   refine cLk h (fun _ h=>?_) (fun _ h=>?_)<;>(conv=>whnf)
   ·refine dL (enc:=eI) (d:=default) (l:=[_]) (f:=fun _=>some ()) (Φ:=fun _=>True) dCo (nN _) rfl rfl rfl ⟨nle rfl,nle rfl,rfl⟩ rfl ⟨⟨rfl,rfl,rfl⟩,trivial⟩ (fun _=>?_);conv=>whnf
    rcases Nat.lt_or_eq_of_le hm with hmm | hmm
    ·refine And.intro ?_ ?_
     ·refine nlA rfl ?_;conv=>whnf
      refine bKo rfl ?_;conv=>whnf
      refine gKo rfl ?_;conv=>whnf
      refine aKp dCo h rfl rfl rfl ⟨rfl,nle rfl,nle rfl,rfl⟩ rfl rfl hmm (fun h=>?_);conv=>whnf
      refine fQ (bs:=[.ab (.cells [.top]),.fn 66 [.v (.ep [eI _] 0),.p 0,.v (.ep (cA _) 0),.v (.ep [eI _,_] 0),.p 1],.ab _]) (args0:=[.so 2 0 _ 1,_,.ptr 0 0,_,_,.ptr 1 0]) h66 [_,_,_] h (.cons (aKJ rfl) (.cons (cM (lsE (lsC (lsI _ _) lsN))) (.cons (jJ rfl) (.cons (cM (lsE (bD _))) (.cons (cM (lsE (lsC (lsI _ _) (lsC (lsL fun _=>(aI _)) lsN)))) (.cons (jJ rfl) .nil)))))) ⟨⟨_,rfl,bkW _⟩,rfl,⟨_,rfl,bkW _⟩,trivial⟩ rfl (nle rfl) (fun y e=>(⟨_,_,_,_,_,rfl,rfl,e,rfl,rfl⟩:oI _ _ _ _ _)) (fun y h=>?_)
      rcases y with _ | f<;>(conv=>whnf)
      ·refine hK _ _ _ ?_
       refine aW fun K1 K2 hK1 hK2=>?_;conv=>whnf
       refine hK2 ?_
       replace h:=rS h
       refine aG ?_
       refine iBn ?_
       refine tHn ?_
       refine bY dCo rfl fun K hK=>?_;conv=>whnf
       refine hK _ _ _ ?_
       refine tHn ?_
       replace h:=bK h
       refine ⟨_,h,?_⟩
       refine aR ?_;conv=>whnf
       exact And.intro rfl (And.intro (aLc wkI (aLc (WkR.sl (fun _=>rfl)) (aLc (wkr (lsE (bD _))) (aLc (WkR.ptr (fun _=>rfl)) (aLc wkI (aLc wkI aLn)))))) (aLc ⟨some _,rfl,bRc rfl (cKc (WkR.top _ _) cKn)⟩ (aLc ⟨some _,rfl,bRc rfl (cKc (jX bV (aM (wkr (lsE (lsC (lsI _ _) lsN))) (aM (WkR.ptr (fun _=>rfl)) (aM (wkr (lsE (bD _))) (aM (wkr (lsE (lsC (lsI _ _) (lsC (lsL fun _=>(aI _)) lsN)))) (aM (WkR.ptr (fun _=>rfl)) bV)))))) cKn)⟩ (aLc ⟨some _,rfl,aJA rfl⟩ aLn))))
      refine hK _ _ _ ?_
      refine aW fun K1 K2 hK1 hK2=>?_;conv=>whnf
      refine hK1 ?_
      replace h:=rM h
      refine aC dCo rfl fun K hK=>?_;conv=>whnf
      refine hK _ _ _ ?_
      refine aP ?_
      refine aU ?_
      refine aQ ?_
      refine aQ ?_
      refine aU ?_
      refine aQ ?_
      replace h:=jO h
      replace h:=jN h
      replace h:=aO h
      refine oL dCo fun K hK=>?_;conv=>whnf
      refine hK _ ?_
      cases h
      refine And.intro (Wk.refl _) ?_;unfold mO;exact ⟨⟨_,rfl,bkW _⟩,rfl,trivial⟩
     ·refine aKp dCo h rfl rfl rfl ⟨rfl,nle rfl,nle rfl,rfl⟩ rfl rfl hmm (fun h=>?_);conv=>whnf
      refine nlA rfl ?_;conv=>whnf
      refine bKo rfl ?_;conv=>whnf
      refine gKo rfl ?_;conv=>whnf
      refine fQ (bs:=[.ab (.cells [.top]),.fn 66 [.v (.ep [eI _] 0),.p 0,.v (.ep (cA _) 0),.v (.ep [eI _,_] 0),.p 1],.ab _]) (args0:=[.so 2 0 _ 1,_,.ptr 0 0,_,_,.ptr 1 0]) h66 [_,_,_] h (.cons (aKJ rfl) (.cons (cM (lsE (lsC (lsI _ _) lsN))) (.cons (jJ rfl) (.cons (cM (lsE (bD _))) (.cons (cM (lsE (lsC (lsI _ _) (lsC (lsL fun _=>(aI _)) lsN)))) (.cons (jJ rfl) .nil)))))) ⟨⟨_,rfl,bkW _⟩,rfl,⟨_,rfl,bkW _⟩,trivial⟩ rfl (nle rfl) (fun y e=>(⟨_,_,_,_,_,rfl,rfl,e,rfl,rfl⟩:oI _ _ _ _ _)) (fun y h=>?_)
      rcases y with _ | f<;>(conv=>whnf)
      ·refine hK _ _ _ ?_
       refine aW fun K1 K2 hK1 hK2=>?_;conv=>whnf
       refine hK2 ?_
       replace h:=rS h
       refine aG ?_
       refine iBn ?_
       refine tHn ?_
       refine bY dCo rfl fun K hK=>?_;conv=>whnf
       refine hK _ _ _ ?_
       refine tHn ?_
       replace h:=bK h
       refine ⟨_,h,?_⟩
       refine aR ?_;conv=>whnf
       exact And.intro rfl (And.intro (aLc wkI (aLc (WkR.sl (fun _=>rfl)) (aLc (wkr (lsE (bD _))) (aLc (WkR.ptr (fun _=>rfl)) (aLc wkI (aLc wkI aLn)))))) (aLc ⟨some _,rfl,bRc rfl (cKc (WkR.top _ _) cKn)⟩ (aLc ⟨some _,rfl,bRc rfl (cKc (jX bV (aM (wkr (lsE (lsC (lsI _ _) lsN))) (aM (WkR.ptr (fun _=>rfl)) (aM (wkr (lsE (bD _))) (aM (wkr (lsE (lsC (lsI _ _) (lsC (lsL fun _=>(aI _)) lsN)))) (aM (WkR.ptr (fun _=>rfl)) bV)))))) cKn)⟩ (aLc ⟨some _,rfl,aJA rfl⟩ aLn))))
      refine hK _ _ _ ?_
      refine aW fun K1 K2 hK1 hK2=>?_;conv=>whnf
      refine hK1 ?_
      replace h:=rM h
      refine aC dCo rfl fun K hK=>?_;conv=>whnf
      refine hK _ _ _ ?_
      refine aP ?_
      refine aU ?_
      refine aQ ?_
      refine aQ ?_
      refine aU ?_
      refine aQ ?_
      replace h:=jO h
      replace h:=jN h
      replace h:=aO h
      refine oL dCo fun K hK=>?_;conv=>whnf
      refine hK _ ?_
      cases h
      refine And.intro (Wk.refl _) ?_;unfold mO;exact ⟨⟨_,rfl,bkW _⟩,rfl,trivial⟩
    replace hmm:=hmm.symm
    refine And.intro ?_ ?_
    ·refine nlA rfl ?_;conv=>whnf
     refine bKo rfl ?_;conv=>whnf
     refine gKo rfl ?_;conv=>whnf
     refine aJs dCo h rfl rfl rfl ⟨rfl,nle rfl,nle rfl,rfl⟩ rfl rfl hmm (fun h=>?_);conv=>whnf
     refine fQ (bs:=[.ab (.cells [.top]),.fn 66 [.v (.ep [eI _] 0),.p 0,.v (.ep (cA _) 0),.v (.ep [eI _,_] 0),.p 1],.ab _]) (args0:=[.so 2 0 _ 1,_,.ptr 0 0,_,_,.ptr 1 0]) h66 [_,_,_] h (.cons (aFf rfl) (.cons (cM (lsE (lsC (lsI _ _) lsN))) (.cons (jJ rfl) (.cons (cM (lsE (bD _))) (.cons (cM (lsE (lsC (lsI _ _) (lsC (lsL fun _=>(aI _)) lsN)))) (.cons (jJ rfl) .nil)))))) ⟨⟨_,rfl,bkW _⟩,rfl,⟨_,rfl,bkW _⟩,trivial⟩ rfl (nle rfl) (fun y e=>(⟨_,_,_,_,_,rfl,rfl,e,rfl,rfl⟩:oI _ _ _ _ _)) (fun y h=>?_)
     rcases y with _ | f<;>(conv=>whnf)
     ·refine hK _ _ _ ?_
      refine aW fun K1 K2 hK1 hK2=>?_;conv=>whnf
      refine hK2 ?_
      replace h:=rS h
      refine aG ?_
      refine iBn ?_
      refine tHn ?_
      refine bY dCo rfl fun K hK=>?_;conv=>whnf
      refine hK _ _ _ ?_
      refine tHn ?_
      replace h:=bK h
      refine ⟨_,h,?_⟩
      refine aR ?_;conv=>whnf
      exact And.intro rfl (And.intro (aLc wkI (aLc (WkR.sl (fun _=>rfl)) (aLc (wkr (lsE (bD _))) (aLc (WkR.ptr (fun _=>rfl)) (aLc wkI (aLc wkI aLn)))))) (aLc ⟨some _,rfl,bRc rfl (cKc (WkR.top _ _) cKn)⟩ (aLc ⟨some _,rfl,bRc rfl (cKc (jX bV (aM (wkr (lsE (lsC (lsI _ _) lsN))) (aM (WkR.ptr (fun _=>rfl)) (aM (wkr (lsE (bD _))) (aM (wkr (lsE (lsC (lsI _ _) (lsC (lsL fun _=>(aI _)) lsN)))) (aM (WkR.ptr (fun _=>rfl)) bV)))))) cKn)⟩ (aLc ⟨some _,rfl,kA rfl (fun _=>(lsC (lsI _ _) lsN))⟩ aLn))))
     refine hK _ _ _ ?_
     refine aW fun K1 K2 hK1 hK2=>?_;conv=>whnf
     refine hK1 ?_
     replace h:=rM h
     refine aC dCo rfl fun K hK=>?_;conv=>whnf
     refine hK _ _ _ ?_
     refine aP ?_
     refine aU ?_
     refine aQ ?_
     refine aQ ?_
     refine aU ?_
     refine aQ ?_
     replace h:=jO h
     replace h:=jN h
     replace h:=aO h
     refine oL dCo fun K hK=>?_;conv=>whnf
     refine hK _ ?_
     cases h
     refine And.intro (Wk.refl _) ?_;unfold mO;exact ⟨⟨_,rfl,bkW _⟩,rfl,trivial⟩
    ·refine aJs dCo h rfl rfl rfl ⟨rfl,nle rfl,nle rfl,rfl⟩ rfl rfl hmm (fun h=>?_);conv=>whnf
     refine nlA rfl ?_;conv=>whnf
     refine bKo rfl ?_;conv=>whnf
     refine gKo rfl ?_;conv=>whnf
     refine fQ (bs:=[.ab (.cells [.top]),.fn 66 [.v (.ep [eI _] 0),.p 0,.v (.ep (cA _) 0),.v (.ep [eI _,_] 0),.p 1],.ab _]) (args0:=[.so 2 0 _ 1,_,.ptr 0 0,_,_,.ptr 1 0]) h66 [_,_,_] h (.cons (aFf rfl) (.cons (cM (lsE (lsC (lsI _ _) lsN))) (.cons (jJ rfl) (.cons (cM (lsE (bD _))) (.cons (cM (lsE (lsC (lsI _ _) (lsC (lsL fun _=>(aI _)) lsN)))) (.cons (jJ rfl) .nil)))))) ⟨⟨_,rfl,bkW _⟩,rfl,⟨_,rfl,bkW _⟩,trivial⟩ rfl (nle rfl) (fun y e=>(⟨_,_,_,_,_,rfl,rfl,e,rfl,rfl⟩:oI _ _ _ _ _)) (fun y h=>?_)
     rcases y with _ | f<;>(conv=>whnf)
     ·refine hK _ _ _ ?_
      refine aW fun K1 K2 hK1 hK2=>?_;conv=>whnf
      refine hK2 ?_
      replace h:=rS h
      refine aG ?_
      refine iBn ?_
      refine tHn ?_
      refine bY dCo rfl fun K hK=>?_;conv=>whnf
      refine hK _ _ _ ?_
      refine tHn ?_
      replace h:=bK h
      refine ⟨_,h,?_⟩
      refine aR ?_;conv=>whnf
      exact And.intro rfl (And.intro (aLc wkI (aLc (WkR.sl (fun _=>rfl)) (aLc (wkr (lsE (bD _))) (aLc (WkR.ptr (fun _=>rfl)) (aLc wkI (aLc wkI aLn)))))) (aLc ⟨some _,rfl,bRc rfl (cKc (WkR.top _ _) cKn)⟩ (aLc ⟨some _,rfl,bRc rfl (cKc (jX bV (aM (wkr (lsE (lsC (lsI _ _) lsN))) (aM (WkR.ptr (fun _=>rfl)) (aM (wkr (lsE (bD _))) (aM (wkr (lsE (lsC (lsI _ _) (lsC (lsL fun _=>(aI _)) lsN)))) (aM (WkR.ptr (fun _=>rfl)) bV)))))) cKn)⟩ (aLc ⟨some _,rfl,kA rfl (fun _=>(lsC (lsI _ _) lsN))⟩ aLn))))
     refine hK _ _ _ ?_
     refine aW fun K1 K2 hK1 hK2=>?_;conv=>whnf
     refine hK1 ?_
     replace h:=rM h
     refine aC dCo rfl fun K hK=>?_;conv=>whnf
     refine hK _ _ _ ?_
     refine aP ?_
     refine aU ?_
     refine aQ ?_
     refine aQ ?_
     refine aU ?_
     refine aQ ?_
     replace h:=jO h
     replace h:=jN h
     replace h:=aO h
     refine oL dCo fun K hK=>?_;conv=>whnf
     refine hK _ ?_
     cases h
     refine And.intro (Wk.refl _) ?_;unfold mO;exact ⟨⟨_,rfl,bkW _⟩,rfl,trivial⟩
   refine And.intro ?_ ?_
   ·refine hK _ _ _ ?_
    refine aW fun K1 K2 hK1 hK2=>?_;conv=>whnf
    refine hK2 ?_
    refine aG ?_
    refine iBn ?_
    refine tHn ?_
    refine bY dCo rfl fun K hK=>?_;conv=>whnf
    refine hK _ _ _ ?_
    refine tHn ?_
    replace h:=bK h
    refine ⟨_,h,?_⟩
    refine aR ?_;conv=>whnf
    exact And.intro rfl (And.intro (aLc wkI (aLc (WkR.sl (fun _=>rfl)) (aLc (wkr (lsE (bD _))) (aLc (WkR.ptr (fun _=>rfl)) (aLc wkI (aLc wkI aLn)))))) (aLc ⟨some _,rfl,bRc rfl (cKc (WkR.top _ _) cKn)⟩ (aLc ⟨some _,rfl,bRc rfl (cKc (jX bV (aM (wkr (lsE (lsC (lsI _ _) lsN))) (aM (WkR.ptr (fun _=>rfl)) (aM (wkr (lsE (bD _))) (aM (wkr (lsE (lsC (lsI _ _) (lsC (lsL fun _=>(aI _)) lsN)))) (aM (WkR.ptr (fun _=>rfl)) bV)))))) cKn)⟩ (aLc ⟨some _,rfl,kA rfl (fun _=>(lsC (lsI _ _) lsN))⟩ aLn))))
   ·refine hK _ _ _ ?_
    refine aW fun K1 K2 hK1 hK2=>?_;conv=>whnf
    refine hK2 ?_
    refine aG ?_
    refine iBn ?_
    refine tHn ?_
    refine bY dCo rfl fun K hK=>?_;conv=>whnf
    refine hK _ _ _ ?_
    refine tHn ?_
    replace h:=bK h
    refine ⟨_,h,?_⟩
    refine aR ?_;conv=>whnf
    exact And.intro rfl (And.intro (aLc wkI (aLc (WkR.sl (fun _=>rfl)) (aLc (wkr (lsE (bD _))) (aLc (WkR.ptr (fun _=>rfl)) (aLc wkI (aLc wkI aLn)))))) (aLc ⟨some _,rfl,bRc rfl (cKc (WkR.top _ _) cKn)⟩ (aLc ⟨some _,rfl,bRc rfl (cKc (jX bV (aM (wkr (lsE (lsC (lsI _ _) lsN))) (aM (WkR.ptr (fun _=>rfl)) (aM (wkr (lsE (bD _))) (aM (wkr (lsE (lsC (lsI _ _) (lsC (lsL fun _=>(aI _)) lsN)))) (aM (WkR.ptr (fun _=>rfl)) bV)))))) cKn)⟩ (aLc ⟨some _,rfl,kA rfl (fun _=>(lsC (lsI _ _) lsN))⟩ aLn))))
  refine And.intro ?_ ?_
  ·refine hK _ _ _ ?_
   refine aW fun K1 K2 hK1 hK2=>?_;conv=>whnf
   refine hK2 ?_
   refine aG ?_
   refine iBn ?_
   refine tHn ?_
   refine bY dCo rfl fun K hK=>?_;conv=>whnf
   refine hK _ _ _ ?_
   refine tHn ?_
   replace h:=bK h
   refine ⟨_,h,?_⟩
   refine aR ?_;conv=>whnf
   exact And.intro rfl (And.intro (aLc wkI (aLc (WkR.sl (fun _=>rfl)) (aLc (wkr (lsE (bD _))) (aLc (WkR.ptr (fun _=>rfl)) (aLc wkI (aLc wkI aLn)))))) (aLc ⟨some _,rfl,bRc rfl (cKc (WkR.top _ _) cKn)⟩ (aLc ⟨some _,rfl,bRc rfl (cKc (jX bV (aM (wkr (lsE (lsC (lsI _ _) lsN))) (aM (WkR.ptr (fun _=>rfl)) (aM (wkr (lsE (bD _))) (aM (wkr (lsE (lsC (lsI _ _) (lsC (lsL fun _=>(aI _)) lsN)))) (aM (WkR.ptr (fun _=>rfl)) bV)))))) cKn)⟩ (aLc ⟨some _,rfl,kA rfl (fun _=>(lsC (lsI _ _) lsN))⟩ aLn))))
  ·refine hK _ _ _ ?_
   refine aW fun K1 K2 hK1 hK2=>?_;conv=>whnf
   refine hK2 ?_
   refine aG ?_
   refine iBn ?_
   refine tHn ?_
   refine bY dCo rfl fun K hK=>?_;conv=>whnf
   refine hK _ _ _ ?_
   refine tHn ?_
   replace h:=bK h
   refine ⟨_,h,?_⟩
   refine aR ?_;conv=>whnf
   exact And.intro rfl (And.intro (aLc wkI (aLc (WkR.sl (fun _=>rfl)) (aLc (wkr (lsE (bD _))) (aLc (WkR.ptr (fun _=>rfl)) (aLc wkI (aLc wkI aLn)))))) (aLc ⟨some _,rfl,bRc rfl (cKc (WkR.top _ _) cKn)⟩ (aLc ⟨some _,rfl,bRc rfl (cKc (jX bV (aM (wkr (lsE (lsC (lsI _ _) lsN))) (aM (WkR.ptr (fun _=>rfl)) (aM (wkr (lsE (bD _))) (aM (wkr (lsE (lsC (lsI _ _) (lsC (lsL fun _=>(aI _)) lsN)))) (aM (WkR.ptr (fun _=>rfl)) bV)))))) cKn)⟩ (aLc ⟨some _,rfl,kA rfl (fun _=>(lsC (lsI _ _) lsN))⟩ aLn))))
 refine hK2 ?_
 refine bI ?_
 refine aT ?_
 refine aT ?_
 refine aS ?_
 replace h:=cV h
 replace h:=cU h
 refine tHn ?_
 refine aC dCo rfl fun K hK=>?_;conv=>whnf
 refine hK _ _ _ ?_
 refine aP ?_
 replace h:=aO h
 refine oL dCo fun K hK=>?_;conv=>whnf
 refine hK _ ?_
 cases h
 refine And.intro (Wk.refl _) ?_;unfold mO;exact ⟨⟨_,rfl,bkW _⟩,rfl,⟨_,rfl,bkW _⟩,trivial⟩
theorem aJ4 {T:Tbl} (hT:TOk Tryd.prog T) (hpf:cP T PF) (h67:T 67=wS sE):FOk Tryd.prog 66 (wS (oI 10)):=
 aAU (S:=oI) hT hpf (by decide) Tryd.func66 rfl (by decide) (by rintro a b c d ⟨c1,c3,c4,l0,y,-,-,h,-⟩;cases h) (fun k T' hT' hpf' hne h=>aKo k hT' hpf' ((hne 67 (by decide)).trans h67) h) 10
def nS (a0:aE) (s6:Int×(Ar 8)) (s8:Int) (s9:Int):Option (Ct Int ((List Int)×Bool)):=cn (decide (s9<a0.N)) (lt ([s9]:List Int) fun l10=>
  bd (uR 10 s8 s6.2 a0 l10) fun y11=>cn y11.isSome (gd ((y11.getD []).length≤1048576) (lt (y11.getD []) fun m12=>
  some (.rt (m12,true)))) (some (.nx (wr (s9+1))))) (some (.bk s9))
def oA (a0:aE) (s6:Int×(Ar 8)) (s8:Int):Option (Ct Int ((List Int)×Bool)):=cn (decide (s8≤a0.N)) (bd (lp (nS a0 s6 s8) FU 0) fun c13=>
  smK c13 (fun s14=>some (.nx (wr (s8+1)))) (fun r15=>some (.rt r15))) (some (.bk s8))
  def lS (a0:aE) (s2:Int×(Ar 8)):Option (Ct (Int×(Ar 8)) ((List Int)×Bool)):=cn (decide (s2.1<(a0.Pairs.length:Int))) (ix a0.Pairs default s2.1 fun e3=>
  gd (0≤e3.1∧e3.1<(8:Int)) (gd (0≤e3.2) (gd (0≤e3.1∧e3.1<(8:Int)) (let m4:=s2.2.st1 e3.1 (bor .i64 (s2.2.at1 e3.1) (aDv .i64 1 e3.2));
  some (.nx ((wr (s2.1+1)),m4)))))) (some (.bk (s2.1,s2.2)))
def fK (a0:aE):Option ((List Int)×Bool):=bd (fE a0) fun y1=>
  cn (!y1) (some ([],false)) (bd (lp (lS a0) FU (0,(Ar.zero 8))) fun c5=>smK c5 (fun s6=>bd (lp (oA a0 s6) FU 2) fun c16=>smK c16 (fun s17=>
  some ([],false)) (fun r18=>some r18)) (fun r7=>some r7))
def nK:List AV→AV→Prop:=fun args r=>∃ a0,args=[bF a0]∧W (fK a0) fun y=>r=(.tup [(eL 1 eI default) y.1,eB y.2])
theorem aCo {T:Tbl} (hT:TOk Tryd.prog T) (hpf:cP T PF) (h33:T 33=aH iD) (h60:T 60=aCF 1 eI default) (h66:T 66=wS (oI 10)):FOk Tryd.prog 32 (aH nK):=by
 refine bM hT hpf Tryd.func32 rfl Tryd.ntmps32 Tryd.results32 (by decide) ?_
 rintro args r ⟨a0,rfl,h⟩
 refine ⟨nle rfl,?_,?_⟩
 ·exact (lsC (bT _) lsN)
 rw [fK.eq_1] at h
 refine aC dCo rfl fun K hK=>?_;conv=>whnf
 refine hK _ _ _ ?_
 refine aF ?_
 refine aC dCo rfl fun K hK=>?_;conv=>whnf
 refine nlA rfl ?_;conv=>whnf
 refine bKo rfl ?_;conv=>whnf
 refine nlA rfl ?_;conv=>whnf
 replace h:=bL h
 refine kG h33 h (WkL.refl _) (fun _ h=>?_);conv=>whnf
 refine hK _ _ _ ?_
 refine aW fun K1 K2 hK1 hK2=>?_;conv=>whnf
 refine cLk h (fun _ h=>?_) (fun _ h=>?_)
 ·refine hK1 ?_
  refine aC dCo rfl fun K hK=>?_;conv=>whnf
  refine hK _ _ _ ?_
  refine aP ?_
  refine aQ ?_
  replace h:=aO h
  refine aK dCo fun K hK=>?_;conv=>whnf
  refine hK _ ?_
  cases h
  exact mL (aD iO (aD (Wk.refl _) bE))
 refine hK2 ?_
 refine aG ?_
 refine tHn ?_
 refine aC dCo rfl fun K hK=>?_;conv=>whnf
 refine hK _ _ _ ?_
 refine aF ?_
 refine aC dCo rfl fun K hK=>?_;conv=>whnf
 refine nlA rfl ?_;conv=>whnf
 refine bKo rfl ?_;conv=>whnf
 refine gKo rfl ?_;conv=>whnf
 refine hK _ _ _ ?_
 refine aJ ?_
 replace h:=bL h
 refine cY (body:=lS _) rfl h [1,4,15,16] [1] [] [4] (fun kl kh kr ids b s=>⟨ofL ([(17,eI s.1)]++kl),ofH (([]++kh)++([(xW ids 0,.cells (cA s.2))]++kr)),b+128⟩) ?_;(conv=>whnf);refine And.intro ?_ (fun s m h=>cR ?_)
 ·refine aR ?_;conv=>whnf
  exact And.intro rfl (And.intro (aLc wkI (aLc (WkR.ptr (fun _=>rfl)) (aLc (WkR.ptr (fun _=>rfl)) (aLc (wkr (lsL fun _=>(aI _))) (aLc wkI aLn))))) (aLc ⟨some _,rfl,bRc rfl (cKc wkI (cKc (wkr (lsL fun _=>(aI _))) cKn))⟩ (aLc ⟨some _,rfl,bO (x:=(Ar.zero 8)) rfl rfl⟩ aLn)))
 replace h:=bL h;rw [lS.eq_1] at h
 refine aC dCo rfl fun K hK=>?_;conv=>whnf
 refine hK _ _ _ ?_
 refine aF ?_
 refine aW fun K1 K2 hK1 hK2=>?_;conv=>whnf
 refine cLk h (fun _ h=>?_) (fun _ h=>?_)
 ·refine hK1 ?_
  refine aG ?_
  refine tHn ?_
  refine aF ?_
  refine aJ ?_
  refine aC dCo rfl fun K hK=>?_;conv=>whnf
  refine dD h fun _ h=>?_;conv=>whnf
  refine nlA rfl ?_;conv=>whnf
  refine bKo rfl ?_;conv=>whnf
  refine And.intro rfl (And.intro (nle rfl) (And.intro rfl ?_));conv=>whnf
  refine hK _ _ _ ?_
  refine nQ dCo cG rfl (by kernel_rfl) fun K hK=>?_;conv=>whnf
  refine And.intro (by decide) ?_;conv=>whnf
  refine nlA rfl ?_;conv=>whnf
  refine bKo rfl ?_;conv=>whnf
  refine gKo rfl ?_;conv=>whnf
  refine bW h fun hx27 h=>?_;conv=>whnf
  refine nlA rfl ?_;conv=>whnf
  refine bKo rfl ?_;conv=>whnf
  refine iM rfl hx27 ?_;conv=>whnf
  refine And.intro (by decide) ?_;conv=>whnf
  refine nlA rfl ?_;conv=>whnf
  refine bKo rfl ?_;conv=>whnf
  refine gKo rfl ?_;conv=>whnf
  refine bW h fun _ h=>?_;conv=>whnf
  refine bW h fun hx28 h=>?_;conv=>whnf
  refine bKo rfl ?_;conv=>whnf
  refine aCL rfl hx28 rfl rfl ?_;conv=>whnf
  refine hK _ _ _ ?_
  refine iBn ?_
  refine tHn ?_
  refine bY dCo rfl fun K hK=>?_;conv=>whnf
  refine hK _ _ _ ?_
  refine tHn ?_
  replace h:=bK h
  refine ⟨_,h,?_⟩
  refine aR ?_;conv=>whnf
  exact And.intro rfl (And.intro (aLc wkI (aLc (WkR.ptr (fun _=>rfl)) (aLc (WkR.ptr (fun _=>rfl)) (aLc (wkr (lsL fun _=>(aI _))) (aLc wkI aLn))))) (aLc ⟨some _,rfl,bRc rfl (cKc wkI (cKc (wkr (lsL fun _=>(aI _))) cKn))⟩ (aLc ⟨some _,rfl,bO rfl rfl⟩ aLn)))
 refine hK2 ?_
 refine bI ?_
 refine aT ?_
 refine aT ?_
 refine aS ?_
 replace h:=cV h
 replace h:=cU h
 refine tHn ?_
 refine aF ?_
 refine aC dCo rfl fun K hK=>?_;conv=>whnf
 refine bKo rfl ?_;conv=>whnf
 refine And.intro rfl (And.intro (nle rfl) (And.intro rfl ?_));conv=>whnf
 refine hK _ _ _ ?_
 refine sH 1 ?_;(conv=>whnf);refine ⟨_,rfl,?_⟩
 refine sH 4 ?_;(conv=>whnf);refine ⟨_,rfl,?_⟩
 refine aJ ?_
 replace h:=bL h
 refine qU (body:=oA _ _) rfl h [1,4,7] [] [7] (fun kl kh ids b s=>⟨ofL ([]++kl),ofH ([(xW ids 0,.cells [eI s])]++kh),b+64⟩) ?_;(conv=>whnf);refine And.intro ?_ (fun s m h=>cR ?_)
 ·refine bN ?_;conv=>whnf
  exact And.intro rfl (And.intro (aLc (wkr (lsE (lsC (lsI _ _) (lsC (lsL fun _=>(aI _)) lsN)))) (aLc (wkr (lsE (bD _))) (aLc (WkR.ptr (fun _=>rfl)) aLn))) (aLc ⟨some _,rfl,bRc rfl (cKc wkI cKn)⟩ aLn))
 replace h:=bL h;rw [oA.eq_1] at h
 refine aF ?_
 refine aC dCo rfl fun K hK=>?_;conv=>whnf
 refine nlA rfl ?_;conv=>whnf
 refine bKo rfl ?_;conv=>whnf
 refine gKo rfl ?_;conv=>whnf
 refine gKo rfl ?_;conv=>whnf
 refine hK _ _ _ ?_
 refine aW fun K1 K2 hK1 hK2=>?_;conv=>whnf
 refine cLk h (fun _ h=>?_) (fun _ h=>?_)
 ·refine hK1 ?_
  refine aG ?_
  refine tHn ?_
  refine aF ?_
  refine aJ ?_
  refine aC dCo rfl fun K hK=>?_;conv=>whnf
  refine hK _ _ _ ?_
  refine aC dCo rfl fun K hK=>?_;conv=>whnf
  refine hK _ _ _ ?_
  refine sH 7 ?_;(conv=>whnf);refine ⟨_,rfl,?_⟩
  refine aC dCo rfl fun K hK=>?_;conv=>whnf
  refine bKo rfl ?_;conv=>whnf
  refine And.intro rfl (And.intro (nle rfl) (And.intro rfl ?_));conv=>whnf
  refine hK _ _ _ ?_
  refine aNI 9 rfl rfl ?_
  refine aC dCo rfl fun K hK=>?_;conv=>whnf
  refine gKo rfl ?_;conv=>whnf
  refine hK _ _ _ ?_
  refine aJ ?_
  replace h:=bL h
  refine qU (body:=nS _ _ _) rfl h [1,4,7,8,9,39] [8,9] [] (fun kl kh ids b s=>⟨ofL ([(40,eI s)]++kl),ofH ([]++kh),b+64⟩) ?_;(conv=>whnf);refine And.intro ?_ (fun s m h=>cR ?_)
  ·refine bN ?_;conv=>whnf
   exact And.intro rfl (And.intro (aLc wkI (aLc (wkr (lsE (lsC (lsI _ _) (lsC (lsL fun _=>(aI _)) lsN)))) (aLc (wkr (lsE (bD _))) (aLc (wkr (lsE (lsC (lsI _ _) lsN))) (aLc (WkR.ptr (fun _=>rfl)) (aLc (WkR.ptr (fun _=>rfl)) (aLc wkI aLn))))))) (aLc ⟨some _,rfl,bRc rfl (cKc (jX bV (aM (wkr (lsE (lsC (lsI _ _) lsN))) (aM (WkR.ptr (fun _=>rfl)) (aM (wkr (lsE (bD _))) (aM (wkr (lsE (lsC (lsI _ _) (lsC (lsL fun _=>(aI _)) lsN)))) (aM (WkR.ptr (fun _=>rfl)) bV)))))) cKn)⟩ (aLc ⟨some _,rfl,bRc rfl (cKc (WkR.top _ _) cKn)⟩ aLn)))
  replace h:=bL h;rw [nS.eq_1] at h
  refine aC dCo rfl fun K hK=>?_;conv=>whnf
  refine hK _ _ _ ?_
  refine aF ?_
  refine aW fun K1 K2 hK1 hK2=>?_;conv=>whnf
  refine cLk h (fun _ h=>?_) (fun _ h=>?_)
  ·refine hK1 ?_
   refine aG ?_
   refine tHn ?_
   refine aF ?_
   refine aJ ?_
   refine aC dCo rfl fun K hK=>?_;conv=>whnf
   refine hK _ _ _ ?_
   refine aC dCo rfl fun K hK=>?_;conv=>whnf
   refine nlA rfl ?_;conv=>whnf
   refine bKo rfl ?_;conv=>whnf
   refine gKo rfl ?_;conv=>whnf
   refine aQT (enc:=eI) dCo h rfl rfl rfl ⟨nle rfl,nle rfl,rfl⟩ rfl (aD (Wk.refl _) bE) (fun h=>?_);conv=>whnf
   refine fQ (bs:=[.ab (.cells [.top]),.fn 66 [.v (.ep [eI _] 0),.p 0,.v (.ep (cA _) 0),.v (.ep [eI _,_] 0),.p 1],.ab _]) (args0:=[.so 2 0 _ 1,_,.ptr 0 0,_,_,.ptr 1 0]) h66 [_,_,_] h (.cons (aFf rfl) (.cons (cM (lsE (lsC (lsI _ _) lsN))) (.cons (jJ rfl) (.cons (cM (lsE (bD _))) (.cons (cM (lsE (lsC (lsI _ _) (lsC (lsL fun _=>(aI _)) lsN)))) (.cons (jJ rfl) .nil)))))) ⟨⟨_,rfl,bkW _⟩,rfl,⟨_,rfl,bkW _⟩,trivial⟩ rfl (nle rfl) (fun y e=>(⟨_,_,_,_,_,rfl,rfl,e,rfl,rfl⟩:oI 10 _ _ _ _)) (fun y h=>?_)
   rcases y with _ | f<;>(conv=>whnf)
   ·replace h:=rS h
    refine hK _ _ _ ?_
    refine aW fun K1 K2 hK1 hK2=>?_;conv=>whnf
    refine hK2 ?_
    refine aG ?_
    refine iBn ?_
    refine tHn ?_
    refine bY dCo rfl fun K hK=>?_;conv=>whnf
    refine hK _ _ _ ?_
    refine tHn ?_
    replace h:=bK h
    refine ⟨_,h,?_⟩
    refine bN ?_;conv=>whnf
    exact And.intro rfl (And.intro (aLc wkI (aLc (wkr (lsE (lsC (lsI _ _) (lsC (lsL fun _=>(aI _)) lsN)))) (aLc (wkr (lsE (bD _))) (aLc (wkr (lsE (lsC (lsI _ _) lsN))) (aLc (WkR.ptr (fun _=>rfl)) (aLc (WkR.ptr (fun _=>rfl)) (aLc wkI aLn))))))) (aLc ⟨some _,rfl,bRc rfl (cKc (jX bV (aM (wkr (lsE (lsC (lsI _ _) lsN))) (aM (WkR.ptr (fun _=>rfl)) (aM (wkr (lsE (bD _))) (aM (wkr (lsE (lsC (lsI _ _) (lsC (lsL fun _=>(aI _)) lsN)))) (aM (WkR.ptr (fun _=>rfl)) bV)))))) cKn)⟩ (aLc ⟨some _,rfl,bRc rfl (cKc (WkR.top _ _) cKn)⟩ aLn)))
   replace h:=rM h
   refine hK _ _ _ ?_
   refine aW fun K1 K2 hK1 hK2=>?_;conv=>whnf
   refine hK1 ?_
   refine aC dCo rfl fun K hK=>?_;conv=>whnf
   refine nlA rfl ?_;conv=>whnf
   refine bKo rfl ?_;conv=>whnf
   refine gKo rfl ?_;conv=>whnf
   refine aGU h fun hg h=>?_
   replace h:=aRo h
   refine aAq h60 (aD (Wk.refl _) bE) hg (fun _=>(lsC (lsI _ _) lsN)) ?_;conv=>whnf
   refine hK _ _ _ ?_
   refine qM 2 (enc:=eI) (e:=3) default (pS dCo rfl rfl rfl (fun _=>⟨rfl,rfl⟩)) ?_;(conv=>whnf);refine ⟨_,_,rfl,rfl,rfl,?_⟩
   refine aP ?_
   refine aU ?_
   refine aQ ?_
   refine aQ ?_
   refine aU ?_
   refine aU ?_
   refine aQ ?_
   refine aQ ?_
   refine aU ?_
   refine aQ ?_
   replace h:=jO h
   replace h:=jN h
   replace h:=jO h
   replace h:=jN h
   replace h:=aO h
   refine aK dCo fun K hK=>?_;conv=>whnf
   refine hK _ ?_
   cases h
   exact Wk.refl _
  refine hK2 ?_
  refine bI ?_
  refine aT ?_
  refine aT ?_
  refine aS ?_
  replace h:=cV h
  replace h:=cU h
  refine iBn ?_
  refine tHn ?_
  refine aF ?_
  refine aC dCo rfl fun K hK=>?_;conv=>whnf
  refine gKo rfl ?_;conv=>whnf
  refine hK _ _ _ ?_
  refine bY dCo rfl fun K hK=>?_;conv=>whnf
  refine bKo rfl ?_;conv=>whnf
  refine And.intro rfl (And.intro (nle rfl) (And.intro rfl ?_));conv=>whnf
  refine hK _ _ _ ?_
  refine tHn ?_
  refine bY dCo rfl fun K hK=>?_;conv=>whnf
  refine nlA rfl ?_;conv=>whnf
  refine bKo rfl ?_;conv=>whnf
  refine gKo rfl ?_;conv=>whnf
  refine bKo rfl ?_;conv=>whnf
  refine And.intro rfl (And.intro (nle rfl) (And.intro rfl ?_));conv=>whnf
  refine hK _ _ _ ?_
  refine tHn ?_
  replace h:=bK h
  refine ⟨_,h,?_⟩
  refine bN ?_;conv=>whnf
  exact And.intro rfl (And.intro (aLc (wkr (lsE (lsC (lsI _ _) (lsC (lsL fun _=>(aI _)) lsN)))) (aLc (wkr (lsE (bD _))) (aLc (WkR.ptr (fun _=>rfl)) aLn))) (aLc ⟨some _,rfl,bRc rfl (cKc wkI cKn)⟩ aLn))
 refine hK2 ?_
 refine bI ?_
 refine aT ?_
 refine aT ?_
 refine aS ?_
 replace h:=cV h
 replace h:=cU h
 refine tHn ?_
 refine aC dCo rfl fun K hK=>?_;conv=>whnf
 refine hK _ _ _ ?_
 refine aP ?_
 replace h:=aO h
 refine aK dCo fun K hK=>?_;conv=>whnf
 refine hK _ ?_
 cases h
 exact mL (aD iO (aD (Wk.refl _) bE))
theorem rL {T:Tbl} (hT:T 32=aH nK) {args:List AV} {hp:bH} {id:Nat} {k:AV→Prop} {a0:aE} {Φ:(List Int)×Bool→Prop} (h:W (fK a0) Φ) (hw:WkL args [bF a0]) (hk:∀ y,Φ y→k (.tup [(eL 1 eI default) y.1,eB y.2])):cH T 32 args hp id k:=by
 obtain ⟨y,e,hy⟩:=dY h
 exact aV hT ⟨a0,rfl,lR e rfl⟩ (by exact eJ (lsC (lsL fun _=>(lsI _ _)) (lsC (lsB _) lsN))) hw (hk y hy)
  def kO (a0:aE) (e5:Int) (y1:(Ar 8)×Bool) (s6:Int×(List Int)):Option (Ct (Int×(List Int)) ((List Int)×Int)):=cn (decide (s6.1<a0.N)) (gd (0≤e5∧e5<(8:Int)) (gd (0≤s6.1) (jn (fun p7:(List Int)=>
  some (.nx ((wr (s6.1+1)),p7))) fun k8=>cn ((aAo .i64 (wW .i64 (y1.1.at1 e5) s6.1) 1) ==
  1) (gd ((0:Int)≤e5∧e5<(s6.2.length:Int)) (gd ((0:Int)≤s6.1∧s6.1<(s6.2.length:Int)) (gd ((0:Int)≤e5∧e5<(s6.2.length:Int)) (st s6.2 (e5) (aH4 (s6.2.getD (e5).toNat default) (wr ((s6.2.getD (s6.1).toNat default)+1))) fun l9=>
  k8 l9)))) (k8 s6.2)))) (some (.bk (s6.1,s6.2)))
  def jU (a0:aE) (y1:(Ar 8)×Bool) (y3:List Int) (s4:Int×(List Int)):Option (Ct (Int×(List Int)) ((List Int)×Int)):=cn (decide (s4.1<(y3.length:Int))) (ix y3 default s4.1 fun e5=>
  bd (lp (kO a0 e5 y1) FU (0,s4.2)) fun c10=>smK c10 (fun s11=>some (.nx ((wr (s4.1+1)),s11.2))) (fun r12=>some (.rt r12))) (some (.bk (s4.1,s4.2)))
def eQ (a0:aE):Option ((List Int)×Int):=bd (bS a0) fun y1=>
  cn (!y1.2) (some ([],70)) (gd ((0:Int)≤a0.N∧a0.N≤(1048576:Int)) (lt (List.replicate (a0.N).toNat (0:Int)) fun l2=>bd (kV a0.N y1.1) fun y3=>
  bd (lp (jU a0 y1 y3) FU (0,l2)) fun c13=>smK c13 (fun s14=>some (s14.2,0)) (fun r15=>some r15)))
def lU:List AV→AV→Prop:=fun args r=>∃ a0,args=[bF a0]∧W (eQ a0) fun y=>r=(.tup [(eL 1 eI default) y.1,eI y.2])
theorem aBE {T:Tbl} (hT:TOk Tryd.prog T) (hpf:cP T PF) (h54:T 54=aH dJ) (h57:T 57=aH mN):FOk Tryd.prog 28 (aH lU):=by
 refine bM hT hpf Tryd.func28 rfl Tryd.ntmps28 Tryd.results28 (by decide) ?_
 rintro args r ⟨a0,rfl,h⟩
 refine ⟨nle rfl,?_,?_⟩
 ·exact (lsC (bT _) lsN)
 rw [eQ.eq_1] at h
 refine aC dCo rfl fun K hK=>?_;conv=>whnf
 refine hK _ _ _ ?_
 refine aC dCo rfl fun K hK=>?_;conv=>whnf
 refine nlA rfl ?_;conv=>whnf
 refine bKo rfl ?_;conv=>whnf
 refine nlA rfl ?_;conv=>whnf
 replace h:=bL h
 refine dH h54 h (WkL.refl _) (fun _ h=>?_);conv=>whnf
 refine aL ?_;conv=>whnf
 refine aL ?_;conv=>whnf
 refine aL ?_;conv=>whnf
 refine bKo rfl ?_;conv=>whnf
 refine vY rfl rfl rfl ?_;conv=>whnf
 refine hK _ _ _ ?_
 refine aF ?_
 refine aC dCo rfl fun K hK=>?_;conv=>whnf
 refine hK _ _ _ ?_
 refine aW fun K1 K2 hK1 hK2=>?_;conv=>whnf
 refine cLk h (fun _ h=>?_) (fun _ h=>?_)
 ·refine hK1 ?_
  refine aC dCo rfl fun K hK=>?_;conv=>whnf
  refine hK _ _ _ ?_
  refine aP ?_
  refine aQ ?_
  replace h:=aO h
  refine aK dCo fun K hK=>?_;conv=>whnf
  refine hK _ ?_
  cases h
  exact mL (aD iO (aD (Wk.refl _) bE))
 refine hK2 ?_
 refine aG ?_
 refine tHn ?_
 refine aC dCo rfl fun K hK=>?_;conv=>whnf
 refine nlA rfl ?_;conv=>whnf
 refine bKo rfl ?_;conv=>whnf
 refine gKo rfl ?_;conv=>whnf
 refine aMn (enc:=eI) dCo (0:Int) h rfl rfl ⟨nle rfl,nle rfl,rfl⟩ rfl (fun h=>?_);conv=>whnf
 refine hK _ _ _ ?_
 refine aF ?_
 refine aC dCo rfl fun K hK=>?_;conv=>whnf
 refine nlA rfl ?_;conv=>whnf
 refine bKo rfl ?_;conv=>whnf
 refine gKo rfl ?_;conv=>whnf
 refine nlA rfl ?_;conv=>whnf
 refine bKo rfl ?_;conv=>whnf
 refine yH rfl ?_;conv=>whnf
 refine aL ?_;conv=>whnf
 replace h:=bL h
 refine sO h57 h (WkL.refl _) (fun _ h=>?_);conv=>whnf
 refine hK _ _ _ ?_
 refine aJ ?_
 replace h:=bL h
 refine cY (body:=jU _ _ _) rfl h [1,4,23,24] [1] [4] [] (fun kl kh kr ids b s=>⟨ofL ([(25,eI s.1),(6,.so (b+0) 0 s.2.length 1)]++kl),ofH (([]++kh)++([(b+0,.cells (flE (ceE eI) s.2))]++kr)),b+128⟩) ?_;(conv=>whnf);refine And.intro ?_ (fun s m h=>cR ?_)
 ·refine aR ?_;conv=>whnf
  exact And.intro rfl (And.intro (aLc wkI (aLc (WkR.so (fun _=>rfl)) (aLc (WkR.ptr (fun _=>rfl)) (aLc (WkR.ptr (fun _=>rfl)) (aLc (wkr (lsL fun _=>(lsI _ _))) (aLc wkI aLn)))))) (aLc ⟨some _,rfl,bRc rfl (cKc wkI (cKc (wkr (lsL fun _=>(aI _))) cKn))⟩ (aLc ⟨some _,rfl,kA rfl (fun _=>(lsC (lsI _ _) lsN))⟩ (aLc ⟨some _,rfl,bO rfl rfl⟩ aLn))))
 replace h:=bL h;rw [jU.eq_1] at h
 refine aC dCo rfl fun K hK=>?_;conv=>whnf
 refine hK _ _ _ ?_
 refine aF ?_
 refine aW fun K1 K2 hK1 hK2=>?_;conv=>whnf
 refine cLk h (fun _ h=>?_) (fun _ h=>?_)
 ·refine hK1 ?_
  refine aG ?_
  refine tHn ?_
  refine aF ?_
  refine aJ ?_
  refine aC dCo rfl fun K hK=>?_;conv=>whnf
  refine dD h fun _ h=>?_;conv=>whnf
  refine gKo rfl ?_;conv=>whnf
  refine hK _ _ _ ?_
  refine aC dCo rfl fun K hK=>?_;conv=>whnf
  refine nlA rfl ?_;conv=>whnf
  refine bKo rfl ?_;conv=>whnf
  refine gKo rfl ?_;conv=>whnf
  refine hK _ _ _ ?_
  refine aJ ?_
  replace h:=bL h
  refine cY (body:=kO _ _ _) rfl h [1,4,8,23,24,25,30] [1] [4] [] (fun kl kh kr ids b s=>⟨ofL ([(31,eI s.1),(6,.so (b+0) 0 s.2.length 1)]++kl),ofH (([]++kh)++([(b+0,.cells (flE (ceE eI) s.2))]++kr)),b+128⟩) ?_;(conv=>whnf);refine And.intro ?_ (fun s m h=>cR ?_)
  ·refine aR ?_;conv=>whnf
   exact And.intro rfl (And.intro (aLc wkI (aLc (WkR.so (fun _=>rfl)) (aLc (WkR.ptr (fun _=>rfl)) (aLc (WkR.ptr (fun _=>rfl)) (aLc wkI (aLc (wkr (lsL fun _=>(lsI _ _))) (aLc wkI (aLc wkI (aLc wkI aLn))))))))) (aLc ⟨some _,rfl,bRc rfl (cKc wkI (cKc (wkr (lsL fun _=>(aI _))) cKn))⟩ (aLc ⟨some _,rfl,kA rfl (fun _=>(lsC (lsI _ _) lsN))⟩ (aLc ⟨some _,rfl,bO rfl rfl⟩ aLn))))
  replace h:=bL h;rw [kO.eq_1] at h
  refine aC dCo rfl fun K hK=>?_;conv=>whnf
  refine hK _ _ _ ?_
  refine aF ?_
  refine aW fun K1 K2 hK1 hK2=>?_;conv=>whnf
  refine cLk h (fun _ h=>?_) (fun _ h=>?_)
  ·refine hK1 ?_
   refine aG ?_
   refine tHn ?_
   refine aF ?_
   refine aJ ?_
   refine aC dCo rfl fun K hK=>?_;conv=>whnf
   refine hK _ _ _ ?_
   refine aC dCo rfl fun K hK=>?_;conv=>whnf
   refine bW h fun hx1359 h=>?_;conv=>whnf
   refine nlA rfl ?_;conv=>whnf
   refine bKo rfl ?_;conv=>whnf
   refine iM rfl hx1359 ?_;conv=>whnf
   refine bW h fun _ h=>?_;conv=>whnf
   refine hK _ _ _ ?_
   replace h:=lG h
   refine aW fun K1 K2 hK1 hK2=>?_;conv=>whnf
   refine cLk h (fun _ h=>?_) (fun _ h=>?_)
   ·refine hK1 ?_
    refine nQ dCo cG rfl (by kernel_rfl) fun K hK=>?_;conv=>whnf
    refine qZ h (rfl) fun hx1363 h=>?_;conv=>whnf
    refine nlA rfl ?_;conv=>whnf
    refine bKo rfl ?_;conv=>whnf
    refine sF (enc:=eI) (d:=default) (q:=0) (fun _=>rfl) (rfl) hx1363 (nle rfl) rfl ?_;conv=>whnf
    refine qZ h (rfl) fun hx1364 h=>?_;conv=>whnf
    refine nlA rfl ?_;conv=>whnf
    refine bKo rfl ?_;conv=>whnf
    refine sF (enc:=eI) (d:=default) (q:=0) (fun _=>rfl) (rfl) hx1364 (nle rfl) rfl ?_;conv=>whnf
    refine qZ h (rfl) fun hx1365 h=>?_;conv=>whnf
    refine bKo rfl ?_;conv=>whnf
    refine aKC (enc:=eI) (d:=default) (q:=0) h (fun _=>rfl) (rfl) hx1365 rfl (nle rfl) rfl rfl (fun h=>?_);conv=>whnf
    refine hK _ _ _ ?_
    refine iBn ?_
    refine tHn ?_
    refine bY dCo rfl fun K hK=>?_;conv=>whnf
    refine hK _ _ _ ?_
    refine tHn ?_
    replace h:=bK h
    refine ⟨_,h,?_⟩
    refine aR ?_;conv=>whnf
    exact And.intro rfl (And.intro (aLc wkI (aLc (WkR.soN (fun _=>rfl) (aFm rfl).symm) (aLc (WkR.ptr (fun _=>rfl)) (aLc (WkR.ptr (fun _=>rfl)) (aLc wkI (aLc (wkr (lsL fun _=>(lsI _ _))) (aLc wkI (aLc wkI (aLc wkI aLn))))))))) (aLc ⟨some _,rfl,bRc rfl (cKc wkI (cKc (wkr (lsL fun _=>(aI _))) cKn))⟩ (aLc ⟨some _,rfl,kA rfl (fun _=>(lsC (lsI _ _) lsN))⟩ (aLc ⟨some _,rfl,bO rfl rfl⟩ aLn))))
   refine hK2 ?_
   refine aG ?_
   refine iBn ?_
   refine tHn ?_
   refine bY dCo rfl fun K hK=>?_;conv=>whnf
   refine hK _ _ _ ?_
   refine tHn ?_
   replace h:=bK h
   refine ⟨_,h,?_⟩
   refine aR ?_;conv=>whnf
   exact And.intro rfl (And.intro (aLc wkI (aLc (WkR.so (fun _=>rfl)) (aLc (WkR.ptr (fun _=>rfl)) (aLc (WkR.ptr (fun _=>rfl)) (aLc wkI (aLc (wkr (lsL fun _=>(lsI _ _))) (aLc wkI (aLc wkI (aLc wkI aLn))))))))) (aLc ⟨some _,rfl,bRc rfl (cKc wkI (cKc (wkr (lsL fun _=>(aI _))) cKn))⟩ (aLc ⟨some _,rfl,kA rfl (fun _=>(lsC (lsI _ _) lsN))⟩ (aLc ⟨some _,rfl,bO rfl rfl⟩ aLn))))
  refine hK2 ?_
  refine bI ?_
  refine aT ?_
  refine aT ?_
  refine aS ?_
  replace h:=cV h
  replace h:=cU h
  refine iBn ?_
  refine tHn ?_
  refine bY dCo rfl fun K hK=>?_;conv=>whnf
  refine hK _ _ _ ?_
  refine tHn ?_
  replace h:=bK h
  refine ⟨_,h,?_⟩
  refine aR ?_;conv=>whnf
  exact And.intro rfl (And.intro (aLc wkI (aLc (WkR.so (fun _=>rfl)) (aLc (WkR.ptr (fun _=>rfl)) (aLc (WkR.ptr (fun _=>rfl)) (aLc (wkr (lsL fun _=>(lsI _ _))) (aLc wkI aLn)))))) (aLc ⟨some _,rfl,bRc rfl (cKc wkI (cKc (wkr (lsL fun _=>(aI _))) cKn))⟩ (aLc ⟨some _,rfl,kA rfl (fun _=>(lsC (lsI _ _) lsN))⟩ (aLc ⟨some _,rfl,bO rfl rfl⟩ aLn))))
 refine hK2 ?_
 refine bI ?_
 refine aT ?_
 refine aT ?_
 refine aS ?_
 replace h:=cV h
 replace h:=cU h
 refine tHn ?_
 refine aC dCo rfl fun K hK=>?_;conv=>whnf
 refine hK _ _ _ ?_
 refine qM 2 (enc:=eI) (e:=3) default (pS dCo rfl rfl rfl (fun _=>⟨rfl,rfl⟩)) ?_;(conv=>whnf);refine ⟨_,_,rfl,rfl,rfl,?_⟩
 refine aP ?_
 replace h:=aO h
 refine aK dCo fun K hK=>?_;conv=>whnf
 refine hK _ ?_
 cases h
 exact Wk.refl _
theorem tV {T:Tbl} (hT:T 28=aH lU) {args:List AV} {hp:bH} {id:Nat} {k:AV→Prop} {a0:aE} {Φ:(List Int)×Int→Prop} (h:W (eQ a0) Φ) (hw:WkL args [bF a0]) (hk:∀ y,Φ y→k (.tup [(eL 1 eI default) y.1,eI y.2])):cH T 28 args hp id k:=by
 obtain ⟨y,e,hy⟩:=dY h
 exact aV hT ⟨a0,rfl,lR e rfl⟩ (by exact eJ (lsC (lsL fun _=>(lsI _ _)) (lsC (lsI _ _) lsN))) hw (hk y hy)
  def gN (y1:(Ar 8)×Bool) (y3:List Int) (s4:Int×Int):Option (Ct (Int×Int) ((List Int)×Int)):=cn (decide (s4.2<(y3.length:Int))) (ix y3 default s4.2 fun e5=>
  gd (0≤e5∧e5<(8:Int)) (let v6:=(bor .i64 s4.1 (y1.1.at1 e5));some (.nx (v6,(wr (s4.2+1)))))) (some (.bk (s4.1,s4.2)))
  def gP (a0:aE) (y1:(Ar 8)×Bool) (s2:(List Int)×Int):Option (Ct ((List Int)×Int) ((List Int)×Int)):=cn (decide (s2.2<(aDv .i64 1 a0.N))) (bd (mB s2.2) fun y3=>
  bd (lp (gN y1 y3) FU (0,0)) fun c7=>smK c7 (fun s8=>jn (fun p10:Bool=>jn (fun p16:(List Int)=>some (.nx (p16,(wr (s2.2+1))))) fun k17=>
  cn p10 (k17 y3) (k17 s2.1)) fun k11=>cn ((aAo .i64 s8.1 s2.2)==0) (bd (fR (s2.1.length:Int) (y3.length:Int)) fun y12=>
  bd (cW y3 s2.1) fun y13=>lt ([y12,y13]:List Int) fun l14=>bd (oP l14) fun y15=>k11 (decide (y15<0))) (k11 false)) (fun r9=>
  some (.rt r9))) (some (.bk (s2.1,s2.2)))
def dI (a0:aE):Option ((List Int)×Int):=bd (bS a0) fun y1=>
  cn (!y1.2) (some ([],70)) (gd (0≤a0.N) (bd (lp (gP a0 y1) FU ([],0)) fun c18=>smK c18 (fun s19=>some (s19.1,0)) (fun r20=>some r20)))
def iK:List AV→AV→Prop:=fun args r=>∃ a0,args=[bF a0]∧W (dI a0) fun y=>r=(.tup [(eL 1 eI default) y.1,eI y.2])
theorem yT {T:Tbl} (hT:TOk Tryd.prog T) (hpf:cP T PF) (h54:T 54=aH dJ) (h61:T 61=aH oB) (h62:T 62=aH qX) (h63:T 63=aH iI) (h64:T 64=aH gT):FOk Tryd.prog 30 (aH iK):=by
 refine bM hT hpf Tryd.func30 rfl Tryd.ntmps30 Tryd.results30 (by decide) ?_
 rintro args r ⟨a0,rfl,h⟩
 refine ⟨nle rfl,?_,?_⟩
 ·exact (lsC (bT _) lsN)
 rw [dI.eq_1] at h
 refine aC dCo rfl fun K hK=>?_;conv=>whnf
 refine hK _ _ _ ?_
 refine aC dCo rfl fun K hK=>?_;conv=>whnf
 refine nlA rfl ?_;conv=>whnf
 refine bKo rfl ?_;conv=>whnf
 refine nlA rfl ?_;conv=>whnf
 replace h:=bL h
 refine dH h54 h (WkL.refl _) (fun _ h=>?_);conv=>whnf
 refine aL ?_;conv=>whnf
 refine aL ?_;conv=>whnf
 refine aL ?_;conv=>whnf
 refine bKo rfl ?_;conv=>whnf
 refine vY rfl rfl rfl ?_;conv=>whnf
 refine hK _ _ _ ?_
 refine aF ?_
 refine aC dCo rfl fun K hK=>?_;conv=>whnf
 refine hK _ _ _ ?_
 refine aW fun K1 K2 hK1 hK2=>?_;conv=>whnf
 refine cLk h (fun _ h=>?_) (fun _ h=>?_)
 ·refine hK1 ?_
  refine aC dCo rfl fun K hK=>?_;conv=>whnf
  refine hK _ _ _ ?_
  refine aP ?_
  refine aQ ?_
  replace h:=aO h
  refine aK dCo fun K hK=>?_;conv=>whnf
  refine hK _ ?_
  cases h
  exact mL (aD iO (aD (Wk.refl _) bE))
 refine hK2 ?_
 refine aG ?_
 refine tHn ?_
 refine aC dCo rfl fun K hK=>?_;conv=>whnf
 refine hK _ _ _ ?_
 refine aF ?_
 refine aC dCo rfl fun K hK=>?_;conv=>whnf
 refine nlA rfl ?_;conv=>whnf
 refine bKo rfl ?_;conv=>whnf
 refine gKo rfl ?_;conv=>whnf
 refine bW h fun _ h=>?_;conv=>whnf
 refine hK _ _ _ ?_
 refine aJ ?_
 replace h:=bL h
 refine cY (body:=gP _ _) rfl h [4,21] [] [4] [] (fun kl kh kr ids b s=>⟨ofL ([(6,(eL 1 eI default) s.1),(22,eI s.2)]++kl),ofH (([]++kh)++([]++kr)),b+64⟩) ?_;(conv=>whnf);refine And.intro ?_ (fun s m h=>cR ?_)
 ·refine aR ?_;conv=>whnf
  exact And.intro rfl (And.intro (aLc (WkR.wk iO (lsL fun _=>(lsI _ _))) (aLc wkI (aLc (WkR.ptr (fun _=>rfl)) (aLc wkI aLn)))) (aLc ⟨some _,rfl,bO rfl rfl⟩ aLn))
 replace h:=bL h;rw [gP.eq_1] at h
 refine aC dCo rfl fun K hK=>?_;conv=>whnf
 refine hK _ _ _ ?_
 refine aF ?_
 refine aW fun K1 K2 hK1 hK2=>?_;conv=>whnf
 refine cLk h (fun _ h=>?_) (fun _ h=>?_)
 ·refine hK1 ?_
  refine aG ?_
  refine tHn ?_
  refine aF ?_
  refine aJ ?_
  refine aC dCo rfl fun K hK=>?_;conv=>whnf
  refine hK _ _ _ ?_
  refine aC dCo rfl fun K hK=>?_;conv=>whnf
  replace h:=bL h
  refine aAi h61 h (WkL.refl _) (fun _ h=>?_);conv=>whnf
  refine hK _ _ _ ?_
  refine aF ?_
  refine aC dCo rfl fun K hK=>?_;conv=>whnf
  refine hK _ _ _ ?_
  refine aJ ?_
  replace h:=bL h
  refine cY (body:=gN _ _) rfl h [4,6,7,9,21,22,27,28] [] [4] [] (fun kl kh kr ids b s=>⟨ofL ([(8,eI s.1),(29,eI s.2)]++kl),ofH (([]++kh)++([]++kr)),b+64⟩) ?_;(conv=>whnf);refine And.intro ?_ (fun s m h=>cR ?_)
  ·refine aR ?_;conv=>whnf
   exact And.intro rfl (And.intro (aLc wkI (aLc wkI (aLc (WkR.ptr (fun _=>rfl)) (aLc (wkr (lsL fun _=>(lsI _ _))) (aLc wkI (aLc (wkr (lsL fun _=>(lsI _ _))) (aLc wkI (aLc wkI (aLc (wkr (lsL fun _=>(lsI _ _))) (aLc wkI aLn)))))))))) (aLc ⟨some _,rfl,bO rfl rfl⟩ aLn))
  replace h:=bL h;rw [gN.eq_1] at h
  refine aC dCo rfl fun K hK=>?_;conv=>whnf
  refine hK _ _ _ ?_
  refine aF ?_
  refine aW fun K1 K2 hK1 hK2=>?_;conv=>whnf
  refine cLk h (fun _ h=>?_) (fun _ h=>?_)
  ·refine hK1 ?_
   refine aG ?_
   refine tHn ?_
   refine aF ?_
   refine aJ ?_
   refine aC dCo rfl fun K hK=>?_;conv=>whnf
   refine dD h fun _ h=>?_;conv=>whnf
   refine gKo rfl ?_;conv=>whnf
   refine hK _ _ _ ?_
   refine bY dCo rfl fun K hK=>?_;conv=>whnf
   refine bW h fun hx1428 h=>?_;conv=>whnf
   refine nlA rfl ?_;conv=>whnf
   refine bKo rfl ?_;conv=>whnf
   refine iM rfl hx1428 ?_;conv=>whnf
   refine hK _ _ _ ?_
   refine iBn ?_
   refine tHn ?_
   refine bY dCo rfl fun K hK=>?_;conv=>whnf
   refine hK _ _ _ ?_
   refine tHn ?_
   replace h:=bK h
   refine ⟨_,h,?_⟩
   refine aR ?_;conv=>whnf
   exact And.intro rfl (And.intro (aLc wkI (aLc wkI (aLc (WkR.ptr (fun _=>rfl)) (aLc (wkr (lsL fun _=>(lsI _ _))) (aLc wkI (aLc (wkr (lsL fun _=>(lsI _ _))) (aLc wkI (aLc wkI (aLc (wkr (lsL fun _=>(lsI _ _))) (aLc wkI aLn)))))))))) (aLc ⟨some _,rfl,bO rfl rfl⟩ aLn))
  refine hK2 ?_
  refine bI ?_
  refine aT ?_
  refine aT ?_
  refine aS ?_
  replace h:=cV h
  replace h:=cU h
  refine tHn ?_
  refine aC dCo rfl fun K hK=>?_;conv=>whnf
  replace h:=lG h
  refine cLk h (fun _ h=>?_) (fun _ h=>?_)<;>(conv=>whnf)
  ·replace h:=bL h
   refine rR h63 h (WkL.refl _) (fun _ h=>?_);conv=>whnf
   replace h:=bL h
   refine uO h64 h (WkL.refl _) (fun _ h=>?_);conv=>whnf
   refine dL (enc:=eI) (d:=default) dCo h rfl rfl rfl ⟨nle rfl,nle rfl,rfl⟩ rfl ⟨⟨rfl,rfl,rfl⟩,⟨⟨rfl,rfl,rfl⟩,trivial⟩⟩ (fun h=>?_);conv=>whnf
   replace h:=bL h
   refine aBH h62 h (aD cD bE) (fun _ h=>?_);conv=>whnf
   refine hK _ _ _ ?_
   replace h:=lG h
   refine aW fun K1 K2 hK1 hK2=>?_;conv=>whnf
   refine cLk h (fun _ h=>?_) (fun _ h=>?_)
   ·refine hK1 ?_
    refine bY dCo rfl fun K hK=>?_;conv=>whnf
    refine hK _ _ _ ?_
    refine iBn ?_
    refine tHn ?_
    refine bY dCo rfl fun K hK=>?_;conv=>whnf
    refine hK _ _ _ ?_
    refine tHn ?_
    replace h:=bK h
    refine ⟨_,h,?_⟩
    refine aR ?_;conv=>whnf
    exact And.intro rfl (And.intro (aLc (wkr (lsL fun _=>(lsI _ _))) (aLc wkI (aLc (WkR.ptr (fun _=>rfl)) (aLc wkI aLn)))) (aLc ⟨some _,rfl,bO rfl rfl⟩ aLn))
   refine hK2 ?_
   refine aG ?_
   refine iBn ?_
   refine tHn ?_
   refine bY dCo rfl fun K hK=>?_;conv=>whnf
   refine hK _ _ _ ?_
   refine tHn ?_
   replace h:=bK h
   refine ⟨_,h,?_⟩
   refine aR ?_;conv=>whnf
   exact And.intro rfl (And.intro (aLc (wkr (lsL fun _=>(lsI _ _))) (aLc wkI (aLc (WkR.ptr (fun _=>rfl)) (aLc wkI aLn)))) (aLc ⟨some _,rfl,bO rfl rfl⟩ aLn))
  refine hK _ _ _ ?_
  replace h:=lG h
  refine aW fun K1 K2 hK1 hK2=>?_;conv=>whnf
  refine hK2 ?_
  replace h:=rS h
  refine aG ?_
  refine iBn ?_
  refine tHn ?_
  refine bY dCo rfl fun K hK=>?_;conv=>whnf
  refine hK _ _ _ ?_
  refine tHn ?_
  replace h:=bK h
  refine ⟨_,h,?_⟩
  refine aR ?_;conv=>whnf
  exact And.intro rfl (And.intro (aLc (wkr (lsL fun _=>(lsI _ _))) (aLc wkI (aLc (WkR.ptr (fun _=>rfl)) (aLc wkI aLn)))) (aLc ⟨some _,rfl,bO rfl rfl⟩ aLn))
 refine hK2 ?_
 refine bI ?_
 refine aT ?_
 refine aT ?_
 refine aS ?_
 replace h:=cV h
 replace h:=cU h
 refine tHn ?_
 refine aC dCo rfl fun K hK=>?_;conv=>whnf
 refine hK _ _ _ ?_
 refine aP ?_
 replace h:=aO h
 refine aK dCo fun K hK=>?_;conv=>whnf
 refine hK _ ?_
 cases h
 exact Wk.refl _
theorem rP {T:Tbl} (hT:T 30=aH iK) {args:List AV} {hp:bH} {id:Nat} {k:AV→Prop} {a0:aE} {Φ:(List Int)×Int→Prop} (h:W (dI a0) Φ) (hw:WkL args [bF a0]) (hk:∀ y,Φ y→k (.tup [(eL 1 eI default) y.1,eI y.2])):cH T 30 args hp id k:=by
 obtain ⟨y,e,hy⟩:=dY h
 exact aV hT ⟨a0,rfl,lR e rfl⟩ (by exact eJ (lsC (lsL fun _=>(lsI _ _)) (lsC (lsI _ _) lsN))) hw (hk y hy)
def jK (a1:List (Int×Int)) (s2:Int×aE):Option (Ct (Int×aE) aE):=jn (fun p3:Bool=>cn p3 (ix a1 default s2.1 fun e5=>
  bd (eZ e5.1 s2.2.N) fun y6=>ix a1 default s2.1 fun e7=>bd (eZ e7.2 (wr (s2.2.N-1))) fun y8=>
  gd (s2.2.N≠0) (lt ([(y6,(Int.tmod (wr ((wr (y6+1))+y8)) s2.2.N))]:List (Int×Int)) fun l9=>ap s2.2.Pairs l9 fun l10=>
  some (.nx ((wr (s2.1+1)),(⟨s2.2.N,l10⟩:aE))))) (some (.bk (s2.1,s2.2)))) fun k4=>
  cn (decide (s2.1<(a1.length:Int))) (cn (decide (s2.1<20)) (k4 (decide (s2.2.N>1))) (k4 false)) (k4 false)
def fW (a0:Int) (a1:List (Int×Int)):Option aE:=bd (eZ a0 9) fun y1=>bd (lp (jK a1) FU (0,(⟨y1,[]⟩:aE))) fun c11=>
  smK c11 (fun s12=>some s12.2) (fun r13=>some r13)
def pK (y:aE) (b:Nat):AV:=.agg [eI y.N,.so b 0 y.Pairs.length 2]
def kN (y:aE):List AB:=[.cells (flE (ceE kT) y.Pairs)]
def pI:List AV→aE→Prop:=fun args y=>∃ a0 a1,args=[eI a0,(eL 2 kT default) a1]∧fW a0 a1=some y
theorem aB2 {T:Tbl} (hT:TOk Tryd.prog T) (hpf:cP T PF) (h37:T 37=aH kY):FOk Tryd.prog 17 (aHw pK kN pI):=by
 refine aGQ hT hpf Tryd.func17 rfl Tryd.ntmps17 Tryd.results17 (by decide) (fun y=>⟨by simp [kN],by simp [kN,aAK]⟩) ?_
 rintro args y ⟨a0,a1,rfl,hF⟩
 refine ⟨nle rfl,(lsC (lsI _ _) (lsC (lsL fun _=>(aI _)) lsN)),fun base=>?_⟩
 have h:W (fW a0 a1) (fun z=>z=y):=lR hF rfl
 rw [fW.eq_1] at h
 refine aC dCo rfl fun K hK=>?_;conv=>whnf
 refine hK _ _ _ ?_
 refine aC dCo rfl fun K hK=>?_;conv=>whnf
 replace h:=bL h
 refine dE h37 h (WkL.refl _) (fun _ h=>?_);conv=>whnf
 refine bKo rfl ?_;conv=>whnf
 refine And.intro rfl (And.intro (nle rfl) (And.intro rfl ?_));conv=>whnf
 refine hK _ _ _ ?_
 refine aF ?_
 refine aC dCo rfl fun K hK=>?_;conv=>whnf
 refine hK _ _ _ ?_
 refine aJ ?_
 replace h:=bL h
 refine cY (body:=jK _) rfl h [1,4,5] [4] [] [5] (fun kl kh kr ids b s=>⟨ofL ([(6,eI s.1)]++kl),ofH (([(xW ids 0,.cells [eI s.2.N,.so (b+0) 0 s.2.Pairs.length 2])]++kh)++([(b+0,.cells (flE (ceE kT) s.2.Pairs))]++kr)),b+128⟩) ?_;(conv=>whnf);refine And.intro ?_ (fun s m h=>cR ?_)
 ·refine aR ?_;conv=>whnf
  exact And.intro rfl (And.intro (aLc wkI (aLc (wkr (lsL fun _=>(aI _))) (aLc (WkR.ptr (fun _=>rfl)) (aLc (WkR.ptr (fun _=>rfl)) aLn)))) (aLc ⟨some _,rfl,bRc rfl (cKc wkI (cKc (WkR.nilso (fun _=>rfl)) cKn))⟩ (aLc ⟨some _,rfl,bRc rfl (cKc wkI (cKc (wkr bC) cKn))⟩ (aLc ⟨none,rfl,aFN⟩ aLn))))
 replace h:=bL h;rw [jK.eq_1] at h
 refine aF ?_
 refine aC dCo rfl fun K hK=>?_;conv=>whnf
 replace h:=lG h
 refine cLk h (fun _ h=>?_) (fun _ h=>?_)<;>(conv=>whnf)
 ·refine cLk h (fun _ h=>?_) (fun _ h=>?_)<;>(conv=>whnf)
  ·refine nlA rfl ?_;conv=>whnf
   refine bKo rfl ?_;conv=>whnf
   refine gKo rfl ?_;conv=>whnf
   refine hK _ _ _ ?_
   refine aW fun K1 K2 hK1 hK2=>?_;conv=>whnf
   refine cLk h (fun _ h=>?_) (fun _ h=>?_)
   ·refine hK1 ?_
    refine aG ?_
    refine tHn ?_
    refine aF ?_
    refine aJ ?_
    refine qA dCo cG rfl (by kernel_rfl) fun K hK=>?_;conv=>whnf
    refine dD h fun _ h=>?_;conv=>whnf
    refine And.intro (by decide) ?_;conv=>whnf
    refine gKo rfl ?_;conv=>whnf
    refine nlA rfl ?_;conv=>whnf
    refine bKo rfl ?_;conv=>whnf
    refine gKo rfl ?_;conv=>whnf
    replace h:=bL h
    refine dE h37 h (WkL.refl _) (fun _ h=>?_);conv=>whnf
    refine hK _ _ _ ?_
    refine nQ dCo cG rfl (by kernel_rfl) fun K hK=>?_;conv=>whnf
    refine nlA rfl ?_;conv=>whnf
    refine bKo rfl ?_;conv=>whnf
    refine gKo rfl ?_;conv=>whnf
    refine dD h fun _ h=>?_;conv=>whnf
    refine And.intro (by decide) ?_;conv=>whnf
    refine gKo rfl ?_;conv=>whnf
    refine nlA rfl ?_;conv=>whnf
    refine bKo rfl ?_;conv=>whnf
    refine gKo rfl ?_;conv=>whnf
    replace h:=bL h
    refine dE h37 h (WkL.refl _) (fun _ h=>?_);conv=>whnf
    refine nlA rfl ?_;conv=>whnf
    refine bKo rfl ?_;conv=>whnf
    refine gKo rfl ?_;conv=>whnf
    refine bW h fun _ h=>?_;conv=>whnf
    refine dL (enc:=kT) (d:=default) dCo h rfl rfl rfl ⟨nle rfl,nle rfl,rfl⟩ rfl ⟨⟨rfl,nle rfl⟩,trivial⟩ (fun h=>?_);conv=>whnf
    refine aA1 (enc:=kT) (d:=default) dCo h rfl rfl rfl ⟨rfl,nle rfl,nle rfl,nle rfl,rfl⟩ (fun _=>rfl) (fun _=>rfl) (fun _=>nofun) rfl (rfl) (fun h=>?_);conv=>whnf
    refine bKo rfl ?_;conv=>whnf
    refine And.intro rfl (And.intro (nle rfl) (And.intro rfl ?_));conv=>whnf
    refine hK _ _ _ ?_
    refine iBn ?_
    refine tHn ?_
    refine bY dCo rfl fun K hK=>?_;conv=>whnf
    refine hK _ _ _ ?_
    refine tHn ?_
    replace h:=bK h
    refine ⟨_,h,?_⟩
    refine aR ?_;conv=>whnf
    exact And.intro rfl (And.intro (aLc wkI (aLc (wkr (lsL fun _=>(aI _))) (aLc (WkR.ptr (fun _=>rfl)) (aLc (WkR.ptr (fun _=>rfl)) aLn)))) (aLc ⟨some _,rfl,bRc rfl (cKc wkI (cKc (WkR.so (fun _=>rfl)) cKn))⟩ (aLc ⟨some _,rfl,bRc rfl (cKc wkI (cKc (wkr bC) cKn))⟩ (aLc ⟨some _,rfl,kA rfl (fun _=>(lsC (lsI _ _) (lsC (lsI _ _) lsN)))⟩ aLn))))
   refine hK2 ?_
   refine bI ?_
   refine aT ?_
   refine aT ?_
   refine aS ?_
   replace h:=cV h
   replace h:=cU h
   refine tHn ?_
   refine aC dCo rfl fun K hK=>?_;conv=>whnf
   refine nlA rfl ?_;conv=>whnf
   refine bKo rfl ?_;conv=>whnf
   refine nlA rfl ?_;conv=>whnf
   refine bKo rfl ?_;conv=>whnf
   refine And.intro rfl (And.intro (nle rfl) (And.intro rfl ?_));conv=>whnf
   refine hK _ _ _ ?_
   refine aP ?_
   replace h:=aO h
   refine aBZ dCo fun K hK=>?_;conv=>whnf
   refine nlA rfl ?_;conv=>whnf
   refine bKo rfl ?_;conv=>whnf
   refine nlA rfl ?_;conv=>whnf
   refine hK _ ?_
   cases h
   refine ⟨rfl,rfl,rfl,(aGL (tG (sI (Wk.refl _) (lsI _ _)) (tG (aBl (aIX (k:=0) rfl) rfl) xF))),fun k n x h1 h2=>?_⟩
   exact match k,n,x,h1,h2 with | 0,n,x,h1,h2=>by cases h1;cases h2;exact ⟨_,rfl,aCD (fun _=>(lsC (lsI _ _) (lsC (lsI _ _) lsN))) _⟩ | k+1,n,x,h1,h2=>by cases h1
  refine hK _ _ _ ?_
  refine aW fun K1 K2 hK1 hK2=>?_;conv=>whnf
  refine hK2 ?_
  replace h:=rS h
  refine bI ?_
  refine aT ?_
  refine aT ?_
  refine aS ?_
  replace h:=cV h
  replace h:=cU h
  refine tHn ?_
  refine aC dCo rfl fun K hK=>?_;conv=>whnf
  refine nlA rfl ?_;conv=>whnf
  refine bKo rfl ?_;conv=>whnf
  refine nlA rfl ?_;conv=>whnf
  refine bKo rfl ?_;conv=>whnf
  refine And.intro rfl (And.intro (nle rfl) (And.intro rfl ?_));conv=>whnf
  refine hK _ _ _ ?_
  refine aP ?_
  replace h:=aO h
  refine aBZ dCo fun K hK=>?_;conv=>whnf
  refine nlA rfl ?_;conv=>whnf
  refine bKo rfl ?_;conv=>whnf
  refine nlA rfl ?_;conv=>whnf
  refine hK _ ?_
  cases h
  refine ⟨rfl,rfl,rfl,(aGL (tG (sI (Wk.refl _) (lsI _ _)) (tG (aBl (aIX (k:=0) rfl) rfl) xF))),fun k n x h1 h2=>?_⟩
  exact match k,n,x,h1,h2 with | 0,n,x,h1,h2=>by cases h1;cases h2;exact ⟨_,rfl,aCD (fun _=>(lsC (lsI _ _) (lsC (lsI _ _) lsN))) _⟩ | k+1,n,x,h1,h2=>by cases h1
 refine hK _ _ _ ?_
 refine aW fun K1 K2 hK1 hK2=>?_;conv=>whnf
 refine hK2 ?_
 replace h:=rS h
 refine bI ?_
 refine aT ?_
 refine aT ?_
 refine aS ?_
 replace h:=cV h
 replace h:=cU h
 refine tHn ?_
 refine aC dCo rfl fun K hK=>?_;conv=>whnf
 refine nlA rfl ?_;conv=>whnf
 refine bKo rfl ?_;conv=>whnf
 refine nlA rfl ?_;conv=>whnf
 refine bKo rfl ?_;conv=>whnf
 refine And.intro rfl (And.intro (nle rfl) (And.intro rfl ?_));conv=>whnf
 refine hK _ _ _ ?_
 refine aP ?_
 replace h:=aO h
 refine aBZ dCo fun K hK=>?_;conv=>whnf
 refine nlA rfl ?_;conv=>whnf
 refine bKo rfl ?_;conv=>whnf
 refine nlA rfl ?_;conv=>whnf
 refine hK _ ?_
 cases h
 refine ⟨rfl,rfl,rfl,(aGL (tG (sI (Wk.refl _) (lsI _ _)) (tG (aBl (aIX (k:=0) rfl) rfl) xF))),fun k n x h1 h2=>?_⟩
 exact match k,n,x,h1,h2 with | 0,n,x,h1,h2=>by cases h1;cases h2;exact ⟨_,rfl,aCD (fun _=>(lsC (lsI _ _) (lsC (lsI _ _) lsN))) _⟩ | k+1,n,x,h1,h2=>by cases h1
  def nG (s19:(List Int)×Int×(List Int)) (s21:Int×aE):Option (Ct (Int×aE) aE):=cn (decide (s21.1<(s21.2.Pairs.length:Int))) (gd ((0:Int)≤s21.1∧s21.1<(s21.2.Pairs.length:Int)) (gd ((0:Int)≤(s21.2.Pairs.getD (s21.1).toNat default).1∧(s21.2.Pairs.getD (s21.1).toNat default).1<(s19.1.length:Int)) (gd ((0:Int)≤(s21.2.Pairs.getD (s21.1).toNat default).2∧(s21.2.Pairs.getD (s21.1).toNat default).2<(s19.1.length:Int)) (jn (fun p22:aE=>
  some (.nx ((wr (s21.1+1)),p22))) fun k23=>cn (decide ((s19.1.getD ((s21.2.Pairs.getD (s21.1).toNat default).1).toNat default) >
  (s19.1.getD ((s21.2.Pairs.getD (s21.1).toNat default).2).toNat default))) (gd ((0:Int)≤s21.1∧s21.1<(s21.2.Pairs.length:Int)) (st s21.2.Pairs (s21.1) ((s21.2.Pairs.getD (s21.1).toNat default).2,(s21.2.Pairs.getD (s21.1).toNat default).1) fun l24=>
  k23 (⟨s21.2.N,l24⟩:aE))) (k23 s21.2))))) (some (.bk (s21.1,s21.2)))
def pO (s9:(List Int)×Int×(List Int)):Option (Ct ((List Int)×Int×(List Int)) aE):=cn (decide ((s9.2.2.length:Int) >
  0)) (gd ((s9.2.2.length:Int)≠0) (let v10:=(Int.tmod s9.2.1 (s9.2.2.length:Int));gd ((s9.2.2.length:Int)≠0) (let v11:=(wr (Int.tdiv s9.2.1 (s9.2.2.length:Int)));
  ix s9.2.2 default v10 fun e12=>lt ([e12]:List Int) fun l13=>ap s9.1 l13 fun l14=>slc s9.2.2 0 v10 fun l15=>slc s9.2.2 (wr (v10+1)) (s9.2.2.length:Int) fun l16=>
  ap l15 l16 fun l17=>some (.nx (l14,v11,l17))))) (some (.bk (s9.1,s9.2.1,s9.2.2)))
def nJ (y1:aE) (s3:(List Int)×Int):Option (Ct ((List Int)×Int) aE):=cn (decide (s3.2<y1.N)) (lt ([s3.2]:List Int) fun l4=>ap s3.1 l4 fun l5=>
  some (.nx (l5,(wr (s3.2+1))))) (some (.bk (s3.1,s3.2)))
def oU (a0:Int) (a1:List (Int×Int)) (a2:Int):Option aE:=bd (fW a0 a1) fun y1=>bd (eZ a2 40320) fun y2=>
  bd (lp (nJ y1) FU ([],0)) fun c6=>smK c6 (fun s7=>bd (lp (pO) FU ([],y2,s7.1)) fun c18=>smK c18 (fun s19=>
  bd (lp (nG s19) FU (0,(⟨y1.N,y1.Pairs⟩:aE))) fun c25=>smK c25 (fun s26=>some (⟨s26.2.N,s26.2.Pairs⟩:aE)) (fun r27=>some r27)) (fun r20=>
  some r20)) (fun r8=>some r8)
def qP:List AV→AV→Prop:=fun args r=>∃ a0 a1 a2,args=[eI a0,(eL 2 kT default) a1,eI a2]∧W (oU a0 a1 a2) fun y=>r=(bF y)
theorem aEz {T:Tbl} (hT:TOk Tryd.prog T) (hpf:cP T PF) (h17:T 17=aHw pK kN pI) (h37:T 37=aH kY):FOk Tryd.prog 12 (aH qP):=by
 refine bM hT hpf Tryd.func12 rfl Tryd.ntmps12 Tryd.results12 (by decide) ?_
 rintro args r ⟨a0,a1,a2,rfl,h⟩
 refine ⟨nle rfl,?_,?_⟩
 ·exact (lsC (lsI _ _) (lsC (lsL fun _=>(aI _)) (lsC (lsI _ _) lsN)))
 rw [oU.eq_1] at h
 refine aC dCo rfl fun K hK=>?_;conv=>whnf
 refine hK _ _ _ ?_
 refine aC dCo rfl fun K hK=>?_;conv=>whnf
 refine zL h17 h (fun y e=>(⟨_,_,rfl,e⟩:pI _ _)) (WkL.refl _) (fun _ h=>?_);conv=>whnf
 refine bKo rfl ?_;conv=>whnf
 refine And.intro rfl (And.intro (nle rfl) (And.intro rfl ?_));conv=>whnf
 refine hK _ _ _ ?_
 refine aC dCo rfl fun K hK=>?_;conv=>whnf
 refine hK _ _ _ ?_
 refine aC dCo rfl fun K hK=>?_;conv=>whnf
 replace h:=bL h
 refine dE h37 h (WkL.refl _) (fun _ h=>?_);conv=>whnf
 refine hK _ _ _ ?_
 refine aC dCo rfl fun K hK=>?_;conv=>whnf
 refine hK _ _ _ ?_
 refine aF ?_
 refine aC dCo rfl fun K hK=>?_;conv=>whnf
 refine hK _ _ _ ?_
 refine aJ ?_
 replace h:=bL h
 refine aHa (body:=nJ _) rfl h [6,7,8,9] (fun σ=>uE σ [6,7]++yN σ []) (fun σ=>yN σ [(7,1)]++uE σ []++aGy σ []) [] (fun kl kh kr ids b s=>⟨ofL ([(10,.so (b+0) 0 s.1.length 1),(11,eI s.2)]++kl),ofH (([]++kh)++([(b+0,.cells (flE (ceE eI) s.1))]++kr)),b+128⟩) ?_;(conv=>whnf);refine And.intro ?_ (fun s m h=>cR ?_)
 ·refine aR ?_;conv=>whnf
  exact And.intro rfl (And.intro (aLc (WkR.nilso (fun _=>rfl)) (aLc wkI (aLc (WkR.ptr (fun _=>rfl)) (aLc (WkR.ptr (fun _=>rfl)) (aLc (wkr bC) (aLc wkI aLn)))))) (aLc ⟨some _,rfl,bRc rfl (cKc wkI (cKc (wkr bC) cKn))⟩ (aLc ⟨some _,rfl,bRc rfl (cKc wkI (cKc (WkR.so (fun _=>rfl)) cKn))⟩ (aLc ⟨none,rfl,aFN⟩ (aLc ⟨some _,rfl,kA rfl (fun _=>(lsC (lsI _ _) (lsC (lsI _ _) lsN)))⟩ aLn)))))
 replace h:=bL h;rw [nJ.eq_1] at h
 refine aF ?_
 refine aC dCo rfl fun K hK=>?_;conv=>whnf
 refine nlA rfl ?_;conv=>whnf
 refine bKo rfl ?_;conv=>whnf
 refine gKo rfl ?_;conv=>whnf
 refine hK _ _ _ ?_
 refine aW fun K1 K2 hK1 hK2=>?_;conv=>whnf
 refine cLk h (fun _ h=>?_) (fun _ h=>?_)
 ·refine hK1 ?_
  refine aG ?_
  refine tHn ?_
  refine aF ?_
  refine aJ ?_
  refine bY dCo rfl fun K hK=>?_;conv=>whnf
  refine dL (enc:=eI) (d:=default) dCo h rfl rfl rfl ⟨nle rfl,nle rfl,rfl⟩ rfl ⟨⟨rfl,rfl,rfl⟩,trivial⟩ (fun h=>?_);conv=>whnf
  refine aA1 (enc:=eI) (d:=default) dCo h rfl rfl rfl ⟨rfl,nle rfl,nle rfl,nle rfl,rfl⟩ (fun _=>rfl) (fun _=>rfl) (fun _=>nofun) rfl (rfl) (fun h=>?_);conv=>whnf
  refine hK _ _ _ ?_
  refine iBn ?_
  refine tHn ?_
  refine bY dCo rfl fun K hK=>?_;conv=>whnf
  refine hK _ _ _ ?_
  refine tHn ?_
  replace h:=bK h
  refine ⟨_,h,?_⟩
  refine aR ?_;conv=>whnf
  exact And.intro rfl (And.intro (aLc (WkR.so (fun _=>rfl)) (aLc wkI (aLc (WkR.ptr (fun _=>rfl)) (aLc (WkR.ptr (fun _=>rfl)) (aLc (wkr bC) (aLc wkI aLn)))))) (aLc ⟨some _,rfl,bRc rfl (cKc wkI (cKc (wkr bC) cKn))⟩ (aLc ⟨some _,rfl,bRc rfl (cKc wkI (cKc (WkR.so (fun _=>rfl)) cKn))⟩ (aLc ⟨some _,rfl,kA rfl (fun _=>(lsC (lsI _ _) lsN))⟩ (aLc ⟨some _,rfl,kA rfl (fun _=>(lsC (lsI _ _) (lsC (lsI _ _) lsN)))⟩ aLn)))))
 refine hK2 ?_
 refine bI ?_
 refine aT ?_
 refine aT ?_
 refine aS ?_
 replace h:=cV h
 replace h:=cU h
 refine tHn ?_
 refine aF ?_
 refine qM 10 (enc:=eI) (e:=3) default (pS dCo rfl rfl rfl (fun _=>⟨rfl,rfl⟩)) ?_;(conv=>whnf);refine ⟨_,_,rfl,rfl,rfl,?_⟩
 refine aJ ?_
 replace h:=bL h
 refine aHa (body:=pO) rfl h [6,7] (fun σ=>uE σ [6,7]++yN σ []) (fun σ=>yN σ [(7,1)]++uE σ []++aGy σ []) [] (fun kl kh kr ids b s=>⟨ofL ([(8,.so (b+0) 0 s.1.length 1),(9,eI s.2.1),(10,(eL 1 eI default) s.2.2)]++kl),ofH (([]++kh)++([(b+0,.cells (flE (ceE eI) s.1))]++kr)),b+128⟩) ?_;(conv=>whnf);refine And.intro ?_ (fun s m h=>cR ?_)
 ·refine aR ?_;conv=>whnf
  exact And.intro rfl (And.intro (aLc (WkR.nilso (fun _=>rfl)) (aLc wkI (aLc (wkr (lsL fun _=>(lsI _ _))) (aLc (WkR.ptr (fun _=>rfl)) (aLc (WkR.ptr (fun _=>rfl)) aLn))))) (aLc ⟨some _,rfl,bRc rfl (cKc wkI (cKc (wkr bC) cKn))⟩ (aLc ⟨some _,rfl,bRc rfl (cKc wkI (cKc (WkR.so (fun _=>rfl)) cKn))⟩ (aLc ⟨none,rfl,aFN⟩ (aLc ⟨some _,rfl,kA rfl (fun _=>(lsC (lsI _ _) (lsC (lsI _ _) lsN)))⟩ aLn)))))
 replace h:=bL h;rw [pO.eq_1] at h
 refine aF ?_
 refine aC dCo rfl fun K hK=>?_;conv=>whnf
 refine hK _ _ _ ?_
 refine aW fun K1 K2 hK1 hK2=>?_;conv=>whnf
 refine cLk h (fun _ h=>?_) (fun _ h=>?_)
 ·refine hK1 ?_
  refine aG ?_
  refine tHn ?_
  refine aJ ?_
  refine aC dCo rfl fun K hK=>?_;conv=>whnf
  refine bW h fun _ h=>?_;conv=>whnf
  refine hK _ _ _ ?_
  refine aC dCo rfl fun K hK=>?_;conv=>whnf
  refine bW h fun _ h=>?_;conv=>whnf
  refine hK _ _ _ ?_
  refine aC dCo rfl fun K hK=>?_;conv=>whnf
  refine dD h fun _ h=>?_;conv=>whnf
  refine gKo rfl ?_;conv=>whnf
  refine dL (enc:=eI) (d:=default) dCo h rfl rfl rfl ⟨nle rfl,nle rfl,rfl⟩ rfl ⟨⟨rfl,rfl,rfl⟩,trivial⟩ (fun h=>?_);conv=>whnf
  refine aA1 (enc:=eI) (d:=default) dCo h rfl rfl rfl ⟨rfl,nle rfl,nle rfl,nle rfl,rfl⟩ (fun _=>rfl) (fun _=>rfl) (fun _=>nofun) rfl (rfl) (fun h=>?_);conv=>whnf
  refine hK _ _ _ ?_
  refine nQ dCo cG rfl (by kernel_rfl) fun K hK=>?_;conv=>whnf
  refine aFy h (.inl ⟨rfl,rfl⟩) (fun h=>?_);conv=>whnf
  refine aNz h (.inr ⟨_,rfl⟩) (.inl ⟨rfl,rfl⟩) (fun h=>?_);conv=>whnf
  refine gX (enc:=eI) (d:=default) dCo h (.inl rfl) rfl rfl rfl ⟨rfl,nle rfl,nle rfl,nle rfl,rfl⟩ (fun _=>rfl) (.inr (.inl ⟨rfl,rfl⟩)) (fun h=>?_);conv=>whnf
  refine hK _ _ _ ?_
  refine iBn ?_
  refine tHn ?_
  replace h:=bK h
  refine ⟨_,h,?_⟩
  refine aR ?_;conv=>whnf
  exact And.intro rfl (And.intro (aLc (WkR.so (fun _=>rfl)) (aLc wkI (aLc (WkR.wk cD (lsL fun _=>(lsI _ _))) (aLc (WkR.ptr (fun _=>rfl)) (aLc (WkR.ptr (fun _=>rfl)) aLn))))) (aLc ⟨some _,rfl,bRc rfl (cKc wkI (cKc (wkr bC) cKn))⟩ (aLc ⟨some _,rfl,bRc rfl (cKc wkI (cKc (WkR.so (fun _=>rfl)) cKn))⟩ (aLc ⟨some _,rfl,kA rfl (fun _=>(lsC (lsI _ _) lsN))⟩ (aLc ⟨some _,rfl,kA rfl (fun _=>(lsC (lsI _ _) (lsC (lsI _ _) lsN)))⟩ aLn)))))
 refine hK2 ?_
 refine bI ?_
 refine aT ?_
 refine aT ?_
 refine aS ?_
 replace h:=cV h
 replace h:=cU h
 refine tHn ?_
 refine aF ?_
 refine aC dCo rfl fun K hK=>?_;conv=>whnf
 refine hK _ _ _ ?_
 refine aJ ?_
 replace h:=bL h
 refine cY (body:=nG _) rfl h [6,7,8] [6] [8] [7] (fun kl kh kr ids b s=>⟨ofL ([(13,eI s.1)]++kl),ofH (([(xW ids 0,.cells [eI s.2.N,.so (b+0) 0 s.2.Pairs.length 2])]++kh)++([(b+0,.cells (flE (ceE kT) s.2.Pairs))]++kr)),b+128⟩) ?_;(conv=>whnf);refine And.intro ?_ (fun s m h=>cR ?_)
 ·refine aR ?_;conv=>whnf
  exact And.intro rfl (And.intro (aLc wkI (aLc (WkR.ptr (fun _=>rfl)) (aLc (WkR.ptr (fun _=>rfl)) (aLc (WkR.so (fun _=>rfl)) aLn)))) (aLc ⟨some _,rfl,bRc rfl (cKc wkI (cKc (WkR.so (fun _=>rfl)) cKn))⟩ (aLc ⟨some _,rfl,bRc rfl (cKc wkI (cKc (wkr bC) cKn))⟩ (aLc ⟨some _,rfl,kA rfl (fun _=>(lsC (lsI _ _) (lsC (lsI _ _) lsN)))⟩ (aLc ⟨some _,rfl,kA rfl (fun _=>(lsC (lsI _ _) lsN))⟩ aLn)))))
 replace h:=bL h;rw [nG.eq_1] at h
 refine aF ?_
 refine aC dCo rfl fun K hK=>?_;conv=>whnf
 refine nlA rfl ?_;conv=>whnf
 refine bKo rfl ?_;conv=>whnf
 refine gKo rfl ?_;conv=>whnf
 refine hK _ _ _ ?_
 refine aW fun K1 K2 hK1 hK2=>?_;conv=>whnf
 refine cLk h (fun _ h=>?_) (fun _ h=>?_)
 ·refine hK1 ?_
  refine aG ?_
  refine tHn ?_
  refine aF ?_
  refine aJ ?_
  refine aC dCo rfl fun K hK=>?_;conv=>whnf
  refine nlA rfl ?_;conv=>whnf
  refine bKo rfl ?_;conv=>whnf
  refine gKo rfl ?_;conv=>whnf
  refine qZ h (rfl) fun hx115 h=>?_;conv=>whnf
  refine nlA rfl ?_;conv=>whnf
  refine bKo rfl ?_;conv=>whnf
  refine aHB (enc:=kT) (d:=default) (fun _=>rfl) (rfl) hx115 ?_;conv=>whnf
  refine bKo rfl ?_;conv=>whnf
  refine And.intro rfl (And.intro (nle rfl) (And.intro rfl ?_));conv=>whnf
  refine hK _ _ _ ?_
  refine qA dCo cG rfl (by kernel_rfl) fun K hK=>?_;conv=>whnf
  refine And.intro (by decide) ?_;conv=>whnf
  refine nlA rfl ?_;conv=>whnf
  refine bKo rfl ?_;conv=>whnf
  refine gKo rfl ?_;conv=>whnf
  refine qZ h (rfl) fun hx116 h=>?_;conv=>whnf
  refine nlA rfl ?_;conv=>whnf
  refine bKo rfl ?_;conv=>whnf
  refine sF (enc:=eI) (d:=default) (q:=0) (fun _=>rfl) (rfl) hx116 (nle rfl) rfl ?_;conv=>whnf
  refine And.intro (by decide) ?_;conv=>whnf
  refine nlA rfl ?_;conv=>whnf
  refine bKo rfl ?_;conv=>whnf
  refine gKo rfl ?_;conv=>whnf
  refine qZ h (rfl) fun hx117 h=>?_;conv=>whnf
  refine nlA rfl ?_;conv=>whnf
  refine bKo rfl ?_;conv=>whnf
  refine sF (enc:=eI) (d:=default) (q:=0) (fun _=>rfl) (rfl) hx117 (nle rfl) rfl ?_;conv=>whnf
  refine hK _ _ _ ?_
  replace h:=lG h
  refine aW fun K1 K2 hK1 hK2=>?_;conv=>whnf
  refine cLk h (fun _ h=>?_) (fun _ h=>?_)
  ·refine hK1 ?_
   refine bY dCo rfl fun K hK=>?_;conv=>whnf
   refine nlA rfl ?_;conv=>whnf
   refine bKo rfl ?_;conv=>whnf
   refine gKo rfl ?_;conv=>whnf
   refine And.intro (by decide) ?_;conv=>whnf
   refine nlA rfl ?_;conv=>whnf
   refine bKo rfl ?_;conv=>whnf
   refine gKo rfl ?_;conv=>whnf
   refine And.intro (by decide) ?_;conv=>whnf
   refine nlA rfl ?_;conv=>whnf
   refine bKo rfl ?_;conv=>whnf
   refine gKo rfl ?_;conv=>whnf
   refine qZ h (rfl) fun hx119 h=>?_;conv=>whnf
   refine bKo rfl ?_;conv=>whnf
   refine aKC (enc:=kT) (d:=default) (q:=0) h (fun _=>rfl) (rfl) hx119 rfl (nle rfl) rfl rfl (fun h=>?_);conv=>whnf
   refine hK _ _ _ ?_
   refine iBn ?_
   refine tHn ?_
   refine bY dCo rfl fun K hK=>?_;conv=>whnf
   refine hK _ _ _ ?_
   refine tHn ?_
   replace h:=bK h
   refine ⟨_,h,?_⟩
   refine aR ?_;conv=>whnf
   exact And.intro rfl (And.intro (aLc wkI (aLc (WkR.ptr (fun _=>rfl)) (aLc (WkR.ptr (fun _=>rfl)) (aLc (WkR.so (fun _=>rfl)) aLn)))) (aLc ⟨some _,rfl,bRc rfl (cKc wkI (cKc (WkR.soN (fun _=>rfl) (aFm rfl).symm) cKn))⟩ (aLc ⟨some _,rfl,bRc rfl (cKc wkI (cKc (wkr bC) cKn))⟩ (aLc ⟨some _,rfl,kA rfl (fun _=>(lsC (lsI _ _) (lsC (lsI _ _) lsN)))⟩ (aLc ⟨some _,rfl,kA rfl (fun _=>(lsC (lsI _ _) lsN))⟩ aLn)))))
  refine hK2 ?_
  refine aG ?_
  refine iBn ?_
  refine tHn ?_
  refine bY dCo rfl fun K hK=>?_;conv=>whnf
  refine hK _ _ _ ?_
  refine tHn ?_
  replace h:=bK h
  refine ⟨_,h,?_⟩
  refine aR ?_;conv=>whnf
  exact And.intro rfl (And.intro (aLc wkI (aLc (WkR.ptr (fun _=>rfl)) (aLc (WkR.ptr (fun _=>rfl)) (aLc (WkR.so (fun _=>rfl)) aLn)))) (aLc ⟨some _,rfl,bRc rfl (cKc wkI (cKc (WkR.so (fun _=>rfl)) cKn))⟩ (aLc ⟨some _,rfl,bRc rfl (cKc wkI (cKc (wkr bC) cKn))⟩ (aLc ⟨some _,rfl,kA rfl (fun _=>(lsC (lsI _ _) (lsC (lsI _ _) lsN)))⟩ (aLc ⟨some _,rfl,kA rfl (fun _=>(lsC (lsI _ _) lsN))⟩ aLn)))))
 refine hK2 ?_
 refine bI ?_
 refine aT ?_
 refine aT ?_
 refine aS ?_
 replace h:=cV h
 replace h:=cU h
 refine tHn ?_
 refine tF 7 1 (enc:=kT) (e:=46) default (uS dCo rfl rfl (fun _=>rfl) (fun _=>rfl)) ?_;(conv=>whnf);refine ⟨_,_,_,(Nat.ne_of_beq_eq_false rfl),rfl,rfl,rfl,rfl,?_⟩;conv=>whnf
 refine aC dCo rfl fun K hK=>?_;conv=>whnf
 refine nlA rfl ?_;conv=>whnf
 refine bKo rfl ?_;conv=>whnf
 refine nlA rfl ?_;conv=>whnf
 refine bKo rfl ?_;conv=>whnf
 refine And.intro rfl (And.intro (nle rfl) (And.intro rfl ?_));conv=>whnf
 refine hK _ _ _ ?_
 refine aP ?_
 replace h:=aO h
 refine aK dCo fun K hK=>?_;conv=>whnf
 refine nlA rfl ?_;conv=>whnf
 refine bKo rfl ?_;conv=>whnf
 refine nlA rfl ?_;conv=>whnf
 refine hK _ ?_
 cases h
 exact Wk.refl _
theorem aBw {T:Tbl} (hT:T 12=aH qP) {args:List AV} {hp:bH} {id:Nat} {k:AV→Prop} {a0:Int} {a1:List (Int×Int)} {a2:Int} {Φ:aE→Prop} (h:W (oU a0 a1 a2) Φ) (hw:WkL args [eI a0,(eL 2 kT default) a1,eI a2]) (hk:∀ y,Φ y→k (bF y)):cH T 12 args hp id k:=by
 obtain ⟨y,e,hy⟩:=dY h
 exact aV hT ⟨a0,a1,a2,rfl,lR e rfl⟩ (by exact (bT _)) hw (hk y hy)
def qS:Option Bool:=lt ([(0,2),(1,2),(2,3),(0,3),(1,4)]:List (Int×Int)) fun l1=>lt ([]:List (Int×Int)) fun l2=>ap l2 l1 fun l3=>
  lt ([(3,1)]:List (Int×Int)) fun l4=>ap l3 l4 fun l5=>bd (fU (⟨5,l1⟩:aE)) fun y6=>bd (fD (⟨5,l1⟩:aE)) fun y7=>
  bd (dX (⟨5,l1⟩:aE)) fun y8=>bd (gI (⟨5,l1⟩:aE)) fun y9=>bd (fL (⟨5,l1⟩:aE)) fun y10=>
  bd (eQ (⟨5,l1⟩:aE)) fun y11=>bd (fX (⟨5,l1⟩:aE)) fun y12=>bd (dI (⟨5,l1⟩:aE)) fun y13=>
  bd (fJ (⟨5,l1⟩:aE)) fun y14=>bd (fK (⟨5,l5⟩:aE)) fun y15=>bd (fK (⟨5,l1⟩:aE)) fun y16=>
  bd (fL (⟨5,l5⟩:aE)) fun y17=>jn (fun p18:Bool=>cn p18 (some false) (jn (fun p20:Bool=>jn (fun p26:Bool=>jn (fun p36:Bool=>
  jn (fun p45:Bool=>jn (fun p53:Bool=>some p53) fun k54=>cn p20 (cn p26 (cn p36 (cn p45 (bd (dW (⟨5,l1⟩:aE) 1 3) fun y55=>
  cn y55 (bd (dW (⟨5,l1⟩:aE) 3 1) fun y56=>cn (!y56) (bd (dW (⟨5,l1⟩:aE) 0 1) fun y57=>
  k54 (!y57)) (k54 false)) (k54 false)) (k54 false)) (k54 false)) (k54 false)) (k54 false)) fun k46=>cn y15.2 (cn (!y16.2) (lt ([1,2,3]:List Int) fun l47=>
  bd (dA y15.1 l47) fun y48=>cn y48 (bd (iW (⟨5,l1⟩:aE)) fun y49=>cn y49 (bd (iW (⟨5,l5⟩:aE)) fun y50=>
  cn (!y50) (bd (fE (⟨5,l5⟩:aE)) fun y51=>cn y51 (bd (fE (⟨9,[]⟩:aE)) fun y52=>
  k46 (!y52)) (k46 false)) (k46 false)) (k46 false)) (k46 false)) (k46 false)) (k46 false)) fun k37=>lt ([0,0,1,2,1]:List Int) fun l38=>
  bd (dA y11.1 l38) fun y39=>cn y39 (lt ([0,2,3]:List Int) fun l40=>bd (dA y12.1 l40) fun y41=>cn y41 (lt ([0,1]:List Int) fun l42=>
  bd (dA y13.1 l42) fun y43=>cn y43 (let v44:=((y14.1.length:Int)==2);k37 v44) (k37 false)) (k37 false)) (k37 false)) fun k27=>
  lt ([0,1,2,3,7,15,18,19,23,31]:List Int) fun l28=>bd (dA y8.1 l28) fun y29=>cn y29 (lt ([0,1,2,3,4]:List Int) fun l30=>
  bd (dA y9.1 l30) fun y31=>cn y31 (cn (y10.1==7) (lt ([1,4,0,2,3]:List Int) fun l32=>bd (eR (⟨5,l1⟩:aE) l32) fun y33=>
  cn y33 (lt ([1,2,0,3,4]:List Int) fun l34=>bd (eR (⟨5,l1⟩:aE) l34) fun y35=>
  k27 (!y35)) (k27 false)) (k27 false)) (k27 false)) (k27 false)) fun k21=>lt ([(0,2),(0,3),(1,2),(1,3),(1,4),(2,3)]:List (Int×Int)) fun l22=>
  bd (iX y6.1 (⟨5,l22⟩:aE)) fun y23=>cn y23 (lt ([(0,2),(1,2),(1,4),(2,3)]:List (Int×Int)) fun l24=>
  bd (iX y7.1 (⟨5,l24⟩:aE)) fun y25=>k21 y25) (k21 false))) fun k19=>cn (y6.2 != 0) (k19 true) (cn (y7.2 != 0) (k19 true) (cn (y8.2 !=
  0) (k19 true) (cn (y9.2 != 0) (k19 true) (cn (y10.2 != 0) (k19 true) (cn (y11.2 != 0) (k19 true) (cn (y12.2 != 0) (k19 true) (cn (y13.2 != 0) (k19 true) (cn (y14.2 !=
  0) (k19 true) (k19 (y17.2 != 70))))))))))
def qV:List AV→AV→Prop:=fun args r =>  args=[]∧W (qS ) fun y=>r=(eB y)
theorem aD3 {T:Tbl} (hT:TOk Tryd.prog T) (hpf:cP T PF) (h18:T 18=aH iR) (h19:T 19=aH oT) (h20:T 20=aH mX) (h22:T 22=aH lW) (h24:T 24=aH nF) (h25:T 25=aH mE) (h26:T 26=aH oR) (h27:T 27=aH mA) (h28:T 28=aH lU) (h29:T 29=aH nL) (h30:T 30=aH iK) (h31:T 31=aH nI) (h32:T 32=aH nK) (h33:T 33=aH iD) (h34:T 34=aH mZ) (h36:T 36=aH oM):FOk Tryd.prog 11 (aH qV):=by
 refine bM hT hpf Tryd.func11 rfl Tryd.ntmps11 Tryd.results11 (by decide) ?_
 rintro args r ⟨rfl,h⟩
 refine ⟨nle rfl,?_,?_⟩
 ·exact lsN
 rw [qS.eq_1] at h
 refine aC dCo rfl fun K hK=>?_;conv=>whnf
 refine hK _ _ _ ?_
 refine aC dCo rfl fun K hK=>?_;conv=>whnf
 refine dL (enc:=kT) (d:=default) dCo h rfl rfl rfl ⟨nle rfl,nle rfl,rfl⟩ rfl ⟨⟨rfl,nle rfl⟩,⟨⟨rfl,nle rfl⟩,⟨⟨rfl,nle rfl⟩,⟨⟨rfl,nle rfl⟩,⟨⟨rfl,nle rfl⟩,trivial⟩⟩⟩⟩⟩ (fun h=>?_);conv=>whnf
 refine bKo rfl ?_;conv=>whnf
 refine And.intro rfl (And.intro (nle rfl) (And.intro rfl ?_));conv=>whnf
 refine hK _ _ _ ?_
 refine aC dCo rfl fun K hK=>?_;conv=>whnf
 refine dL (enc:=kT) (d:=default) dCo h rfl rfl rfl ⟨nle rfl,nle rfl,rfl⟩ rfl trivial (fun h=>?_);conv=>whnf
 refine nlA rfl ?_;conv=>whnf
 refine bKo rfl ?_;conv=>whnf
 refine gKo rfl ?_;conv=>whnf
 refine aHK (enc:=kT) (d:=default) dCo h rfl rfl rfl ⟨rfl,nle rfl,nle rfl,nle rfl,rfl⟩ (fun _=>rfl) (fun h=>?_);conv=>whnf
 refine dL (enc:=kT) (d:=default) dCo h rfl rfl rfl ⟨nle rfl,nle rfl,rfl⟩ rfl ⟨⟨rfl,nle rfl⟩,trivial⟩ (fun h=>?_);conv=>whnf
 refine gX (enc:=kT) (d:=default) dCo h (.inl rfl) rfl rfl rfl ⟨rfl,nle rfl,nle rfl,nle rfl,rfl⟩ (fun _=>rfl) (.inr (.inr ⟨_,_,rfl,rfl,rfl⟩)) (fun h=>?_);conv=>whnf
 refine bKo rfl ?_;conv=>whnf
 refine And.intro rfl (And.intro (nle rfl) (And.intro rfl ?_));conv=>whnf
 refine hK _ _ _ ?_
 refine aC dCo rfl fun K hK=>?_;conv=>whnf
 refine nlA rfl ?_;conv=>whnf
 refine bKo rfl ?_;conv=>whnf
 refine nlA rfl ?_;conv=>whnf
 replace h:=bL h
 refine vA h24 h (aD (iA (aD (Wk.refl _) (aD cD bE))) bE) (fun _ h=>?_);conv=>whnf
 refine bKo rfl ?_;conv=>whnf
 refine And.intro rfl (And.intro (nle rfl) (And.intro rfl ?_));conv=>whnf
 refine hK _ _ _ ?_
 refine aC dCo rfl fun K hK=>?_;conv=>whnf
 refine nlA rfl ?_;conv=>whnf
 refine bKo rfl ?_;conv=>whnf
 refine nlA rfl ?_;conv=>whnf
 replace h:=bL h
 refine uI h25 h (aD (iA (aD (Wk.refl _) (aD cD bE))) bE) (fun _ h=>?_);conv=>whnf
 refine bKo rfl ?_;conv=>whnf
 refine And.intro rfl (And.intro (nle rfl) (And.intro rfl ?_));conv=>whnf
 refine hK _ _ _ ?_
 refine aC dCo rfl fun K hK=>?_;conv=>whnf
 refine nlA rfl ?_;conv=>whnf
 refine bKo rfl ?_;conv=>whnf
 refine nlA rfl ?_;conv=>whnf
 replace h:=bL h
 refine sW h18 h (aD (iA (aD (Wk.refl _) (aD cD bE))) bE) (fun _ h=>?_);conv=>whnf
 refine hK _ _ _ ?_
 refine aC dCo rfl fun K hK=>?_;conv=>whnf
 refine nlA rfl ?_;conv=>whnf
 refine bKo rfl ?_;conv=>whnf
 refine nlA rfl ?_;conv=>whnf
 replace h:=bL h
 refine wA h19 h (aD (iA (aD (Wk.refl _) (aD cD bE))) bE) (fun _ h=>?_);conv=>whnf
 refine hK _ _ _ ?_
 refine aC dCo rfl fun K hK=>?_;conv=>whnf
 refine nlA rfl ?_;conv=>whnf
 refine bKo rfl ?_;conv=>whnf
 refine nlA rfl ?_;conv=>whnf
 replace h:=bL h
 refine rD h20 h (aD (iA (aD (Wk.refl _) (aD cD bE))) bE) (fun _ h=>?_);conv=>whnf
 refine hK _ _ _ ?_
 refine aC dCo rfl fun K hK=>?_;conv=>whnf
 refine nlA rfl ?_;conv=>whnf
 refine bKo rfl ?_;conv=>whnf
 refine nlA rfl ?_;conv=>whnf
 replace h:=bL h
 refine tV h28 h (aD (iA (aD (Wk.refl _) (aD cD bE))) bE) (fun _ h=>?_);conv=>whnf
 refine hK _ _ _ ?_
 refine aC dCo rfl fun K hK=>?_;conv=>whnf
 refine nlA rfl ?_;conv=>whnf
 refine bKo rfl ?_;conv=>whnf
 refine nlA rfl ?_;conv=>whnf
 replace h:=bL h
 refine uX h29 h (aD (iA (aD (Wk.refl _) (aD cD bE))) bE) (fun _ h=>?_);conv=>whnf
 refine hK _ _ _ ?_
 refine aC dCo rfl fun K hK=>?_;conv=>whnf
 refine nlA rfl ?_;conv=>whnf
 refine bKo rfl ?_;conv=>whnf
 refine nlA rfl ?_;conv=>whnf
 replace h:=bL h
 refine rP h30 h (aD (iA (aD (Wk.refl _) (aD cD bE))) bE) (fun _ h=>?_);conv=>whnf
 refine hK _ _ _ ?_
 refine aC dCo rfl fun K hK=>?_;conv=>whnf
 refine nlA rfl ?_;conv=>whnf
 refine bKo rfl ?_;conv=>whnf
 refine nlA rfl ?_;conv=>whnf
 replace h:=bL h
 refine vB h31 h (aD (iA (aD (Wk.refl _) (aD cD bE))) bE) (fun _ h=>?_);conv=>whnf
 refine hK _ _ _ ?_
 refine aC dCo rfl fun K hK=>?_;conv=>whnf
 refine nlA rfl ?_;conv=>whnf
 refine bKo rfl ?_;conv=>whnf
 refine nlA rfl ?_;conv=>whnf
 replace h:=bL h
 refine rL h32 h (aD (iA (aD (Wk.refl _) (aD cD bE))) bE) (fun _ h=>?_);conv=>whnf
 refine hK _ _ _ ?_
 refine aC dCo rfl fun K hK=>?_;conv=>whnf
 refine nlA rfl ?_;conv=>whnf
 refine bKo rfl ?_;conv=>whnf
 refine nlA rfl ?_;conv=>whnf
 replace h:=bL h
 refine rL h32 h (aD (iA (aD (Wk.refl _) (aD cD bE))) bE) (fun _ h=>?_);conv=>whnf
 refine hK _ _ _ ?_
 refine aC dCo rfl fun K hK=>?_;conv=>whnf
 refine nlA rfl ?_;conv=>whnf
 refine bKo rfl ?_;conv=>whnf
 refine nlA rfl ?_;conv=>whnf
 replace h:=bL h
 refine rD h20 h (aD (iA (aD (Wk.refl _) (aD cD bE))) bE) (fun _ h=>?_);conv=>whnf
 refine hK _ _ _ ?_
 refine aF ?_
 refine aHn rfl h [1,2,3,5,7,9,11,13,15,17,19,21,22,24] (fun σ=>uE σ [1,2,3,5]++yN σ [(2,1)]) [] (fun kl kh ids b s=>⟨ofL ([(143,eB s)]++kl),ofH ([]++kh),b+64⟩) ?_;(conv=>whnf);refine And.intro (fun s h=>cR ?_) (fun k h=>?_)
 ·refine aW fun K1 K2 hK1 hK2=>?_;conv=>whnf
  refine cLk h (fun _ h=>?_) (fun _ h=>?_)
  ·refine hK1 ?_
   refine aC dCo rfl fun K hK=>?_;conv=>whnf
   refine hK _ _ _ ?_
   refine aP ?_
   refine aQ ?_
   replace h:=aO h
   refine aK dCo fun K hK=>?_;conv=>whnf
   refine hK _ ?_
   cases h
   exact Wk.refl _
  refine hK2 ?_
  refine aG ?_
  refine tHn ?_
  refine aHn rfl h [1,2,7,9,11,13,15,17,19,21,22,24] (fun σ=>uE σ [1,2]++yN σ [(2,1)]) [] (fun kl kh ids b s=>⟨ofL ([(27,eB s)]++kl),ofH ([]++kh),b+64⟩) ?_;(conv=>whnf);refine And.intro (fun s h=>cR ?_) (fun k h=>?_)
  ·refine aHn rfl h [1,2,13,15,17,19,21,22,24,27] (fun σ=>uE σ [1,2]++yN σ [(2,1)]) [] (fun kl kh ids b s=>⟨ofL ([(28,eB s)]++kl),ofH ([]++kh),b+64⟩) ?_;(conv=>whnf);refine And.intro (fun s h=>cR ?_) (fun k h=>?_)
   ·refine aHn rfl h [1,2,21,22,24,27,28] (fun σ=>uE σ [1,2]++yN σ [(2,1)]) [] (fun kl kh ids b s=>⟨ofL ([(29,eB s)]++kl),ofH ([]++kh),b+64⟩) ?_;(conv=>whnf);refine And.intro (fun s h=>cR ?_) (fun k h=>?_)
    ·refine aCS rfl h [1,27,28,29] [1] [] (fun kl kh ids b s=>⟨ofL ([(30,eB s)]++kl),ofH ([]++kh),b+64⟩) ?_;(conv=>whnf);refine And.intro (fun s h=>cR ?_) (fun k h=>?_)
     ·refine aC dCo rfl fun K hK=>?_;conv=>whnf
      replace h:=lG h
      refine cLk h (fun _ h=>?_) (fun _ h=>?_)<;>(conv=>whnf)
      ·refine cLk h (fun _ h=>?_) (fun _ h=>?_)<;>(conv=>whnf)
       ·refine cLk h (fun _ h=>?_) (fun _ h=>?_)<;>(conv=>whnf)
        ·refine cLk h (fun _ h=>?_) (fun _ h=>?_)<;>(conv=>whnf)
         ·refine nlA rfl ?_;conv=>whnf
          refine bKo rfl ?_;conv=>whnf
          refine nlA rfl ?_;conv=>whnf
          replace h:=bL h
          refine mT h27 h (aD (iA (aD (Wk.refl _) (aD cD bE))) (aD (Wk.refl _) (aD (Wk.refl _) bE))) (fun _ h=>?_);conv=>whnf
          refine cLk h (fun _ h=>?_) (fun _ h=>?_)<;>(conv=>whnf)
          ·refine nlA rfl ?_;conv=>whnf
           refine bKo rfl ?_;conv=>whnf
           refine nlA rfl ?_;conv=>whnf
           replace h:=bL h
           refine mT h27 h (aD (iA (aD (Wk.refl _) (aD cD bE))) (aD (Wk.refl _) (aD (Wk.refl _) bE))) (fun _ h=>?_);conv=>whnf
           refine cLk h (fun _ h=>?_) (fun _ h=>?_)<;>(conv=>whnf)
           ·refine nlA rfl ?_;conv=>whnf
            refine bKo rfl ?_;conv=>whnf
            refine nlA rfl ?_;conv=>whnf
            replace h:=bL h
            refine mT h27 h (aD (iA (aD (Wk.refl _) (aD cD bE))) (aD (Wk.refl _) (aD (Wk.refl _) bE))) (fun _ h=>?_);conv=>whnf
            refine hK _ _ _ ?_
            refine aP ?_
            replace h:=aO h
            refine aK dCo fun K hK=>?_;conv=>whnf
            refine hK _ ?_
            cases h
            exact Wk.refl _
           refine hK _ _ _ ?_
           refine aP ?_
           replace h:=aO h
           refine aK dCo fun K hK=>?_;conv=>whnf
           refine hK _ ?_
           cases h
           exact Wk.refl _
          refine hK _ _ _ ?_
          refine aP ?_
          replace h:=aO h
          refine aK dCo fun K hK=>?_;conv=>whnf
          refine hK _ ?_
          cases h
          exact Wk.refl _
         refine hK _ _ _ ?_
         refine aP ?_
         replace h:=aO h
         refine aK dCo fun K hK=>?_;conv=>whnf
         refine hK _ ?_
         cases h
         exact Wk.refl _
        refine hK _ _ _ ?_
        refine aP ?_
        replace h:=aO h
        refine aK dCo fun K hK=>?_;conv=>whnf
        refine hK _ ?_
        cases h
        exact Wk.refl _
       refine hK _ _ _ ?_
       refine aP ?_
       replace h:=aO h
       refine aK dCo fun K hK=>?_;conv=>whnf
       refine hK _ ?_
       cases h
       exact Wk.refl _
      refine hK _ _ _ ?_
      refine aP ?_
      replace h:=aO h
      refine aK dCo fun K hK=>?_;conv=>whnf
      refine hK _ ?_
      cases h
      exact Wk.refl _
     refine bY dCo rfl fun K hK=>?_;conv=>whnf
     refine cLk h (fun _ h=>?_) (fun _ h=>?_)<;>(conv=>whnf)
     ·refine cLk h (fun _ h=>?_) (fun _ h=>?_)<;>(conv=>whnf)
      ·refine dL (enc:=eI) (d:=default) dCo h rfl rfl rfl ⟨nle rfl,nle rfl,rfl⟩ rfl ⟨⟨rfl,rfl,rfl⟩,⟨⟨rfl,rfl,rfl⟩,⟨⟨rfl,rfl,rfl⟩,trivial⟩⟩⟩ (fun h=>?_);conv=>whnf
       replace h:=bL h
       refine dF h36 h (aD (Wk.refl _) (aD cD bE)) (fun _ h=>?_);conv=>whnf
       refine cLk h (fun _ h=>?_) (fun _ h=>?_)<;>(conv=>whnf)
       ·refine nlA rfl ?_;conv=>whnf
        refine bKo rfl ?_;conv=>whnf
        refine nlA rfl ?_;conv=>whnf
        replace h:=bL h
        refine rN h34 h (aD (iA (aD (Wk.refl _) (aD cD bE))) bE) (fun _ h=>?_);conv=>whnf
        refine cLk h (fun _ h=>?_) (fun _ h=>?_)<;>(conv=>whnf)
        ·refine nlA rfl ?_;conv=>whnf
         refine bKo rfl ?_;conv=>whnf
         refine nlA rfl ?_;conv=>whnf
         replace h:=bL h
         refine rN h34 h (aD (iA (aD (Wk.refl _) (aD cD bE))) bE) (fun _ h=>?_);conv=>whnf
         refine cLk h (fun _ h=>?_) (fun _ h=>?_)<;>(conv=>whnf)
         ·refine nlA rfl ?_;conv=>whnf
          refine bKo rfl ?_;conv=>whnf
          refine nlA rfl ?_;conv=>whnf
          replace h:=bL h
          refine kG h33 h (aD (iA (aD (Wk.refl _) (aD cD bE))) bE) (fun _ h=>?_);conv=>whnf
          refine cLk h (fun _ h=>?_) (fun _ h=>?_)<;>(conv=>whnf)
          ·replace h:=bL h
           refine kG h33 h (aD (iA (aD (Wk.refl _) (aD iO bE))) bE) (fun _ h=>?_);conv=>whnf
           refine hK _ _ _ ?_
           refine tHn ?_
           refine ⟨_,h,?_⟩
           refine bN ?_;conv=>whnf
           exact And.intro rfl (And.intro (aLc (wkr (lsB _)) (aLc (WkR.ptr (fun _=>rfl)) (aLc (wkr (lsB _)) (aLc (wkr (lsB _)) (aLc (wkr (lsB _)) aLn))))) (aLc ⟨some _,rfl,bRc rfl (cKc wkI (cKc (wkr (cF fun _=>(aI _))) cKn))⟩ aLn))
          refine hK _ _ _ ?_
          refine tHn ?_
          refine ⟨_,h,?_⟩
          refine bN ?_;conv=>whnf
          exact And.intro rfl (And.intro (aLc (wkr (lsB _)) (aLc (WkR.ptr (fun _=>rfl)) (aLc (wkr (lsB _)) (aLc (wkr (lsB _)) (aLc (wkr (lsB _)) aLn))))) (aLc ⟨some _,rfl,bRc rfl (cKc wkI (cKc (wkr (cF fun _=>(aI _))) cKn))⟩ aLn))
         refine hK _ _ _ ?_
         refine tHn ?_
         refine ⟨_,h,?_⟩
         refine bN ?_;conv=>whnf
         exact And.intro rfl (And.intro (aLc (wkr (lsB _)) (aLc (WkR.ptr (fun _=>rfl)) (aLc (wkr (lsB _)) (aLc (wkr (lsB _)) (aLc (wkr (lsB _)) aLn))))) (aLc ⟨some _,rfl,bRc rfl (cKc wkI (cKc (wkr (cF fun _=>(aI _))) cKn))⟩ aLn))
        refine hK _ _ _ ?_
        refine tHn ?_
        refine ⟨_,h,?_⟩
        refine bN ?_;conv=>whnf
        exact And.intro rfl (And.intro (aLc (wkr (lsB _)) (aLc (WkR.ptr (fun _=>rfl)) (aLc (wkr (lsB _)) (aLc (wkr (lsB _)) (aLc (wkr (lsB _)) aLn))))) (aLc ⟨some _,rfl,bRc rfl (cKc wkI (cKc (wkr (cF fun _=>(aI _))) cKn))⟩ aLn))
       refine hK _ _ _ ?_
       refine tHn ?_
       refine ⟨_,h,?_⟩
       refine bN ?_;conv=>whnf
       exact And.intro rfl (And.intro (aLc (wkr (lsB _)) (aLc (WkR.ptr (fun _=>rfl)) (aLc (wkr (lsB _)) (aLc (wkr (lsB _)) (aLc (wkr (lsB _)) aLn))))) (aLc ⟨some _,rfl,bRc rfl (cKc wkI (cKc (wkr (cF fun _=>(aI _))) cKn))⟩ aLn))
      refine hK _ _ _ ?_
      refine tHn ?_
      refine ⟨_,h,?_⟩
      refine bN ?_;conv=>whnf
      exact And.intro rfl (And.intro (aLc (wkr (lsB _)) (aLc (WkR.ptr (fun _=>rfl)) (aLc (wkr (lsB _)) (aLc (wkr (lsB _)) (aLc (wkr (lsB _)) aLn))))) (aLc ⟨some _,rfl,bRc rfl (cKc wkI (cKc (wkr (cF fun _=>(aI _))) cKn))⟩ aLn))
     refine hK _ _ _ ?_
     refine tHn ?_
     refine ⟨_,h,?_⟩
     refine bN ?_;conv=>whnf
     exact And.intro rfl (And.intro (aLc (wkr (lsB _)) (aLc (WkR.ptr (fun _=>rfl)) (aLc (wkr (lsB _)) (aLc (wkr (lsB _)) (aLc (wkr (lsB _)) aLn))))) (aLc ⟨some _,rfl,bRc rfl (cKc wkI (cKc (wkr (cF fun _=>(aI _))) cKn))⟩ aLn))
    refine bY dCo rfl fun K hK=>?_;conv=>whnf
    refine dL (enc:=eI) (d:=default) dCo h rfl rfl rfl ⟨nle rfl,nle rfl,rfl⟩ rfl ⟨⟨rfl,rfl,rfl⟩,⟨⟨rfl,rfl,rfl⟩,⟨⟨rfl,rfl,rfl⟩,⟨⟨rfl,rfl,rfl⟩,⟨⟨rfl,rfl,rfl⟩,trivial⟩⟩⟩⟩⟩ (fun h=>?_);conv=>whnf
    replace h:=bL h
    refine dF h36 h (aD (Wk.refl _) (aD cD bE)) (fun _ h=>?_);conv=>whnf
    refine cLk h (fun _ h=>?_) (fun _ h=>?_)<;>(conv=>whnf)
    ·refine dL (enc:=eI) (d:=default) dCo h rfl rfl rfl ⟨nle rfl,nle rfl,rfl⟩ rfl ⟨⟨rfl,rfl,rfl⟩,⟨⟨rfl,rfl,rfl⟩,⟨⟨rfl,rfl,rfl⟩,trivial⟩⟩⟩ (fun h=>?_);conv=>whnf
     replace h:=bL h
     refine dF h36 h (aD (Wk.refl _) (aD cD bE)) (fun _ h=>?_);conv=>whnf
     refine cLk h (fun _ h=>?_) (fun _ h=>?_)<;>(conv=>whnf)
     ·refine dL (enc:=eI) (d:=default) dCo h rfl rfl rfl ⟨nle rfl,nle rfl,rfl⟩ rfl ⟨⟨rfl,rfl,rfl⟩,⟨⟨rfl,rfl,rfl⟩,trivial⟩⟩ (fun h=>?_);conv=>whnf
      replace h:=bL h
      refine dF h36 h (aD (Wk.refl _) (aD cD bE)) (fun _ h=>?_);conv=>whnf
      refine cLk h (fun _ h=>?_) (fun _ h=>?_)<;>(conv=>whnf)
      ·refine hK _ _ _ ?_
       refine tHn ?_
       refine ⟨_,h,?_⟩
       refine bN ?_;conv=>whnf
       exact And.intro rfl (And.intro (aLc (wkr (lsB _)) (aLc (WkR.ptr (fun _=>rfl)) (aLc (WkR.ptr (fun _=>rfl)) (aLc (wkr (lsL fun _=>(lsI _ _))) (aLc (wkr (lsB _)) (aLc (wkr (lsB _)) (aLc (wkr (lsB _)) (aLc (wkr (lsB _)) aLn)))))))) (aLc ⟨some _,rfl,bRc rfl (cKc wkI (cKc (wkr (cF fun _=>(aI _))) cKn))⟩ (aLc ⟨some _,rfl,bRc rfl (cKc wkI (cKc (WkR.tok (fun _=>rfl) rfl (fun _ _=>Wk.refl _) (fun _=>(aI _))) cKn))⟩ (aLc ⟨some _,rfl,bRc rfl cKn⟩ aLn))))
      refine hK _ _ _ ?_
      refine tHn ?_
      refine ⟨_,h,?_⟩
      refine bN ?_;conv=>whnf
      exact And.intro rfl (And.intro (aLc (wkr (lsB _)) (aLc (WkR.ptr (fun _=>rfl)) (aLc (WkR.ptr (fun _=>rfl)) (aLc (wkr (lsL fun _=>(lsI _ _))) (aLc (wkr (lsB _)) (aLc (wkr (lsB _)) (aLc (wkr (lsB _)) (aLc (wkr (lsB _)) aLn)))))))) (aLc ⟨some _,rfl,bRc rfl (cKc wkI (cKc (wkr (cF fun _=>(aI _))) cKn))⟩ (aLc ⟨some _,rfl,bRc rfl (cKc wkI (cKc (WkR.tok (fun _=>rfl) rfl (fun _ _=>Wk.refl _) (fun _=>(aI _))) cKn))⟩ (aLc ⟨some _,rfl,bRc rfl cKn⟩ aLn))))
     refine hK _ _ _ ?_
     refine tHn ?_
     refine ⟨_,h,?_⟩
     refine bN ?_;conv=>whnf
     exact And.intro rfl (And.intro (aLc (wkr (lsB _)) (aLc (WkR.ptr (fun _=>rfl)) (aLc (WkR.ptr (fun _=>rfl)) (aLc (wkr (lsL fun _=>(lsI _ _))) (aLc (wkr (lsB _)) (aLc (wkr (lsB _)) (aLc (wkr (lsB _)) (aLc (wkr (lsB _)) aLn)))))))) (aLc ⟨some _,rfl,bRc rfl (cKc wkI (cKc (wkr (cF fun _=>(aI _))) cKn))⟩ (aLc ⟨some _,rfl,bRc rfl (cKc wkI (cKc (WkR.tok (fun _=>rfl) rfl (fun _ _=>Wk.refl _) (fun _=>(aI _))) cKn))⟩ (aLc ⟨some _,rfl,bRc rfl cKn⟩ aLn))))
    refine hK _ _ _ ?_
    refine tHn ?_
    refine ⟨_,h,?_⟩
    refine bN ?_;conv=>whnf
    exact And.intro rfl (And.intro (aLc (wkr (lsB _)) (aLc (WkR.ptr (fun _=>rfl)) (aLc (WkR.ptr (fun _=>rfl)) (aLc (wkr (lsL fun _=>(lsI _ _))) (aLc (wkr (lsB _)) (aLc (wkr (lsB _)) (aLc (wkr (lsB _)) (aLc (wkr (lsB _)) aLn)))))))) (aLc ⟨some _,rfl,bRc rfl (cKc wkI (cKc (wkr (cF fun _=>(aI _))) cKn))⟩ (aLc ⟨some _,rfl,bRc rfl (cKc wkI (cKc (WkR.tok (fun _=>rfl) rfl (fun _ _=>Wk.refl _) (fun _=>(aI _))) cKn))⟩ (aLc ⟨some _,rfl,bRc rfl cKn⟩ aLn))))
   refine bY dCo rfl fun K hK=>?_;conv=>whnf
   refine dL (enc:=eI) (d:=default) dCo h rfl rfl rfl ⟨nle rfl,nle rfl,rfl⟩ rfl ⟨⟨rfl,rfl,rfl⟩,⟨⟨rfl,rfl,rfl⟩,⟨⟨rfl,rfl,rfl⟩,⟨⟨rfl,rfl,rfl⟩,⟨⟨rfl,rfl,rfl⟩,⟨⟨rfl,rfl,rfl⟩,⟨⟨rfl,rfl,rfl⟩,⟨⟨rfl,rfl,rfl⟩,⟨⟨rfl,rfl,rfl⟩,⟨⟨rfl,rfl,rfl⟩,trivial⟩⟩⟩⟩⟩⟩⟩⟩⟩⟩ (fun h=>?_);conv=>whnf
   replace h:=bL h
   refine dF h36 h (aD (Wk.refl _) (aD cD bE)) (fun _ h=>?_);conv=>whnf
   refine cLk h (fun _ h=>?_) (fun _ h=>?_)<;>(conv=>whnf)
   ·refine dL (enc:=eI) (d:=default) dCo h rfl rfl rfl ⟨nle rfl,nle rfl,rfl⟩ rfl ⟨⟨rfl,rfl,rfl⟩,⟨⟨rfl,rfl,rfl⟩,⟨⟨rfl,rfl,rfl⟩,⟨⟨rfl,rfl,rfl⟩,⟨⟨rfl,rfl,rfl⟩,trivial⟩⟩⟩⟩⟩ (fun h=>?_);conv=>whnf
    replace h:=bL h
    refine dF h36 h (aD (Wk.refl _) (aD cD bE)) (fun _ h=>?_);conv=>whnf
    refine cLk h (fun _ h=>?_) (fun _ h=>?_)<;>(conv=>whnf)
    ·refine cLk h (fun _ h=>?_) (fun _ h=>?_)<;>(conv=>whnf)
     ·refine nlA rfl ?_;conv=>whnf
      refine bKo rfl ?_;conv=>whnf
      refine nlA rfl ?_;conv=>whnf
      refine dL (enc:=eI) (d:=default) dCo h rfl rfl rfl ⟨nle rfl,nle rfl,rfl⟩ rfl ⟨⟨rfl,rfl,rfl⟩,⟨⟨rfl,rfl,rfl⟩,⟨⟨rfl,rfl,rfl⟩,⟨⟨rfl,rfl,rfl⟩,⟨⟨rfl,rfl,rfl⟩,trivial⟩⟩⟩⟩⟩ (fun h=>?_);conv=>whnf
      replace h:=bL h
      refine qK h22 h (aD (iA (aD (Wk.refl _) (aD cD bE))) (aD cD bE)) (fun _ h=>?_);conv=>whnf
      refine cLk h (fun _ h=>?_) (fun _ h=>?_)<;>(conv=>whnf)
      ·refine nlA rfl ?_;conv=>whnf
       refine bKo rfl ?_;conv=>whnf
       refine nlA rfl ?_;conv=>whnf
       refine dL (enc:=eI) (d:=default) dCo h rfl rfl rfl ⟨nle rfl,nle rfl,rfl⟩ rfl ⟨⟨rfl,rfl,rfl⟩,⟨⟨rfl,rfl,rfl⟩,⟨⟨rfl,rfl,rfl⟩,⟨⟨rfl,rfl,rfl⟩,⟨⟨rfl,rfl,rfl⟩,trivial⟩⟩⟩⟩⟩ (fun h=>?_);conv=>whnf
       replace h:=bL h
       refine qK h22 h (aD (iA (aD (Wk.refl _) (aD cD bE))) (aD cD bE)) (fun _ h=>?_);conv=>whnf
       refine hK _ _ _ ?_
       refine tHn ?_
       refine ⟨_,h,?_⟩
       refine bN ?_;conv=>whnf
       exact And.intro rfl (And.intro (aLc (wkr (lsB _)) (aLc (WkR.ptr (fun _=>rfl)) (aLc (WkR.ptr (fun _=>rfl)) (aLc (wkr (lsL fun _=>(lsI _ _))) (aLc (wkr (lsL fun _=>(lsI _ _))) (aLc (wkr (lsL fun _=>(lsI _ _))) (aLc (wkr (lsL fun _=>(lsL fun _=>(lsI _ _)))) (aLc (wkr (lsL fun _=>(lsI _ _))) (aLc (wkr (lsB _)) (aLc (wkr (lsB _)) (aLc (wkr (lsB _)) aLn))))))))))) (aLc ⟨some _,rfl,bRc rfl (cKc wkI (cKc (wkr (cF fun _=>(aI _))) cKn))⟩ (aLc ⟨some _,rfl,bRc rfl (cKc wkI (cKc (WkR.tok (fun _=>rfl) rfl (fun _ _=>Wk.refl _) (fun _=>(aI _))) cKn))⟩ (aLc ⟨some _,rfl,bRc rfl cKn⟩ aLn))))
      refine hK _ _ _ ?_
      refine tHn ?_
      refine ⟨_,h,?_⟩
      refine bN ?_;conv=>whnf
      exact And.intro rfl (And.intro (aLc (wkr (lsB _)) (aLc (WkR.ptr (fun _=>rfl)) (aLc (WkR.ptr (fun _=>rfl)) (aLc (wkr (lsL fun _=>(lsI _ _))) (aLc (wkr (lsL fun _=>(lsI _ _))) (aLc (wkr (lsL fun _=>(lsI _ _))) (aLc (wkr (lsL fun _=>(lsL fun _=>(lsI _ _)))) (aLc (wkr (lsL fun _=>(lsI _ _))) (aLc (wkr (lsB _)) (aLc (wkr (lsB _)) (aLc (wkr (lsB _)) aLn))))))))))) (aLc ⟨some _,rfl,bRc rfl (cKc wkI (cKc (wkr (cF fun _=>(aI _))) cKn))⟩ (aLc ⟨some _,rfl,bRc rfl (cKc wkI (cKc (WkR.tok (fun _=>rfl) rfl (fun _ _=>Wk.refl _) (fun _=>(aI _))) cKn))⟩ (aLc ⟨some _,rfl,bRc rfl cKn⟩ aLn))))
     refine hK _ _ _ ?_
     refine tHn ?_
     refine ⟨_,h,?_⟩
     refine bN ?_;conv=>whnf
     exact And.intro rfl (And.intro (aLc (wkr (lsB _)) (aLc (WkR.ptr (fun _=>rfl)) (aLc (WkR.ptr (fun _=>rfl)) (aLc (wkr (lsL fun _=>(lsI _ _))) (aLc (wkr (lsL fun _=>(lsI _ _))) (aLc (wkr (lsL fun _=>(lsI _ _))) (aLc (wkr (lsL fun _=>(lsL fun _=>(lsI _ _)))) (aLc (wkr (lsL fun _=>(lsI _ _))) (aLc (wkr (lsB _)) (aLc (wkr (lsB _)) (aLc (wkr (lsB _)) aLn))))))))))) (aLc ⟨some _,rfl,bRc rfl (cKc wkI (cKc (wkr (cF fun _=>(aI _))) cKn))⟩ (aLc ⟨some _,rfl,bRc rfl (cKc wkI (cKc (WkR.tok (fun _=>rfl) rfl (fun _ _=>Wk.refl _) (fun _=>(aI _))) cKn))⟩ (aLc ⟨some _,rfl,bRc rfl cKn⟩ aLn))))
    refine hK _ _ _ ?_
    refine tHn ?_
    refine ⟨_,h,?_⟩
    refine bN ?_;conv=>whnf
    exact And.intro rfl (And.intro (aLc (wkr (lsB _)) (aLc (WkR.ptr (fun _=>rfl)) (aLc (WkR.ptr (fun _=>rfl)) (aLc (wkr (lsL fun _=>(lsI _ _))) (aLc (wkr (lsL fun _=>(lsI _ _))) (aLc (wkr (lsL fun _=>(lsI _ _))) (aLc (wkr (lsL fun _=>(lsL fun _=>(lsI _ _)))) (aLc (wkr (lsL fun _=>(lsI _ _))) (aLc (wkr (lsB _)) (aLc (wkr (lsB _)) (aLc (wkr (lsB _)) aLn))))))))))) (aLc ⟨some _,rfl,bRc rfl (cKc wkI (cKc (wkr (cF fun _=>(aI _))) cKn))⟩ (aLc ⟨some _,rfl,bRc rfl (cKc wkI (cKc (WkR.tok (fun _=>rfl) rfl (fun _ _=>Wk.refl _) (fun _=>(aI _))) cKn))⟩ (aLc ⟨some _,rfl,bRc rfl cKn⟩ aLn))))
   refine hK _ _ _ ?_
   refine tHn ?_
   refine ⟨_,h,?_⟩
   refine bN ?_;conv=>whnf
   exact And.intro rfl (And.intro (aLc (wkr (lsB _)) (aLc (WkR.ptr (fun _=>rfl)) (aLc (WkR.ptr (fun _=>rfl)) (aLc (wkr (lsL fun _=>(lsI _ _))) (aLc (wkr (lsL fun _=>(lsI _ _))) (aLc (wkr (lsL fun _=>(lsI _ _))) (aLc (wkr (lsL fun _=>(lsL fun _=>(lsI _ _)))) (aLc (wkr (lsL fun _=>(lsI _ _))) (aLc (wkr (lsB _)) (aLc (wkr (lsB _)) (aLc (wkr (lsB _)) aLn))))))))))) (aLc ⟨some _,rfl,bRc rfl (cKc wkI (cKc (wkr (cF fun _=>(aI _))) cKn))⟩ (aLc ⟨some _,rfl,bRc rfl (cKc wkI (cKc (WkR.tok (fun _=>rfl) rfl (fun _ _=>Wk.refl _) (fun _=>(aI _))) cKn))⟩ (aLc ⟨some _,rfl,bRc rfl cKn⟩ aLn))))
  refine bY dCo rfl fun K hK=>?_;conv=>whnf
  refine nlA rfl ?_;conv=>whnf
  refine bKo rfl ?_;conv=>whnf
  refine nlA rfl ?_;conv=>whnf
  refine dL (enc:=kT) (d:=default) dCo h rfl rfl rfl ⟨nle rfl,nle rfl,rfl⟩ rfl ⟨⟨rfl,nle rfl⟩,⟨⟨rfl,nle rfl⟩,⟨⟨rfl,nle rfl⟩,⟨⟨rfl,nle rfl⟩,⟨⟨rfl,nle rfl⟩,⟨⟨rfl,nle rfl⟩,trivial⟩⟩⟩⟩⟩⟩ (fun h=>?_);conv=>whnf
  replace h:=bL h
  refine pR h26 h (aD (Wk.refl _) (aD (iA (aD (Wk.refl _) (aD cD bE))) bE)) (fun _ h=>?_);conv=>whnf
  refine cLk h (fun _ h=>?_) (fun _ h=>?_)<;>(conv=>whnf)
  ·refine nlA rfl ?_;conv=>whnf
   refine bKo rfl ?_;conv=>whnf
   refine nlA rfl ?_;conv=>whnf
   refine dL (enc:=kT) (d:=default) dCo h rfl rfl rfl ⟨nle rfl,nle rfl,rfl⟩ rfl ⟨⟨rfl,nle rfl⟩,⟨⟨rfl,nle rfl⟩,⟨⟨rfl,nle rfl⟩,⟨⟨rfl,nle rfl⟩,trivial⟩⟩⟩⟩ (fun h=>?_);conv=>whnf
   replace h:=bL h
   refine pR h26 h (aD (Wk.refl _) (aD (iA (aD (Wk.refl _) (aD cD bE))) bE)) (fun _ h=>?_);conv=>whnf
   refine hK _ _ _ ?_
   refine tHn ?_
   refine ⟨_,h,?_⟩
   refine bN ?_;conv=>whnf
   exact And.intro rfl (And.intro (aLc (wkr (lsB _)) (aLc (WkR.ptr (fun _=>rfl)) (aLc (WkR.ptr (fun _=>rfl)) (aLc (wkr (lsL fun _=>(lsI _ _))) (aLc (wkr (lsL fun _=>(lsI _ _))) (aLc wkI (aLc (wkr (lsL fun _=>(lsI _ _))) (aLc (wkr (lsL fun _=>(lsI _ _))) (aLc (wkr (lsL fun _=>(lsI _ _))) (aLc (wkr (lsL fun _=>(lsL fun _=>(lsI _ _)))) (aLc (wkr (lsL fun _=>(lsI _ _))) (aLc (wkr (lsB _)) (aLc (wkr (lsB _)) aLn))))))))))))) (aLc ⟨some _,rfl,bRc rfl (cKc wkI (cKc (wkr (cF fun _=>(aI _))) cKn))⟩ (aLc ⟨some _,rfl,bRc rfl (cKc wkI (cKc (WkR.tok (fun _=>rfl) rfl (fun _ _=>Wk.refl _) (fun _=>(aI _))) cKn))⟩ (aLc ⟨some _,rfl,bRc rfl cKn⟩ aLn))))
  refine hK _ _ _ ?_
  refine tHn ?_
  refine ⟨_,h,?_⟩
  refine bN ?_;conv=>whnf
  exact And.intro rfl (And.intro (aLc (wkr (lsB _)) (aLc (WkR.ptr (fun _=>rfl)) (aLc (WkR.ptr (fun _=>rfl)) (aLc (wkr (lsL fun _=>(lsI _ _))) (aLc (wkr (lsL fun _=>(lsI _ _))) (aLc wkI (aLc (wkr (lsL fun _=>(lsI _ _))) (aLc (wkr (lsL fun _=>(lsI _ _))) (aLc (wkr (lsL fun _=>(lsI _ _))) (aLc (wkr (lsL fun _=>(lsL fun _=>(lsI _ _)))) (aLc (wkr (lsL fun _=>(lsI _ _))) (aLc (wkr (lsB _)) (aLc (wkr (lsB _)) aLn))))))))))))) (aLc ⟨some _,rfl,bRc rfl (cKc wkI (cKc (wkr (cF fun _=>(aI _))) cKn))⟩ (aLc ⟨some _,rfl,bRc rfl (cKc wkI (cKc (WkR.tok (fun _=>rfl) rfl (fun _ _=>Wk.refl _) (fun _=>(aI _))) cKn))⟩ (aLc ⟨some _,rfl,bRc rfl cKn⟩ aLn))))
 refine bY dCo rfl fun K hK=>?_;conv=>whnf
 refine cLk h (fun _ h=>?_) (fun _ h=>?_)<;>(conv=>whnf)
 ·refine hK _ _ _ ?_
  refine tHn ?_
  refine ⟨_,h,?_⟩
  refine bN ?_;conv=>whnf
  exact And.intro rfl (And.intro (aLc (wkr (lsB _)) (aLc (WkR.ptr (fun _=>rfl)) (aLc (WkR.ptr (fun _=>rfl)) (aLc (WkR.ptr (fun _=>rfl)) (aLc (WkR.ptr (fun _=>rfl)) (aLc (wkr (lsL fun _=>(lsI _ _))) (aLc (wkr (lsL fun _=>(lsI _ _))) (aLc wkI (aLc (wkr (lsL fun _=>(lsI _ _))) (aLc (wkr (lsL fun _=>(lsI _ _))) (aLc (wkr (lsL fun _=>(lsI _ _))) (aLc (wkr (lsL fun _=>(lsL fun _=>(lsI _ _)))) (aLc (wkr (lsL fun _=>(lsI _ _))) (aLc (wkr (lsB _)) (aLc (wkr (lsB _)) aLn))))))))))))))) (aLc ⟨some _,rfl,bRc rfl (cKc wkI (cKc (wkr (cF fun _=>(aI _))) cKn))⟩ (aLc ⟨some _,rfl,bRc rfl (cKc wkI (cKc (WkR.tok (fun _=>rfl) rfl (fun _ _=>Wk.refl _) (fun _=>(aI _))) cKn))⟩ (aLc ⟨some _,rfl,bRc rfl (cKc wkI (cKc (wkr (lsL fun _=>(aI _))) cKn))⟩ (aLc ⟨some _,rfl,bRc rfl (cKc wkI (cKc (wkr (lsL fun _=>(aI _))) cKn))⟩ (aLc ⟨some _,rfl,bRc rfl cKn⟩ aLn))))))
 refine cLk h (fun _ h=>?_) (fun _ h=>?_)<;>(conv=>whnf)
 ·refine hK _ _ _ ?_
  refine tHn ?_
  refine ⟨_,h,?_⟩
  refine bN ?_;conv=>whnf
  exact And.intro rfl (And.intro (aLc (wkr (lsB _)) (aLc (WkR.ptr (fun _=>rfl)) (aLc (WkR.ptr (fun _=>rfl)) (aLc (WkR.ptr (fun _=>rfl)) (aLc (WkR.ptr (fun _=>rfl)) (aLc (wkr (lsL fun _=>(lsI _ _))) (aLc (wkr (lsL fun _=>(lsI _ _))) (aLc wkI (aLc (wkr (lsL fun _=>(lsI _ _))) (aLc (wkr (lsL fun _=>(lsI _ _))) (aLc (wkr (lsL fun _=>(lsI _ _))) (aLc (wkr (lsL fun _=>(lsL fun _=>(lsI _ _)))) (aLc (wkr (lsL fun _=>(lsI _ _))) (aLc (wkr (lsB _)) (aLc (wkr (lsB _)) aLn))))))))))))))) (aLc ⟨some _,rfl,bRc rfl (cKc wkI (cKc (wkr (cF fun _=>(aI _))) cKn))⟩ (aLc ⟨some _,rfl,bRc rfl (cKc wkI (cKc (WkR.tok (fun _=>rfl) rfl (fun _ _=>Wk.refl _) (fun _=>(aI _))) cKn))⟩ (aLc ⟨some _,rfl,bRc rfl (cKc wkI (cKc (wkr (lsL fun _=>(aI _))) cKn))⟩ (aLc ⟨some _,rfl,bRc rfl (cKc wkI (cKc (wkr (lsL fun _=>(aI _))) cKn))⟩ (aLc ⟨some _,rfl,bRc rfl cKn⟩ aLn))))))
 refine cLk h (fun _ h=>?_) (fun _ h=>?_)<;>(conv=>whnf)
 ·refine hK _ _ _ ?_
  refine tHn ?_
  refine ⟨_,h,?_⟩
  refine bN ?_;conv=>whnf
  exact And.intro rfl (And.intro (aLc (wkr (lsB _)) (aLc (WkR.ptr (fun _=>rfl)) (aLc (WkR.ptr (fun _=>rfl)) (aLc (WkR.ptr (fun _=>rfl)) (aLc (WkR.ptr (fun _=>rfl)) (aLc (wkr (lsL fun _=>(lsI _ _))) (aLc (wkr (lsL fun _=>(lsI _ _))) (aLc wkI (aLc (wkr (lsL fun _=>(lsI _ _))) (aLc (wkr (lsL fun _=>(lsI _ _))) (aLc (wkr (lsL fun _=>(lsI _ _))) (aLc (wkr (lsL fun _=>(lsL fun _=>(lsI _ _)))) (aLc (wkr (lsL fun _=>(lsI _ _))) (aLc (wkr (lsB _)) (aLc (wkr (lsB _)) aLn))))))))))))))) (aLc ⟨some _,rfl,bRc rfl (cKc wkI (cKc (wkr (cF fun _=>(aI _))) cKn))⟩ (aLc ⟨some _,rfl,bRc rfl (cKc wkI (cKc (WkR.tok (fun _=>rfl) rfl (fun _ _=>Wk.refl _) (fun _=>(aI _))) cKn))⟩ (aLc ⟨some _,rfl,bRc rfl (cKc wkI (cKc (wkr (lsL fun _=>(aI _))) cKn))⟩ (aLc ⟨some _,rfl,bRc rfl (cKc wkI (cKc (wkr (lsL fun _=>(aI _))) cKn))⟩ (aLc ⟨some _,rfl,bRc rfl cKn⟩ aLn))))))
 refine cLk h (fun _ h=>?_) (fun _ h=>?_)<;>(conv=>whnf)
 ·refine hK _ _ _ ?_
  refine tHn ?_
  refine ⟨_,h,?_⟩
  refine bN ?_;conv=>whnf
  exact And.intro rfl (And.intro (aLc (wkr (lsB _)) (aLc (WkR.ptr (fun _=>rfl)) (aLc (WkR.ptr (fun _=>rfl)) (aLc (WkR.ptr (fun _=>rfl)) (aLc (WkR.ptr (fun _=>rfl)) (aLc (wkr (lsL fun _=>(lsI _ _))) (aLc (wkr (lsL fun _=>(lsI _ _))) (aLc wkI (aLc (wkr (lsL fun _=>(lsI _ _))) (aLc (wkr (lsL fun _=>(lsI _ _))) (aLc (wkr (lsL fun _=>(lsI _ _))) (aLc (wkr (lsL fun _=>(lsL fun _=>(lsI _ _)))) (aLc (wkr (lsL fun _=>(lsI _ _))) (aLc (wkr (lsB _)) (aLc (wkr (lsB _)) aLn))))))))))))))) (aLc ⟨some _,rfl,bRc rfl (cKc wkI (cKc (wkr (cF fun _=>(aI _))) cKn))⟩ (aLc ⟨some _,rfl,bRc rfl (cKc wkI (cKc (WkR.tok (fun _=>rfl) rfl (fun _ _=>Wk.refl _) (fun _=>(aI _))) cKn))⟩ (aLc ⟨some _,rfl,bRc rfl (cKc wkI (cKc (wkr (lsL fun _=>(aI _))) cKn))⟩ (aLc ⟨some _,rfl,bRc rfl (cKc wkI (cKc (wkr (lsL fun _=>(aI _))) cKn))⟩ (aLc ⟨some _,rfl,bRc rfl cKn⟩ aLn))))))
 refine cLk h (fun _ h=>?_) (fun _ h=>?_)<;>(conv=>whnf)
 ·refine hK _ _ _ ?_
  refine tHn ?_
  refine ⟨_,h,?_⟩
  refine bN ?_;conv=>whnf
  exact And.intro rfl (And.intro (aLc (wkr (lsB _)) (aLc (WkR.ptr (fun _=>rfl)) (aLc (WkR.ptr (fun _=>rfl)) (aLc (WkR.ptr (fun _=>rfl)) (aLc (WkR.ptr (fun _=>rfl)) (aLc (wkr (lsL fun _=>(lsI _ _))) (aLc (wkr (lsL fun _=>(lsI _ _))) (aLc wkI (aLc (wkr (lsL fun _=>(lsI _ _))) (aLc (wkr (lsL fun _=>(lsI _ _))) (aLc (wkr (lsL fun _=>(lsI _ _))) (aLc (wkr (lsL fun _=>(lsL fun _=>(lsI _ _)))) (aLc (wkr (lsL fun _=>(lsI _ _))) (aLc (wkr (lsB _)) (aLc (wkr (lsB _)) aLn))))))))))))))) (aLc ⟨some _,rfl,bRc rfl (cKc wkI (cKc (wkr (cF fun _=>(aI _))) cKn))⟩ (aLc ⟨some _,rfl,bRc rfl (cKc wkI (cKc (WkR.tok (fun _=>rfl) rfl (fun _ _=>Wk.refl _) (fun _=>(aI _))) cKn))⟩ (aLc ⟨some _,rfl,bRc rfl (cKc wkI (cKc (wkr (lsL fun _=>(aI _))) cKn))⟩ (aLc ⟨some _,rfl,bRc rfl (cKc wkI (cKc (wkr (lsL fun _=>(aI _))) cKn))⟩ (aLc ⟨some _,rfl,bRc rfl cKn⟩ aLn))))))
 refine cLk h (fun _ h=>?_) (fun _ h=>?_)<;>(conv=>whnf)
 ·refine hK _ _ _ ?_
  refine tHn ?_
  refine ⟨_,h,?_⟩
  refine bN ?_;conv=>whnf
  exact And.intro rfl (And.intro (aLc (wkr (lsB _)) (aLc (WkR.ptr (fun _=>rfl)) (aLc (WkR.ptr (fun _=>rfl)) (aLc (WkR.ptr (fun _=>rfl)) (aLc (WkR.ptr (fun _=>rfl)) (aLc (wkr (lsL fun _=>(lsI _ _))) (aLc (wkr (lsL fun _=>(lsI _ _))) (aLc wkI (aLc (wkr (lsL fun _=>(lsI _ _))) (aLc (wkr (lsL fun _=>(lsI _ _))) (aLc (wkr (lsL fun _=>(lsI _ _))) (aLc (wkr (lsL fun _=>(lsL fun _=>(lsI _ _)))) (aLc (wkr (lsL fun _=>(lsI _ _))) (aLc (wkr (lsB _)) (aLc (wkr (lsB _)) aLn))))))))))))))) (aLc ⟨some _,rfl,bRc rfl (cKc wkI (cKc (wkr (cF fun _=>(aI _))) cKn))⟩ (aLc ⟨some _,rfl,bRc rfl (cKc wkI (cKc (WkR.tok (fun _=>rfl) rfl (fun _ _=>Wk.refl _) (fun _=>(aI _))) cKn))⟩ (aLc ⟨some _,rfl,bRc rfl (cKc wkI (cKc (wkr (lsL fun _=>(aI _))) cKn))⟩ (aLc ⟨some _,rfl,bRc rfl (cKc wkI (cKc (wkr (lsL fun _=>(aI _))) cKn))⟩ (aLc ⟨some _,rfl,bRc rfl cKn⟩ aLn))))))
 refine cLk h (fun _ h=>?_) (fun _ h=>?_)<;>(conv=>whnf)
 ·refine hK _ _ _ ?_
  refine tHn ?_
  refine ⟨_,h,?_⟩
  refine bN ?_;conv=>whnf
  exact And.intro rfl (And.intro (aLc (wkr (lsB _)) (aLc (WkR.ptr (fun _=>rfl)) (aLc (WkR.ptr (fun _=>rfl)) (aLc (WkR.ptr (fun _=>rfl)) (aLc (WkR.ptr (fun _=>rfl)) (aLc (wkr (lsL fun _=>(lsI _ _))) (aLc (wkr (lsL fun _=>(lsI _ _))) (aLc wkI (aLc (wkr (lsL fun _=>(lsI _ _))) (aLc (wkr (lsL fun _=>(lsI _ _))) (aLc (wkr (lsL fun _=>(lsI _ _))) (aLc (wkr (lsL fun _=>(lsL fun _=>(lsI _ _)))) (aLc (wkr (lsL fun _=>(lsI _ _))) (aLc (wkr (lsB _)) (aLc (wkr (lsB _)) aLn))))))))))))))) (aLc ⟨some _,rfl,bRc rfl (cKc wkI (cKc (wkr (cF fun _=>(aI _))) cKn))⟩ (aLc ⟨some _,rfl,bRc rfl (cKc wkI (cKc (WkR.tok (fun _=>rfl) rfl (fun _ _=>Wk.refl _) (fun _=>(aI _))) cKn))⟩ (aLc ⟨some _,rfl,bRc rfl (cKc wkI (cKc (wkr (lsL fun _=>(aI _))) cKn))⟩ (aLc ⟨some _,rfl,bRc rfl (cKc wkI (cKc (wkr (lsL fun _=>(aI _))) cKn))⟩ (aLc ⟨some _,rfl,bRc rfl cKn⟩ aLn))))))
 refine cLk h (fun _ h=>?_) (fun _ h=>?_)<;>(conv=>whnf)
 ·refine hK _ _ _ ?_
  refine tHn ?_
  refine ⟨_,h,?_⟩
  refine bN ?_;conv=>whnf
  exact And.intro rfl (And.intro (aLc (wkr (lsB _)) (aLc (WkR.ptr (fun _=>rfl)) (aLc (WkR.ptr (fun _=>rfl)) (aLc (WkR.ptr (fun _=>rfl)) (aLc (WkR.ptr (fun _=>rfl)) (aLc (wkr (lsL fun _=>(lsI _ _))) (aLc (wkr (lsL fun _=>(lsI _ _))) (aLc wkI (aLc (wkr (lsL fun _=>(lsI _ _))) (aLc (wkr (lsL fun _=>(lsI _ _))) (aLc (wkr (lsL fun _=>(lsI _ _))) (aLc (wkr (lsL fun _=>(lsL fun _=>(lsI _ _)))) (aLc (wkr (lsL fun _=>(lsI _ _))) (aLc (wkr (lsB _)) (aLc (wkr (lsB _)) aLn))))))))))))))) (aLc ⟨some _,rfl,bRc rfl (cKc wkI (cKc (wkr (cF fun _=>(aI _))) cKn))⟩ (aLc ⟨some _,rfl,bRc rfl (cKc wkI (cKc (WkR.tok (fun _=>rfl) rfl (fun _ _=>Wk.refl _) (fun _=>(aI _))) cKn))⟩ (aLc ⟨some _,rfl,bRc rfl (cKc wkI (cKc (wkr (lsL fun _=>(aI _))) cKn))⟩ (aLc ⟨some _,rfl,bRc rfl (cKc wkI (cKc (wkr (lsL fun _=>(aI _))) cKn))⟩ (aLc ⟨some _,rfl,bRc rfl cKn⟩ aLn))))))
 refine cLk h (fun _ h=>?_) (fun _ h=>?_)<;>(conv=>whnf)
 ·refine hK _ _ _ ?_
  refine tHn ?_
  refine ⟨_,h,?_⟩
  refine bN ?_;conv=>whnf
  exact And.intro rfl (And.intro (aLc (wkr (lsB _)) (aLc (WkR.ptr (fun _=>rfl)) (aLc (WkR.ptr (fun _=>rfl)) (aLc (WkR.ptr (fun _=>rfl)) (aLc (WkR.ptr (fun _=>rfl)) (aLc (wkr (lsL fun _=>(lsI _ _))) (aLc (wkr (lsL fun _=>(lsI _ _))) (aLc wkI (aLc (wkr (lsL fun _=>(lsI _ _))) (aLc (wkr (lsL fun _=>(lsI _ _))) (aLc (wkr (lsL fun _=>(lsI _ _))) (aLc (wkr (lsL fun _=>(lsL fun _=>(lsI _ _)))) (aLc (wkr (lsL fun _=>(lsI _ _))) (aLc (wkr (lsB _)) (aLc (wkr (lsB _)) aLn))))))))))))))) (aLc ⟨some _,rfl,bRc rfl (cKc wkI (cKc (wkr (cF fun _=>(aI _))) cKn))⟩ (aLc ⟨some _,rfl,bRc rfl (cKc wkI (cKc (WkR.tok (fun _=>rfl) rfl (fun _ _=>Wk.refl _) (fun _=>(aI _))) cKn))⟩ (aLc ⟨some _,rfl,bRc rfl (cKc wkI (cKc (wkr (lsL fun _=>(aI _))) cKn))⟩ (aLc ⟨some _,rfl,bRc rfl (cKc wkI (cKc (wkr (lsL fun _=>(aI _))) cKn))⟩ (aLc ⟨some _,rfl,bRc rfl cKn⟩ aLn))))))
 refine hK _ _ _ ?_
 refine tHn ?_
 refine ⟨_,h,?_⟩
 refine bN ?_;conv=>whnf
 exact And.intro rfl (And.intro (aLc (wkr (lsB _)) (aLc (WkR.ptr (fun _=>rfl)) (aLc (WkR.ptr (fun _=>rfl)) (aLc (WkR.ptr (fun _=>rfl)) (aLc (WkR.ptr (fun _=>rfl)) (aLc (wkr (lsL fun _=>(lsI _ _))) (aLc (wkr (lsL fun _=>(lsI _ _))) (aLc wkI (aLc (wkr (lsL fun _=>(lsI _ _))) (aLc (wkr (lsL fun _=>(lsI _ _))) (aLc (wkr (lsL fun _=>(lsI _ _))) (aLc (wkr (lsL fun _=>(lsL fun _=>(lsI _ _)))) (aLc (wkr (lsL fun _=>(lsI _ _))) (aLc (wkr (lsB _)) (aLc (wkr (lsB _)) aLn))))))))))))))) (aLc ⟨some _,rfl,bRc rfl (cKc wkI (cKc (wkr (cF fun _=>(aI _))) cKn))⟩ (aLc ⟨some _,rfl,bRc rfl (cKc wkI (cKc (WkR.tok (fun _=>rfl) rfl (fun _ _=>Wk.refl _) (fun _=>(aI _))) cKn))⟩ (aLc ⟨some _,rfl,bRc rfl (cKc wkI (cKc (wkr (lsL fun _=>(aI _))) cKn))⟩ (aLc ⟨some _,rfl,bRc rfl (cKc wkI (cKc (wkr (lsL fun _=>(aI _))) cKn))⟩ (aLc ⟨some _,rfl,bRc rfl cKn⟩ aLn))))))
theorem aBa {T:Tbl} (hT:T 11=aH qV) {args:List AV} {hp:bH} {id:Nat} {k:AV→Prop} {Φ:Bool→Prop} (h:W (qS ) Φ) (hw:WkL args []) (hk:∀ y,Φ y→k (eB y)):cH T 11 args hp id k:=by
 obtain ⟨y,e,hy⟩:=dY h
 exact aV hT ⟨rfl,lR e rfl⟩ (by exact (lsB _)) hw (hk y hy)
end Go.Proofs.YtlmboonbfhkfnaaDoor
