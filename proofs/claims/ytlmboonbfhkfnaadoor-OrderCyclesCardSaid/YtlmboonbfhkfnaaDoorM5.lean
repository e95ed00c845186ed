import Derived.Test.YtlmboonbfhkfnaaDoorM4
import Derived.Test.YtlmboonbfhkfnaaDoorM3
import Derived.Test.YtlmboonbfhkfnaaDoorM2
set_option linter.unusedVariables false
set_option linter.unusedSimpArgs false
set_option linter.unusedSectionVars false
namespace Go.Proofs.YtlmboonbfhkfnaaDoor
open Go Go.Eng
set_option maxRecDepth 100000
set_option maxHeartbeats 0
set_option maxHeartbeats 0
set_option maxRecDepth 100000
  def mC (a0:aP) (y1:(Ar 8)×Bool) (s2:Int×Int×(Ar 8)):Option (Ct (Int×Int×(Ar 8)) ((List (List Int))×Int)):=cn (decide (s2.1<a0.N)) (bd (tP 10 s2.1 a0 y1.1 s2.2.2 0) fun y3=>
  some (.nx ((wr (s2.1+1)),y3.2.2,y3.2.1))) (some (.bk (s2.1,s2.2.1,s2.2.2)))
def jI (i x:Int) (place:GM Int) (k:Int) (out:List (List Int)):Option (Ct (Int×(GM Int)×(List (List Int))) ((List (List Int))×Int)):=
 gd (out.length≤8) (gd (0≤k∧k<(out.length:Int)) (ap (out.getD k.toNat default) [x] fun l=>some (.nx (wr (i+1),place.put x k,out.set k.toNat l))))
def mF (m5:Ar 8) (l7:List Int) (s:Int×(GM Int)×(List (List Int))):Option (Ct (Int×(GM Int)×(List (List Int))) ((List (List Int))×Int)):=cn (decide (s.1<(l7.length:Int))) (ix l7 default s.1 fun e=>gd (0≤e∧e<(8:Int)) (cn (!(s.2.1.has (wr ((m5.at1 e)-1)))) (gd (s.2.2.length≤7) (jI s.1 e s.2.1 (s.2.2.length:Int) (s.2.2++[[]])))
  (jI s.1 e s.2.1 (s.2.1.get (wr ((m5.at1 e)-1)) 0) s.2.2))) (some (.bk s))
def kM (a0:aP):Option ((List (List Int))×Int):=bd (bT a0) fun y1=>
  cn (!y1.2) (some ([],70)) (bd (lp (mC a0 y1) FU (0,0,(Ar.zero 8))) fun c4=>smK c4 (fun s5=>bd (iF a0.N y1.1) fun y7=>bd (lp (mF s5.2.2 y7) FU (0,GM.mt Int,[])) fun c8=>smK c8 (fun s9=>gd (s9.2.2.length≤8) (some (s9.2.2,0))) (fun r10=>some r10)) (fun r6=>
  some r6))
def iN:List AV→AV→Prop:=fun args r=>∃ a0,args=[bS a0]∧W (kM a0) fun y=>r=(.tup [(eL 1 (eL 1 eI default) default) y.1,eI y.2])
theorem vW {T:Tbl} (hT:TOk Tryd.prog T) (hpf:dD T PF) (h54:T 54=aU cL) (h57:T 57=aU gC) (h65:T 65=pX (kW 10)):FOk Tryd.prog 31 (aU iN):=by
 refine bO hT hpf Tryd.func31 rfl Tryd.ntmps31 Tryd.results31 (by decide) ?_
 rintro args r ⟨a0,rfl,h⟩
 refine ⟨nle rfl,?_,?_⟩
 ·exact (lsC (cO _) lsN)
 rw [kM.eq_1] at h
 refine aD dCo rfl fun K hK=>?_;conv=>whnf
 refine hK _ _ _ ?_
 refine aD dCo rfl fun K hK=>?_;conv=>whnf
 refine nlA rfl ?_;conv=>whnf
 refine bKo rfl ?_;conv=>whnf
 refine nlA rfl ?_;conv=>whnf
 replace h:=aS h
 refine cK h54 h (WkL.refl _) (fun _ h=>?_);conv=>whnf
 refine aZ ?_;conv=>whnf
 refine aZ ?_;conv=>whnf
 refine aZ ?_;conv=>whnf
 refine bKo rfl ?_;conv=>whnf
 refine pC rfl rfl rfl ?_;conv=>whnf
 refine hK _ _ _ ?_
 refine aN ?_
 refine aD dCo rfl fun K hK=>?_;conv=>whnf
 refine hK _ _ _ ?_
 refine bA fun K1 K2 hK1 hK2=>?_;conv=>whnf
 refine cLk h (fun _ h=>?_) (fun _ h=>?_)
 ·refine hK1 ?_
  refine aD dCo rfl fun K hK=>?_;conv=>whnf
  refine hK _ _ _ ?_
  refine aG ?_
  refine aR ?_
  replace h:=aF h
  refine aC dCo fun K hK=>?_;conv=>whnf
  refine hK _ ?_
  cases h
  exact oM (aA kI (aA (Wk.refl _) aB))
 refine hK2 ?_
 refine aL ?_
 refine tHn ?_
 refine aD dCo rfl fun K hK=>?_;conv=>whnf
 refine hK _ _ _ ?_
 refine aD dCo rfl fun K hK=>?_;conv=>whnf
 refine hK _ _ _ ?_
 refine aD dCo rfl fun K hK=>?_;conv=>whnf
 refine hK _ _ _ ?_
 refine lH 1 ?_;(conv=>whnf);refine ⟨_,rfl,?_⟩
 refine lH 4 ?_;(conv=>whnf);refine ⟨_,rfl,?_⟩
 refine aD dCo rfl fun K hK=>?_;conv=>whnf
 refine bKo rfl ?_;conv=>whnf
 refine And.intro rfl (And.intro (nle rfl) (And.intro rfl ?_));conv=>whnf
 refine hK _ _ _ ?_
 refine aN ?_
 refine aD dCo rfl fun K hK=>?_;conv=>whnf
 refine gKo rfl ?_;conv=>whnf
 refine hK _ _ _ ?_
 refine aQ ?_
 replace h:=aS h
 refine hU (body:=mC _ _) rfl h [1,4,6,7,8,25] [8] [] [7,6] (fun kl kh kr ids b s=>⟨ofL ([(26,eI s.1)]++kl),ofH (([(aAq ids 0,.cells [eI s.2.1])]++kh)++([(aAq ids 1,.cells (cA s.2.2))]++kr)),b+128⟩) ?_;(conv=>whnf);refine And.intro ?_ (fun s m h=>dO ?_)
 ·refine bR ?_;conv=>whnf
  exact And.intro rfl (And.intro (aLc wkI (aLc (wkr (lsE (lsC (lsI _ _) (lsC (lsL fun _=>(aO _)) lsN)))) (aLc (wkr (lsE (aW _))) (aLc (WkR.ptr (fun _=>rfl)) (aLc (WkR.ptr (fun _=>rfl)) (aLc (WkR.ptr (fun _=>rfl)) (aLc wkI aLn))))))) (aLc ⟨some _,rfl,bRc rfl (cKc wkI cKn)⟩ (aLc ⟨some _,rfl,bRc rfl (cKc (eZ bL (aM (wkr (lsE (lsC (lsI _ _) (lsC (lsL fun _=>(aO _)) lsN)))) (aM (wkr (lsE (aW _))) (aM (WkR.ptr (fun _=>rfl)) (aM (WkR.ptr (fun _=>rfl)) (aM (WkR.ptr (fun _=>rfl)) bL)))))) cKn)⟩ (aLc ⟨some _,rfl,bE (x:=(Ar.zero 8)) rfl rfl⟩ aLn))))
 replace h:=aS h;rw [mC.eq_1] at h
 refine aD dCo rfl fun K hK=>?_;conv=>whnf
 refine hK _ _ _ ?_
 refine aN ?_
 refine bA fun K1 K2 hK1 hK2=>?_;conv=>whnf
 refine cLk h (fun _ h=>?_) (fun _ h=>?_)
 ·refine hK1 ?_
  refine aL ?_
  refine tHn ?_
  refine aN ?_
  refine aQ ?_
  refine aD dCo rfl fun K hK=>?_;conv=>whnf
  refine hK _ _ _ ?_
  refine aD dCo rfl fun K hK=>?_;conv=>whnf
  refine bKo rfl ?_;conv=>whnf
  refine And.intro rfl (And.intro (nle rfl) (And.intro rfl ?_));conv=>whnf
  refine hK _ _ _ ?_
  refine cX dCo rfl fun K hK=>?_;conv=>whnf
  refine nlA rfl ?_;conv=>whnf
  refine bKo rfl ?_;conv=>whnf
  refine gKo rfl ?_;conv=>whnf
  refine dQ (bs:=[.ab _,.ab _,.fn 65 [.v _,.v _,.p 1,.p 0,.p 2]]) (args0:=[_,_,_,.ptr 1 0,.ptr 0 0,.ptr 2 0]) h65 [_,_,_] h (.cons (rG (Wk.refl _) (lsI _ _)) (.cons (bW (lsE (lsC (lsI _ _) (lsC (lsL fun _=>(aO _)) lsN)))) (.cons (bW (lsE (aW _))) (.cons (eS rfl) (.cons (eS rfl) (.cons (eS rfl) .nil)))))) ⟨⟨_,rfl,bkW _⟩,⟨_,rfl,bkW _⟩,rfl,trivial⟩ rfl (nle rfl) (fun y e=>(⟨_,_,_,_,_,_,rfl,rfl,e,rfl,rfl⟩:kW 10 _ _ _ _)) (fun _ h=>?_);conv=>whnf
  refine hK _ _ _ ?_
  refine iBn ?_
  refine tHn ?_
  refine cX dCo rfl fun K hK=>?_;conv=>whnf
  refine hK _ _ _ ?_
  refine tHn ?_
  replace h:=bX h
  refine ⟨_,h,?_⟩
  refine bR ?_;conv=>whnf
  exact And.intro rfl (And.intro (aLc wkI (aLc (wkr (lsE (lsC (lsI _ _) (lsC (lsL fun _=>(aO _)) lsN)))) (aLc (wkr (lsE (aW _))) (aLc (WkR.ptr (fun _=>rfl)) (aLc (WkR.ptr (fun _=>rfl)) (aLc (WkR.ptr (fun _=>rfl)) (aLc wkI aLn))))))) (aLc ⟨some _,rfl,bRc rfl (cKc wkI cKn)⟩ (aLc ⟨some _,rfl,bRc rfl (cKc (eZ bL (aM (wkr (lsE (lsC (lsI _ _) (lsC (lsL fun _=>(aO _)) lsN)))) (aM (wkr (lsE (aW _))) (aM (WkR.ptr (fun _=>rfl)) (aM (WkR.ptr (fun _=>rfl)) (aM (WkR.ptr (fun _=>rfl)) bL)))))) cKn)⟩ (aLc ⟨some _,rfl,bE rfl rfl⟩ aLn))))
 refine hK2 ?_
 refine bK ?_
 refine aY ?_
 refine aY ?_
 refine aX ?_
 replace h:=dE h
 replace h:=dB h
 refine tHn ?_
 refine aD dCo rfl fun K hK=>?_;conv=>whnf
 refine hK _ _ _ ?_
 refine aD dCo rfl fun K hK=>?_;conv=>whnf
 refine hK _ _ _ ?_
 refine aN ?_
 refine aD dCo rfl fun K hK=>?_;conv=>whnf
 refine gKo rfl ?_;conv=>whnf
 refine rE rfl ?_;conv=>whnf
 refine aZ ?_;conv=>whnf
 replace h:=aS h
 refine lI h57 h (WkL.refl _) (fun _ h=>?_);conv=>whnf
 refine hK _ _ _ ?_
 refine aQ ?_
 replace h:=aS h
 refine hU (body:=mF _ _) rfl h [6,11,37,38] [] [6] [11] (fun kl kh kr ids b s=>⟨ofL ([(39,eI s.1),(10,.so (b+512) 0 s.2.2.length 1)]++kl),ofH (([(aAq ids 0,abM eI s.2.1),(b+0,.cells []),(b+64,.cells []),(b+128,.cells []),(b+192,.cells []),(b+256,.cells []),(b+320,.cells []),(b+384,.cells []),(b+448,.cells [])]++kh)++([(b+512,.cells (oC [b+0,b+64,b+128,b+192,b+256,b+320,b+384,b+448] s.2.2))]++kr)),b+576⟩) ?_;(conv=>whnf);refine And.intro ?_ (fun s m h=>dO ?_)
 ·refine gA aK1 ?_;conv=>whnf
  exact And.intro rfl (And.intro (aLc wkI (aLc (WkR.nilso (fun _=>rfl)) (aLc (WkR.ptr (fun _=>rfl)) (aLc (WkR.mp (fun _=>rfl)) (aLc (wkr (lsL fun _=>(lsI _ _))) (aLc wkI aLn)))))) (aLc ⟨some _,rfl,iO (enc:=eI) (m:=(GM.mt Int)) rfl (fun _=>(lsI _ _))⟩ (aLc ⟨none,rfl,qL⟩ (aLc ⟨none,rfl,qL⟩ (aLc ⟨none,rfl,qL⟩ (aLc ⟨none,rfl,qL⟩ (aLc ⟨none,rfl,qL⟩ (aLc ⟨none,rfl,qL⟩ (aLc ⟨none,rfl,qL⟩ (aLc ⟨none,rfl,qL⟩ (aLc ⟨none,rfl,aIz⟩ (aLc ⟨some _,rfl,bE rfl rfl⟩ aLn))))))))))))
 replace h:=aS h;rw [mF.eq_1] at h
 refine aD dCo rfl fun K hK=>?_;conv=>whnf
 refine hK _ _ _ ?_
 refine aN ?_
 refine bA fun K1 K2 hK1 hK2=>?_;conv=>whnf
 refine cLk h (fun _ h=>?_) (fun _ h=>?_)
 ·refine hK1 ?_
  refine aL ?_
  refine tHn ?_
  refine aN ?_
  refine aQ ?_
  refine aD dCo rfl fun K hK=>?_;conv=>whnf
  refine eQ h fun _ h=>?_;conv=>whnf
  refine gKo rfl ?_;conv=>whnf
  refine hK _ _ _ ?_
  refine aD dCo rfl fun K hK=>?_;conv=>whnf
  refine dG h fun hx h=>?_;conv=>whnf
  refine nlA rfl ?_;conv=>whnf
  refine bKo rfl ?_;conv=>whnf
  refine eJ rfl hx ?_;conv=>whnf
  refine aEG (enc:=eI) dCo rfl (0:Int) rfl rfl (nle rfl) ?_;conv=>whnf
  refine hK _ _ _ ?_
  refine aN ?_
  refine aD dCo rfl fun K hK=>?_;conv=>whnf
  refine hK _ _ _ ?_
  refine bA fun K1 K2 hK1 hK2=>?_;conv=>whnf
  refine cLk h (fun _ h=>?_) (fun _ h=>?_)
  ·refine hK1 ?_
   obtain ⟨h7,h⟩:=aAh h
   refine aD dCo rfl fun K hK=>?_;conv=>whnf
   refine hK _ _ _ ?_
   refine cX dCo rfl fun K hK=>?_;conv=>whnf
   refine cI (enc:=fun (_:Unit)=>AV.nils) (d:=()) (l:=[()]) (f:=fun _=>some ()) (Φ:=fun _=>True) dCo (jC _) rfl rfl rfl ⟨nle rfl,nle rfl,rfl⟩ rfl ⟨⟨rfl,rfl,rfl⟩,trivial⟩ (fun _=>?_);conv=>whnf
   refine aHU dCo rfl rfl rfl ⟨rfl,nle rfl,nle rfl,rfl⟩ rfl rfl (by omega) rfl ?_;conv=>whnf
   refine hK _ _ _ ?_
   refine tHn ?_
   replace h:=jI.eq_1 _ _ _ _ _ ▸ h
   obtain ⟨h8,h⟩:=aAh h
   obtain ⟨hk,h⟩:=aAh h
   have hj:(_:Int).toNat<_:=(Int.toNat_lt hk.1).2 hk.2
   generalize hkk:(s.2.2.length:Int)=kk at h hk hj ⊢
   have hc:kk=0∨kk=1∨kk=2∨kk=3∨kk=4∨kk=5∨kk=6∨kk=7:=by omega
   rcases hc with rfl | rfl | rfl | rfl | rfl | rfl | rfl | rfl
   ·refine oU 10 (out:=s.2.2) rfl rfl (by rw [show s.2.2.length=0 by omega];exact ⟨_,_,rfl,rfl⟩) ?_
    refine aD dCo rfl fun K hK=>?_;conv=>whnf
    refine And.intro ⟨by omega,by simp only [List.length_append,List.length_cons,List.length_nil] at *;omega⟩ ?_;conv=>whnf
    refine nlA rfl ?_;conv=>whnf
    refine bKo rfl ?_;conv=>whnf
    refine gKo (jB (j:=0) rfl hj) ?_;conv=>whnf
    refine cI (enc:=eI) (d:=default) (l:=[_]) (f:=fun _=>some ()) (Φ:=fun _=>True) dCo (jC _) rfl rfl rfl ⟨nle rfl,nle rfl,rfl⟩ rfl ⟨⟨rfl,rfl,rfl⟩,trivial⟩ (fun _=>?_);conv=>whnf
    refine bN (enc:=eI) (d:=default) dCo h (.inl rfl) rfl rfl rfl ⟨rfl,nle rfl,nle rfl,nle rfl,rfl⟩ (fun _=>rfl) (.inr (.inr ⟨_,_,rfl,rfl,rfl⟩)) (fun h=>?_);conv=>whnf
    refine And.intro ⟨by omega,by simp only [List.length_append,List.length_cons,List.length_nil] at *;omega⟩ ?_;conv=>whnf
    refine bKo rfl ?_;conv=>whnf
    refine pR (j:=0) (nle rfl) hj rfl rfl rfl rfl ?_;conv=>whnf
    refine hK _ _ _ ?_
    refine cX dCo rfl fun K hK=>?_;conv=>whnf
    refine fH (enc:=eI) dCo rfl rfl ?_;conv=>whnf
    refine hK _ _ _ ?_
    refine iBn ?_
    refine tHn ?_
    refine cX dCo rfl fun K hK=>?_;conv=>whnf
    refine hK _ _ _ ?_
    refine tHn ?_
    replace h:=bX h
    refine ⟨_,h,?_⟩
    refine gA (aBg 32 0 0) ?_;conv=>whnf
    exact And.intro rfl (And.intro (aLc wkI (aLc (WkR.soN (fun _=>rfl) (by simp)) (aLc (WkR.ptr (fun _=>rfl)) (aLc (WkR.mp (fun _=>rfl)) (aLc (wkr (lsL fun _=>(lsI _ _))) (aLc wkI aLn)))))) (aLc ⟨some _,rfl,iO (enc:=eI) rfl (fun _=>(lsI _ _))⟩ (aLc ⟨some _,rfl,bRc rfl cKn⟩ (aLc ⟨some _,rfl,bRc rfl cKn⟩ (aLc ⟨some _,rfl,bRc rfl cKn⟩ (aLc ⟨some _,rfl,bRc rfl cKn⟩ (aLc ⟨some _,rfl,bRc rfl cKn⟩ (aLc ⟨some _,rfl,bRc rfl cKn⟩ (aLc ⟨some _,rfl,bRc rfl cKn⟩ (aLc ⟨some _,rfl,bRc rfl cKn⟩ (aLc ⟨some _,rfl,kJ rfl ⟨fun _=>rfl,fun _=>rfl,fun _=>rfl,fun _=>rfl,fun _=>rfl,fun _=>rfl,fun _=>rfl,fun _=>rfl,trivial⟩⟩ (aLc ⟨some _,rfl,bE rfl rfl⟩ aLn))))))))))))
   ·refine oU 10 (out:=s.2.2) rfl rfl (by rw [show s.2.2.length=1 by omega];exact ⟨_,_,rfl,rfl⟩) ?_
    refine aD dCo rfl fun K hK=>?_;conv=>whnf
    refine And.intro ⟨by omega,by simp only [List.length_append,List.length_cons,List.length_nil] at *;omega⟩ ?_;conv=>whnf
    refine nlA rfl ?_;conv=>whnf
    refine bKo rfl ?_;conv=>whnf
    refine gKo (jB (j:=1) rfl hj) ?_;conv=>whnf
    refine cI (enc:=eI) (d:=default) (l:=[_]) (f:=fun _=>some ()) (Φ:=fun _=>True) dCo (jC _) rfl rfl rfl ⟨nle rfl,nle rfl,rfl⟩ rfl ⟨⟨rfl,rfl,rfl⟩,trivial⟩ (fun _=>?_);conv=>whnf
    refine bN (enc:=eI) (d:=default) dCo h (.inl rfl) rfl rfl rfl ⟨rfl,nle rfl,nle rfl,nle rfl,rfl⟩ (fun _=>rfl) (.inr (.inr ⟨_,_,rfl,rfl,rfl⟩)) (fun h=>?_);conv=>whnf
    refine And.intro ⟨by omega,by simp only [List.length_append,List.length_cons,List.length_nil] at *;omega⟩ ?_;conv=>whnf
    refine bKo rfl ?_;conv=>whnf
    refine pR (j:=1) (nle rfl) hj rfl rfl rfl rfl ?_;conv=>whnf
    refine hK _ _ _ ?_
    refine cX dCo rfl fun K hK=>?_;conv=>whnf
    refine fH (enc:=eI) dCo rfl rfl ?_;conv=>whnf
    refine hK _ _ _ ?_
    refine iBn ?_
    refine tHn ?_
    refine cX dCo rfl fun K hK=>?_;conv=>whnf
    refine hK _ _ _ ?_
    refine tHn ?_
    replace h:=bX h
    refine ⟨_,h,?_⟩
    refine gA (aBg 32 0 1) ?_;conv=>whnf
    exact And.intro rfl (And.intro (aLc wkI (aLc (WkR.soN (fun _=>rfl) (by simp)) (aLc (WkR.ptr (fun _=>rfl)) (aLc (WkR.mp (fun _=>rfl)) (aLc (wkr (lsL fun _=>(lsI _ _))) (aLc wkI aLn)))))) (aLc ⟨some _,rfl,iO (enc:=eI) rfl (fun _=>(lsI _ _))⟩ (aLc ⟨some _,rfl,bRc rfl cKn⟩ (aLc ⟨some _,rfl,bRc rfl cKn⟩ (aLc ⟨some _,rfl,bRc rfl cKn⟩ (aLc ⟨some _,rfl,bRc rfl cKn⟩ (aLc ⟨some _,rfl,bRc rfl cKn⟩ (aLc ⟨some _,rfl,bRc rfl cKn⟩ (aLc ⟨some _,rfl,bRc rfl cKn⟩ (aLc ⟨some _,rfl,bRc rfl cKn⟩ (aLc ⟨some _,rfl,kJ rfl ⟨fun _=>rfl,fun _=>rfl,fun _=>rfl,fun _=>rfl,fun _=>rfl,fun _=>rfl,fun _=>rfl,fun _=>rfl,trivial⟩⟩ (aLc ⟨some _,rfl,bE rfl rfl⟩ aLn))))))))))))
   ·refine oU 10 (out:=s.2.2) rfl rfl (by rw [show s.2.2.length=2 by omega];exact ⟨_,_,rfl,rfl⟩) ?_
    refine aD dCo rfl fun K hK=>?_;conv=>whnf
    refine And.intro ⟨by omega,by simp only [List.length_append,List.length_cons,List.length_nil] at *;omega⟩ ?_;conv=>whnf
    refine nlA rfl ?_;conv=>whnf
    refine bKo rfl ?_;conv=>whnf
    refine gKo (jB (j:=2) rfl hj) ?_;conv=>whnf
    refine cI (enc:=eI) (d:=default) (l:=[_]) (f:=fun _=>some ()) (Φ:=fun _=>True) dCo (jC _) rfl rfl rfl ⟨nle rfl,nle rfl,rfl⟩ rfl ⟨⟨rfl,rfl,rfl⟩,trivial⟩ (fun _=>?_);conv=>whnf
    refine bN (enc:=eI) (d:=default) dCo h (.inl rfl) rfl rfl rfl ⟨rfl,nle rfl,nle rfl,nle rfl,rfl⟩ (fun _=>rfl) (.inr (.inr ⟨_,_,rfl,rfl,rfl⟩)) (fun h=>?_);conv=>whnf
    refine And.intro ⟨by omega,by simp only [List.length_append,List.length_cons,List.length_nil] at *;omega⟩ ?_;conv=>whnf
    refine bKo rfl ?_;conv=>whnf
    refine pR (j:=2) (nle rfl) hj rfl rfl rfl rfl ?_;conv=>whnf
    refine hK _ _ _ ?_
    refine cX dCo rfl fun K hK=>?_;conv=>whnf
    refine fH (enc:=eI) dCo rfl rfl ?_;conv=>whnf
    refine hK _ _ _ ?_
    refine iBn ?_
    refine tHn ?_
    refine cX dCo rfl fun K hK=>?_;conv=>whnf
    refine hK _ _ _ ?_
    refine tHn ?_
    replace h:=bX h
    refine ⟨_,h,?_⟩
    refine gA (aBg 32 0 2) ?_;conv=>whnf
    exact And.intro rfl (And.intro (aLc wkI (aLc (WkR.soN (fun _=>rfl) (by simp)) (aLc (WkR.ptr (fun _=>rfl)) (aLc (WkR.mp (fun _=>rfl)) (aLc (wkr (lsL fun _=>(lsI _ _))) (aLc wkI aLn)))))) (aLc ⟨some _,rfl,iO (enc:=eI) rfl (fun _=>(lsI _ _))⟩ (aLc ⟨some _,rfl,bRc rfl cKn⟩ (aLc ⟨some _,rfl,bRc rfl cKn⟩ (aLc ⟨some _,rfl,bRc rfl cKn⟩ (aLc ⟨some _,rfl,bRc rfl cKn⟩ (aLc ⟨some _,rfl,bRc rfl cKn⟩ (aLc ⟨some _,rfl,bRc rfl cKn⟩ (aLc ⟨some _,rfl,bRc rfl cKn⟩ (aLc ⟨some _,rfl,bRc rfl cKn⟩ (aLc ⟨some _,rfl,kJ rfl ⟨fun _=>rfl,fun _=>rfl,fun _=>rfl,fun _=>rfl,fun _=>rfl,fun _=>rfl,fun _=>rfl,fun _=>rfl,trivial⟩⟩ (aLc ⟨some _,rfl,bE rfl rfl⟩ aLn))))))))))))
   ·refine oU 10 (out:=s.2.2) rfl rfl (by rw [show s.2.2.length=3 by omega];exact ⟨_,_,rfl,rfl⟩) ?_
    refine aD dCo rfl fun K hK=>?_;conv=>whnf
    refine And.intro ⟨by omega,by simp only [List.length_append,List.length_cons,List.length_nil] at *;omega⟩ ?_;conv=>whnf
    refine nlA rfl ?_;conv=>whnf
    refine bKo rfl ?_;conv=>whnf
    refine gKo (jB (j:=3) rfl hj) ?_;conv=>whnf
    refine cI (enc:=eI) (d:=default) (l:=[_]) (f:=fun _=>some ()) (Φ:=fun _=>True) dCo (jC _) rfl rfl rfl ⟨nle rfl,nle rfl,rfl⟩ rfl ⟨⟨rfl,rfl,rfl⟩,trivial⟩ (fun _=>?_);conv=>whnf
    refine bN (enc:=eI) (d:=default) dCo h (.inl rfl) rfl rfl rfl ⟨rfl,nle rfl,nle rfl,nle rfl,rfl⟩ (fun _=>rfl) (.inr (.inr ⟨_,_,rfl,rfl,rfl⟩)) (fun h=>?_);conv=>whnf
    refine And.intro ⟨by omega,by simp only [List.length_append,List.length_cons,List.length_nil] at *;omega⟩ ?_;conv=>whnf
    refine bKo rfl ?_;conv=>whnf
    refine pR (j:=3) (nle rfl) hj rfl rfl rfl rfl ?_;conv=>whnf
    refine hK _ _ _ ?_
    refine cX dCo rfl fun K hK=>?_;conv=>whnf
    refine fH (enc:=eI) dCo rfl rfl ?_;conv=>whnf
    refine hK _ _ _ ?_
    refine iBn ?_
    refine tHn ?_
    refine cX dCo rfl fun K hK=>?_;conv=>whnf
    refine hK _ _ _ ?_
    refine tHn ?_
    replace h:=bX h
    refine ⟨_,h,?_⟩
    refine gA (aBg 32 0 3) ?_;conv=>whnf
    exact And.intro rfl (And.intro (aLc wkI (aLc (WkR.soN (fun _=>rfl) (by simp)) (aLc (WkR.ptr (fun _=>rfl)) (aLc (WkR.mp (fun _=>rfl)) (aLc (wkr (lsL fun _=>(lsI _ _))) (aLc wkI aLn)))))) (aLc ⟨some _,rfl,iO (enc:=eI) rfl (fun _=>(lsI _ _))⟩ (aLc ⟨some _,rfl,bRc rfl cKn⟩ (aLc ⟨some _,rfl,bRc rfl cKn⟩ (aLc ⟨some _,rfl,bRc rfl cKn⟩ (aLc ⟨some _,rfl,bRc rfl cKn⟩ (aLc ⟨some _,rfl,bRc rfl cKn⟩ (aLc ⟨some _,rfl,bRc rfl cKn⟩ (aLc ⟨some _,rfl,bRc rfl cKn⟩ (aLc ⟨some _,rfl,bRc rfl cKn⟩ (aLc ⟨some _,rfl,kJ rfl ⟨fun _=>rfl,fun _=>rfl,fun _=>rfl,fun _=>rfl,fun _=>rfl,fun _=>rfl,fun _=>rfl,fun _=>rfl,trivial⟩⟩ (aLc ⟨some _,rfl,bE rfl rfl⟩ aLn))))))))))))
   ·refine oU 10 (out:=s.2.2) rfl rfl (by rw [show s.2.2.length=4 by omega];exact ⟨_,_,rfl,rfl⟩) ?_
    refine aD dCo rfl fun K hK=>?_;conv=>whnf
    refine And.intro ⟨by omega,by simp only [List.length_append,List.length_cons,List.length_nil] at *;omega⟩ ?_;conv=>whnf
    refine nlA rfl ?_;conv=>whnf
    refine bKo rfl ?_;conv=>whnf
    refine gKo (jB (j:=4) rfl hj) ?_;conv=>whnf
    refine cI (enc:=eI) (d:=default) (l:=[_]) (f:=fun _=>some ()) (Φ:=fun _=>True) dCo (jC _) rfl rfl rfl ⟨nle rfl,nle rfl,rfl⟩ rfl ⟨⟨rfl,rfl,rfl⟩,trivial⟩ (fun _=>?_);conv=>whnf
    refine bN (enc:=eI) (d:=default) dCo h (.inl rfl) rfl rfl rfl ⟨rfl,nle rfl,nle rfl,nle rfl,rfl⟩ (fun _=>rfl) (.inr (.inr ⟨_,_,rfl,rfl,rfl⟩)) (fun h=>?_);conv=>whnf
    refine And.intro ⟨by omega,by simp only [List.length_append,List.length_cons,List.length_nil] at *;omega⟩ ?_;conv=>whnf
    refine bKo rfl ?_;conv=>whnf
    refine pR (j:=4) (nle rfl) hj rfl rfl rfl rfl ?_;conv=>whnf
    refine hK _ _ _ ?_
    refine cX dCo rfl fun K hK=>?_;conv=>whnf
    refine fH (enc:=eI) dCo rfl rfl ?_;conv=>whnf
    refine hK _ _ _ ?_
    refine iBn ?_
    refine tHn ?_
    refine cX dCo rfl fun K hK=>?_;conv=>whnf
    refine hK _ _ _ ?_
    refine tHn ?_
    replace h:=bX h
    refine ⟨_,h,?_⟩
    refine gA (aBg 32 0 4) ?_;conv=>whnf
    exact And.intro rfl (And.intro (aLc wkI (aLc (WkR.soN (fun _=>rfl) (by simp)) (aLc (WkR.ptr (fun _=>rfl)) (aLc (WkR.mp (fun _=>rfl)) (aLc (wkr (lsL fun _=>(lsI _ _))) (aLc wkI aLn)))))) (aLc ⟨some _,rfl,iO (enc:=eI) rfl (fun _=>(lsI _ _))⟩ (aLc ⟨some _,rfl,bRc rfl cKn⟩ (aLc ⟨some _,rfl,bRc rfl cKn⟩ (aLc ⟨some _,rfl,bRc rfl cKn⟩ (aLc ⟨some _,rfl,bRc rfl cKn⟩ (aLc ⟨some _,rfl,bRc rfl cKn⟩ (aLc ⟨some _,rfl,bRc rfl cKn⟩ (aLc ⟨some _,rfl,bRc rfl cKn⟩ (aLc ⟨some _,rfl,bRc rfl cKn⟩ (aLc ⟨some _,rfl,kJ rfl ⟨fun _=>rfl,fun _=>rfl,fun _=>rfl,fun _=>rfl,fun _=>rfl,fun _=>rfl,fun _=>rfl,fun _=>rfl,trivial⟩⟩ (aLc ⟨some _,rfl,bE rfl rfl⟩ aLn))))))))))))
   ·refine oU 10 (out:=s.2.2) rfl rfl (by rw [show s.2.2.length=5 by omega];exact ⟨_,_,rfl,rfl⟩) ?_
    refine aD dCo rfl fun K hK=>?_;conv=>whnf
    refine And.intro ⟨by omega,by simp only [List.length_append,List.length_cons,List.length_nil] at *;omega⟩ ?_;conv=>whnf
    refine nlA rfl ?_;conv=>whnf
    refine bKo rfl ?_;conv=>whnf
    refine gKo (jB (j:=5) rfl hj) ?_;conv=>whnf
    refine cI (enc:=eI) (d:=default) (l:=[_]) (f:=fun _=>some ()) (Φ:=fun _=>True) dCo (jC _) rfl rfl rfl ⟨nle rfl,nle rfl,rfl⟩ rfl ⟨⟨rfl,rfl,rfl⟩,trivial⟩ (fun _=>?_);conv=>whnf
    refine bN (enc:=eI) (d:=default) dCo h (.inl rfl) rfl rfl rfl ⟨rfl,nle rfl,nle rfl,nle rfl,rfl⟩ (fun _=>rfl) (.inr (.inr ⟨_,_,rfl,rfl,rfl⟩)) (fun h=>?_);conv=>whnf
    refine And.intro ⟨by omega,by simp only [List.length_append,List.length_cons,List.length_nil] at *;omega⟩ ?_;conv=>whnf
    refine bKo rfl ?_;conv=>whnf
    refine pR (j:=5) (nle rfl) hj rfl rfl rfl rfl ?_;conv=>whnf
    refine hK _ _ _ ?_
    refine cX dCo rfl fun K hK=>?_;conv=>whnf
    refine fH (enc:=eI) dCo rfl rfl ?_;conv=>whnf
    refine hK _ _ _ ?_
    refine iBn ?_
    refine tHn ?_
    refine cX dCo rfl fun K hK=>?_;conv=>whnf
    refine hK _ _ _ ?_
    refine tHn ?_
    replace h:=bX h
    refine ⟨_,h,?_⟩
    refine gA (aBg 32 0 5) ?_;conv=>whnf
    exact And.intro rfl (And.intro (aLc wkI (aLc (WkR.soN (fun _=>rfl) (by simp)) (aLc (WkR.ptr (fun _=>rfl)) (aLc (WkR.mp (fun _=>rfl)) (aLc (wkr (lsL fun _=>(lsI _ _))) (aLc wkI aLn)))))) (aLc ⟨some _,rfl,iO (enc:=eI) rfl (fun _=>(lsI _ _))⟩ (aLc ⟨some _,rfl,bRc rfl cKn⟩ (aLc ⟨some _,rfl,bRc rfl cKn⟩ (aLc ⟨some _,rfl,bRc rfl cKn⟩ (aLc ⟨some _,rfl,bRc rfl cKn⟩ (aLc ⟨some _,rfl,bRc rfl cKn⟩ (aLc ⟨some _,rfl,bRc rfl cKn⟩ (aLc ⟨some _,rfl,bRc rfl cKn⟩ (aLc ⟨some _,rfl,bRc rfl cKn⟩ (aLc ⟨some _,rfl,kJ rfl ⟨fun _=>rfl,fun _=>rfl,fun _=>rfl,fun _=>rfl,fun _=>rfl,fun _=>rfl,fun _=>rfl,fun _=>rfl,trivial⟩⟩ (aLc ⟨some _,rfl,bE rfl rfl⟩ aLn))))))))))))
   ·refine oU 10 (out:=s.2.2) rfl rfl (by rw [show s.2.2.length=6 by omega];exact ⟨_,_,rfl,rfl⟩) ?_
    refine aD dCo rfl fun K hK=>?_;conv=>whnf
    refine And.intro ⟨by omega,by simp only [List.length_append,List.length_cons,List.length_nil] at *;omega⟩ ?_;conv=>whnf
    refine nlA rfl ?_;conv=>whnf
    refine bKo rfl ?_;conv=>whnf
    refine gKo (jB (j:=6) rfl hj) ?_;conv=>whnf
    refine cI (enc:=eI) (d:=default) (l:=[_]) (f:=fun _=>some ()) (Φ:=fun _=>True) dCo (jC _) rfl rfl rfl ⟨nle rfl,nle rfl,rfl⟩ rfl ⟨⟨rfl,rfl,rfl⟩,trivial⟩ (fun _=>?_);conv=>whnf
    refine bN (enc:=eI) (d:=default) dCo h (.inl rfl) rfl rfl rfl ⟨rfl,nle rfl,nle rfl,nle rfl,rfl⟩ (fun _=>rfl) (.inr (.inr ⟨_,_,rfl,rfl,rfl⟩)) (fun h=>?_);conv=>whnf
    refine And.intro ⟨by omega,by simp only [List.length_append,List.length_cons,List.length_nil] at *;omega⟩ ?_;conv=>whnf
    refine bKo rfl ?_;conv=>whnf
    refine pR (j:=6) (nle rfl) hj rfl rfl rfl rfl ?_;conv=>whnf
    refine hK _ _ _ ?_
    refine cX dCo rfl fun K hK=>?_;conv=>whnf
    refine fH (enc:=eI) dCo rfl rfl ?_;conv=>whnf
    refine hK _ _ _ ?_
    refine iBn ?_
    refine tHn ?_
    refine cX dCo rfl fun K hK=>?_;conv=>whnf
    refine hK _ _ _ ?_
    refine tHn ?_
    replace h:=bX h
    refine ⟨_,h,?_⟩
    refine gA (aBg 32 0 6) ?_;conv=>whnf
    exact And.intro rfl (And.intro (aLc wkI (aLc (WkR.soN (fun _=>rfl) (by simp)) (aLc (WkR.ptr (fun _=>rfl)) (aLc (WkR.mp (fun _=>rfl)) (aLc (wkr (lsL fun _=>(lsI _ _))) (aLc wkI aLn)))))) (aLc ⟨some _,rfl,iO (enc:=eI) rfl (fun _=>(lsI _ _))⟩ (aLc ⟨some _,rfl,bRc rfl cKn⟩ (aLc ⟨some _,rfl,bRc rfl cKn⟩ (aLc ⟨some _,rfl,bRc rfl cKn⟩ (aLc ⟨some _,rfl,bRc rfl cKn⟩ (aLc ⟨some _,rfl,bRc rfl cKn⟩ (aLc ⟨some _,rfl,bRc rfl cKn⟩ (aLc ⟨some _,rfl,bRc rfl cKn⟩ (aLc ⟨some _,rfl,bRc rfl cKn⟩ (aLc ⟨some _,rfl,kJ rfl ⟨fun _=>rfl,fun _=>rfl,fun _=>rfl,fun _=>rfl,fun _=>rfl,fun _=>rfl,fun _=>rfl,fun _=>rfl,trivial⟩⟩ (aLc ⟨some _,rfl,bE rfl rfl⟩ aLn))))))))))))
   ·refine oU 10 (out:=s.2.2) rfl rfl (by rw [show s.2.2.length=7 by omega];exact ⟨_,_,rfl,rfl⟩) ?_
    refine aD dCo rfl fun K hK=>?_;conv=>whnf
    refine And.intro ⟨by omega,by simp only [List.length_append,List.length_cons,List.length_nil] at *;omega⟩ ?_;conv=>whnf
    refine nlA rfl ?_;conv=>whnf
    refine bKo rfl ?_;conv=>whnf
    refine gKo (jB (j:=7) rfl hj) ?_;conv=>whnf
    refine cI (enc:=eI) (d:=default) (l:=[_]) (f:=fun _=>some ()) (Φ:=fun _=>True) dCo (jC _) rfl rfl rfl ⟨nle rfl,nle rfl,rfl⟩ rfl ⟨⟨rfl,rfl,rfl⟩,trivial⟩ (fun _=>?_);conv=>whnf
    refine bN (enc:=eI) (d:=default) dCo h (.inl rfl) rfl rfl rfl ⟨rfl,nle rfl,nle rfl,nle rfl,rfl⟩ (fun _=>rfl) (.inr (.inr ⟨_,_,rfl,rfl,rfl⟩)) (fun h=>?_);conv=>whnf
    refine And.intro ⟨by omega,by simp only [List.length_append,List.length_cons,List.length_nil] at *;omega⟩ ?_;conv=>whnf
    refine bKo rfl ?_;conv=>whnf
    refine pR (j:=7) (nle rfl) hj rfl rfl rfl rfl ?_;conv=>whnf
    refine hK _ _ _ ?_
    refine cX dCo rfl fun K hK=>?_;conv=>whnf
    refine fH (enc:=eI) dCo rfl rfl ?_;conv=>whnf
    refine hK _ _ _ ?_
    refine iBn ?_
    refine tHn ?_
    refine cX dCo rfl fun K hK=>?_;conv=>whnf
    refine hK _ _ _ ?_
    refine tHn ?_
    replace h:=bX h
    refine ⟨_,h,?_⟩
    refine gA (aBg 32 0 7) ?_;conv=>whnf
    exact And.intro rfl (And.intro (aLc wkI (aLc (WkR.soN (fun _=>rfl) (by simp)) (aLc (WkR.ptr (fun _=>rfl)) (aLc (WkR.mp (fun _=>rfl)) (aLc (wkr (lsL fun _=>(lsI _ _))) (aLc wkI aLn)))))) (aLc ⟨some _,rfl,iO (enc:=eI) rfl (fun _=>(lsI _ _))⟩ (aLc ⟨some _,rfl,bRc rfl cKn⟩ (aLc ⟨some _,rfl,bRc rfl cKn⟩ (aLc ⟨some _,rfl,bRc rfl cKn⟩ (aLc ⟨some _,rfl,bRc rfl cKn⟩ (aLc ⟨some _,rfl,bRc rfl cKn⟩ (aLc ⟨some _,rfl,bRc rfl cKn⟩ (aLc ⟨some _,rfl,bRc rfl cKn⟩ (aLc ⟨some _,rfl,bRc rfl cKn⟩ (aLc ⟨some _,rfl,kJ rfl ⟨fun _=>rfl,fun _=>rfl,fun _=>rfl,fun _=>rfl,fun _=>rfl,fun _=>rfl,fun _=>rfl,fun _=>rfl,trivial⟩⟩ (aLc ⟨some _,rfl,bE rfl rfl⟩ aLn))))))))))))
  refine hK2 ?_
  refine aL ?_
  refine tHn ?_
  replace h:=jI.eq_1 _ _ _ _ _ ▸ h
  obtain ⟨h8,h⟩:=aAh h
  obtain ⟨hk,h⟩:=aAh h
  have hj:(_:Int).toNat<_:=(Int.toNat_lt hk.1).2 hk.2
  generalize hkk:s.2.1.get _ 0=kk at h hk hj ⊢
  have hc:kk=0∨kk=1∨kk=2∨kk=3∨kk=4∨kk=5∨kk=6∨kk=7:=by omega
  rcases hc with rfl | rfl | rfl | rfl | rfl | rfl | rfl | rfl
  ·refine aD dCo rfl fun K hK=>?_;conv=>whnf
   refine And.intro ⟨by omega,by simp only [List.length_append,List.length_cons,List.length_nil] at *;omega⟩ ?_;conv=>whnf
   refine nlA rfl ?_;conv=>whnf
   refine bKo rfl ?_;conv=>whnf
   refine gKo (jB (j:=0) rfl hj) ?_;conv=>whnf
   refine cI (enc:=eI) (d:=default) (l:=[_]) (f:=fun _=>some ()) (Φ:=fun _=>True) dCo (jC _) rfl rfl rfl ⟨nle rfl,nle rfl,rfl⟩ rfl ⟨⟨rfl,rfl,rfl⟩,trivial⟩ (fun _=>?_);conv=>whnf
   refine bN (enc:=eI) (d:=default) dCo h (.inl rfl) rfl rfl rfl ⟨rfl,nle rfl,nle rfl,nle rfl,rfl⟩ (fun _=>rfl) (.inr (.inr ⟨_,_,rfl,rfl,rfl⟩)) (fun h=>?_);conv=>whnf
   refine And.intro ⟨by omega,by simp only [List.length_append,List.length_cons,List.length_nil] at *;omega⟩ ?_;conv=>whnf
   refine bKo rfl ?_;conv=>whnf
   refine pR (j:=0) (nle rfl) hj rfl rfl rfl rfl ?_;conv=>whnf
   refine hK _ _ _ ?_
   refine cX dCo rfl fun K hK=>?_;conv=>whnf
   refine fH (enc:=eI) dCo rfl rfl ?_;conv=>whnf
   refine hK _ _ _ ?_
   refine iBn ?_
   refine tHn ?_
   refine cX dCo rfl fun K hK=>?_;conv=>whnf
   refine hK _ _ _ ?_
   refine tHn ?_
   replace h:=bX h
   refine ⟨_,h,?_⟩
   refine gA (aBg 25 0 0) ?_;conv=>whnf
   exact And.intro rfl (And.intro (aLc wkI (aLc (WkR.soN (fun _=>rfl) (by simp)) (aLc (WkR.ptr (fun _=>rfl)) (aLc (WkR.mp (fun _=>rfl)) (aLc (wkr (lsL fun _=>(lsI _ _))) (aLc wkI aLn)))))) (aLc ⟨some _,rfl,iO (enc:=eI) rfl (fun _=>(lsI _ _))⟩ (aLc ⟨some _,rfl,bRc rfl cKn⟩ (aLc ⟨some _,rfl,bRc rfl cKn⟩ (aLc ⟨some _,rfl,bRc rfl cKn⟩ (aLc ⟨some _,rfl,bRc rfl cKn⟩ (aLc ⟨some _,rfl,bRc rfl cKn⟩ (aLc ⟨some _,rfl,bRc rfl cKn⟩ (aLc ⟨some _,rfl,bRc rfl cKn⟩ (aLc ⟨some _,rfl,bRc rfl cKn⟩ (aLc ⟨some _,rfl,kJ rfl ⟨fun _=>rfl,fun _=>rfl,fun _=>rfl,fun _=>rfl,fun _=>rfl,fun _=>rfl,fun _=>rfl,fun _=>rfl,trivial⟩⟩ (aLc ⟨some _,rfl,bE rfl rfl⟩ aLn))))))))))))
  ·refine aD dCo rfl fun K hK=>?_;conv=>whnf
   refine And.intro ⟨by omega,by simp only [List.length_append,List.length_cons,List.length_nil] at *;omega⟩ ?_;conv=>whnf
   refine nlA rfl ?_;conv=>whnf
   refine bKo rfl ?_;conv=>whnf
   refine gKo (jB (j:=1) rfl hj) ?_;conv=>whnf
   refine cI (enc:=eI) (d:=default) (l:=[_]) (f:=fun _=>some ()) (Φ:=fun _=>True) dCo (jC _) rfl rfl rfl ⟨nle rfl,nle rfl,rfl⟩ rfl ⟨⟨rfl,rfl,rfl⟩,trivial⟩ (fun _=>?_);conv=>whnf
   refine bN (enc:=eI) (d:=default) dCo h (.inl rfl) rfl rfl rfl ⟨rfl,nle rfl,nle rfl,nle rfl,rfl⟩ (fun _=>rfl) (.inr (.inr ⟨_,_,rfl,rfl,rfl⟩)) (fun h=>?_);conv=>whnf
   refine And.intro ⟨by omega,by simp only [List.length_append,List.length_cons,List.length_nil] at *;omega⟩ ?_;conv=>whnf
   refine bKo rfl ?_;conv=>whnf
   refine pR (j:=1) (nle rfl) hj rfl rfl rfl rfl ?_;conv=>whnf
   refine hK _ _ _ ?_
   refine cX dCo rfl fun K hK=>?_;conv=>whnf
   refine fH (enc:=eI) dCo rfl rfl ?_;conv=>whnf
   refine hK _ _ _ ?_
   refine iBn ?_
   refine tHn ?_
   refine cX dCo rfl fun K hK=>?_;conv=>whnf
   refine hK _ _ _ ?_
   refine tHn ?_
   replace h:=bX h
   refine ⟨_,h,?_⟩
   refine gA (aBg 25 0 1) ?_;conv=>whnf
   exact And.intro rfl (And.intro (aLc wkI (aLc (WkR.soN (fun _=>rfl) (by simp)) (aLc (WkR.ptr (fun _=>rfl)) (aLc (WkR.mp (fun _=>rfl)) (aLc (wkr (lsL fun _=>(lsI _ _))) (aLc wkI aLn)))))) (aLc ⟨some _,rfl,iO (enc:=eI) rfl (fun _=>(lsI _ _))⟩ (aLc ⟨some _,rfl,bRc rfl cKn⟩ (aLc ⟨some _,rfl,bRc rfl cKn⟩ (aLc ⟨some _,rfl,bRc rfl cKn⟩ (aLc ⟨some _,rfl,bRc rfl cKn⟩ (aLc ⟨some _,rfl,bRc rfl cKn⟩ (aLc ⟨some _,rfl,bRc rfl cKn⟩ (aLc ⟨some _,rfl,bRc rfl cKn⟩ (aLc ⟨some _,rfl,bRc rfl cKn⟩ (aLc ⟨some _,rfl,kJ rfl ⟨fun _=>rfl,fun _=>rfl,fun _=>rfl,fun _=>rfl,fun _=>rfl,fun _=>rfl,fun _=>rfl,fun _=>rfl,trivial⟩⟩ (aLc ⟨some _,rfl,bE rfl rfl⟩ aLn))))))))))))
  ·refine aD dCo rfl fun K hK=>?_;conv=>whnf
   refine And.intro ⟨by omega,by simp only [List.length_append,List.length_cons,List.length_nil] at *;omega⟩ ?_;conv=>whnf
   refine nlA rfl ?_;conv=>whnf
   refine bKo rfl ?_;conv=>whnf
   refine gKo (jB (j:=2) rfl hj) ?_;conv=>whnf
   refine cI (enc:=eI) (d:=default) (l:=[_]) (f:=fun _=>some ()) (Φ:=fun _=>True) dCo (jC _) rfl rfl rfl ⟨nle rfl,nle rfl,rfl⟩ rfl ⟨⟨rfl,rfl,rfl⟩,trivial⟩ (fun _=>?_);conv=>whnf
   refine bN (enc:=eI) (d:=default) dCo h (.inl rfl) rfl rfl rfl ⟨rfl,nle rfl,nle rfl,nle rfl,rfl⟩ (fun _=>rfl) (.inr (.inr ⟨_,_,rfl,rfl,rfl⟩)) (fun h=>?_);conv=>whnf
   refine And.intro ⟨by omega,by simp only [List.length_append,List.length_cons,List.length_nil] at *;omega⟩ ?_;conv=>whnf
   refine bKo rfl ?_;conv=>whnf
   refine pR (j:=2) (nle rfl) hj rfl rfl rfl rfl ?_;conv=>whnf
   refine hK _ _ _ ?_
   refine cX dCo rfl fun K hK=>?_;conv=>whnf
   refine fH (enc:=eI) dCo rfl rfl ?_;conv=>whnf
   refine hK _ _ _ ?_
   refine iBn ?_
   refine tHn ?_
   refine cX dCo rfl fun K hK=>?_;conv=>whnf
   refine hK _ _ _ ?_
   refine tHn ?_
   replace h:=bX h
   refine ⟨_,h,?_⟩
   refine gA (aBg 25 0 2) ?_;conv=>whnf
   exact And.intro rfl (And.intro (aLc wkI (aLc (WkR.soN (fun _=>rfl) (by simp)) (aLc (WkR.ptr (fun _=>rfl)) (aLc (WkR.mp (fun _=>rfl)) (aLc (wkr (lsL fun _=>(lsI _ _))) (aLc wkI aLn)))))) (aLc ⟨some _,rfl,iO (enc:=eI) rfl (fun _=>(lsI _ _))⟩ (aLc ⟨some _,rfl,bRc rfl cKn⟩ (aLc ⟨some _,rfl,bRc rfl cKn⟩ (aLc ⟨some _,rfl,bRc rfl cKn⟩ (aLc ⟨some _,rfl,bRc rfl cKn⟩ (aLc ⟨some _,rfl,bRc rfl cKn⟩ (aLc ⟨some _,rfl,bRc rfl cKn⟩ (aLc ⟨some _,rfl,bRc rfl cKn⟩ (aLc ⟨some _,rfl,bRc rfl cKn⟩ (aLc ⟨some _,rfl,kJ rfl ⟨fun _=>rfl,fun _=>rfl,fun _=>rfl,fun _=>rfl,fun _=>rfl,fun _=>rfl,fun _=>rfl,fun _=>rfl,trivial⟩⟩ (aLc ⟨some _,rfl,bE rfl rfl⟩ aLn))))))))))))
  ·refine aD dCo rfl fun K hK=>?_;conv=>whnf
   refine And.intro ⟨by omega,by simp only [List.length_append,List.length_cons,List.length_nil] at *;omega⟩ ?_;conv=>whnf
   refine nlA rfl ?_;conv=>whnf
   refine bKo rfl ?_;conv=>whnf
   refine gKo (jB (j:=3) rfl hj) ?_;conv=>whnf
   refine cI (enc:=eI) (d:=default) (l:=[_]) (f:=fun _=>some ()) (Φ:=fun _=>True) dCo (jC _) rfl rfl rfl ⟨nle rfl,nle rfl,rfl⟩ rfl ⟨⟨rfl,rfl,rfl⟩,trivial⟩ (fun _=>?_);conv=>whnf
   refine bN (enc:=eI) (d:=default) dCo h (.inl rfl) rfl rfl rfl ⟨rfl,nle rfl,nle rfl,nle rfl,rfl⟩ (fun _=>rfl) (.inr (.inr ⟨_,_,rfl,rfl,rfl⟩)) (fun h=>?_);conv=>whnf
   refine And.intro ⟨by omega,by simp only [List.length_append,List.length_cons,List.length_nil] at *;omega⟩ ?_;conv=>whnf
   refine bKo rfl ?_;conv=>whnf
   refine pR (j:=3) (nle rfl) hj rfl rfl rfl rfl ?_;conv=>whnf
   refine hK _ _ _ ?_
   refine cX dCo rfl fun K hK=>?_;conv=>whnf
   refine fH (enc:=eI) dCo rfl rfl ?_;conv=>whnf
   refine hK _ _ _ ?_
   refine iBn ?_
   refine tHn ?_
   refine cX dCo rfl fun K hK=>?_;conv=>whnf
   refine hK _ _ _ ?_
   refine tHn ?_
   replace h:=bX h
   refine ⟨_,h,?_⟩
   refine gA (aBg 25 0 3) ?_;conv=>whnf
   exact And.intro rfl (And.intro (aLc wkI (aLc (WkR.soN (fun _=>rfl) (by simp)) (aLc (WkR.ptr (fun _=>rfl)) (aLc (WkR.mp (fun _=>rfl)) (aLc (wkr (lsL fun _=>(lsI _ _))) (aLc wkI aLn)))))) (aLc ⟨some _,rfl,iO (enc:=eI) rfl (fun _=>(lsI _ _))⟩ (aLc ⟨some _,rfl,bRc rfl cKn⟩ (aLc ⟨some _,rfl,bRc rfl cKn⟩ (aLc ⟨some _,rfl,bRc rfl cKn⟩ (aLc ⟨some _,rfl,bRc rfl cKn⟩ (aLc ⟨some _,rfl,bRc rfl cKn⟩ (aLc ⟨some _,rfl,bRc rfl cKn⟩ (aLc ⟨some _,rfl,bRc rfl cKn⟩ (aLc ⟨some _,rfl,bRc rfl cKn⟩ (aLc ⟨some _,rfl,kJ rfl ⟨fun _=>rfl,fun _=>rfl,fun _=>rfl,fun _=>rfl,fun _=>rfl,fun _=>rfl,fun _=>rfl,fun _=>rfl,trivial⟩⟩ (aLc ⟨some _,rfl,bE rfl rfl⟩ aLn))))))))))))
  ·refine aD dCo rfl fun K hK=>?_;conv=>whnf
   refine And.intro ⟨by omega,by simp only [List.length_append,List.length_cons,List.length_nil] at *;omega⟩ ?_;conv=>whnf
   refine nlA rfl ?_;conv=>whnf
   refine bKo rfl ?_;conv=>whnf
   refine gKo (jB (j:=4) rfl hj) ?_;conv=>whnf
   refine cI (enc:=eI) (d:=default) (l:=[_]) (f:=fun _=>some ()) (Φ:=fun _=>True) dCo (jC _) rfl rfl rfl ⟨nle rfl,nle rfl,rfl⟩ rfl ⟨⟨rfl,rfl,rfl⟩,trivial⟩ (fun _=>?_);conv=>whnf
   refine bN (enc:=eI) (d:=default) dCo h (.inl rfl) rfl rfl rfl ⟨rfl,nle rfl,nle rfl,nle rfl,rfl⟩ (fun _=>rfl) (.inr (.inr ⟨_,_,rfl,rfl,rfl⟩)) (fun h=>?_);conv=>whnf
   refine And.intro ⟨by omega,by simp only [List.length_append,List.length_cons,List.length_nil] at *;omega⟩ ?_;conv=>whnf
   refine bKo rfl ?_;conv=>whnf
   refine pR (j:=4) (nle rfl) hj rfl rfl rfl rfl ?_;conv=>whnf
   refine hK _ _ _ ?_
   refine cX dCo rfl fun K hK=>?_;conv=>whnf
   refine fH (enc:=eI) dCo rfl rfl ?_;conv=>whnf
   refine hK _ _ _ ?_
   refine iBn ?_
   refine tHn ?_
   refine cX dCo rfl fun K hK=>?_;conv=>whnf
   refine hK _ _ _ ?_
   refine tHn ?_
   replace h:=bX h
   refine ⟨_,h,?_⟩
   refine gA (aBg 25 0 4) ?_;conv=>whnf
   exact And.intro rfl (And.intro (aLc wkI (aLc (WkR.soN (fun _=>rfl) (by simp)) (aLc (WkR.ptr (fun _=>rfl)) (aLc (WkR.mp (fun _=>rfl)) (aLc (wkr (lsL fun _=>(lsI _ _))) (aLc wkI aLn)))))) (aLc ⟨some _,rfl,iO (enc:=eI) rfl (fun _=>(lsI _ _))⟩ (aLc ⟨some _,rfl,bRc rfl cKn⟩ (aLc ⟨some _,rfl,bRc rfl cKn⟩ (aLc ⟨some _,rfl,bRc rfl cKn⟩ (aLc ⟨some _,rfl,bRc rfl cKn⟩ (aLc ⟨some _,rfl,bRc rfl cKn⟩ (aLc ⟨some _,rfl,bRc rfl cKn⟩ (aLc ⟨some _,rfl,bRc rfl cKn⟩ (aLc ⟨some _,rfl,bRc rfl cKn⟩ (aLc ⟨some _,rfl,kJ rfl ⟨fun _=>rfl,fun _=>rfl,fun _=>rfl,fun _=>rfl,fun _=>rfl,fun _=>rfl,fun _=>rfl,fun _=>rfl,trivial⟩⟩ (aLc ⟨some _,rfl,bE rfl rfl⟩ aLn))))))))))))
  ·refine aD dCo rfl fun K hK=>?_;conv=>whnf
   refine And.intro ⟨by omega,by simp only [List.length_append,List.length_cons,List.length_nil] at *;omega⟩ ?_;conv=>whnf
   refine nlA rfl ?_;conv=>whnf
   refine bKo rfl ?_;conv=>whnf
   refine gKo (jB (j:=5) rfl hj) ?_;conv=>whnf
   refine cI (enc:=eI) (d:=default) (l:=[_]) (f:=fun _=>some ()) (Φ:=fun _=>True) dCo (jC _) rfl rfl rfl ⟨nle rfl,nle rfl,rfl⟩ rfl ⟨⟨rfl,rfl,rfl⟩,trivial⟩ (fun _=>?_);conv=>whnf
   refine bN (enc:=eI) (d:=default) dCo h (.inl rfl) rfl rfl rfl ⟨rfl,nle rfl,nle rfl,nle rfl,rfl⟩ (fun _=>rfl) (.inr (.inr ⟨_,_,rfl,rfl,rfl⟩)) (fun h=>?_);conv=>whnf
   refine And.intro ⟨by omega,by simp only [List.length_append,List.length_cons,List.length_nil] at *;omega⟩ ?_;conv=>whnf
   refine bKo rfl ?_;conv=>whnf
   refine pR (j:=5) (nle rfl) hj rfl rfl rfl rfl ?_;conv=>whnf
   refine hK _ _ _ ?_
   refine cX dCo rfl fun K hK=>?_;conv=>whnf
   refine fH (enc:=eI) dCo rfl rfl ?_;conv=>whnf
   refine hK _ _ _ ?_
   refine iBn ?_
   refine tHn ?_
   refine cX dCo rfl fun K hK=>?_;conv=>whnf
   refine hK _ _ _ ?_
   refine tHn ?_
   replace h:=bX h
   refine ⟨_,h,?_⟩
   refine gA (aBg 25 0 5) ?_;conv=>whnf
   exact And.intro rfl (And.intro (aLc wkI (aLc (WkR.soN (fun _=>rfl) (by simp)) (aLc (WkR.ptr (fun _=>rfl)) (aLc (WkR.mp (fun _=>rfl)) (aLc (wkr (lsL fun _=>(lsI _ _))) (aLc wkI aLn)))))) (aLc ⟨some _,rfl,iO (enc:=eI) rfl (fun _=>(lsI _ _))⟩ (aLc ⟨some _,rfl,bRc rfl cKn⟩ (aLc ⟨some _,rfl,bRc rfl cKn⟩ (aLc ⟨some _,rfl,bRc rfl cKn⟩ (aLc ⟨some _,rfl,bRc rfl cKn⟩ (aLc ⟨some _,rfl,bRc rfl cKn⟩ (aLc ⟨some _,rfl,bRc rfl cKn⟩ (aLc ⟨some _,rfl,bRc rfl cKn⟩ (aLc ⟨some _,rfl,bRc rfl cKn⟩ (aLc ⟨some _,rfl,kJ rfl ⟨fun _=>rfl,fun _=>rfl,fun _=>rfl,fun _=>rfl,fun _=>rfl,fun _=>rfl,fun _=>rfl,fun _=>rfl,trivial⟩⟩ (aLc ⟨some _,rfl,bE rfl rfl⟩ aLn))))))))))))
  ·refine aD dCo rfl fun K hK=>?_;conv=>whnf
   refine And.intro ⟨by omega,by simp only [List.length_append,List.length_cons,List.length_nil] at *;omega⟩ ?_;conv=>whnf
   refine nlA rfl ?_;conv=>whnf
   refine bKo rfl ?_;conv=>whnf
   refine gKo (jB (j:=6) rfl hj) ?_;conv=>whnf
   refine cI (enc:=eI) (d:=default) (l:=[_]) (f:=fun _=>some ()) (Φ:=fun _=>True) dCo (jC _) rfl rfl rfl ⟨nle rfl,nle rfl,rfl⟩ rfl ⟨⟨rfl,rfl,rfl⟩,trivial⟩ (fun _=>?_);conv=>whnf
   refine bN (enc:=eI) (d:=default) dCo h (.inl rfl) rfl rfl rfl ⟨rfl,nle rfl,nle rfl,nle rfl,rfl⟩ (fun _=>rfl) (.inr (.inr ⟨_,_,rfl,rfl,rfl⟩)) (fun h=>?_);conv=>whnf
   refine And.intro ⟨by omega,by simp only [List.length_append,List.length_cons,List.length_nil] at *;omega⟩ ?_;conv=>whnf
   refine bKo rfl ?_;conv=>whnf
   refine pR (j:=6) (nle rfl) hj rfl rfl rfl rfl ?_;conv=>whnf
   refine hK _ _ _ ?_
   refine cX dCo rfl fun K hK=>?_;conv=>whnf
   refine fH (enc:=eI) dCo rfl rfl ?_;conv=>whnf
   refine hK _ _ _ ?_
   refine iBn ?_
   refine tHn ?_
   refine cX dCo rfl fun K hK=>?_;conv=>whnf
   refine hK _ _ _ ?_
   refine tHn ?_
   replace h:=bX h
   refine ⟨_,h,?_⟩
   refine gA (aBg 25 0 6) ?_;conv=>whnf
   exact And.intro rfl (And.intro (aLc wkI (aLc (WkR.soN (fun _=>rfl) (by simp)) (aLc (WkR.ptr (fun _=>rfl)) (aLc (WkR.mp (fun _=>rfl)) (aLc (wkr (lsL fun _=>(lsI _ _))) (aLc wkI aLn)))))) (aLc ⟨some _,rfl,iO (enc:=eI) rfl (fun _=>(lsI _ _))⟩ (aLc ⟨some _,rfl,bRc rfl cKn⟩ (aLc ⟨some _,rfl,bRc rfl cKn⟩ (aLc ⟨some _,rfl,bRc rfl cKn⟩ (aLc ⟨some _,rfl,bRc rfl cKn⟩ (aLc ⟨some _,rfl,bRc rfl cKn⟩ (aLc ⟨some _,rfl,bRc rfl cKn⟩ (aLc ⟨some _,rfl,bRc rfl cKn⟩ (aLc ⟨some _,rfl,bRc rfl cKn⟩ (aLc ⟨some _,rfl,kJ rfl ⟨fun _=>rfl,fun _=>rfl,fun _=>rfl,fun _=>rfl,fun _=>rfl,fun _=>rfl,fun _=>rfl,fun _=>rfl,trivial⟩⟩ (aLc ⟨some _,rfl,bE rfl rfl⟩ aLn))))))))))))
  ·refine aD dCo rfl fun K hK=>?_;conv=>whnf
   refine And.intro ⟨by omega,by simp only [List.length_append,List.length_cons,List.length_nil] at *;omega⟩ ?_;conv=>whnf
   refine nlA rfl ?_;conv=>whnf
   refine bKo rfl ?_;conv=>whnf
   refine gKo (jB (j:=7) rfl hj) ?_;conv=>whnf
   refine cI (enc:=eI) (d:=default) (l:=[_]) (f:=fun _=>some ()) (Φ:=fun _=>True) dCo (jC _) rfl rfl rfl ⟨nle rfl,nle rfl,rfl⟩ rfl ⟨⟨rfl,rfl,rfl⟩,trivial⟩ (fun _=>?_);conv=>whnf
   refine bN (enc:=eI) (d:=default) dCo h (.inl rfl) rfl rfl rfl ⟨rfl,nle rfl,nle rfl,nle rfl,rfl⟩ (fun _=>rfl) (.inr (.inr ⟨_,_,rfl,rfl,rfl⟩)) (fun h=>?_);conv=>whnf
   refine And.intro ⟨by omega,by simp only [List.length_append,List.length_cons,List.length_nil] at *;omega⟩ ?_;conv=>whnf
   refine bKo rfl ?_;conv=>whnf
   refine pR (j:=7) (nle rfl) hj rfl rfl rfl rfl ?_;conv=>whnf
   refine hK _ _ _ ?_
   refine cX dCo rfl fun K hK=>?_;conv=>whnf
   refine fH (enc:=eI) dCo rfl rfl ?_;conv=>whnf
   refine hK _ _ _ ?_
   refine iBn ?_
   refine tHn ?_
   refine cX dCo rfl fun K hK=>?_;conv=>whnf
   refine hK _ _ _ ?_
   refine tHn ?_
   replace h:=bX h
   refine ⟨_,h,?_⟩
   refine gA (aBg 25 0 7) ?_;conv=>whnf
   exact And.intro rfl (And.intro (aLc wkI (aLc (WkR.soN (fun _=>rfl) (by simp)) (aLc (WkR.ptr (fun _=>rfl)) (aLc (WkR.mp (fun _=>rfl)) (aLc (wkr (lsL fun _=>(lsI _ _))) (aLc wkI aLn)))))) (aLc ⟨some _,rfl,iO (enc:=eI) rfl (fun _=>(lsI _ _))⟩ (aLc ⟨some _,rfl,bRc rfl cKn⟩ (aLc ⟨some _,rfl,bRc rfl cKn⟩ (aLc ⟨some _,rfl,bRc rfl cKn⟩ (aLc ⟨some _,rfl,bRc rfl cKn⟩ (aLc ⟨some _,rfl,bRc rfl cKn⟩ (aLc ⟨some _,rfl,bRc rfl cKn⟩ (aLc ⟨some _,rfl,bRc rfl cKn⟩ (aLc ⟨some _,rfl,bRc rfl cKn⟩ (aLc ⟨some _,rfl,kJ rfl ⟨fun _=>rfl,fun _=>rfl,fun _=>rfl,fun _=>rfl,fun _=>rfl,fun _=>rfl,fun _=>rfl,fun _=>rfl,trivial⟩⟩ (aLc ⟨some _,rfl,bE rfl rfl⟩ aLn))))))))))))
 refine hK2 ?_
 refine bK ?_
 refine aY ?_
 refine aY ?_
 refine aX ?_
 replace h:=dE h
 replace h:=dB h
 obtain ⟨h8,h⟩:=aAh h
 refine tHn ?_
 refine aD dCo rfl fun K hK=>?_;conv=>whnf
 refine hK _ _ _ ?_
 refine aFi 10 rfl rfl (by exact h8) ?_
 refine oA 2 (enc:=eL 1 eI default) (e:=26) default (lZ dCo rfl rfl rfl (fun _=>⟨rfl,rfl⟩)) ?_;(conv=>whnf);refine ⟨_,_,rfl,rfl,rfl,?_⟩
 refine aG ?_
 replace h:=aF h
 refine aC dCo fun K hK=>?_;conv=>whnf
 refine hK _ ?_
 cases h
 exact Wk.refl _
theorem tG {T:Tbl} (hT:T 31=aU iN) {args:List AV} {hp:bD} {id:Nat} {k:AV→Prop} {a0:aP} {Φ:(List (List Int))×Int→Prop} (h:W (kM a0) Φ) (hw:WkL args [bS a0]) (hk:∀ y,Φ y→k (.tup [(eL 1 (eL 1 eI default) default) y.1,eI y.2])):dJ T 31 args hp id k:=by
 obtain ⟨y,e,hy⟩:=fE h
 exact bF hT ⟨a0,rfl,kK e rfl⟩ (by exact fQ (lsC (lsL fun _=>(lsL fun _=>(lsI _ _))) (lsC (lsI _ _) lsN))) hw (hk y hy)
def lY (a1:Int) (l0:List Int) (s1:Int):Option (Ct Int Int):=cn (decide (s1<(l0.length:Int))) (gd ((0:Int)≤s1∧s1<(l0.length:Int)) (cn (a1 ==
  (l0.getD (s1).toNat default)) (some (.rt s1)) (some (.nx (wr (s1+1)))))) (some (.bk s1))
def tU (a1:Int) (l0:List Int):Option Int:=bd (lp (lY a1 l0) FU 0) fun c2=>smK c2 (fun s3=>some (-1)) (fun r4=>some r4)
def uA:List AV→List BD→AV→List BD→Prop:=fun args bs r bs'=>∃ a1 l0 y,args=[.so 0 0 l0.length 1,eI a1]∧bs=[.ab (.cells (flE (ceE eI) l0))]∧tU a1 l0=some y∧r=eI y∧bs'=[.ab (.cells (flE (ceE eI) l0))]
theorem zD {T:Tbl} (hT:TOk Tryd.prog T) (hpf:dD T PF):FOk Tryd.prog 84 (pX uA):=by
 refine rL hT hpf Tryd.func84 rfl Tryd.ntmps84 Tryd.results84 (by decide) ?_
 rintro args bs r bs' ⟨a1,l0,y,rfl,rfl,hF,rfl,rfl⟩
 refine ⟨nle rfl,Nat.le_refl _,(lsI _ _),⟨(jM (fun _=>(lsC (lsI _ _) lsN)) _),trivial⟩,⟨(jM (fun _=>(lsC (lsI _ _) lsN)) _),trivial⟩,?_⟩
 have h:W (tU a1 l0) (fun z=>z=y):=kK hF rfl
 rw [tU.eq_1] at h
 refine aD dCo rfl fun K hK=>?_;conv=>whnf
 refine hK _ _ _ ?_
 refine aN ?_
 refine aD dCo rfl fun K hK=>?_;conv=>whnf
 refine hK _ _ _ ?_
 refine aQ ?_
 replace h:=aS h
 refine hU (body:=lY _ _) rfl h [0,1,7] [] [0] [] (fun kl kh kr ids b s=>⟨ofL ([(8,eI s)]++kl),ofH (([]++kh)++([]++kr)),b+64⟩) ?_;(conv=>whnf);refine And.intro ?_ (fun s m h=>dO ?_)
 ·refine bR ?_;conv=>whnf
  exact And.intro rfl (And.intro (aLc wkI (aLc (WkR.so (fun _=>rfl)) (aLc wkI (aLc wkI aLn)))) (aLc ⟨some _,rfl,gL rfl (fun _=>(lsC (lsI _ _) lsN))⟩ aLn))
 replace h:=aS h;rw [lY.eq_1] at h
 refine aD dCo rfl fun K hK=>?_;conv=>whnf
 refine hK _ _ _ ?_
 refine aN ?_
 refine bA fun K1 K2 hK1 hK2=>?_;conv=>whnf
 refine cLk h (fun _ h=>?_) (fun _ h=>?_)
 ·refine hK1 ?_
  refine aL ?_
  refine tHn ?_
  refine aN ?_
  refine aQ ?_
  refine aD dCo rfl fun K hK=>?_;conv=>whnf
  refine hK _ _ _ ?_
  refine aD dCo rfl fun K hK=>?_;conv=>whnf
  refine qD h (rfl) fun hx14 h=>?_;conv=>whnf
  refine nlA rfl ?_;conv=>whnf
  refine bKo rfl ?_;conv=>whnf
  refine qR (enc:=eI) (d:=default) (q:=0) (fun _=>rfl) (rfl) hx14 (nle rfl) rfl ?_;conv=>whnf
  refine hK _ _ _ ?_
  refine bA fun K1 K2 hK1 hK2=>?_;conv=>whnf
  refine cLk h (fun _ h=>?_) (fun _ h=>?_)
  ·refine hK1 ?_
   refine aD dCo rfl fun K hK=>?_;conv=>whnf
   refine hK _ _ _ ?_
   refine aG ?_
   refine bB ?_
   refine aR ?_
   refine aR ?_
   refine bB ?_
   refine aR ?_
   replace h:=iJ h
   replace h:=iK h
   replace h:=aF h
   refine iE dCo fun K hK=>?_;conv=>whnf
   refine hK _ ?_
   cases h
   exact ⟨Wk.refl _,⟨_,rfl,bkW _⟩,trivial⟩
  refine hK2 ?_
  refine aL ?_
  refine iBn ?_
  refine tHn ?_
  refine cX dCo rfl fun K hK=>?_;conv=>whnf
  refine hK _ _ _ ?_
  refine tHn ?_
  replace h:=bX h
  refine ⟨_,h,?_⟩
  refine bR ?_;conv=>whnf
  exact And.intro rfl (And.intro (aLc wkI (aLc (WkR.so (fun _=>rfl)) (aLc wkI (aLc wkI aLn)))) (aLc ⟨some _,rfl,gL rfl (fun _=>(lsC (lsI _ _) lsN))⟩ aLn))
 refine hK2 ?_
 refine bK ?_
 refine aY ?_
 refine aY ?_
 refine aX ?_
 replace h:=dE h
 replace h:=dB h
 refine tHn ?_
 refine aD dCo rfl fun K hK=>?_;conv=>whnf
 refine hK _ _ _ ?_
 refine aG ?_
 replace h:=aF h
 refine iE dCo fun K hK=>?_;conv=>whnf
 refine hK _ ?_
 cases h
 exact ⟨Wk.refl _,⟨_,rfl,bkW _⟩,trivial⟩
def kZ (a1:Int) (l0:List Int):Option Bool:=bd (tU a1 l0) fun y1=>some (decide (y1≥0))
def kY:List AV→List BD→AV→List BD→Prop:=fun args bs r bs'=>∃ a1 l0 y,args=[.so 0 0 l0.length 1,eI a1]∧bs=[.ab (.cells (flE (ceE eI) l0))]∧kZ a1 l0=some y∧r=eB y∧bs'=[.ab (.cells (flE (ceE eI) l0))]
theorem aBs {T:Tbl} (hT:TOk Tryd.prog T) (hpf:dD T PF) (h84:T 84=pX uA):FOk Tryd.prog 67 (pX kY):=by
 refine rL hT hpf Tryd.func67 rfl Tryd.ntmps67 Tryd.results67 (by decide) ?_
 rintro args bs r bs' ⟨a1,l0,y,rfl,rfl,hF,rfl,rfl⟩
 refine ⟨nle rfl,Nat.le_refl _,(lsB _),⟨(jM (fun _=>(lsC (lsI _ _) lsN)) _),trivial⟩,⟨(jM (fun _=>(lsC (lsI _ _) lsN)) _),trivial⟩,?_⟩
 have h:W (kZ a1 l0) (fun z=>z=y):=kK hF rfl
 rw [kZ.eq_1] at h
 refine aD dCo rfl fun K hK=>?_;conv=>whnf
 refine hK _ _ _ ?_
 refine aD dCo rfl fun K hK=>?_;conv=>whnf
 refine dQ (bs:=[.ab _]) (args0:=[.so 0 0 _ 1,_]) h84 [_] h (.cons (aBb rfl) (.cons (rG (Wk.refl _) (lsI _ _)) .nil)) ⟨⟨_,rfl,bkW _⟩,trivial⟩ rfl (nle rfl) (fun y e=>(⟨_,_,_,rfl,rfl,e,rfl,rfl⟩:uA _ _ _ _)) (fun _ h=>?_);conv=>whnf
 refine hK _ _ _ ?_
 refine aG ?_
 replace h:=aF h
 refine iE dCo fun K hK=>?_;conv=>whnf
 refine hK _ ?_
 cases h
 exact ⟨Wk.refl _,⟨_,rfl,bkW _⟩,trivial⟩
def oS (f9002:Int→(Ar 8)→aP→List Int→Option (Option (List Int))) (c1:Int) (c3:Ar 8) (c4:aP) (l0:List Int) (s1:Int):Option (Ct Int (Option (List Int))):=cn (decide (s1<c4.N)) (gd (0≤(l0.getD (wr ((l0.length:Int)-1)).toNat default)∧(l0.getD (wr ((l0.length:Int)-1)).toNat default)<(8:Int)) (gd (0≤s1) (cn ((tK .i64 (vP .i64 (c3.at1 (l0.getD (wr ((l0.length:Int)-1)).toNat default)) s1) 1)==1) (bd (kZ s1 l0) fun y2=>cn (!y2) (ap l0 [s1] fun l3=>bd (f9002 c1 c3 c4 l3) fun y4=>cn y4.isSome (some (.rt y4)) (some (.nx (wr (s1+1))))) (some (.nx (wr (s1+1))))) (some (.nx (wr (s1+1))))))) (some (.bk s1))
def qW (f9002:Int→(Ar 8)→aP→List Int→Option (Option (List Int))) (c1:Int) (c3:Ar 8) (c4:aP) (l0:List Int):Option (Option (List Int)):=gd ((0:Int)≤wr ((l0.length:Int)-1)∧wr ((l0.length:Int)-1)<(l0.length:Int)) (cn ((l0.length:Int)==c1) (gd (0≤(l0.getD (wr ((l0.length:Int)-1)).toNat default)∧(l0.getD (wr ((l0.length:Int)-1)).toNat default)<(8:Int)) (gd ((0:Int)≤0∧0<(l0.length:Int)) (gd (0≤l0.getD (0:Int).toNat default) (cn ((tK .i64 (vP .i64 (c3.at1 (l0.getD (wr ((l0.length:Int)-1)).toNat default)) (l0.getD (0:Int).toNat default)) 1)==1) (some (some l0)) (some none))))) (bd (lp (oS f9002 c1 c3 c4 l0) FU 0) fun c5=>smK c5 (fun s6=>some none) (fun r7=>some r7)))
def nL:Nat→Int→(Ar 8)→aP→List Int→Option (Option (List Int))
 | 0=>fun _ _ _ _=>none
 | k+1=>qW (nL k)
def fX (c1:Int) (c3:Ar 8) (c4:aP) (l0:List Int):Option (List Int)→List BD
 | some f=>[.ab (.cells [eL 1 eI default f]),.fn 66 [.v (.ep [eI c1] 0),.p 0,.v (.ep (cA c3) 0),.v (.ep [eI c4.N,(eL 2 cB default) c4.Pairs] 0),.p 1]]
 | none=>[.ab (.cells [.top]),.fn 66 [.v (.ep [eI c1] 0),.p 0,.v (.ep (cA c3) 0),.v (.ep [eI c4.N,(eL 2 cB default) c4.Pairs] 0),.p 1],.ab (.cells (flE (ceE eI) l0))]
def iA (k:Nat):List AV→List BD→AV→List BD→Prop:=fun args bs r bs'=>∃ c1 c3 c4 l0 y,args=[.so 2 0 l0.length 1,.ep [eI c1] 0,.ptr 0 0,.ep (cA c3) 0,.ep [eI c4.N,(eL 2 cB default) c4.Pairs] 0,.ptr 1 0]∧bs=[.ab (.cells [.top]),.fn 66 [.v (.ep [eI c1] 0),.p 0,.v (.ep (cA c3) 0),.v (.ep [eI c4.N,(eL 2 cB default) c4.Pairs] 0),.p 1],.ab (.cells (flE (ceE eI) l0))]∧nL k c1 c3 c4 l0=some y∧r=eB y.isSome∧bs'=fX c1 c3 c4 l0 y
theorem aDz (k:Nat) {T:Tbl} (hT:TOk Tryd.prog T) (hpf:dD T PF) (h67:T 67=pX kY) (h66:T 66=pX (iA k)):FOk Tryd.prog 66 (pX (iA (k+1))):=by
 refine rL hT hpf Tryd.func66 rfl Tryd.ntmps66 Tryd.results66 (by decide) ?_
 rintro args bs r bs' ⟨c1,c3,c4,l0,y,rfl,rfl,hF,rfl,rfl⟩
 refine ⟨nle rfl,?_,(lsB _),⟨aG0 rP,⟨(lsE (lsC (lsI _ _) lsN)),nle rfl,(lsE (aW _)),(lsE (lsC (lsI _ _) (lsC (lsL fun _=>(aO _)) lsN))),nle rfl,trivial⟩,(jM (fun _=>(lsC (lsI _ _) lsN)) _),trivial⟩,?_,?_⟩
 ·cases y<;>(unfold fX;exact nle rfl)
 ·cases y with
  | none=>unfold fX;exact ⟨aG0 rP,⟨(lsE (lsC (lsI _ _) lsN)),nle rfl,(lsE (aW _)),(lsE (lsC (lsI _ _) (lsC (lsL fun _=>(aO _)) lsN))),nle rfl,trivial⟩,(jM (fun _=>(lsC (lsI _ _) lsN)) _),trivial⟩
  | some f=>unfold fX;exact ⟨aG0 (lsL fun _=>(lsI _ _)),⟨(lsE (lsC (lsI _ _) lsN)),nle rfl,(lsE (aW _)),(lsE (lsC (lsI _ _) (lsC (lsL fun _=>(aO _)) lsN))),nle rfl,trivial⟩,trivial⟩
 have h:W (qW (nL k) c1 c3 c4 l0) (fun z=>z=y):=kK hF rfl
 rw [qW.eq_1] at h
 refine aD dCo rfl fun K hK=>?_;conv=>whnf
 refine hK _ _ _ ?_
 refine aD dCo rfl fun K hK=>?_;conv=>whnf
 refine qD h (rfl) fun hx1 h=>?_;conv=>whnf
 refine nlA rfl ?_;conv=>whnf
 refine bKo rfl ?_;conv=>whnf
 refine qR (enc:=eI) (d:=default) (q:=0) (fun _=>rfl) (rfl) hx1 (nle rfl) rfl ?_;conv=>whnf
 refine hK _ _ _ ?_
 refine aN ?_
 refine aD dCo rfl fun K hK=>?_;conv=>whnf
 refine gKo rfl ?_;conv=>whnf
 refine hK _ _ _ ?_
 refine bA fun K1 K2 hK1 hK2=>?_;conv=>whnf
 refine cLk h (fun _ h=>?_) (fun _ h=>?_)
 ·refine hK1 ?_
  refine aD dCo rfl fun K hK=>?_;conv=>whnf
  refine bKo rfl ?_;conv=>whnf
  refine And.intro rfl (And.intro (nle rfl) (And.intro rfl ?_));conv=>whnf
  refine hK _ _ _ ?_
  refine mQ dCo cV rfl (by kernel_rfl) fun K hK=>?_;conv=>whnf
  refine dG h fun hx2 h=>?_;conv=>whnf
  refine eJ rfl hx2 ?_;conv=>whnf
  refine qD h (rfl) fun hx3 h=>?_;conv=>whnf
  refine nlA rfl ?_;conv=>whnf
  refine bKo rfl ?_;conv=>whnf
  refine qR (enc:=eI) (d:=default) (q:=0) (fun _=>rfl) (rfl) hx3 (nle rfl) rfl ?_;conv=>whnf
  refine dG h fun _ h=>?_;conv=>whnf
  refine hK _ _ _ ?_
  refine aFY h (fun hb h=>?_) (fun hb h=>?_)
  ·refine xQ 2 0 (enc:=eI) (e:=3) default (lZ dCo rfl rfl rfl (fun _=>⟨rfl,rfl⟩)) ?_;(conv=>whnf);refine ⟨_,_,_,(Nat.ne_of_beq_eq_false rfl),rfl,rfl,rfl,rfl,?_⟩;conv=>whnf
   refine aG ?_
   refine aR ?_
   replace h:=aF h
   refine iE dCo fun K hK=>?_;conv=>whnf
   refine hK _ ?_
   cases h
   refine And.intro (aKV hb) ?_;unfold fX;exact ⟨⟨_,rfl,bkW _⟩,rfl,trivial⟩
  refine aG ?_
  refine aR ?_
  replace h:=aF h
  refine iE dCo fun K hK=>?_;conv=>whnf
  refine hK _ ?_
  cases h
  refine And.intro (aKV hb) ?_;unfold fX;exact ⟨⟨_,rfl,aEs (.cons aHQ .nil)⟩,rfl,⟨_,rfl,bkW _⟩,trivial⟩
 refine hK2 ?_
 refine aL ?_
 refine tHn ?_
 refine aN ?_
 refine aD dCo rfl fun K hK=>?_;conv=>whnf
 refine gKo rfl ?_;conv=>whnf
 refine hK _ _ _ ?_
 refine aGr 0 rfl fun m hm=>?_
 refine aQ ?_
 replace h:=aS h
 refine aCd (body:=oS _ _ _ _ _) rfl h [0,3,5,8,31] (fun σ=>aBq σ [0,1]++oJ σ []++rS σ []) (fun σ=>rS σ []++oJ σ []++aBq σ [2]) [] (fun kl kh kr ids b s=>⟨ofL ([(32,eI s)]++kl),ofH (([]++kh)++([]++kr)),b+64⟩) ?_;(conv=>whnf);refine And.intro ?_ (fun s m h=>dO ?_)
 ·refine bR ?_;conv=>whnf
  exact And.intro rfl (And.intro (aLc wkI (aLc (WkR.sl (fun _=>rfl)) (aLc (wkr (lsE (aW _))) (aLc (WkR.ptr (fun _=>rfl)) (aLc wkI (aLc wkI aLn)))))) (aLc ⟨some _,rfl,bRc rfl (cKc (WkR.top _ _) cKn)⟩ (aLc ⟨some _,rfl,bRc rfl (cKc (eZ bL (aM (wkr (lsE (lsC (lsI _ _) lsN))) (aM (WkR.ptr (fun _=>rfl)) (aM (wkr (lsE (aW _))) (aM (wkr (lsE (lsC (lsI _ _) (lsC (lsL fun _=>(aO _)) lsN)))) (aM (WkR.ptr (fun _=>rfl)) bL)))))) cKn)⟩ (aLc ⟨some _,rfl,gL rfl (fun _=>(lsC (lsI _ _) lsN))⟩ aLn))))
 replace h:=aS h;rw [oS.eq_1] at h
 refine aD dCo rfl fun K hK=>?_;conv=>whnf
 refine hK _ _ _ ?_
 refine aN ?_
 refine bA fun K1 K2 hK1 hK2=>?_;conv=>whnf
 refine cLk h (fun _ h=>?_) (fun _ h=>?_)
 ·refine hK1 ?_
  refine aL ?_
  refine tHn ?_
  refine aN ?_
  refine aQ ?_
  refine aD dCo rfl fun K hK=>?_;conv=>whnf
  refine hK _ _ _ ?_
  refine jR (.step 0 (.step 1 (.step 2 (.step 3 (.step 4 (.step 5 (.step 6 (.step 7 (.step 8 (.step 9 (.step 10 (.step 11 (.step 12 (.step 13 (.step 15 (.step 16 (.step 17 (.two 14 18 (.step 18 (.step 19 (.step 20 .nil))) (.step 14 (.step 19 (.step 20 .nil))))))))))))))))))))) dCo cV rfl (by kernel_rfl) fun K hK=>?_;conv=>whnf
  refine dG h fun hx4 h=>?_;conv=>whnf
  refine eJ rfl hx4 ?_;conv=>whnf
  refine dG h fun _ h=>?_;conv=>whnf
  refine cLk h (fun _ h=>?_) (fun _ h=>?_)<;>(conv=>whnf)
  ·refine dQ (bs:=[.ab _]) (args0:=[.so 0 0 _ 1,_]) h67 [_] h (.cons (aDR rfl) (.cons (rG (Wk.refl _) (lsI _ _)) .nil)) ⟨⟨_,rfl,bkW _⟩,trivial⟩ rfl (nle rfl) (fun y e=>(⟨_,_,_,rfl,rfl,e,rfl,rfl⟩:kY _ _ _ _)) (fun _ h=>?_);conv=>whnf
   refine cLk h (fun _ h=>?_) (fun _ h=>?_)<;>(conv=>whnf)
   ·refine cI (enc:=eI) (d:=default) (l:=[_]) (f:=fun _=>some ()) (Φ:=fun _=>True) dCo (jC _) rfl rfl rfl ⟨nle rfl,nle rfl,rfl⟩ rfl ⟨⟨rfl,rfl,rfl⟩,trivial⟩ (fun _=>?_);conv=>whnf
    rcases Nat.lt_or_eq_of_le hm with hmm | hmm
    ·refine And.intro ?_ ?_
     ·refine nlA rfl ?_;conv=>whnf
      refine bKo rfl ?_;conv=>whnf
      refine gKo rfl ?_;conv=>whnf
      refine aEi dCo h rfl rfl rfl ⟨rfl,nle rfl,nle rfl,rfl⟩ rfl rfl hmm (fun h=>?_);conv=>whnf
      refine dQ (bs:=[.ab (.cells [.top]),.fn 66 [.v (.ep [eI _] 0),.p 0,.v (.ep (cA _) 0),.v (.ep [eI _,_] 0),.p 1],.ab _]) (args0:=[.so 2 0 _ 1,_,.ptr 0 0,_,_,.ptr 1 0]) h66 [_,_,_] h (.cons (aDR rfl) (.cons (bW (lsE (lsC (lsI _ _) lsN))) (.cons (eS rfl) (.cons (bW (lsE (aW _))) (.cons (bW (lsE (lsC (lsI _ _) (lsC (lsL fun _=>(aO _)) lsN)))) (.cons (eS rfl) .nil)))))) ⟨⟨_,rfl,bkW _⟩,rfl,⟨_,rfl,bkW _⟩,trivial⟩ rfl (nle rfl) (fun y e=>(⟨_,_,_,_,_,rfl,rfl,e,rfl,rfl⟩:iA _ _ _ _ _)) (fun y h=>?_)
      rcases y with _ | f<;>(conv=>whnf)
      ·refine hK _ _ _ ?_
       refine bA fun K1 K2 hK1 hK2=>?_;conv=>whnf
       refine hK2 ?_
       replace h:=pI h
       refine aL ?_
       refine iBn ?_
       refine tHn ?_
       refine cX dCo rfl fun K hK=>?_;conv=>whnf
       refine hK _ _ _ ?_
       refine tHn ?_
       replace h:=bX h
       refine ⟨_,h,?_⟩
       refine bR ?_;conv=>whnf
       exact And.intro rfl (And.intro (aLc wkI (aLc (WkR.sl (fun _=>rfl)) (aLc (wkr (lsE (aW _))) (aLc (WkR.ptr (fun _=>rfl)) (aLc wkI (aLc wkI aLn)))))) (aLc ⟨some _,rfl,bRc rfl (cKc (WkR.top _ _) cKn)⟩ (aLc ⟨some _,rfl,bRc rfl (cKc (eZ bL (aM (wkr (lsE (lsC (lsI _ _) lsN))) (aM (WkR.ptr (fun _=>rfl)) (aM (wkr (lsE (aW _))) (aM (wkr (lsE (lsC (lsI _ _) (lsC (lsL fun _=>(aO _)) lsN)))) (aM (WkR.ptr (fun _=>rfl)) bL)))))) cKn)⟩ (aLc ⟨some _,rfl,aDl rfl⟩ aLn))))
      refine hK _ _ _ ?_
      refine bA fun K1 K2 hK1 hK2=>?_;conv=>whnf
      refine hK1 ?_
      replace h:=mN h
      refine aD dCo rfl fun K hK=>?_;conv=>whnf
      refine hK _ _ _ ?_
      refine aG ?_
      refine bB ?_
      refine aR ?_
      refine aR ?_
      refine bB ?_
      refine aR ?_
      replace h:=iJ h
      replace h:=iK h
      replace h:=aF h
      refine iE dCo fun K hK=>?_;conv=>whnf
      refine hK _ ?_
      cases h
      refine And.intro (Wk.refl _) ?_;unfold fX;exact ⟨⟨_,rfl,bkW _⟩,rfl,trivial⟩
     ·refine aEi dCo h rfl rfl rfl ⟨rfl,nle rfl,nle rfl,rfl⟩ rfl rfl hmm (fun h=>?_);conv=>whnf
      refine nlA rfl ?_;conv=>whnf
      refine bKo rfl ?_;conv=>whnf
      refine gKo rfl ?_;conv=>whnf
      refine dQ (bs:=[.ab (.cells [.top]),.fn 66 [.v (.ep [eI _] 0),.p 0,.v (.ep (cA _) 0),.v (.ep [eI _,_] 0),.p 1],.ab _]) (args0:=[.so 2 0 _ 1,_,.ptr 0 0,_,_,.ptr 1 0]) h66 [_,_,_] h (.cons (aDR rfl) (.cons (bW (lsE (lsC (lsI _ _) lsN))) (.cons (eS rfl) (.cons (bW (lsE (aW _))) (.cons (bW (lsE (lsC (lsI _ _) (lsC (lsL fun _=>(aO _)) lsN)))) (.cons (eS rfl) .nil)))))) ⟨⟨_,rfl,bkW _⟩,rfl,⟨_,rfl,bkW _⟩,trivial⟩ rfl (nle rfl) (fun y e=>(⟨_,_,_,_,_,rfl,rfl,e,rfl,rfl⟩:iA _ _ _ _ _)) (fun y h=>?_)
      rcases y with _ | f<;>(conv=>whnf)
      ·refine hK _ _ _ ?_
       refine bA fun K1 K2 hK1 hK2=>?_;conv=>whnf
       refine hK2 ?_
       replace h:=pI h
       refine aL ?_
       refine iBn ?_
       refine tHn ?_
       refine cX dCo rfl fun K hK=>?_;conv=>whnf
       refine hK _ _ _ ?_
       refine tHn ?_
       replace h:=bX h
       refine ⟨_,h,?_⟩
       refine bR ?_;conv=>whnf
       exact And.intro rfl (And.intro (aLc wkI (aLc (WkR.sl (fun _=>rfl)) (aLc (wkr (lsE (aW _))) (aLc (WkR.ptr (fun _=>rfl)) (aLc wkI (aLc wkI aLn)))))) (aLc ⟨some _,rfl,bRc rfl (cKc (WkR.top _ _) cKn)⟩ (aLc ⟨some _,rfl,bRc rfl (cKc (eZ bL (aM (wkr (lsE (lsC (lsI _ _) lsN))) (aM (WkR.ptr (fun _=>rfl)) (aM (wkr (lsE (aW _))) (aM (wkr (lsE (lsC (lsI _ _) (lsC (lsL fun _=>(aO _)) lsN)))) (aM (WkR.ptr (fun _=>rfl)) bL)))))) cKn)⟩ (aLc ⟨some _,rfl,aDl rfl⟩ aLn))))
      refine hK _ _ _ ?_
      refine bA fun K1 K2 hK1 hK2=>?_;conv=>whnf
      refine hK1 ?_
      replace h:=mN h
      refine aD dCo rfl fun K hK=>?_;conv=>whnf
      refine hK _ _ _ ?_
      refine aG ?_
      refine bB ?_
      refine aR ?_
      refine aR ?_
      refine bB ?_
      refine aR ?_
      replace h:=iJ h
      replace h:=iK h
      replace h:=aF h
      refine iE dCo fun K hK=>?_;conv=>whnf
      refine hK _ ?_
      cases h
      refine And.intro (Wk.refl _) ?_;unfold fX;exact ⟨⟨_,rfl,bkW _⟩,rfl,trivial⟩
    replace hmm:=hmm.symm
    refine And.intro ?_ ?_
    ·refine nlA rfl ?_;conv=>whnf
     refine bKo rfl ?_;conv=>whnf
     refine gKo rfl ?_;conv=>whnf
     refine aEj dCo h rfl rfl rfl ⟨rfl,nle rfl,nle rfl,rfl⟩ rfl rfl hmm (fun h=>?_);conv=>whnf
     refine dQ (bs:=[.ab (.cells [.top]),.fn 66 [.v (.ep [eI _] 0),.p 0,.v (.ep (cA _) 0),.v (.ep [eI _,_] 0),.p 1],.ab _]) (args0:=[.so 2 0 _ 1,_,.ptr 0 0,_,_,.ptr 1 0]) h66 [_,_,_] h (.cons (aBb rfl) (.cons (bW (lsE (lsC (lsI _ _) lsN))) (.cons (eS rfl) (.cons (bW (lsE (aW _))) (.cons (bW (lsE (lsC (lsI _ _) (lsC (lsL fun _=>(aO _)) lsN)))) (.cons (eS rfl) .nil)))))) ⟨⟨_,rfl,bkW _⟩,rfl,⟨_,rfl,bkW _⟩,trivial⟩ rfl (nle rfl) (fun y e=>(⟨_,_,_,_,_,rfl,rfl,e,rfl,rfl⟩:iA _ _ _ _ _)) (fun y h=>?_)
     rcases y with _ | f<;>(conv=>whnf)
     ·refine hK _ _ _ ?_
      refine bA fun K1 K2 hK1 hK2=>?_;conv=>whnf
      refine hK2 ?_
      replace h:=pI h
      refine aL ?_
      refine iBn ?_
      refine tHn ?_
      refine cX dCo rfl fun K hK=>?_;conv=>whnf
      refine hK _ _ _ ?_
      refine tHn ?_
      replace h:=bX h
      refine ⟨_,h,?_⟩
      refine bR ?_;conv=>whnf
      exact And.intro rfl (And.intro (aLc wkI (aLc (WkR.sl (fun _=>rfl)) (aLc (wkr (lsE (aW _))) (aLc (WkR.ptr (fun _=>rfl)) (aLc wkI (aLc wkI aLn)))))) (aLc ⟨some _,rfl,bRc rfl (cKc (WkR.top _ _) cKn)⟩ (aLc ⟨some _,rfl,bRc rfl (cKc (eZ bL (aM (wkr (lsE (lsC (lsI _ _) lsN))) (aM (WkR.ptr (fun _=>rfl)) (aM (wkr (lsE (aW _))) (aM (wkr (lsE (lsC (lsI _ _) (lsC (lsL fun _=>(aO _)) lsN)))) (aM (WkR.ptr (fun _=>rfl)) bL)))))) cKn)⟩ (aLc ⟨some _,rfl,gL rfl (fun _=>(lsC (lsI _ _) lsN))⟩ aLn))))
     refine hK _ _ _ ?_
     refine bA fun K1 K2 hK1 hK2=>?_;conv=>whnf
     refine hK1 ?_
     replace h:=mN h
     refine aD dCo rfl fun K hK=>?_;conv=>whnf
     refine hK _ _ _ ?_
     refine aG ?_
     refine bB ?_
     refine aR ?_
     refine aR ?_
     refine bB ?_
     refine aR ?_
     replace h:=iJ h
     replace h:=iK h
     replace h:=aF h
     refine iE dCo fun K hK=>?_;conv=>whnf
     refine hK _ ?_
     cases h
     refine And.intro (Wk.refl _) ?_;unfold fX;exact ⟨⟨_,rfl,bkW _⟩,rfl,trivial⟩
    ·refine aEj dCo h rfl rfl rfl ⟨rfl,nle rfl,nle rfl,rfl⟩ rfl rfl hmm (fun h=>?_);conv=>whnf
     refine nlA rfl ?_;conv=>whnf
     refine bKo rfl ?_;conv=>whnf
     refine gKo rfl ?_;conv=>whnf
     refine dQ (bs:=[.ab (.cells [.top]),.fn 66 [.v (.ep [eI _] 0),.p 0,.v (.ep (cA _) 0),.v (.ep [eI _,_] 0),.p 1],.ab _]) (args0:=[.so 2 0 _ 1,_,.ptr 0 0,_,_,.ptr 1 0]) h66 [_,_,_] h (.cons (aBb rfl) (.cons (bW (lsE (lsC (lsI _ _) lsN))) (.cons (eS rfl) (.cons (bW (lsE (aW _))) (.cons (bW (lsE (lsC (lsI _ _) (lsC (lsL fun _=>(aO _)) lsN)))) (.cons (eS rfl) .nil)))))) ⟨⟨_,rfl,bkW _⟩,rfl,⟨_,rfl,bkW _⟩,trivial⟩ rfl (nle rfl) (fun y e=>(⟨_,_,_,_,_,rfl,rfl,e,rfl,rfl⟩:iA _ _ _ _ _)) (fun y h=>?_)
     rcases y with _ | f<;>(conv=>whnf)
     ·refine hK _ _ _ ?_
      refine bA fun K1 K2 hK1 hK2=>?_;conv=>whnf
      refine hK2 ?_
      replace h:=pI h
      refine aL ?_
      refine iBn ?_
      refine tHn ?_
      refine cX dCo rfl fun K hK=>?_;conv=>whnf
      refine hK _ _ _ ?_
      refine tHn ?_
      replace h:=bX h
      refine ⟨_,h,?_⟩
      refine bR ?_;conv=>whnf
      exact And.intro rfl (And.intro (aLc wkI (aLc (WkR.sl (fun _=>rfl)) (aLc (wkr (lsE (aW _))) (aLc (WkR.ptr (fun _=>rfl)) (aLc wkI (aLc wkI aLn)))))) (aLc ⟨some _,rfl,bRc rfl (cKc (WkR.top _ _) cKn)⟩ (aLc ⟨some _,rfl,bRc rfl (cKc (eZ bL (aM (wkr (lsE (lsC (lsI _ _) lsN))) (aM (WkR.ptr (fun _=>rfl)) (aM (wkr (lsE (aW _))) (aM (wkr (lsE (lsC (lsI _ _) (lsC (lsL fun _=>(aO _)) lsN)))) (aM (WkR.ptr (fun _=>rfl)) bL)))))) cKn)⟩ (aLc ⟨some _,rfl,gL rfl (fun _=>(lsC (lsI _ _) lsN))⟩ aLn))))
     refine hK _ _ _ ?_
     refine bA fun K1 K2 hK1 hK2=>?_;conv=>whnf
     refine hK1 ?_
     replace h:=mN h
     refine aD dCo rfl fun K hK=>?_;conv=>whnf
     refine hK _ _ _ ?_
     refine aG ?_
     refine bB ?_
     refine aR ?_
     refine aR ?_
     refine bB ?_
     refine aR ?_
     replace h:=iJ h
     replace h:=iK h
     replace h:=aF h
     refine iE dCo fun K hK=>?_;conv=>whnf
     refine hK _ ?_
     cases h
     refine And.intro (Wk.refl _) ?_;unfold fX;exact ⟨⟨_,rfl,bkW _⟩,rfl,trivial⟩
   refine And.intro ?_ ?_
   ·refine hK _ _ _ ?_
    refine bA fun K1 K2 hK1 hK2=>?_;conv=>whnf
    refine hK2 ?_
    refine aL ?_
    refine iBn ?_
    refine tHn ?_
    refine cX dCo rfl fun K hK=>?_;conv=>whnf
    refine hK _ _ _ ?_
    refine tHn ?_
    replace h:=bX h
    refine ⟨_,h,?_⟩
    refine bR ?_;conv=>whnf
    exact And.intro rfl (And.intro (aLc wkI (aLc (WkR.sl (fun _=>rfl)) (aLc (wkr (lsE (aW _))) (aLc (WkR.ptr (fun _=>rfl)) (aLc wkI (aLc wkI aLn)))))) (aLc ⟨some _,rfl,bRc rfl (cKc (WkR.top _ _) cKn)⟩ (aLc ⟨some _,rfl,bRc rfl (cKc (eZ bL (aM (wkr (lsE (lsC (lsI _ _) lsN))) (aM (WkR.ptr (fun _=>rfl)) (aM (wkr (lsE (aW _))) (aM (wkr (lsE (lsC (lsI _ _) (lsC (lsL fun _=>(aO _)) lsN)))) (aM (WkR.ptr (fun _=>rfl)) bL)))))) cKn)⟩ (aLc ⟨some _,rfl,gL rfl (fun _=>(lsC (lsI _ _) lsN))⟩ aLn))))
   ·refine hK _ _ _ ?_
    refine bA fun K1 K2 hK1 hK2=>?_;conv=>whnf
    refine hK2 ?_
    refine aL ?_
    refine iBn ?_
    refine tHn ?_
    refine cX dCo rfl fun K hK=>?_;conv=>whnf
    refine hK _ _ _ ?_
    refine tHn ?_
    replace h:=bX h
    refine ⟨_,h,?_⟩
    refine bR ?_;conv=>whnf
    exact And.intro rfl (And.intro (aLc wkI (aLc (WkR.sl (fun _=>rfl)) (aLc (wkr (lsE (aW _))) (aLc (WkR.ptr (fun _=>rfl)) (aLc wkI (aLc wkI aLn)))))) (aLc ⟨some _,rfl,bRc rfl (cKc (WkR.top _ _) cKn)⟩ (aLc ⟨some _,rfl,bRc rfl (cKc (eZ bL (aM (wkr (lsE (lsC (lsI _ _) lsN))) (aM (WkR.ptr (fun _=>rfl)) (aM (wkr (lsE (aW _))) (aM (wkr (lsE (lsC (lsI _ _) (lsC (lsL fun _=>(aO _)) lsN)))) (aM (WkR.ptr (fun _=>rfl)) bL)))))) cKn)⟩ (aLc ⟨some _,rfl,gL rfl (fun _=>(lsC (lsI _ _) lsN))⟩ aLn))))
  refine And.intro ?_ ?_
  ·refine hK _ _ _ ?_
   refine bA fun K1 K2 hK1 hK2=>?_;conv=>whnf
   refine hK2 ?_
   refine aL ?_
   refine iBn ?_
   refine tHn ?_
   refine cX dCo rfl fun K hK=>?_;conv=>whnf
   refine hK _ _ _ ?_
   refine tHn ?_
   replace h:=bX h
   refine ⟨_,h,?_⟩
   refine bR ?_;conv=>whnf
   exact And.intro rfl (And.intro (aLc wkI (aLc (WkR.sl (fun _=>rfl)) (aLc (wkr (lsE (aW _))) (aLc (WkR.ptr (fun _=>rfl)) (aLc wkI (aLc wkI aLn)))))) (aLc ⟨some _,rfl,bRc rfl (cKc (WkR.top _ _) cKn)⟩ (aLc ⟨some _,rfl,bRc rfl (cKc (eZ bL (aM (wkr (lsE (lsC (lsI _ _) lsN))) (aM (WkR.ptr (fun _=>rfl)) (aM (wkr (lsE (aW _))) (aM (wkr (lsE (lsC (lsI _ _) (lsC (lsL fun _=>(aO _)) lsN)))) (aM (WkR.ptr (fun _=>rfl)) bL)))))) cKn)⟩ (aLc ⟨some _,rfl,gL rfl (fun _=>(lsC (lsI _ _) lsN))⟩ aLn))))
  ·refine hK _ _ _ ?_
   refine bA fun K1 K2 hK1 hK2=>?_;conv=>whnf
   refine hK2 ?_
   refine aL ?_
   refine iBn ?_
   refine tHn ?_
   refine cX dCo rfl fun K hK=>?_;conv=>whnf
   refine hK _ _ _ ?_
   refine tHn ?_
   replace h:=bX h
   refine ⟨_,h,?_⟩
   refine bR ?_;conv=>whnf
   exact And.intro rfl (And.intro (aLc wkI (aLc (WkR.sl (fun _=>rfl)) (aLc (wkr (lsE (aW _))) (aLc (WkR.ptr (fun _=>rfl)) (aLc wkI (aLc wkI aLn)))))) (aLc ⟨some _,rfl,bRc rfl (cKc (WkR.top _ _) cKn)⟩ (aLc ⟨some _,rfl,bRc rfl (cKc (eZ bL (aM (wkr (lsE (lsC (lsI _ _) lsN))) (aM (WkR.ptr (fun _=>rfl)) (aM (wkr (lsE (aW _))) (aM (wkr (lsE (lsC (lsI _ _) (lsC (lsL fun _=>(aO _)) lsN)))) (aM (WkR.ptr (fun _=>rfl)) bL)))))) cKn)⟩ (aLc ⟨some _,rfl,gL rfl (fun _=>(lsC (lsI _ _) lsN))⟩ aLn))))
 refine hK2 ?_
 refine bK ?_
 refine aY ?_
 refine aY ?_
 refine aX ?_
 replace h:=dE h
 replace h:=dB h
 refine tHn ?_
 refine aD dCo rfl fun K hK=>?_;conv=>whnf
 refine hK _ _ _ ?_
 refine aG ?_
 replace h:=aF h
 refine iE dCo fun K hK=>?_;conv=>whnf
 refine hK _ ?_
 cases h
 refine And.intro (Wk.refl _) ?_;unfold fX;exact ⟨⟨_,rfl,bkW _⟩,rfl,⟨_,rfl,bkW _⟩,trivial⟩
theorem aDb {T:Tbl} (hT:TOk Tryd.prog T) (hpf:dD T PF) (h67:T 67=pX kY):FOk Tryd.prog 66 (pX (iA 10)):=
 tQ (S:=iA) hT hpf (by decide) Tryd.func66 rfl (by decide) (by rintro a b c d ⟨c1,c3,c4,l0,y,-,-,h,-⟩;cases h) (fun k T' hT' hpf' hne h=>aDz k hT' hpf' ((hne 67 (by decide)).trans h67) h) 10
def gP (a0:aP) (s6:Int×(Ar 8)) (s8:Int) (s9:Int):Option (Ct Int ((List Int)×Bool)):=cn (decide (s9<a0.N)) (lt ([s9]:List Int) fun l10=>
  bd (nL 10 s8 s6.2 a0 l10) fun y11=>cn y11.isSome (gd ((y11.getD []).length≤1048576) (lt (y11.getD []) fun m12=>
  some (.rt (m12,true)))) (some (.nx (wr (s9+1))))) (some (.bk s9))
def gU (a0:aP) (s6:Int×(Ar 8)) (s8:Int):Option (Ct Int ((List Int)×Bool)):=cn (decide (s8≤a0.N)) (bd (lp (gP a0 s6 s8) FU 0) fun c13=>
  smK c13 (fun s14=>some (.nx (wr (s8+1)))) (fun r15=>some (.rt r15))) (some (.bk s8))
  def fS (a0:aP) (s2:Int×(Ar 8)):Option (Ct (Int×(Ar 8)) ((List Int)×Bool)):=cn (decide (s2.1<(a0.Pairs.length:Int))) (ix a0.Pairs default s2.1 fun e3=>
  gd (0≤e3.1∧e3.1<(8:Int)) (gd (0≤e3.2) (gd (0≤e3.1∧e3.1<(8:Int)) (let m4:=s2.2.st1 e3.1 (bor .i64 (s2.2.at1 e3.1) (aD5 .i64 1 e3.2));
  some (.nx ((wr (s2.1+1)),m4)))))) (some (.bk (s2.1,s2.2)))
def cS (a0:aP):Option ((List Int)×Bool):=bd (cD a0) fun y1=>
  cn (!y1) (some ([],false)) (bd (lp (fS a0) FU (0,(Ar.zero 8))) fun c5=>smK c5 (fun s6=>bd (lp (gU a0 s6) FU 2) fun c16=>smK c16 (fun s17=>
  some ([],false)) (fun r18=>some r18)) (fun r7=>some r7))
def gI:List AV→AV→Prop:=fun args r=>∃ a0,args=[bS a0]∧W (cS a0) fun y=>r=(.tup [(eL 1 eI default) y.1,eB y.2])
theorem vQ {T:Tbl} (hT:TOk Tryd.prog T) (hpf:dD T PF) (h33:T 33=aU eC) (h60:T 60=wU 1 eI default) (h66:T 66=pX (iA 10)):FOk Tryd.prog 32 (aU gI):=by
 refine bO hT hpf Tryd.func32 rfl Tryd.ntmps32 Tryd.results32 (by decide) ?_
 rintro args r ⟨a0,rfl,h⟩
 refine ⟨nle rfl,?_,?_⟩
 ·exact (lsC (cO _) lsN)
 rw [cS.eq_1] at h
 refine aD dCo rfl fun K hK=>?_;conv=>whnf
 refine hK _ _ _ ?_
 refine aN ?_
 refine aD dCo rfl fun K hK=>?_;conv=>whnf
 refine nlA rfl ?_;conv=>whnf
 refine bKo rfl ?_;conv=>whnf
 refine nlA rfl ?_;conv=>whnf
 replace h:=aS h
 refine aE h33 h (WkL.refl _) (fun _ h=>?_);conv=>whnf
 refine hK _ _ _ ?_
 refine bA fun K1 K2 hK1 hK2=>?_;conv=>whnf
 refine cLk h (fun _ h=>?_) (fun _ h=>?_)
 ·refine hK1 ?_
  refine aD dCo rfl fun K hK=>?_;conv=>whnf
  refine hK _ _ _ ?_
  refine aG ?_
  refine aR ?_
  replace h:=aF h
  refine aC dCo fun K hK=>?_;conv=>whnf
  refine hK _ ?_
  cases h
  exact oM (aA kI (aA (Wk.refl _) aB))
 refine hK2 ?_
 refine aL ?_
 refine tHn ?_
 refine aD dCo rfl fun K hK=>?_;conv=>whnf
 refine hK _ _ _ ?_
 refine aN ?_
 refine aD dCo rfl fun K hK=>?_;conv=>whnf
 refine nlA rfl ?_;conv=>whnf
 refine bKo rfl ?_;conv=>whnf
 refine gKo rfl ?_;conv=>whnf
 refine hK _ _ _ ?_
 refine aQ ?_
 replace h:=aS h
 refine hU (body:=fS _) rfl h [1,4,15,16] [1] [] [4] (fun kl kh kr ids b s=>⟨ofL ([(17,eI s.1)]++kl),ofH (([]++kh)++([(aAq ids 0,.cells (cA s.2))]++kr)),b+128⟩) ?_;(conv=>whnf);refine And.intro ?_ (fun s m h=>dO ?_)
 ·refine bR ?_;conv=>whnf
  exact And.intro rfl (And.intro (aLc wkI (aLc (WkR.ptr (fun _=>rfl)) (aLc (WkR.ptr (fun _=>rfl)) (aLc (wkr (lsL fun _=>(aO _))) (aLc wkI aLn))))) (aLc ⟨some _,rfl,bRc rfl (cKc wkI (cKc (wkr (lsL fun _=>(aO _))) cKn))⟩ (aLc ⟨some _,rfl,bE (x:=(Ar.zero 8)) rfl rfl⟩ aLn)))
 replace h:=aS h;rw [fS.eq_1] at h
 refine aD dCo rfl fun K hK=>?_;conv=>whnf
 refine hK _ _ _ ?_
 refine aN ?_
 refine bA fun K1 K2 hK1 hK2=>?_;conv=>whnf
 refine cLk h (fun _ h=>?_) (fun _ h=>?_)
 ·refine hK1 ?_
  refine aL ?_
  refine tHn ?_
  refine aN ?_
  refine aQ ?_
  refine aD dCo rfl fun K hK=>?_;conv=>whnf
  refine eQ h fun _ h=>?_;conv=>whnf
  refine nlA rfl ?_;conv=>whnf
  refine bKo rfl ?_;conv=>whnf
  refine And.intro rfl (And.intro (nle rfl) (And.intro rfl ?_));conv=>whnf
  refine hK _ _ _ ?_
  refine aAs dCo cV rfl (by kernel_rfl) fun K hK=>?_;conv=>whnf
  refine And.intro (by decide) ?_;conv=>whnf
  refine nlA rfl ?_;conv=>whnf
  refine bKo rfl ?_;conv=>whnf
  refine gKo rfl ?_;conv=>whnf
  refine dG h fun hx27 h=>?_;conv=>whnf
  refine nlA rfl ?_;conv=>whnf
  refine bKo rfl ?_;conv=>whnf
  refine eJ rfl hx27 ?_;conv=>whnf
  refine And.intro (by decide) ?_;conv=>whnf
  refine nlA rfl ?_;conv=>whnf
  refine bKo rfl ?_;conv=>whnf
  refine gKo rfl ?_;conv=>whnf
  refine dG h fun _ h=>?_;conv=>whnf
  refine dG h fun hx28 h=>?_;conv=>whnf
  refine bKo rfl ?_;conv=>whnf
  refine wJ rfl hx28 rfl rfl ?_;conv=>whnf
  refine hK _ _ _ ?_
  refine iBn ?_
  refine tHn ?_
  refine cX dCo rfl fun K hK=>?_;conv=>whnf
  refine hK _ _ _ ?_
  refine tHn ?_
  replace h:=bX h
  refine ⟨_,h,?_⟩
  refine bR ?_;conv=>whnf
  exact And.intro rfl (And.intro (aLc wkI (aLc (WkR.ptr (fun _=>rfl)) (aLc (WkR.ptr (fun _=>rfl)) (aLc (wkr (lsL fun _=>(aO _))) (aLc wkI aLn))))) (aLc ⟨some _,rfl,bRc rfl (cKc wkI (cKc (wkr (lsL fun _=>(aO _))) cKn))⟩ (aLc ⟨some _,rfl,bE rfl rfl⟩ aLn)))
 refine hK2 ?_
 refine bK ?_
 refine aY ?_
 refine aY ?_
 refine aX ?_
 replace h:=dE h
 replace h:=dB h
 refine tHn ?_
 refine aN ?_
 refine aD dCo rfl fun K hK=>?_;conv=>whnf
 refine bKo rfl ?_;conv=>whnf
 refine And.intro rfl (And.intro (nle rfl) (And.intro rfl ?_));conv=>whnf
 refine hK _ _ _ ?_
 refine lH 1 ?_;(conv=>whnf);refine ⟨_,rfl,?_⟩
 refine lH 4 ?_;(conv=>whnf);refine ⟨_,rfl,?_⟩
 refine aQ ?_
 replace h:=aS h
 refine fP (body:=gU _ _) rfl h [1,4,7] [] [7] (fun kl kh ids b s=>⟨ofL ([]++kl),ofH ([(aAq ids 0,.cells [eI s])]++kh),b+64⟩) ?_;(conv=>whnf);refine And.intro ?_ (fun s m h=>dO ?_)
 ·refine bI ?_;conv=>whnf
  exact And.intro rfl (And.intro (aLc (wkr (lsE (lsC (lsI _ _) (lsC (lsL fun _=>(aO _)) lsN)))) (aLc (wkr (lsE (aW _))) (aLc (WkR.ptr (fun _=>rfl)) aLn))) (aLc ⟨some _,rfl,bRc rfl (cKc wkI cKn)⟩ aLn))
 replace h:=aS h;rw [gU.eq_1] at h
 refine aN ?_
 refine aD dCo rfl fun K hK=>?_;conv=>whnf
 refine nlA rfl ?_;conv=>whnf
 refine bKo rfl ?_;conv=>whnf
 refine gKo rfl ?_;conv=>whnf
 refine gKo rfl ?_;conv=>whnf
 refine hK _ _ _ ?_
 refine bA fun K1 K2 hK1 hK2=>?_;conv=>whnf
 refine cLk h (fun _ h=>?_) (fun _ h=>?_)
 ·refine hK1 ?_
  refine aL ?_
  refine tHn ?_
  refine aN ?_
  refine aQ ?_
  refine aD dCo rfl fun K hK=>?_;conv=>whnf
  refine hK _ _ _ ?_
  refine aD dCo rfl fun K hK=>?_;conv=>whnf
  refine hK _ _ _ ?_
  refine lH 7 ?_;(conv=>whnf);refine ⟨_,rfl,?_⟩
  refine aD dCo rfl fun K hK=>?_;conv=>whnf
  refine bKo rfl ?_;conv=>whnf
  refine And.intro rfl (And.intro (nle rfl) (And.intro rfl ?_));conv=>whnf
  refine hK _ _ _ ?_
  refine aGM 9 rfl rfl ?_
  refine aD dCo rfl fun K hK=>?_;conv=>whnf
  refine gKo rfl ?_;conv=>whnf
  refine hK _ _ _ ?_
  refine aQ ?_
  replace h:=aS h
  refine fP (body:=gP _ _ _) rfl h [1,4,7,8,9,39] [8,9] [] (fun kl kh ids b s=>⟨ofL ([(40,eI s)]++kl),ofH ([]++kh),b+64⟩) ?_;(conv=>whnf);refine And.intro ?_ (fun s m h=>dO ?_)
  ·refine bI ?_;conv=>whnf
   exact And.intro rfl (And.intro (aLc wkI (aLc (wkr (lsE (lsC (lsI _ _) (lsC (lsL fun _=>(aO _)) lsN)))) (aLc (wkr (lsE (aW _))) (aLc (wkr (lsE (lsC (lsI _ _) lsN))) (aLc (WkR.ptr (fun _=>rfl)) (aLc (WkR.ptr (fun _=>rfl)) (aLc wkI aLn))))))) (aLc ⟨some _,rfl,bRc rfl (cKc (eZ bL (aM (wkr (lsE (lsC (lsI _ _) lsN))) (aM (WkR.ptr (fun _=>rfl)) (aM (wkr (lsE (aW _))) (aM (wkr (lsE (lsC (lsI _ _) (lsC (lsL fun _=>(aO _)) lsN)))) (aM (WkR.ptr (fun _=>rfl)) bL)))))) cKn)⟩ (aLc ⟨some _,rfl,bRc rfl (cKc (WkR.top _ _) cKn)⟩ aLn)))
  replace h:=aS h;rw [gP.eq_1] at h
  refine aD dCo rfl fun K hK=>?_;conv=>whnf
  refine hK _ _ _ ?_
  refine aN ?_
  refine bA fun K1 K2 hK1 hK2=>?_;conv=>whnf
  refine cLk h (fun _ h=>?_) (fun _ h=>?_)
  ·refine hK1 ?_
   refine aL ?_
   refine tHn ?_
   refine aN ?_
   refine aQ ?_
   refine aD dCo rfl fun K hK=>?_;conv=>whnf
   refine hK _ _ _ ?_
   refine aD dCo rfl fun K hK=>?_;conv=>whnf
   refine nlA rfl ?_;conv=>whnf
   refine bKo rfl ?_;conv=>whnf
   refine gKo rfl ?_;conv=>whnf
   refine aHA (enc:=eI) dCo h rfl rfl rfl ⟨nle rfl,nle rfl,rfl⟩ rfl (aA (Wk.refl _) aB) (fun h=>?_);conv=>whnf
   refine dQ (bs:=[.ab (.cells [.top]),.fn 66 [.v (.ep [eI _] 0),.p 0,.v (.ep (cA _) 0),.v (.ep [eI _,_] 0),.p 1],.ab _]) (args0:=[.so 2 0 _ 1,_,.ptr 0 0,_,_,.ptr 1 0]) h66 [_,_,_] h (.cons (aBb rfl) (.cons (bW (lsE (lsC (lsI _ _) lsN))) (.cons (eS rfl) (.cons (bW (lsE (aW _))) (.cons (bW (lsE (lsC (lsI _ _) (lsC (lsL fun _=>(aO _)) lsN)))) (.cons (eS rfl) .nil)))))) ⟨⟨_,rfl,bkW _⟩,rfl,⟨_,rfl,bkW _⟩,trivial⟩ rfl (nle rfl) (fun y e=>(⟨_,_,_,_,_,rfl,rfl,e,rfl,rfl⟩:iA 10 _ _ _ _)) (fun y h=>?_)
   rcases y with _ | f<;>(conv=>whnf)
   ·replace h:=pI h
    refine hK _ _ _ ?_
    refine bA fun K1 K2 hK1 hK2=>?_;conv=>whnf
    refine hK2 ?_
    refine aL ?_
    refine iBn ?_
    refine tHn ?_
    refine cX dCo rfl fun K hK=>?_;conv=>whnf
    refine hK _ _ _ ?_
    refine tHn ?_
    replace h:=bX h
    refine ⟨_,h,?_⟩
    refine bI ?_;conv=>whnf
    exact And.intro rfl (And.intro (aLc wkI (aLc (wkr (lsE (lsC (lsI _ _) (lsC (lsL fun _=>(aO _)) lsN)))) (aLc (wkr (lsE (aW _))) (aLc (wkr (lsE (lsC (lsI _ _) lsN))) (aLc (WkR.ptr (fun _=>rfl)) (aLc (WkR.ptr (fun _=>rfl)) (aLc wkI aLn))))))) (aLc ⟨some _,rfl,bRc rfl (cKc (eZ bL (aM (wkr (lsE (lsC (lsI _ _) lsN))) (aM (WkR.ptr (fun _=>rfl)) (aM (wkr (lsE (aW _))) (aM (wkr (lsE (lsC (lsI _ _) (lsC (lsL fun _=>(aO _)) lsN)))) (aM (WkR.ptr (fun _=>rfl)) bL)))))) cKn)⟩ (aLc ⟨some _,rfl,bRc rfl (cKc (WkR.top _ _) cKn)⟩ aLn)))
   replace h:=mN h
   refine hK _ _ _ ?_
   refine bA fun K1 K2 hK1 hK2=>?_;conv=>whnf
   refine hK1 ?_
   refine aD dCo rfl fun K hK=>?_;conv=>whnf
   refine nlA rfl ?_;conv=>whnf
   refine bKo rfl ?_;conv=>whnf
   refine gKo rfl ?_;conv=>whnf
   refine aDY h fun hg h=>?_
   replace h:=aKx h
   refine sS h60 (aA (Wk.refl _) aB) hg (fun _=>(lsC (lsI _ _) lsN)) ?_;conv=>whnf
   refine hK _ _ _ ?_
   refine oA 2 (enc:=eI) (e:=3) default (lZ dCo rfl rfl rfl (fun _=>⟨rfl,rfl⟩)) ?_;(conv=>whnf);refine ⟨_,_,rfl,rfl,rfl,?_⟩
   refine aG ?_
   refine bB ?_
   refine aR ?_
   refine aR ?_
   refine bB ?_
   refine bB ?_
   refine aR ?_
   refine aR ?_
   refine bB ?_
   refine aR ?_
   replace h:=iJ h
   replace h:=iK h
   replace h:=iJ h
   replace h:=iK h
   replace h:=aF h
   refine aC dCo fun K hK=>?_;conv=>whnf
   refine hK _ ?_
   cases h
   exact Wk.refl _
  refine hK2 ?_
  refine bK ?_
  refine aY ?_
  refine aY ?_
  refine aX ?_
  replace h:=dE h
  replace h:=dB h
  refine iBn ?_
  refine tHn ?_
  refine aN ?_
  refine aD dCo rfl fun K hK=>?_;conv=>whnf
  refine gKo rfl ?_;conv=>whnf
  refine hK _ _ _ ?_
  refine cX dCo rfl fun K hK=>?_;conv=>whnf
  refine bKo rfl ?_;conv=>whnf
  refine And.intro rfl (And.intro (nle rfl) (And.intro rfl ?_));conv=>whnf
  refine hK _ _ _ ?_
  refine tHn ?_
  refine cX dCo rfl fun K hK=>?_;conv=>whnf
  refine nlA rfl ?_;conv=>whnf
  refine bKo rfl ?_;conv=>whnf
  refine gKo rfl ?_;conv=>whnf
  refine bKo rfl ?_;conv=>whnf
  refine And.intro rfl (And.intro (nle rfl) (And.intro rfl ?_));conv=>whnf
  refine hK _ _ _ ?_
  refine tHn ?_
  replace h:=bX h
  refine ⟨_,h,?_⟩
  refine bI ?_;conv=>whnf
  exact And.intro rfl (And.intro (aLc (wkr (lsE (lsC (lsI _ _) (lsC (lsL fun _=>(aO _)) lsN)))) (aLc (wkr (lsE (aW _))) (aLc (WkR.ptr (fun _=>rfl)) aLn))) (aLc ⟨some _,rfl,bRc rfl (cKc wkI cKn)⟩ aLn))
 refine hK2 ?_
 refine bK ?_
 refine aY ?_
 refine aY ?_
 refine aX ?_
 replace h:=dE h
 replace h:=dB h
 refine tHn ?_
 refine aD dCo rfl fun K hK=>?_;conv=>whnf
 refine hK _ _ _ ?_
 refine aG ?_
 replace h:=aF h
 refine aC dCo fun K hK=>?_;conv=>whnf
 refine hK _ ?_
 cases h
 exact oM (aA kI (aA (Wk.refl _) aB))
theorem aJ {T:Tbl} (hT:T 32=aU gI) {args:List AV} {hp:bD} {id:Nat} {k:AV→Prop} {a0:aP} {Φ:(List Int)×Bool→Prop} (h:W (cS a0) Φ) (hw:WkL args [bS a0]) (hk:∀ y,Φ y→k (.tup [(eL 1 eI default) y.1,eB y.2])):dJ T 32 args hp id k:=by
 obtain ⟨y,e,hy⟩:=fE h
 exact bF hT ⟨a0,rfl,kK e rfl⟩ (by exact fQ (lsC (lsL fun _=>(lsI _ _)) (lsC (lsB _) lsN))) hw (hk y hy)
  def lR (a0:aP) (e5:Int) (y1:(Ar 8)×Bool) (s6:Int×(List Int)):Option (Ct (Int×(List Int)) ((List Int)×Int)):=cn (decide (s6.1<a0.N)) (gd (0≤e5∧e5<(8:Int)) (gd (0≤s6.1) (jn (fun p7:(List Int)=>
  some (.nx ((wr (s6.1+1)),p7))) fun k8=>cn ((tK .i64 (vP .i64 (y1.1.at1 e5) s6.1) 1) ==
  1) (gd ((0:Int)≤e5∧e5<(s6.2.length:Int)) (gd ((0:Int)≤s6.1∧s6.1<(s6.2.length:Int)) (gd ((0:Int)≤e5∧e5<(s6.2.length:Int)) (st s6.2 (e5) (aH0 (s6.2.getD (e5).toNat default) (wr ((s6.2.getD (s6.1).toNat default)+1))) fun l9=>
  k8 l9)))) (k8 s6.2)))) (some (.bk (s6.1,s6.2)))
  def lN (a0:aP) (y1:(Ar 8)×Bool) (y3:List Int) (s4:Int×(List Int)):Option (Ct (Int×(List Int)) ((List Int)×Int)):=cn (decide (s4.1<(y3.length:Int))) (ix y3 default s4.1 fun e5=>
  bd (lp (lR a0 e5 y1) FU (0,s4.2)) fun c10=>smK c10 (fun s11=>some (.nx ((wr (s4.1+1)),s11.2))) (fun r12=>some (.rt r12))) (some (.bk (s4.1,s4.2)))
def jN (a0:aP):Option ((List Int)×Int):=bd (bT a0) fun y1=>
  cn (!y1.2) (some ([],70)) (gd ((0:Int)≤a0.N∧a0.N≤(1048576:Int)) (lt (List.replicate (a0.N).toNat (0:Int)) fun l2=>bd (iF a0.N y1.1) fun y3=>
  bd (lp (lN a0 y1 y3) FU (0,l2)) fun c13=>smK c13 (fun s14=>some (s14.2,0)) (fun r15=>some r15)))
def gQ:List AV→AV→Prop:=fun args r=>∃ a0,args=[bS a0]∧W (jN a0) fun y=>r=(.tup [(eL 1 eI default) y.1,eI y.2])
theorem vH {T:Tbl} (hT:TOk Tryd.prog T) (hpf:dD T PF) (h54:T 54=aU cL) (h57:T 57=aU gC):FOk Tryd.prog 28 (aU gQ):=by
 refine bO hT hpf Tryd.func28 rfl Tryd.ntmps28 Tryd.results28 (by decide) ?_
 rintro args r ⟨a0,rfl,h⟩
 refine ⟨nle rfl,?_,?_⟩
 ·exact (lsC (cO _) lsN)
 rw [jN.eq_1] at h
 refine aD dCo rfl fun K hK=>?_;conv=>whnf
 refine hK _ _ _ ?_
 refine aD dCo rfl fun K hK=>?_;conv=>whnf
 refine nlA rfl ?_;conv=>whnf
 refine bKo rfl ?_;conv=>whnf
 refine nlA rfl ?_;conv=>whnf
 replace h:=aS h
 refine cK h54 h (WkL.refl _) (fun _ h=>?_);conv=>whnf
 refine aZ ?_;conv=>whnf
 refine aZ ?_;conv=>whnf
 refine aZ ?_;conv=>whnf
 refine bKo rfl ?_;conv=>whnf
 refine pC rfl rfl rfl ?_;conv=>whnf
 refine hK _ _ _ ?_
 refine aN ?_
 refine aD dCo rfl fun K hK=>?_;conv=>whnf
 refine hK _ _ _ ?_
 refine bA fun K1 K2 hK1 hK2=>?_;conv=>whnf
 refine cLk h (fun _ h=>?_) (fun _ h=>?_)
 ·refine hK1 ?_
  refine aD dCo rfl fun K hK=>?_;conv=>whnf
  refine hK _ _ _ ?_
  refine aG ?_
  refine aR ?_
  replace h:=aF h
  refine aC dCo fun K hK=>?_;conv=>whnf
  refine hK _ ?_
  cases h
  exact oM (aA kI (aA (Wk.refl _) aB))
 refine hK2 ?_
 refine aL ?_
 refine tHn ?_
 refine aD dCo rfl fun K hK=>?_;conv=>whnf
 refine nlA rfl ?_;conv=>whnf
 refine bKo rfl ?_;conv=>whnf
 refine gKo rfl ?_;conv=>whnf
 refine aIY (enc:=eI) dCo (0:Int) h rfl rfl ⟨nle rfl,nle rfl,rfl⟩ rfl (fun h=>?_);conv=>whnf
 refine hK _ _ _ ?_
 refine aN ?_
 refine aD dCo rfl fun K hK=>?_;conv=>whnf
 refine nlA rfl ?_;conv=>whnf
 refine bKo rfl ?_;conv=>whnf
 refine gKo rfl ?_;conv=>whnf
 refine nlA rfl ?_;conv=>whnf
 refine bKo rfl ?_;conv=>whnf
 refine rE rfl ?_;conv=>whnf
 refine aZ ?_;conv=>whnf
 replace h:=aS h
 refine lI h57 h (WkL.refl _) (fun _ h=>?_);conv=>whnf
 refine hK _ _ _ ?_
 refine aQ ?_
 replace h:=aS h
 refine hU (body:=lN _ _ _) rfl h [1,4,23,24] [1] [4] [] (fun kl kh kr ids b s=>⟨ofL ([(25,eI s.1),(6,.so (b+0) 0 s.2.length 1)]++kl),ofH (([]++kh)++([(b+0,.cells (flE (ceE eI) s.2))]++kr)),b+128⟩) ?_;(conv=>whnf);refine And.intro ?_ (fun s m h=>dO ?_)
 ·refine bR ?_;conv=>whnf
  exact And.intro rfl (And.intro (aLc wkI (aLc (WkR.so (fun _=>rfl)) (aLc (WkR.ptr (fun _=>rfl)) (aLc (WkR.ptr (fun _=>rfl)) (aLc (wkr (lsL fun _=>(lsI _ _))) (aLc wkI aLn)))))) (aLc ⟨some _,rfl,bRc rfl (cKc wkI (cKc (wkr (lsL fun _=>(aO _))) cKn))⟩ (aLc ⟨some _,rfl,gL rfl (fun _=>(lsC (lsI _ _) lsN))⟩ (aLc ⟨some _,rfl,bE rfl rfl⟩ aLn))))
 replace h:=aS h;rw [lN.eq_1] at h
 refine aD dCo rfl fun K hK=>?_;conv=>whnf
 refine hK _ _ _ ?_
 refine aN ?_
 refine bA fun K1 K2 hK1 hK2=>?_;conv=>whnf
 refine cLk h (fun _ h=>?_) (fun _ h=>?_)
 ·refine hK1 ?_
  refine aL ?_
  refine tHn ?_
  refine aN ?_
  refine aQ ?_
  refine aD dCo rfl fun K hK=>?_;conv=>whnf
  refine eQ h fun _ h=>?_;conv=>whnf
  refine gKo rfl ?_;conv=>whnf
  refine hK _ _ _ ?_
  refine aD dCo rfl fun K hK=>?_;conv=>whnf
  refine nlA rfl ?_;conv=>whnf
  refine bKo rfl ?_;conv=>whnf
  refine gKo rfl ?_;conv=>whnf
  refine hK _ _ _ ?_
  refine aQ ?_
  replace h:=aS h
  refine hU (body:=lR _ _ _) rfl h [1,4,8,23,24,25,30] [1] [4] [] (fun kl kh kr ids b s=>⟨ofL ([(31,eI s.1),(6,.so (b+0) 0 s.2.length 1)]++kl),ofH (([]++kh)++([(b+0,.cells (flE (ceE eI) s.2))]++kr)),b+128⟩) ?_;(conv=>whnf);refine And.intro ?_ (fun s m h=>dO ?_)
  ·refine bR ?_;conv=>whnf
   exact And.intro rfl (And.intro (aLc wkI (aLc (WkR.so (fun _=>rfl)) (aLc (WkR.ptr (fun _=>rfl)) (aLc (WkR.ptr (fun _=>rfl)) (aLc wkI (aLc (wkr (lsL fun _=>(lsI _ _))) (aLc wkI (aLc wkI (aLc wkI aLn))))))))) (aLc ⟨some _,rfl,bRc rfl (cKc wkI (cKc (wkr (lsL fun _=>(aO _))) cKn))⟩ (aLc ⟨some _,rfl,gL rfl (fun _=>(lsC (lsI _ _) lsN))⟩ (aLc ⟨some _,rfl,bE rfl rfl⟩ aLn))))
  replace h:=aS h;rw [lR.eq_1] at h
  refine aD dCo rfl fun K hK=>?_;conv=>whnf
  refine hK _ _ _ ?_
  refine aN ?_
  refine bA fun K1 K2 hK1 hK2=>?_;conv=>whnf
  refine cLk h (fun _ h=>?_) (fun _ h=>?_)
  ·refine hK1 ?_
   refine aL ?_
   refine tHn ?_
   refine aN ?_
   refine aQ ?_
   refine aD dCo rfl fun K hK=>?_;conv=>whnf
   refine hK _ _ _ ?_
   refine aD dCo rfl fun K hK=>?_;conv=>whnf
   refine dG h fun hx1359 h=>?_;conv=>whnf
   refine nlA rfl ?_;conv=>whnf
   refine bKo rfl ?_;conv=>whnf
   refine eJ rfl hx1359 ?_;conv=>whnf
   refine dG h fun _ h=>?_;conv=>whnf
   refine hK _ _ _ ?_
   replace h:=dF h
   refine bA fun K1 K2 hK1 hK2=>?_;conv=>whnf
   refine cLk h (fun _ h=>?_) (fun _ h=>?_)
   ·refine hK1 ?_
    refine aAs dCo cV rfl (by kernel_rfl) fun K hK=>?_;conv=>whnf
    refine qD h (rfl) fun hx1363 h=>?_;conv=>whnf
    refine nlA rfl ?_;conv=>whnf
    refine bKo rfl ?_;conv=>whnf
    refine qR (enc:=eI) (d:=default) (q:=0) (fun _=>rfl) (rfl) hx1363 (nle rfl) rfl ?_;conv=>whnf
    refine qD h (rfl) fun hx1364 h=>?_;conv=>whnf
    refine nlA rfl ?_;conv=>whnf
    refine bKo rfl ?_;conv=>whnf
    refine qR (enc:=eI) (d:=default) (q:=0) (fun _=>rfl) (rfl) hx1364 (nle rfl) rfl ?_;conv=>whnf
    refine qD h (rfl) fun hx1365 h=>?_;conv=>whnf
    refine bKo rfl ?_;conv=>whnf
    refine aI0 (enc:=eI) (d:=default) (q:=0) h (fun _=>rfl) (rfl) hx1365 rfl (nle rfl) rfl rfl (fun h=>?_);conv=>whnf
    refine hK _ _ _ ?_
    refine iBn ?_
    refine tHn ?_
    refine cX dCo rfl fun K hK=>?_;conv=>whnf
    refine hK _ _ _ ?_
    refine tHn ?_
    replace h:=bX h
    refine ⟨_,h,?_⟩
    refine bR ?_;conv=>whnf
    exact And.intro rfl (And.intro (aLc wkI (aLc (WkR.soN (fun _=>rfl) (aFM rfl).symm) (aLc (WkR.ptr (fun _=>rfl)) (aLc (WkR.ptr (fun _=>rfl)) (aLc wkI (aLc (wkr (lsL fun _=>(lsI _ _))) (aLc wkI (aLc wkI (aLc wkI aLn))))))))) (aLc ⟨some _,rfl,bRc rfl (cKc wkI (cKc (wkr (lsL fun _=>(aO _))) cKn))⟩ (aLc ⟨some _,rfl,gL rfl (fun _=>(lsC (lsI _ _) lsN))⟩ (aLc ⟨some _,rfl,bE rfl rfl⟩ aLn))))
   refine hK2 ?_
   refine aL ?_
   refine iBn ?_
   refine tHn ?_
   refine cX dCo rfl fun K hK=>?_;conv=>whnf
   refine hK _ _ _ ?_
   refine tHn ?_
   replace h:=bX h
   refine ⟨_,h,?_⟩
   refine bR ?_;conv=>whnf
   exact And.intro rfl (And.intro (aLc wkI (aLc (WkR.so (fun _=>rfl)) (aLc (WkR.ptr (fun _=>rfl)) (aLc (WkR.ptr (fun _=>rfl)) (aLc wkI (aLc (wkr (lsL fun _=>(lsI _ _))) (aLc wkI (aLc wkI (aLc wkI aLn))))))))) (aLc ⟨some _,rfl,bRc rfl (cKc wkI (cKc (wkr (lsL fun _=>(aO _))) cKn))⟩ (aLc ⟨some _,rfl,gL rfl (fun _=>(lsC (lsI _ _) lsN))⟩ (aLc ⟨some _,rfl,bE rfl rfl⟩ aLn))))
  refine hK2 ?_
  refine bK ?_
  refine aY ?_
  refine aY ?_
  refine aX ?_
  replace h:=dE h
  replace h:=dB h
  refine iBn ?_
  refine tHn ?_
  refine cX dCo rfl fun K hK=>?_;conv=>whnf
  refine hK _ _ _ ?_
  refine tHn ?_
  replace h:=bX h
  refine ⟨_,h,?_⟩
  refine bR ?_;conv=>whnf
  exact And.intro rfl (And.intro (aLc wkI (aLc (WkR.so (fun _=>rfl)) (aLc (WkR.ptr (fun _=>rfl)) (aLc (WkR.ptr (fun _=>rfl)) (aLc (wkr (lsL fun _=>(lsI _ _))) (aLc wkI aLn)))))) (aLc ⟨some _,rfl,bRc rfl (cKc wkI (cKc (wkr (lsL fun _=>(aO _))) cKn))⟩ (aLc ⟨some _,rfl,gL rfl (fun _=>(lsC (lsI _ _) lsN))⟩ (aLc ⟨some _,rfl,bE rfl rfl⟩ aLn))))
 refine hK2 ?_
 refine bK ?_
 refine aY ?_
 refine aY ?_
 refine aX ?_
 replace h:=dE h
 replace h:=dB h
 refine tHn ?_
 refine aD dCo rfl fun K hK=>?_;conv=>whnf
 refine hK _ _ _ ?_
 refine oA 2 (enc:=eI) (e:=3) default (lZ dCo rfl rfl rfl (fun _=>⟨rfl,rfl⟩)) ?_;(conv=>whnf);refine ⟨_,_,rfl,rfl,rfl,?_⟩
 refine aG ?_
 replace h:=aF h
 refine aC dCo fun K hK=>?_;conv=>whnf
 refine hK _ ?_
 cases h
 exact Wk.refl _
theorem rY {T:Tbl} (hT:T 28=aU gQ) {args:List AV} {hp:bD} {id:Nat} {k:AV→Prop} {a0:aP} {Φ:(List Int)×Int→Prop} (h:W (jN a0) Φ) (hw:WkL args [bS a0]) (hk:∀ y,Φ y→k (.tup [(eL 1 eI default) y.1,eI y.2])):dJ T 28 args hp id k:=by
 obtain ⟨y,e,hy⟩:=fE h
 exact bF hT ⟨a0,rfl,kK e rfl⟩ (by exact fQ (lsC (lsL fun _=>(lsI _ _)) (lsC (lsI _ _) lsN))) hw (hk y hy)
  def iX (y1:(Ar 8)×Bool) (y3:List Int) (s4:Int×Int):Option (Ct (Int×Int) ((List Int)×Int)):=cn (decide (s4.2<(y3.length:Int))) (ix y3 default s4.2 fun e5=>
  gd (0≤e5∧e5<(8:Int)) (let v6:=(bor .i64 s4.1 (y1.1.at1 e5));some (.nx (v6,(wr (s4.2+1)))))) (some (.bk (s4.1,s4.2)))
  def iR (a0:aP) (y1:(Ar 8)×Bool) (s2:(List Int)×Int):Option (Ct ((List Int)×Int) ((List Int)×Int)):=cn (decide (s2.2<(aD5 .i64 1 a0.N))) (bd (jK s2.2) fun y3=>
  bd (lp (iX y1 y3) FU (0,0)) fun c7=>smK c7 (fun s8=>jn (fun p10:Bool=>jn (fun p16:(List Int)=>some (.nx (p16,(wr (s2.2+1))))) fun k17=>
  cn p10 (k17 y3) (k17 s2.1)) fun k11=>cn ((tK .i64 s8.1 s2.2)==0) (bd (fD (s2.1.length:Int) (y3.length:Int)) fun y12=>
  bd (eV y3 s2.1) fun y13=>lt ([y12,y13]:List Int) fun l14=>bd (mB l14) fun y15=>k11 (decide (y15<0))) (k11 false)) (fun r9=>
  some (.rt r9))) (some (.bk (s2.1,s2.2)))
def gM (a0:aP):Option ((List Int)×Int):=bd (bT a0) fun y1=>
  cn (!y1.2) (some ([],70)) (gd (0≤a0.N) (bd (lp (iR a0 y1) FU ([],0)) fun c18=>smK c18 (fun s19=>some (s19.1,0)) (fun r20=>some r20)))
def eY:List AV→AV→Prop:=fun args r=>∃ a0,args=[bS a0]∧W (gM a0) fun y=>r=(.tup [(eL 1 eI default) y.1,eI y.2])
theorem rC {T:Tbl} (hT:TOk Tryd.prog T) (hpf:dD T PF) (h54:T 54=aU cL) (h61:T 61=aU hG) (h62:T 62=aU jX) (h63:T 63=aU eE) (h64:T 64=aU dX):FOk Tryd.prog 30 (aU eY):=by
 refine bO hT hpf Tryd.func30 rfl Tryd.ntmps30 Tryd.results30 (by decide) ?_
 rintro args r ⟨a0,rfl,h⟩
 refine ⟨nle rfl,?_,?_⟩
 ·exact (lsC (cO _) lsN)
 rw [gM.eq_1] at h
 refine aD dCo rfl fun K hK=>?_;conv=>whnf
 refine hK _ _ _ ?_
 refine aD dCo rfl fun K hK=>?_;conv=>whnf
 refine nlA rfl ?_;conv=>whnf
 refine bKo rfl ?_;conv=>whnf
 refine nlA rfl ?_;conv=>whnf
 replace h:=aS h
 refine cK h54 h (WkL.refl _) (fun _ h=>?_);conv=>whnf
 refine aZ ?_;conv=>whnf
 refine aZ ?_;conv=>whnf
 refine aZ ?_;conv=>whnf
 refine bKo rfl ?_;conv=>whnf
 refine pC rfl rfl rfl ?_;conv=>whnf
 refine hK _ _ _ ?_
 refine aN ?_
 refine aD dCo rfl fun K hK=>?_;conv=>whnf
 refine hK _ _ _ ?_
 refine bA fun K1 K2 hK1 hK2=>?_;conv=>whnf
 refine cLk h (fun _ h=>?_) (fun _ h=>?_)
 ·refine hK1 ?_
  refine aD dCo rfl fun K hK=>?_;conv=>whnf
  refine hK _ _ _ ?_
  refine aG ?_
  refine aR ?_
  replace h:=aF h
  refine aC dCo fun K hK=>?_;conv=>whnf
  refine hK _ ?_
  cases h
  exact oM (aA kI (aA (Wk.refl _) aB))
 refine hK2 ?_
 refine aL ?_
 refine tHn ?_
 refine aD dCo rfl fun K hK=>?_;conv=>whnf
 refine hK _ _ _ ?_
 refine aN ?_
 refine aD dCo rfl fun K hK=>?_;conv=>whnf
 refine nlA rfl ?_;conv=>whnf
 refine bKo rfl ?_;conv=>whnf
 refine gKo rfl ?_;conv=>whnf
 refine dG h fun _ h=>?_;conv=>whnf
 refine hK _ _ _ ?_
 refine aQ ?_
 replace h:=aS h
 refine hU (body:=iR _ _) rfl h [4,21] [] [4] [] (fun kl kh kr ids b s=>⟨ofL ([(6,(eL 1 eI default) s.1),(22,eI s.2)]++kl),ofH (([]++kh)++([]++kr)),b+64⟩) ?_;(conv=>whnf);refine And.intro ?_ (fun s m h=>dO ?_)
 ·refine bR ?_;conv=>whnf
  exact And.intro rfl (And.intro (aLc (WkR.wk kI (lsL fun _=>(lsI _ _))) (aLc wkI (aLc (WkR.ptr (fun _=>rfl)) (aLc wkI aLn)))) (aLc ⟨some _,rfl,bE rfl rfl⟩ aLn))
 replace h:=aS h;rw [iR.eq_1] at h
 refine aD dCo rfl fun K hK=>?_;conv=>whnf
 refine hK _ _ _ ?_
 refine aN ?_
 refine bA fun K1 K2 hK1 hK2=>?_;conv=>whnf
 refine cLk h (fun _ h=>?_) (fun _ h=>?_)
 ·refine hK1 ?_
  refine aL ?_
  refine tHn ?_
  refine aN ?_
  refine aQ ?_
  refine aD dCo rfl fun K hK=>?_;conv=>whnf
  refine hK _ _ _ ?_
  refine aD dCo rfl fun K hK=>?_;conv=>whnf
  replace h:=aS h
  refine rW h61 h (WkL.refl _) (fun _ h=>?_);conv=>whnf
  refine hK _ _ _ ?_
  refine aN ?_
  refine aD dCo rfl fun K hK=>?_;conv=>whnf
  refine hK _ _ _ ?_
  refine aQ ?_
  replace h:=aS h
  refine hU (body:=iX _ _) rfl h [4,6,7,9,21,22,27,28] [] [4] [] (fun kl kh kr ids b s=>⟨ofL ([(8,eI s.1),(29,eI s.2)]++kl),ofH (([]++kh)++([]++kr)),b+64⟩) ?_;(conv=>whnf);refine And.intro ?_ (fun s m h=>dO ?_)
  ·refine bR ?_;conv=>whnf
   exact And.intro rfl (And.intro (aLc wkI (aLc wkI (aLc (WkR.ptr (fun _=>rfl)) (aLc (wkr (lsL fun _=>(lsI _ _))) (aLc wkI (aLc (wkr (lsL fun _=>(lsI _ _))) (aLc wkI (aLc wkI (aLc (wkr (lsL fun _=>(lsI _ _))) (aLc wkI aLn)))))))))) (aLc ⟨some _,rfl,bE rfl rfl⟩ aLn))
  replace h:=aS h;rw [iX.eq_1] at h
  refine aD dCo rfl fun K hK=>?_;conv=>whnf
  refine hK _ _ _ ?_
  refine aN ?_
  refine bA fun K1 K2 hK1 hK2=>?_;conv=>whnf
  refine cLk h (fun _ h=>?_) (fun _ h=>?_)
  ·refine hK1 ?_
   refine aL ?_
   refine tHn ?_
   refine aN ?_
   refine aQ ?_
   refine aD dCo rfl fun K hK=>?_;conv=>whnf
   refine eQ h fun _ h=>?_;conv=>whnf
   refine gKo rfl ?_;conv=>whnf
   refine hK _ _ _ ?_
   refine cX dCo rfl fun K hK=>?_;conv=>whnf
   refine dG h fun hx1428 h=>?_;conv=>whnf
   refine nlA rfl ?_;conv=>whnf
   refine bKo rfl ?_;conv=>whnf
   refine eJ rfl hx1428 ?_;conv=>whnf
   refine hK _ _ _ ?_
   refine iBn ?_
   refine tHn ?_
   refine cX dCo rfl fun K hK=>?_;conv=>whnf
   refine hK _ _ _ ?_
   refine tHn ?_
   replace h:=bX h
   refine ⟨_,h,?_⟩
   refine bR ?_;conv=>whnf
   exact And.intro rfl (And.intro (aLc wkI (aLc wkI (aLc (WkR.ptr (fun _=>rfl)) (aLc (wkr (lsL fun _=>(lsI _ _))) (aLc wkI (aLc (wkr (lsL fun _=>(lsI _ _))) (aLc wkI (aLc wkI (aLc (wkr (lsL fun _=>(lsI _ _))) (aLc wkI aLn)))))))))) (aLc ⟨some _,rfl,bE rfl rfl⟩ aLn))
  refine hK2 ?_
  refine bK ?_
  refine aY ?_
  refine aY ?_
  refine aX ?_
  replace h:=dE h
  replace h:=dB h
  refine tHn ?_
  refine aD dCo rfl fun K hK=>?_;conv=>whnf
  replace h:=dF h
  refine cLk h (fun _ h=>?_) (fun _ h=>?_)<;>(conv=>whnf)
  ·replace h:=aS h
   refine kL h63 h (WkL.refl _) (fun _ h=>?_);conv=>whnf
   replace h:=aS h
   refine nP h64 h (WkL.refl _) (fun _ h=>?_);conv=>whnf
   refine cI (enc:=eI) (d:=default) dCo h rfl rfl rfl ⟨nle rfl,nle rfl,rfl⟩ rfl ⟨⟨rfl,rfl,rfl⟩,⟨⟨rfl,rfl,rfl⟩,trivial⟩⟩ (fun h=>?_);conv=>whnf
   replace h:=aS h
   refine vC h62 h (aA aH aB) (fun _ h=>?_);conv=>whnf
   refine hK _ _ _ ?_
   replace h:=dF h
   refine bA fun K1 K2 hK1 hK2=>?_;conv=>whnf
   refine cLk h (fun _ h=>?_) (fun _ h=>?_)
   ·refine hK1 ?_
    refine cX dCo rfl fun K hK=>?_;conv=>whnf
    refine hK _ _ _ ?_
    refine iBn ?_
    refine tHn ?_
    refine cX dCo rfl fun K hK=>?_;conv=>whnf
    refine hK _ _ _ ?_
    refine tHn ?_
    replace h:=bX h
    refine ⟨_,h,?_⟩
    refine bR ?_;conv=>whnf
    exact And.intro rfl (And.intro (aLc (wkr (lsL fun _=>(lsI _ _))) (aLc wkI (aLc (WkR.ptr (fun _=>rfl)) (aLc wkI aLn)))) (aLc ⟨some _,rfl,bE rfl rfl⟩ aLn))
   refine hK2 ?_
   refine aL ?_
   refine iBn ?_
   refine tHn ?_
   refine cX dCo rfl fun K hK=>?_;conv=>whnf
   refine hK _ _ _ ?_
   refine tHn ?_
   replace h:=bX h
   refine ⟨_,h,?_⟩
   refine bR ?_;conv=>whnf
   exact And.intro rfl (And.intro (aLc (wkr (lsL fun _=>(lsI _ _))) (aLc wkI (aLc (WkR.ptr (fun _=>rfl)) (aLc wkI aLn)))) (aLc ⟨some _,rfl,bE rfl rfl⟩ aLn))
  refine hK _ _ _ ?_
  replace h:=dF h
  refine bA fun K1 K2 hK1 hK2=>?_;conv=>whnf
  refine hK2 ?_
  replace h:=pI h
  refine aL ?_
  refine iBn ?_
  refine tHn ?_
  refine cX dCo rfl fun K hK=>?_;conv=>whnf
  refine hK _ _ _ ?_
  refine tHn ?_
  replace h:=bX h
  refine ⟨_,h,?_⟩
  refine bR ?_;conv=>whnf
  exact And.intro rfl (And.intro (aLc (wkr (lsL fun _=>(lsI _ _))) (aLc wkI (aLc (WkR.ptr (fun _=>rfl)) (aLc wkI aLn)))) (aLc ⟨some _,rfl,bE rfl rfl⟩ aLn))
 refine hK2 ?_
 refine bK ?_
 refine aY ?_
 refine aY ?_
 refine aX ?_
 replace h:=dE h
 replace h:=dB h
 refine tHn ?_
 refine aD dCo rfl fun K hK=>?_;conv=>whnf
 refine hK _ _ _ ?_
 refine aG ?_
 replace h:=aF h
 refine aC dCo fun K hK=>?_;conv=>whnf
 refine hK _ ?_
 cases h
 exact Wk.refl _
theorem pS {T:Tbl} (hT:T 30=aU eY) {args:List AV} {hp:bD} {id:Nat} {k:AV→Prop} {a0:aP} {Φ:(List Int)×Int→Prop} (h:W (gM a0) Φ) (hw:WkL args [bS a0]) (hk:∀ y,Φ y→k (.tup [(eL 1 eI default) y.1,eI y.2])):dJ T 30 args hp id k:=by
 obtain ⟨y,e,hy⟩:=fE h
 exact bF hT ⟨a0,rfl,kK e rfl⟩ (by exact fQ (lsC (lsL fun _=>(lsI _ _)) (lsC (lsI _ _) lsN))) hw (hk y hy)
def gY (a1:List (Int×Int)) (s2:Int×aP):Option (Ct (Int×aP) aP):=jn (fun p3:Bool=>cn p3 (ix a1 default s2.1 fun e5=>
  bd (fG e5.1 s2.2.N) fun y6=>ix a1 default s2.1 fun e7=>bd (fG e7.2 (wr (s2.2.N-1))) fun y8=>
  gd (s2.2.N≠0) (lt ([(y6,(Int.tmod (wr ((wr (y6+1))+y8)) s2.2.N))]:List (Int×Int)) fun l9=>ap s2.2.Pairs l9 fun l10=>
  some (.nx ((wr (s2.1+1)),(⟨s2.2.N,l10⟩:aP))))) (some (.bk (s2.1,s2.2)))) fun k4=>
  cn (decide (s2.1<(a1.length:Int))) (cn (decide (s2.1<20)) (k4 (decide (s2.2.N>1))) (k4 false)) (k4 false)
def fL (a0:Int) (a1:List (Int×Int)):Option aP:=bd (fG a0 9) fun y1=>bd (lp (gY a1) FU (0,(⟨y1,[]⟩:aP))) fun c11=>
  smK c11 (fun s12=>some s12.2) (fun r13=>some r13)
def fW (y:aP) (b:Nat):AV:=.agg [eI y.N,.so b 0 y.Pairs.length 2]
def eF (y:aP):List AB:=[.cells (flE (ceE cB) y.Pairs)]
def fK:List AV→aP→Prop:=fun args y=>∃ a0 a1,args=[eI a0,(eL 2 cB default) a1]∧fL a0 a1=some y
theorem vV {T:Tbl} (hT:TOk Tryd.prog T) (hpf:dD T PF) (h37:T 37=aU iH):FOk Tryd.prog 17 (aBo fW eF fK):=by
 refine aBG hT hpf Tryd.func17 rfl Tryd.ntmps17 Tryd.results17 (by decide) (fun y=>⟨by simp [eF],by simp [eF,tJ]⟩) ?_
 rintro args y ⟨a0,a1,rfl,hF⟩
 refine ⟨nle rfl,(lsC (lsI _ _) (lsC (lsL fun _=>(aO _)) lsN)),fun base=>?_⟩
 have h:W (fL a0 a1) (fun z=>z=y):=kK hF rfl
 rw [fL.eq_1] at h
 refine aD dCo rfl fun K hK=>?_;conv=>whnf
 refine hK _ _ _ ?_
 refine aD dCo rfl fun K hK=>?_;conv=>whnf
 replace h:=aS h
 refine iW h37 h (WkL.refl _) (fun _ h=>?_);conv=>whnf
 refine bKo rfl ?_;conv=>whnf
 refine And.intro rfl (And.intro (nle rfl) (And.intro rfl ?_));conv=>whnf
 refine hK _ _ _ ?_
 refine aN ?_
 refine aD dCo rfl fun K hK=>?_;conv=>whnf
 refine hK _ _ _ ?_
 refine aQ ?_
 replace h:=aS h
 refine hU (body:=gY _) rfl h [1,4,5] [4] [] [5] (fun kl kh kr ids b s=>⟨ofL ([(6,eI s.1)]++kl),ofH (([(aAq ids 0,.cells [eI s.2.N,.so (b+0) 0 s.2.Pairs.length 2])]++kh)++([(b+0,.cells (flE (ceE cB) s.2.Pairs))]++kr)),b+128⟩) ?_;(conv=>whnf);refine And.intro ?_ (fun s m h=>dO ?_)
 ·refine bR ?_;conv=>whnf
  exact And.intro rfl (And.intro (aLc wkI (aLc (wkr (lsL fun _=>(aO _))) (aLc (WkR.ptr (fun _=>rfl)) (aLc (WkR.ptr (fun _=>rfl)) aLn)))) (aLc ⟨some _,rfl,bRc rfl (cKc wkI (cKc (WkR.nilso (fun _=>rfl)) cKn))⟩ (aLc ⟨some _,rfl,bRc rfl (cKc wkI (cKc (wkr cG) cKn))⟩ (aLc ⟨none,rfl,aAu⟩ aLn))))
 replace h:=aS h;rw [gY.eq_1] at h
 refine aN ?_
 refine aD dCo rfl fun K hK=>?_;conv=>whnf
 replace h:=dF h
 refine cLk h (fun _ h=>?_) (fun _ h=>?_)<;>(conv=>whnf)
 ·refine cLk h (fun _ h=>?_) (fun _ h=>?_)<;>(conv=>whnf)
  ·refine nlA rfl ?_;conv=>whnf
   refine bKo rfl ?_;conv=>whnf
   refine gKo rfl ?_;conv=>whnf
   refine hK _ _ _ ?_
   refine bA fun K1 K2 hK1 hK2=>?_;conv=>whnf
   refine cLk h (fun _ h=>?_) (fun _ h=>?_)
   ·refine hK1 ?_
    refine aL ?_
    refine tHn ?_
    refine aN ?_
    refine aQ ?_
    refine mQ dCo cV rfl (by kernel_rfl) fun K hK=>?_;conv=>whnf
    refine eQ h fun _ h=>?_;conv=>whnf
    refine And.intro (by decide) ?_;conv=>whnf
    refine gKo rfl ?_;conv=>whnf
    refine nlA rfl ?_;conv=>whnf
    refine bKo rfl ?_;conv=>whnf
    refine gKo rfl ?_;conv=>whnf
    replace h:=aS h
    refine iW h37 h (WkL.refl _) (fun _ h=>?_);conv=>whnf
    refine hK _ _ _ ?_
    refine aAs dCo cV rfl (by kernel_rfl) fun K hK=>?_;conv=>whnf
    refine nlA rfl ?_;conv=>whnf
    refine bKo rfl ?_;conv=>whnf
    refine gKo rfl ?_;conv=>whnf
    refine eQ h fun _ h=>?_;conv=>whnf
    refine And.intro (by decide) ?_;conv=>whnf
    refine gKo rfl ?_;conv=>whnf
    refine nlA rfl ?_;conv=>whnf
    refine bKo rfl ?_;conv=>whnf
    refine gKo rfl ?_;conv=>whnf
    replace h:=aS h
    refine iW h37 h (WkL.refl _) (fun _ h=>?_);conv=>whnf
    refine nlA rfl ?_;conv=>whnf
    refine bKo rfl ?_;conv=>whnf
    refine gKo rfl ?_;conv=>whnf
    refine dG h fun _ h=>?_;conv=>whnf
    refine cI (enc:=cB) (d:=default) dCo h rfl rfl rfl ⟨nle rfl,nle rfl,rfl⟩ rfl ⟨⟨rfl,nle rfl⟩,trivial⟩ (fun h=>?_);conv=>whnf
    refine aAY (enc:=cB) (d:=default) dCo h rfl rfl rfl ⟨rfl,nle rfl,nle rfl,nle rfl,rfl⟩ (fun _=>rfl) (fun _=>rfl) (fun _=>nofun) rfl (rfl) (fun h=>?_);conv=>whnf
    refine bKo rfl ?_;conv=>whnf
    refine And.intro rfl (And.intro (nle rfl) (And.intro rfl ?_));conv=>whnf
    refine hK _ _ _ ?_
    refine iBn ?_
    refine tHn ?_
    refine cX dCo rfl fun K hK=>?_;conv=>whnf
    refine hK _ _ _ ?_
    refine tHn ?_
    replace h:=bX h
    refine ⟨_,h,?_⟩
    refine bR ?_;conv=>whnf
    exact And.intro rfl (And.intro (aLc wkI (aLc (wkr (lsL fun _=>(aO _))) (aLc (WkR.ptr (fun _=>rfl)) (aLc (WkR.ptr (fun _=>rfl)) aLn)))) (aLc ⟨some _,rfl,bRc rfl (cKc wkI (cKc (WkR.so (fun _=>rfl)) cKn))⟩ (aLc ⟨some _,rfl,bRc rfl (cKc wkI (cKc (wkr cG) cKn))⟩ (aLc ⟨some _,rfl,gL rfl (fun _=>(lsC (lsI _ _) (lsC (lsI _ _) lsN)))⟩ aLn))))
   refine hK2 ?_
   refine bK ?_
   refine aY ?_
   refine aY ?_
   refine aX ?_
   replace h:=dE h
   replace h:=dB h
   refine tHn ?_
   refine aD dCo rfl fun K hK=>?_;conv=>whnf
   refine nlA rfl ?_;conv=>whnf
   refine bKo rfl ?_;conv=>whnf
   refine nlA rfl ?_;conv=>whnf
   refine bKo rfl ?_;conv=>whnf
   refine And.intro rfl (And.intro (nle rfl) (And.intro rfl ?_));conv=>whnf
   refine hK _ _ _ ?_
   refine aG ?_
   replace h:=aF h
   refine uE dCo fun K hK=>?_;conv=>whnf
   refine nlA rfl ?_;conv=>whnf
   refine bKo rfl ?_;conv=>whnf
   refine nlA rfl ?_;conv=>whnf
   refine hK _ ?_
   cases h
   refine ⟨rfl,rfl,rfl,(aBH (lX (lT (Wk.refl _) (lsI _ _)) (lX (vL (aDa (k:=0) rfl) rfl) qI))),fun k n x h1 h2=>?_⟩
   exact match k,n,x,h1,h2 with | 0,n,x,h1,h2=>by cases h1;cases h2;exact ⟨_,rfl,wK (fun _=>(lsC (lsI _ _) (lsC (lsI _ _) lsN))) _⟩ | k+1,n,x,h1,h2=>by cases h1
  refine hK _ _ _ ?_
  refine bA fun K1 K2 hK1 hK2=>?_;conv=>whnf
  refine hK2 ?_
  replace h:=pI h
  refine bK ?_
  refine aY ?_
  refine aY ?_
  refine aX ?_
  replace h:=dE h
  replace h:=dB h
  refine tHn ?_
  refine aD dCo rfl fun K hK=>?_;conv=>whnf
  refine nlA rfl ?_;conv=>whnf
  refine bKo rfl ?_;conv=>whnf
  refine nlA rfl ?_;conv=>whnf
  refine bKo rfl ?_;conv=>whnf
  refine And.intro rfl (And.intro (nle rfl) (And.intro rfl ?_));conv=>whnf
  refine hK _ _ _ ?_
  refine aG ?_
  replace h:=aF h
  refine uE dCo fun K hK=>?_;conv=>whnf
  refine nlA rfl ?_;conv=>whnf
  refine bKo rfl ?_;conv=>whnf
  refine nlA rfl ?_;conv=>whnf
  refine hK _ ?_
  cases h
  refine ⟨rfl,rfl,rfl,(aBH (lX (lT (Wk.refl _) (lsI _ _)) (lX (vL (aDa (k:=0) rfl) rfl) qI))),fun k n x h1 h2=>?_⟩
  exact match k,n,x,h1,h2 with | 0,n,x,h1,h2=>by cases h1;cases h2;exact ⟨_,rfl,wK (fun _=>(lsC (lsI _ _) (lsC (lsI _ _) lsN))) _⟩ | k+1,n,x,h1,h2=>by cases h1
 refine hK _ _ _ ?_
 refine bA fun K1 K2 hK1 hK2=>?_;conv=>whnf
 refine hK2 ?_
 replace h:=pI h
 refine bK ?_
 refine aY ?_
 refine aY ?_
 refine aX ?_
 replace h:=dE h
 replace h:=dB h
 refine tHn ?_
 refine aD dCo rfl fun K hK=>?_;conv=>whnf
 refine nlA rfl ?_;conv=>whnf
 refine bKo rfl ?_;conv=>whnf
 refine nlA rfl ?_;conv=>whnf
 refine bKo rfl ?_;conv=>whnf
 refine And.intro rfl (And.intro (nle rfl) (And.intro rfl ?_));conv=>whnf
 refine hK _ _ _ ?_
 refine aG ?_
 replace h:=aF h
 refine uE dCo fun K hK=>?_;conv=>whnf
 refine nlA rfl ?_;conv=>whnf
 refine bKo rfl ?_;conv=>whnf
 refine nlA rfl ?_;conv=>whnf
 refine hK _ ?_
 cases h
 refine ⟨rfl,rfl,rfl,(aBH (lX (lT (Wk.refl _) (lsI _ _)) (lX (vL (aDa (k:=0) rfl) rfl) qI))),fun k n x h1 h2=>?_⟩
 exact match k,n,x,h1,h2 with | 0,n,x,h1,h2=>by cases h1;cases h2;exact ⟨_,rfl,wK (fun _=>(lsC (lsI _ _) (lsC (lsI _ _) lsN))) _⟩ | k+1,n,x,h1,h2=>by cases h1
  def nO (s19:(List Int)×Int×(List Int)) (s21:Int×aP):Option (Ct (Int×aP) aP):=cn (decide (s21.1<(s21.2.Pairs.length:Int))) (gd ((0:Int)≤s21.1∧s21.1<(s21.2.Pairs.length:Int)) (gd ((0:Int)≤(s21.2.Pairs.getD (s21.1).toNat default).1∧(s21.2.Pairs.getD (s21.1).toNat default).1<(s19.1.length:Int)) (gd ((0:Int)≤(s21.2.Pairs.getD (s21.1).toNat default).2∧(s21.2.Pairs.getD (s21.1).toNat default).2<(s19.1.length:Int)) (jn (fun p22:aP=>
  some (.nx ((wr (s21.1+1)),p22))) fun k23=>cn (decide ((s19.1.getD ((s21.2.Pairs.getD (s21.1).toNat default).1).toNat default) >
  (s19.1.getD ((s21.2.Pairs.getD (s21.1).toNat default).2).toNat default))) (gd ((0:Int)≤s21.1∧s21.1<(s21.2.Pairs.length:Int)) (st s21.2.Pairs (s21.1) ((s21.2.Pairs.getD (s21.1).toNat default).2,(s21.2.Pairs.getD (s21.1).toNat default).1) fun l24=>
  k23 (⟨s21.2.N,l24⟩:aP))) (k23 s21.2))))) (some (.bk (s21.1,s21.2)))
def nT (s9:(List Int)×Int×(List Int)):Option (Ct ((List Int)×Int×(List Int)) aP):=cn (decide ((s9.2.2.length:Int) >
  0)) (gd ((s9.2.2.length:Int)≠0) (let v10:=(Int.tmod s9.2.1 (s9.2.2.length:Int));gd ((s9.2.2.length:Int)≠0) (let v11:=(wr (Int.tdiv s9.2.1 (s9.2.2.length:Int)));
  ix s9.2.2 default v10 fun e12=>lt ([e12]:List Int) fun l13=>ap s9.1 l13 fun l14=>slc s9.2.2 0 v10 fun l15=>slc s9.2.2 (wr (v10+1)) (s9.2.2.length:Int) fun l16=>
  ap l15 l16 fun l17=>some (.nx (l14,v11,l17))))) (some (.bk (s9.1,s9.2.1,s9.2.2)))
def nY (y1:aP) (s3:(List Int)×Int):Option (Ct ((List Int)×Int) aP):=cn (decide (s3.2<y1.N)) (lt ([s3.2]:List Int) fun l4=>ap s3.1 l4 fun l5=>
  some (.nx (l5,(wr (s3.2+1))))) (some (.bk (s3.1,s3.2)))
def sT (a0:Int) (a1:List (Int×Int)) (a2:Int):Option aP:=bd (fL a0 a1) fun y1=>bd (fG a2 40320) fun y2=>
  bd (lp (nY y1) FU ([],0)) fun c6=>smK c6 (fun s7=>bd (lp (nT) FU ([],y2,s7.1)) fun c18=>smK c18 (fun s19=>
  bd (lp (nO s19) FU (0,(⟨y1.N,y1.Pairs⟩:aP))) fun c25=>smK c25 (fun s26=>some (⟨s26.2.N,s26.2.Pairs⟩:aP)) (fun r27=>some r27)) (fun r20=>
  some r20)) (fun r8=>some r8)
def oR:List AV→AV→Prop:=fun args r=>∃ a0 a1 a2,args=[eI a0,(eL 2 cB default) a1,eI a2]∧W (sT a0 a1 a2) fun y=>r=(bS y)
theorem zV {T:Tbl} (hT:TOk Tryd.prog T) (hpf:dD T PF) (h17:T 17=aBo fW eF fK) (h37:T 37=aU iH):FOk Tryd.prog 12 (aU oR):=by
 refine bO hT hpf Tryd.func12 rfl Tryd.ntmps12 Tryd.results12 (by decide) ?_
 rintro args r ⟨a0,a1,a2,rfl,h⟩
 refine ⟨nle rfl,?_,?_⟩
 ·exact (lsC (lsI _ _) (lsC (lsL fun _=>(aO _)) (lsC (lsI _ _) lsN)))
 rw [sT.eq_1] at h
 refine aD dCo rfl fun K hK=>?_;conv=>whnf
 refine hK _ _ _ ?_
 refine aD dCo rfl fun K hK=>?_;conv=>whnf
 refine pN h17 h (fun y e=>(⟨_,_,rfl,e⟩:fK _ _)) (WkL.refl _) (fun _ h=>?_);conv=>whnf
 refine bKo rfl ?_;conv=>whnf
 refine And.intro rfl (And.intro (nle rfl) (And.intro rfl ?_));conv=>whnf
 refine hK _ _ _ ?_
 refine aD dCo rfl fun K hK=>?_;conv=>whnf
 refine hK _ _ _ ?_
 refine aD dCo rfl fun K hK=>?_;conv=>whnf
 replace h:=aS h
 refine iW h37 h (WkL.refl _) (fun _ h=>?_);conv=>whnf
 refine hK _ _ _ ?_
 refine aD dCo rfl fun K hK=>?_;conv=>whnf
 refine hK _ _ _ ?_
 refine aN ?_
 refine aD dCo rfl fun K hK=>?_;conv=>whnf
 refine hK _ _ _ ?_
 refine aQ ?_
 replace h:=aS h
 refine aCd (body:=nY _) rfl h [6,7,8,9] (fun σ=>oJ σ [6,7]++rS σ []) (fun σ=>rS σ [(7,1)]++oJ σ []++aBq σ []) [] (fun kl kh kr ids b s=>⟨ofL ([(10,.so (b+0) 0 s.1.length 1),(11,eI s.2)]++kl),ofH (([]++kh)++([(b+0,.cells (flE (ceE eI) s.1))]++kr)),b+128⟩) ?_;(conv=>whnf);refine And.intro ?_ (fun s m h=>dO ?_)
 ·refine bR ?_;conv=>whnf
  exact And.intro rfl (And.intro (aLc (WkR.nilso (fun _=>rfl)) (aLc wkI (aLc (WkR.ptr (fun _=>rfl)) (aLc (WkR.ptr (fun _=>rfl)) (aLc (wkr cG) (aLc wkI aLn)))))) (aLc ⟨some _,rfl,bRc rfl (cKc wkI (cKc (wkr cG) cKn))⟩ (aLc ⟨some _,rfl,bRc rfl (cKc wkI (cKc (WkR.so (fun _=>rfl)) cKn))⟩ (aLc ⟨none,rfl,aAu⟩ (aLc ⟨some _,rfl,gL rfl (fun _=>(lsC (lsI _ _) (lsC (lsI _ _) lsN)))⟩ aLn)))))
 replace h:=aS h;rw [nY.eq_1] at h
 refine aN ?_
 refine aD dCo rfl fun K hK=>?_;conv=>whnf
 refine nlA rfl ?_;conv=>whnf
 refine bKo rfl ?_;conv=>whnf
 refine gKo rfl ?_;conv=>whnf
 refine hK _ _ _ ?_
 refine bA fun K1 K2 hK1 hK2=>?_;conv=>whnf
 refine cLk h (fun _ h=>?_) (fun _ h=>?_)
 ·refine hK1 ?_
  refine aL ?_
  refine tHn ?_
  refine aN ?_
  refine aQ ?_
  refine cX dCo rfl fun K hK=>?_;conv=>whnf
  refine cI (enc:=eI) (d:=default) dCo h rfl rfl rfl ⟨nle rfl,nle rfl,rfl⟩ rfl ⟨⟨rfl,rfl,rfl⟩,trivial⟩ (fun h=>?_);conv=>whnf
  refine aAY (enc:=eI) (d:=default) dCo h rfl rfl rfl ⟨rfl,nle rfl,nle rfl,nle rfl,rfl⟩ (fun _=>rfl) (fun _=>rfl) (fun _=>nofun) rfl (rfl) (fun h=>?_);conv=>whnf
  refine hK _ _ _ ?_
  refine iBn ?_
  refine tHn ?_
  refine cX dCo rfl fun K hK=>?_;conv=>whnf
  refine hK _ _ _ ?_
  refine tHn ?_
  replace h:=bX h
  refine ⟨_,h,?_⟩
  refine bR ?_;conv=>whnf
  exact And.intro rfl (And.intro (aLc (WkR.so (fun _=>rfl)) (aLc wkI (aLc (WkR.ptr (fun _=>rfl)) (aLc (WkR.ptr (fun _=>rfl)) (aLc (wkr cG) (aLc wkI aLn)))))) (aLc ⟨some _,rfl,bRc rfl (cKc wkI (cKc (wkr cG) cKn))⟩ (aLc ⟨some _,rfl,bRc rfl (cKc wkI (cKc (WkR.so (fun _=>rfl)) cKn))⟩ (aLc ⟨some _,rfl,gL rfl (fun _=>(lsC (lsI _ _) lsN))⟩ (aLc ⟨some _,rfl,gL rfl (fun _=>(lsC (lsI _ _) (lsC (lsI _ _) lsN)))⟩ aLn)))))
 refine hK2 ?_
 refine bK ?_
 refine aY ?_
 refine aY ?_
 refine aX ?_
 replace h:=dE h
 replace h:=dB h
 refine tHn ?_
 refine aN ?_
 refine oA 10 (enc:=eI) (e:=3) default (lZ dCo rfl rfl rfl (fun _=>⟨rfl,rfl⟩)) ?_;(conv=>whnf);refine ⟨_,_,rfl,rfl,rfl,?_⟩
 refine aQ ?_
 replace h:=aS h
 refine aCd (body:=nT) rfl h [6,7] (fun σ=>oJ σ [6,7]++rS σ []) (fun σ=>rS σ [(7,1)]++oJ σ []++aBq σ []) [] (fun kl kh kr ids b s=>⟨ofL ([(8,.so (b+0) 0 s.1.length 1),(9,eI s.2.1),(10,(eL 1 eI default) s.2.2)]++kl),ofH (([]++kh)++([(b+0,.cells (flE (ceE eI) s.1))]++kr)),b+128⟩) ?_;(conv=>whnf);refine And.intro ?_ (fun s m h=>dO ?_)
 ·refine bR ?_;conv=>whnf
  exact And.intro rfl (And.intro (aLc (WkR.nilso (fun _=>rfl)) (aLc wkI (aLc (wkr (lsL fun _=>(lsI _ _))) (aLc (WkR.ptr (fun _=>rfl)) (aLc (WkR.ptr (fun _=>rfl)) aLn))))) (aLc ⟨some _,rfl,bRc rfl (cKc wkI (cKc (wkr cG) cKn))⟩ (aLc ⟨some _,rfl,bRc rfl (cKc wkI (cKc (WkR.so (fun _=>rfl)) cKn))⟩ (aLc ⟨none,rfl,aAu⟩ (aLc ⟨some _,rfl,gL rfl (fun _=>(lsC (lsI _ _) (lsC (lsI _ _) lsN)))⟩ aLn)))))
 replace h:=aS h;rw [nT.eq_1] at h
 refine aN ?_
 refine aD dCo rfl fun K hK=>?_;conv=>whnf
 refine hK _ _ _ ?_
 refine bA fun K1 K2 hK1 hK2=>?_;conv=>whnf
 refine cLk h (fun _ h=>?_) (fun _ h=>?_)
 ·refine hK1 ?_
  refine aL ?_
  refine tHn ?_
  refine aQ ?_
  refine aD dCo rfl fun K hK=>?_;conv=>whnf
  refine dG h fun _ h=>?_;conv=>whnf
  refine hK _ _ _ ?_
  refine aD dCo rfl fun K hK=>?_;conv=>whnf
  refine dG h fun _ h=>?_;conv=>whnf
  refine hK _ _ _ ?_
  refine aD dCo rfl fun K hK=>?_;conv=>whnf
  refine eQ h fun _ h=>?_;conv=>whnf
  refine gKo rfl ?_;conv=>whnf
  refine cI (enc:=eI) (d:=default) dCo h rfl rfl rfl ⟨nle rfl,nle rfl,rfl⟩ rfl ⟨⟨rfl,rfl,rfl⟩,trivial⟩ (fun h=>?_);conv=>whnf
  refine aAY (enc:=eI) (d:=default) dCo h rfl rfl rfl ⟨rfl,nle rfl,nle rfl,nle rfl,rfl⟩ (fun _=>rfl) (fun _=>rfl) (fun _=>nofun) rfl (rfl) (fun h=>?_);conv=>whnf
  refine hK _ _ _ ?_
  refine aAs dCo cV rfl (by kernel_rfl) fun K hK=>?_;conv=>whnf
  refine aIs h (.inl ⟨rfl,rfl⟩) (fun h=>?_);conv=>whnf
  refine aJ3 h (.inr ⟨_,rfl⟩) (.inl ⟨rfl,rfl⟩) (fun h=>?_);conv=>whnf
  refine bN (enc:=eI) (d:=default) dCo h (.inl rfl) rfl rfl rfl ⟨rfl,nle rfl,nle rfl,nle rfl,rfl⟩ (fun _=>rfl) (.inr (.inl ⟨rfl,rfl⟩)) (fun h=>?_);conv=>whnf
  refine hK _ _ _ ?_
  refine iBn ?_
  refine tHn ?_
  replace h:=bX h
  refine ⟨_,h,?_⟩
  refine bR ?_;conv=>whnf
  exact And.intro rfl (And.intro (aLc (WkR.so (fun _=>rfl)) (aLc wkI (aLc (WkR.wk aH (lsL fun _=>(lsI _ _))) (aLc (WkR.ptr (fun _=>rfl)) (aLc (WkR.ptr (fun _=>rfl)) aLn))))) (aLc ⟨some _,rfl,bRc rfl (cKc wkI (cKc (wkr cG) cKn))⟩ (aLc ⟨some _,rfl,bRc rfl (cKc wkI (cKc (WkR.so (fun _=>rfl)) cKn))⟩ (aLc ⟨some _,rfl,gL rfl (fun _=>(lsC (lsI _ _) lsN))⟩ (aLc ⟨some _,rfl,gL rfl (fun _=>(lsC (lsI _ _) (lsC (lsI _ _) lsN)))⟩ aLn)))))
 refine hK2 ?_
 refine bK ?_
 refine aY ?_
 refine aY ?_
 refine aX ?_
 replace h:=dE h
 replace h:=dB h
 refine tHn ?_
 refine aN ?_
 refine aD dCo rfl fun K hK=>?_;conv=>whnf
 refine hK _ _ _ ?_
 refine aQ ?_
 replace h:=aS h
 refine hU (body:=nO _) rfl h [6,7,8] [6] [8] [7] (fun kl kh kr ids b s=>⟨ofL ([(13,eI s.1)]++kl),ofH (([(aAq ids 0,.cells [eI s.2.N,.so (b+0) 0 s.2.Pairs.length 2])]++kh)++([(b+0,.cells (flE (ceE cB) s.2.Pairs))]++kr)),b+128⟩) ?_;(conv=>whnf);refine And.intro ?_ (fun s m h=>dO ?_)
 ·refine bR ?_;conv=>whnf
  exact And.intro rfl (And.intro (aLc wkI (aLc (WkR.ptr (fun _=>rfl)) (aLc (WkR.ptr (fun _=>rfl)) (aLc (WkR.so (fun _=>rfl)) aLn)))) (aLc ⟨some _,rfl,bRc rfl (cKc wkI (cKc (WkR.so (fun _=>rfl)) cKn))⟩ (aLc ⟨some _,rfl,bRc rfl (cKc wkI (cKc (wkr cG) cKn))⟩ (aLc ⟨some _,rfl,gL rfl (fun _=>(lsC (lsI _ _) (lsC (lsI _ _) lsN)))⟩ (aLc ⟨some _,rfl,gL rfl (fun _=>(lsC (lsI _ _) lsN))⟩ aLn)))))
 replace h:=aS h;rw [nO.eq_1] at h
 refine aN ?_
 refine aD dCo rfl fun K hK=>?_;conv=>whnf
 refine nlA rfl ?_;conv=>whnf
 refine bKo rfl ?_;conv=>whnf
 refine gKo rfl ?_;conv=>whnf
 refine hK _ _ _ ?_
 refine bA fun K1 K2 hK1 hK2=>?_;conv=>whnf
 refine cLk h (fun _ h=>?_) (fun _ h=>?_)
 ·refine hK1 ?_
  refine aL ?_
  refine tHn ?_
  refine aN ?_
  refine aQ ?_
  refine aD dCo rfl fun K hK=>?_;conv=>whnf
  refine nlA rfl ?_;conv=>whnf
  refine bKo rfl ?_;conv=>whnf
  refine gKo rfl ?_;conv=>whnf
  refine qD h (rfl) fun hx115 h=>?_;conv=>whnf
  refine nlA rfl ?_;conv=>whnf
  refine bKo rfl ?_;conv=>whnf
  refine aEJ (enc:=cB) (d:=default) (fun _=>rfl) (rfl) hx115 ?_;conv=>whnf
  refine bKo rfl ?_;conv=>whnf
  refine And.intro rfl (And.intro (nle rfl) (And.intro rfl ?_));conv=>whnf
  refine hK _ _ _ ?_
  refine mQ dCo cV rfl (by kernel_rfl) fun K hK=>?_;conv=>whnf
  refine And.intro (by decide) ?_;conv=>whnf
  refine nlA rfl ?_;conv=>whnf
  refine bKo rfl ?_;conv=>whnf
  refine gKo rfl ?_;conv=>whnf
  refine qD h (rfl) fun hx116 h=>?_;conv=>whnf
  refine nlA rfl ?_;conv=>whnf
  refine bKo rfl ?_;conv=>whnf
  refine qR (enc:=eI) (d:=default) (q:=0) (fun _=>rfl) (rfl) hx116 (nle rfl) rfl ?_;conv=>whnf
  refine And.intro (by decide) ?_;conv=>whnf
  refine nlA rfl ?_;conv=>whnf
  refine bKo rfl ?_;conv=>whnf
  refine gKo rfl ?_;conv=>whnf
  refine qD h (rfl) fun hx117 h=>?_;conv=>whnf
  refine nlA rfl ?_;conv=>whnf
  refine bKo rfl ?_;conv=>whnf
  refine qR (enc:=eI) (d:=default) (q:=0) (fun _=>rfl) (rfl) hx117 (nle rfl) rfl ?_;conv=>whnf
  refine hK _ _ _ ?_
  replace h:=dF h
  refine bA fun K1 K2 hK1 hK2=>?_;conv=>whnf
  refine cLk h (fun _ h=>?_) (fun _ h=>?_)
  ·refine hK1 ?_
   refine cX dCo rfl fun K hK=>?_;conv=>whnf
   refine nlA rfl ?_;conv=>whnf
   refine bKo rfl ?_;conv=>whnf
   refine gKo rfl ?_;conv=>whnf
   refine And.intro (by decide) ?_;conv=>whnf
   refine nlA rfl ?_;conv=>whnf
   refine bKo rfl ?_;conv=>whnf
   refine gKo rfl ?_;conv=>whnf
   refine And.intro (by decide) ?_;conv=>whnf
   refine nlA rfl ?_;conv=>whnf
   refine bKo rfl ?_;conv=>whnf
   refine gKo rfl ?_;conv=>whnf
   refine qD h (rfl) fun hx119 h=>?_;conv=>whnf
   refine bKo rfl ?_;conv=>whnf
   refine aI0 (enc:=cB) (d:=default) (q:=0) h (fun _=>rfl) (rfl) hx119 rfl (nle rfl) rfl rfl (fun h=>?_);conv=>whnf
   refine hK _ _ _ ?_
   refine iBn ?_
   refine tHn ?_
   refine cX dCo rfl fun K hK=>?_;conv=>whnf
   refine hK _ _ _ ?_
   refine tHn ?_
   replace h:=bX h
   refine ⟨_,h,?_⟩
   refine bR ?_;conv=>whnf
   exact And.intro rfl (And.intro (aLc wkI (aLc (WkR.ptr (fun _=>rfl)) (aLc (WkR.ptr (fun _=>rfl)) (aLc (WkR.so (fun _=>rfl)) aLn)))) (aLc ⟨some _,rfl,bRc rfl (cKc wkI (cKc (WkR.soN (fun _=>rfl) (aFM rfl).symm) cKn))⟩ (aLc ⟨some _,rfl,bRc rfl (cKc wkI (cKc (wkr cG) cKn))⟩ (aLc ⟨some _,rfl,gL rfl (fun _=>(lsC (lsI _ _) (lsC (lsI _ _) lsN)))⟩ (aLc ⟨some _,rfl,gL rfl (fun _=>(lsC (lsI _ _) lsN))⟩ aLn)))))
  refine hK2 ?_
  refine aL ?_
  refine iBn ?_
  refine tHn ?_
  refine cX dCo rfl fun K hK=>?_;conv=>whnf
  refine hK _ _ _ ?_
  refine tHn ?_
  replace h:=bX h
  refine ⟨_,h,?_⟩
  refine bR ?_;conv=>whnf
  exact And.intro rfl (And.intro (aLc wkI (aLc (WkR.ptr (fun _=>rfl)) (aLc (WkR.ptr (fun _=>rfl)) (aLc (WkR.so (fun _=>rfl)) aLn)))) (aLc ⟨some _,rfl,bRc rfl (cKc wkI (cKc (WkR.so (fun _=>rfl)) cKn))⟩ (aLc ⟨some _,rfl,bRc rfl (cKc wkI (cKc (wkr cG) cKn))⟩ (aLc ⟨some _,rfl,gL rfl (fun _=>(lsC (lsI _ _) (lsC (lsI _ _) lsN)))⟩ (aLc ⟨some _,rfl,gL rfl (fun _=>(lsC (lsI _ _) lsN))⟩ aLn)))))
 refine hK2 ?_
 refine bK ?_
 refine aY ?_
 refine aY ?_
 refine aX ?_
 replace h:=dE h
 replace h:=dB h
 refine tHn ?_
 refine xQ 7 1 (enc:=cB) (e:=46) default (aB9 dCo rfl rfl (fun _=>rfl) (fun _=>rfl)) ?_;(conv=>whnf);refine ⟨_,_,_,(Nat.ne_of_beq_eq_false rfl),rfl,rfl,rfl,rfl,?_⟩;conv=>whnf
 refine aD dCo rfl fun K hK=>?_;conv=>whnf
 refine nlA rfl ?_;conv=>whnf
 refine bKo rfl ?_;conv=>whnf
 refine nlA rfl ?_;conv=>whnf
 refine bKo rfl ?_;conv=>whnf
 refine And.intro rfl (And.intro (nle rfl) (And.intro rfl ?_));conv=>whnf
 refine hK _ _ _ ?_
 refine aG ?_
 replace h:=aF h
 refine aC dCo fun K hK=>?_;conv=>whnf
 refine nlA rfl ?_;conv=>whnf
 refine bKo rfl ?_;conv=>whnf
 refine nlA rfl ?_;conv=>whnf
 refine hK _ ?_
 cases h
 exact Wk.refl _
  def lP (a0:aP) (s1:(List Int)) (s2:(List Int)×Int) (s4:Bool×Int):Option (Ct (Bool×Int) (List Int)):=cn (decide (s4.2<a0.N)) (jn (fun p5:Bool=>
  some (.nx (p5,(wr (s4.2+1))))) fun k6=>cn s4.1 (bd (mO s1 s4.2) fun y7=>cn y7 (k6 true) (bd (bU a0 s4.2 s2.2) fun y8=>
  k6 (!y8))) (k6 false)) (some (.bk (s4.1,s4.2)))
  def lE (a0:aP) (s1:(List Int)) (s2:(List Int)×Int):Option (Ct ((List Int)×Int) (List Int)):=cn (decide (s2.2<a0.N)) (bd (mO s1 s2.2) fun y3=>
  bd (lp (lP a0 s1 s2) FU ((!y3),0)) fun c9=>smK c9 (fun s10=>jn (fun p12:(List Int)=>some (.nx (p12,(wr (s2.2+1))))) fun k13=>
  cn s10.1 (lt ([s2.2]:List Int) fun l14=>ap s2.1 l14 fun l15=>k13 l15) (k13 s2.1)) (fun r11=>some (.rt r11))) (some (.bk (s2.1,s2.2)))
  def lM (a0:aP) (a1:List Int) (s1:(List Int)):Option (Ct ((List Int)) (List Int)):=cn (decide ((s1.length:Int)<a0.N)) (bd (lp (lE a0 s1) FU ([],0)) fun c16=>
  smK c16 (fun s17=>cn ((s17.1.length:Int)==0) (some (.rt s1)) (jn (fun p19:Int=>ix s17.1 default p19 fun e23=>lt ([e23]:List Int) fun l24=>ap s1 l24 fun l25=>
  some (.nx l25)) fun k20=>cn (decide ((s1.length:Int)<(a1.length:Int))) (ix a1 default (s1.length:Int) fun e21=>bd (cE e21 (s17.1.length:Int)) fun y22=>
  k20 y22) (k20 0))) (fun r18=>some (.rt r18))) (some (.bk s1))
def qC (a0:aP) (a1:List Int):Option (List Int):=bd (lp (lM a0 a1) FU ([])) fun c26=>smK c26 (fun s27=>some s27) (fun r28=>some r28)
def mI:List AV→AV→Prop:=fun args r=>∃ a0 a1,args=[bS a0,(eL 1 eI default) a1]∧W (qC a0 a1) fun y=>r=((eL 1 eI default) y)
theorem uQ {T:Tbl} (hT:TOk Tryd.prog T) (hpf:dD T PF) (h13:T 13=aU iI) (h23:T 23=aU nA) (h27:T 27=aU eT):FOk Tryd.prog 21 (aU mI):=by
 refine bO hT hpf Tryd.func21 rfl Tryd.ntmps21 Tryd.results21 (by decide) ?_
 rintro args r ⟨a0,a1,rfl,h⟩
 refine ⟨nle rfl,?_,?_⟩
 ·exact (lsC (cO _) (lsC (lsL fun _=>(lsI _ _)) lsN))
 rw [qC.eq_1] at h
 refine aD dCo rfl fun K hK=>?_;conv=>whnf
 refine hK _ _ _ ?_
 refine aD dCo rfl fun K hK=>?_;conv=>whnf
 refine hK _ _ _ ?_
 refine aN ?_
 refine aQ ?_
 replace h:=aS h
 refine fP (body:=lM _ _) rfl h [1,2] [2] [] (fun kl kh ids b s=>⟨ofL ([(5,.lst (.tok (b+0)) 1 s.length (fun j=>eI (s.getD j default)))]++kl),ofH ([(b+0,.cells [])]++kh),b+128⟩) ?_;(conv=>whnf);refine And.intro ?_ (fun s m h=>dO ?_)
 ·refine bI ?_;conv=>whnf
  exact And.intro rfl (And.intro (aLc (WkR.nil (fun _=>rfl)) (aLc (wkr (lsL fun _=>(lsI _ _))) (aLc (WkR.ptr (fun _=>rfl)) aLn))) (aLc ⟨none,rfl,qL⟩ (aLc ⟨some _,rfl,bRc rfl (cKc wkI (cKc (wkr (lsL fun _=>(aO _))) cKn))⟩ aLn)))
 replace h:=aS h;rw [lM.eq_1] at h
 refine aN ?_
 refine aD dCo rfl fun K hK=>?_;conv=>whnf
 refine nlA rfl ?_;conv=>whnf
 refine bKo rfl ?_;conv=>whnf
 refine gKo rfl ?_;conv=>whnf
 refine hK _ _ _ ?_
 refine bA fun K1 K2 hK1 hK2=>?_;conv=>whnf
 refine cLk h (fun _ h=>?_) (fun _ h=>?_)
 ·refine hK1 ?_
  refine aL ?_
  refine tHn ?_
  refine aQ ?_
  refine aD dCo rfl fun K hK=>?_;conv=>whnf
  refine hK _ _ _ ?_
  refine aN ?_
  refine aD dCo rfl fun K hK=>?_;conv=>whnf
  refine hK _ _ _ ?_
  refine aQ ?_
  replace h:=aS h
  refine fP (body:=lE _ _) rfl h [1,2,5] [2,5] [] (fun kl kh ids b s=>⟨ofL ([(6,.lst (.tok (b+0)) 1 s.1.length (fun j=>eI (s.1.getD j default))),(7,eI s.2)]++kl),ofH ([(b+0,.cells [])]++kh),b+128⟩) ?_;(conv=>whnf);refine And.intro ?_ (fun s m h=>dO ?_)
  ·refine bI ?_;conv=>whnf
   exact And.intro rfl (And.intro (aLc (WkR.nil (fun _=>rfl)) (aLc wkI (aLc (wkr (lsL fun _=>(lsI _ _))) (aLc (WkR.ptr (fun _=>rfl)) (aLc (WkR.tok (fun _=>rfl) rfl (fun _ _=>Wk.refl _) (fun _=>(lsI _ _))) aLn))))) (aLc ⟨none,rfl,qL⟩ (aLc ⟨some _,rfl,bRc rfl (cKc wkI (cKc (wkr (lsL fun _=>(aO _))) cKn))⟩ (aLc ⟨some _,rfl,bRc rfl cKn⟩ aLn))))
  replace h:=aS h;rw [lE.eq_1] at h
  refine aN ?_
  refine aD dCo rfl fun K hK=>?_;conv=>whnf
  refine nlA rfl ?_;conv=>whnf
  refine bKo rfl ?_;conv=>whnf
  refine gKo rfl ?_;conv=>whnf
  refine hK _ _ _ ?_
  refine bA fun K1 K2 hK1 hK2=>?_;conv=>whnf
  refine cLk h (fun _ h=>?_) (fun _ h=>?_)
  ·refine hK1 ?_
   refine aL ?_
   refine tHn ?_
   refine aN ?_
   refine aQ ?_
   refine aD dCo rfl fun K hK=>?_;conv=>whnf
   replace h:=aS h
   refine rR h23 h (aA aH (aA (Wk.refl _) aB)) (fun _ h=>?_);conv=>whnf
   refine hK _ _ _ ?_
   refine aN ?_
   refine aD dCo rfl fun K hK=>?_;conv=>whnf
   refine hK _ _ _ ?_
   refine aQ ?_
   replace h:=aS h
   refine fP (body:=lP _ _ _) rfl h [1,2,5,6,7] [2,5,6] [] (fun kl kh ids b s=>⟨ofL ([(8,eB s.1),(9,eI s.2)]++kl),ofH ([]++kh),b+64⟩) ?_;(conv=>whnf);refine And.intro ?_ (fun s m h=>dO ?_)
   ·refine bI ?_;conv=>whnf
    exact And.intro rfl (And.intro (aLc (wkr (lsB _)) (aLc wkI (aLc (wkr (lsL fun _=>(lsI _ _))) (aLc (WkR.ptr (fun _=>rfl)) (aLc (WkR.tok (fun _=>rfl) rfl (fun _ _=>Wk.refl _) (fun _=>(lsI _ _))) (aLc (WkR.tok (fun _=>rfl) rfl (fun _ _=>Wk.refl _) (fun _=>(lsI _ _))) (aLc wkI aLn))))))) (aLc ⟨some _,rfl,bRc rfl (cKc wkI (cKc (wkr (lsL fun _=>(aO _))) cKn))⟩ (aLc ⟨some _,rfl,bRc rfl cKn⟩ (aLc ⟨some _,rfl,bRc rfl cKn⟩ aLn))))
   replace h:=aS h;rw [lP.eq_1] at h
   refine aN ?_
   refine aD dCo rfl fun K hK=>?_;conv=>whnf
   refine nlA rfl ?_;conv=>whnf
   refine bKo rfl ?_;conv=>whnf
   refine gKo rfl ?_;conv=>whnf
   refine hK _ _ _ ?_
   refine bA fun K1 K2 hK1 hK2=>?_;conv=>whnf
   refine cLk h (fun _ h=>?_) (fun _ h=>?_)
   ·refine hK1 ?_
    refine aL ?_
    refine tHn ?_
    refine aN ?_
    refine aQ ?_
    refine cX dCo rfl fun K hK=>?_;conv=>whnf
    replace h:=dF h
    refine cLk h (fun _ h=>?_) (fun _ h=>?_)<;>(conv=>whnf)
    ·replace h:=aS h
     refine rR h23 h (aA aH (aA (Wk.refl _) aB)) (fun _ h=>?_);conv=>whnf
     refine cLk h (fun _ h=>?_) (fun _ h=>?_)<;>(conv=>whnf)
     ·refine hK _ _ _ ?_
      refine iBn ?_
      refine tHn ?_
      refine cX dCo rfl fun K hK=>?_;conv=>whnf
      refine hK _ _ _ ?_
      refine tHn ?_
      replace h:=bX h
      refine ⟨_,h,?_⟩
      refine bI ?_;conv=>whnf
      exact And.intro rfl (And.intro (aLc (wkr (lsB _)) (aLc wkI (aLc (wkr (lsL fun _=>(lsI _ _))) (aLc (WkR.ptr (fun _=>rfl)) (aLc (WkR.tok (fun _=>rfl) rfl (fun _ _=>Wk.refl _) (fun _=>(lsI _ _))) (aLc (WkR.tok (fun _=>rfl) rfl (fun _ _=>Wk.refl _) (fun _=>(lsI _ _))) (aLc wkI aLn))))))) (aLc ⟨some _,rfl,bRc rfl (cKc wkI (cKc (wkr (lsL fun _=>(aO _))) cKn))⟩ (aLc ⟨some _,rfl,bRc rfl cKn⟩ (aLc ⟨some _,rfl,bRc rfl cKn⟩ aLn))))
     refine nlA rfl ?_;conv=>whnf
     refine bKo rfl ?_;conv=>whnf
     refine nlA rfl ?_;conv=>whnf
     replace h:=aS h
     refine bH h27 h (WkL.refl _) (fun _ h=>?_);conv=>whnf
     refine hK _ _ _ ?_
     refine iBn ?_
     refine tHn ?_
     refine cX dCo rfl fun K hK=>?_;conv=>whnf
     refine hK _ _ _ ?_
     refine tHn ?_
     replace h:=bX h
     refine ⟨_,h,?_⟩
     refine bI ?_;conv=>whnf
     exact And.intro rfl (And.intro (aLc (wkr (lsB _)) (aLc wkI (aLc (wkr (lsL fun _=>(lsI _ _))) (aLc (WkR.ptr (fun _=>rfl)) (aLc (WkR.tok (fun _=>rfl) rfl (fun _ _=>Wk.refl _) (fun _=>(lsI _ _))) (aLc (WkR.tok (fun _=>rfl) rfl (fun _ _=>Wk.refl _) (fun _=>(lsI _ _))) (aLc wkI aLn))))))) (aLc ⟨some _,rfl,bRc rfl (cKc wkI (cKc (wkr (lsL fun _=>(aO _))) cKn))⟩ (aLc ⟨some _,rfl,bRc rfl cKn⟩ (aLc ⟨some _,rfl,bRc rfl cKn⟩ aLn))))
    refine hK _ _ _ ?_
    refine iBn ?_
    refine tHn ?_
    refine cX dCo rfl fun K hK=>?_;conv=>whnf
    refine hK _ _ _ ?_
    refine tHn ?_
    replace h:=bX h
    refine ⟨_,h,?_⟩
    refine bI ?_;conv=>whnf
    exact And.intro rfl (And.intro (aLc (wkr (lsB _)) (aLc wkI (aLc (wkr (lsL fun _=>(lsI _ _))) (aLc (WkR.ptr (fun _=>rfl)) (aLc (WkR.tok (fun _=>rfl) rfl (fun _ _=>Wk.refl _) (fun _=>(lsI _ _))) (aLc (WkR.tok (fun _=>rfl) rfl (fun _ _=>Wk.refl _) (fun _=>(lsI _ _))) (aLc wkI aLn))))))) (aLc ⟨some _,rfl,bRc rfl (cKc wkI (cKc (wkr (lsL fun _=>(aO _))) cKn))⟩ (aLc ⟨some _,rfl,bRc rfl cKn⟩ (aLc ⟨some _,rfl,bRc rfl cKn⟩ aLn))))
   refine hK2 ?_
   refine bK ?_
   refine aY ?_
   refine aY ?_
   refine aX ?_
   replace h:=dE h
   replace h:=dB h
   refine tHn ?_
   refine aD dCo rfl fun K hK=>?_;conv=>whnf
   refine hK _ _ _ ?_
   replace h:=dF h
   refine bA fun K1 K2 hK1 hK2=>?_;conv=>whnf
   refine cLk h (fun _ h=>?_) (fun _ h=>?_)
   ·refine hK1 ?_
    refine cX dCo rfl fun K hK=>?_;conv=>whnf
    refine cI (enc:=eI) (d:=default) dCo h rfl rfl rfl ⟨nle rfl,nle rfl,rfl⟩ rfl ⟨⟨rfl,rfl,rfl⟩,trivial⟩ (fun h=>?_);conv=>whnf
    refine bN (enc:=eI) (d:=default) dCo h (.inl rfl) rfl rfl rfl ⟨rfl,nle rfl,nle rfl,nle rfl,rfl⟩ (fun _=>rfl) (.inr (.inr ⟨_,_,rfl,rfl,rfl⟩)) (fun h=>?_);conv=>whnf
    refine hK _ _ _ ?_
    refine iBn ?_
    refine tHn ?_
    refine cX dCo rfl fun K hK=>?_;conv=>whnf
    refine hK _ _ _ ?_
    refine tHn ?_
    replace h:=bX h
    refine ⟨_,h,?_⟩
    refine bI ?_;conv=>whnf
    exact And.intro rfl (And.intro (aLc (WkR.tok (fun _=>rfl) rfl (fun _ _=>Wk.refl _) (fun _=>(lsI _ _))) (aLc wkI (aLc (wkr (lsL fun _=>(lsI _ _))) (aLc (WkR.ptr (fun _=>rfl)) (aLc (WkR.tok (fun _=>rfl) rfl (fun _ _=>Wk.refl _) (fun _=>(lsI _ _))) aLn))))) (aLc ⟨some _,rfl,bRc rfl cKn⟩ (aLc ⟨some _,rfl,bRc rfl (cKc wkI (cKc (wkr (lsL fun _=>(aO _))) cKn))⟩ (aLc ⟨some _,rfl,bRc rfl cKn⟩ aLn))))
   refine hK2 ?_
   refine aL ?_
   refine iBn ?_
   refine tHn ?_
   refine cX dCo rfl fun K hK=>?_;conv=>whnf
   refine hK _ _ _ ?_
   refine tHn ?_
   replace h:=bX h
   refine ⟨_,h,?_⟩
   refine bI ?_;conv=>whnf
   exact And.intro rfl (And.intro (aLc (WkR.tok (fun _=>rfl) rfl (fun _ _=>Wk.refl _) (fun _=>(lsI _ _))) (aLc wkI (aLc (wkr (lsL fun _=>(lsI _ _))) (aLc (WkR.ptr (fun _=>rfl)) (aLc (WkR.tok (fun _=>rfl) rfl (fun _ _=>Wk.refl _) (fun _=>(lsI _ _))) aLn))))) (aLc ⟨some _,rfl,bRc rfl cKn⟩ (aLc ⟨some _,rfl,bRc rfl (cKc wkI (cKc (wkr (lsL fun _=>(aO _))) cKn))⟩ (aLc ⟨some _,rfl,bRc rfl cKn⟩ aLn))))
  refine hK2 ?_
  refine bK ?_
  refine aY ?_
  refine aY ?_
  refine aX ?_
  replace h:=dE h
  replace h:=dB h
  refine tHn ?_
  refine aN ?_
  refine aD dCo rfl fun K hK=>?_;conv=>whnf
  refine hK _ _ _ ?_
  refine bA fun K1 K2 hK1 hK2=>?_;conv=>whnf
  refine cLk h (fun _ h=>?_) (fun _ h=>?_)
  ·refine hK1 ?_
   refine aD dCo rfl fun K hK=>?_;conv=>whnf
   refine hK _ _ _ ?_
   refine aG ?_
   refine aR ?_
   refine bB ?_
   refine aR ?_
   refine bB ?_
   refine aR ?_
   replace h:=iJ h
   replace h:=iK h
   replace h:=aF h
   refine aC dCo fun K hK=>?_;conv=>whnf
   refine hK _ ?_
   cases h
   exact aH
  refine hK2 ?_
  refine aL ?_
  refine tHn ?_
  refine aD dCo rfl fun K hK=>?_;conv=>whnf
  refine hK _ _ _ ?_
  refine aN ?_
  refine aD dCo rfl fun K hK=>?_;conv=>whnf
  refine hK _ _ _ ?_
  replace h:=dF h
  refine bA fun K1 K2 hK1 hK2=>?_;conv=>whnf
  refine cLk h (fun _ h=>?_) (fun _ h=>?_)
  ·refine hK1 ?_
   refine cX dCo rfl fun K hK=>?_;conv=>whnf
   refine eQ h fun _ h=>?_;conv=>whnf
   refine gKo rfl ?_;conv=>whnf
   replace h:=aS h
   refine aV h13 h (WkL.refl _) (fun _ h=>?_);conv=>whnf
   refine hK _ _ _ ?_
   refine tHn ?_
   refine cX dCo rfl fun K hK=>?_;conv=>whnf
   refine eQ h fun _ h=>?_;conv=>whnf
   refine gKo rfl ?_;conv=>whnf
   refine cI (enc:=eI) (d:=default) dCo h rfl rfl rfl ⟨nle rfl,nle rfl,rfl⟩ rfl ⟨⟨rfl,rfl,rfl⟩,trivial⟩ (fun h=>?_);conv=>whnf
   refine bN (enc:=eI) (d:=default) dCo h (.inl rfl) rfl rfl rfl ⟨rfl,nle rfl,nle rfl,nle rfl,rfl⟩ (fun _=>rfl) (.inr (.inr ⟨_,_,rfl,rfl,rfl⟩)) (fun h=>?_);conv=>whnf
   refine hK _ _ _ ?_
   refine iBn ?_
   refine tHn ?_
   replace h:=bX h
   refine ⟨_,h,?_⟩
   refine bI ?_;conv=>whnf
   exact And.intro rfl (And.intro (aLc (WkR.tok (fun _=>rfl) rfl (fun _ _=>Wk.refl _) (fun _=>(lsI _ _))) (aLc (wkr (lsL fun _=>(lsI _ _))) (aLc (WkR.ptr (fun _=>rfl)) aLn))) (aLc ⟨some _,rfl,bRc rfl cKn⟩ (aLc ⟨some _,rfl,bRc rfl (cKc wkI (cKc (wkr (lsL fun _=>(aO _))) cKn))⟩ aLn)))
  refine hK2 ?_
  refine aL ?_
  refine tHn ?_
  refine cX dCo rfl fun K hK=>?_;conv=>whnf
  refine eQ h fun _ h=>?_;conv=>whnf
  refine gKo rfl ?_;conv=>whnf
  refine cI (enc:=eI) (d:=default) dCo h rfl rfl rfl ⟨nle rfl,nle rfl,rfl⟩ rfl ⟨⟨rfl,rfl,rfl⟩,trivial⟩ (fun h=>?_);conv=>whnf
  refine bN (enc:=eI) (d:=default) dCo h (.inl rfl) rfl rfl rfl ⟨rfl,nle rfl,nle rfl,nle rfl,rfl⟩ (fun _=>rfl) (.inr (.inr ⟨_,_,rfl,rfl,rfl⟩)) (fun h=>?_);conv=>whnf
  refine hK _ _ _ ?_
  refine iBn ?_
  refine tHn ?_
  replace h:=bX h
  refine ⟨_,h,?_⟩
  refine bI ?_;conv=>whnf
  exact And.intro rfl (And.intro (aLc (WkR.tok (fun _=>rfl) rfl (fun _ _=>Wk.refl _) (fun _=>(lsI _ _))) (aLc (wkr (lsL fun _=>(lsI _ _))) (aLc (WkR.ptr (fun _=>rfl)) aLn))) (aLc ⟨some _,rfl,bRc rfl cKn⟩ (aLc ⟨some _,rfl,bRc rfl (cKc wkI (cKc (wkr (lsL fun _=>(aO _))) cKn))⟩ aLn)))
 refine hK2 ?_
 refine bK ?_
 refine aY ?_
 refine aY ?_
 refine aX ?_
 replace h:=dE h
 replace h:=dB h
 refine tHn ?_
 refine aD dCo rfl fun K hK=>?_;conv=>whnf
 refine hK _ _ _ ?_
 refine aG ?_
 replace h:=aF h
 refine aC dCo fun K hK=>?_;conv=>whnf
 refine hK _ ?_
 cases h
 exact aH
def jT:Option Bool:=lt ([(0,2),(1,2),(2,3),(0,3),(1,4)]:List (Int×Int)) fun l1=>lt ([]:List (Int×Int)) fun l2=>ap l2 l1 fun l3=>
  lt ([(3,1)]:List (Int×Int)) fun l4=>ap l3 l4 fun l5=>bd (kT (⟨5,l1⟩:aP)) fun y6=>bd (jL (⟨5,l1⟩:aP)) fun y7=>
  bd (iB (⟨5,l1⟩:aP)) fun y8=>bd (lW (⟨5,l1⟩:aP)) fun y9=>bd (iT (⟨5,l1⟩:aP)) fun y10=>
  bd (jN (⟨5,l1⟩:aP)) fun y11=>bd (kS (⟨5,l1⟩:aP)) fun y12=>bd (gM (⟨5,l1⟩:aP)) fun y13=>
  bd (kM (⟨5,l1⟩:aP)) fun y14=>bd (cS (⟨5,l5⟩:aP)) fun y15=>bd (cS (⟨5,l1⟩:aP)) fun y16=>
  bd (iT (⟨5,l5⟩:aP)) fun y17=>jn (fun p18:Bool=>cn p18 (some false) (jn (fun p20:Bool=>jn (fun p26:Bool=>jn (fun p36:Bool=>
  jn (fun p45:Bool=>jn (fun p53:Bool=>some p53) fun k54=>cn p20 (cn p26 (cn p36 (cn p45 (bd (bU (⟨5,l1⟩:aP) 1 3) fun y55=>
  cn y55 (bd (bU (⟨5,l1⟩:aP) 3 1) fun y56=>cn (!y56) (bd (bU (⟨5,l1⟩:aP) 0 1) fun y57=>
  k54 (!y57)) (k54 false)) (k54 false)) (k54 false)) (k54 false)) (k54 false)) (k54 false)) fun k46=>cn y15.2 (cn (!y16.2) (lt ([1,2,3]:List Int) fun l47=>
  bd (eR y15.1 l47) fun y48=>cn y48 (bd (cT (⟨5,l1⟩:aP)) fun y49=>cn y49 (bd (cT (⟨5,l5⟩:aP)) fun y50=>
  cn (!y50) (bd (cD (⟨5,l5⟩:aP)) fun y51=>cn y51 (bd (cD (⟨9,[]⟩:aP)) fun y52=>
  k46 (!y52)) (k46 false)) (k46 false)) (k46 false)) (k46 false)) (k46 false)) (k46 false)) fun k37=>lt ([0,0,1,2,1]:List Int) fun l38=>
  bd (eR y11.1 l38) fun y39=>cn y39 (lt ([0,2,3]:List Int) fun l40=>bd (eR y12.1 l40) fun y41=>cn y41 (lt ([0,1]:List Int) fun l42=>
  bd (eR y13.1 l42) fun y43=>cn y43 (let v44:=((y14.1.length:Int)==2);k37 v44) (k37 false)) (k37 false)) (k37 false)) fun k27=>
  lt ([0,1,2,3,7,15,18,19,23,31]:List Int) fun l28=>bd (eR y8.1 l28) fun y29=>cn y29 (lt ([0,1,2,3,4]:List Int) fun l30=>
  bd (eR y9.1 l30) fun y31=>cn y31 (cn (y10.1==7) (lt ([1,4,0,2,3]:List Int) fun l32=>bd (gZ (⟨5,l1⟩:aP) l32) fun y33=>
  cn y33 (lt ([1,2,0,3,4]:List Int) fun l34=>bd (gZ (⟨5,l1⟩:aP) l34) fun y35=>
  k27 (!y35)) (k27 false)) (k27 false)) (k27 false)) (k27 false)) fun k21=>lt ([(0,2),(0,3),(1,2),(1,3),(1,4),(2,3)]:List (Int×Int)) fun l22=>
  bd (jV y6.1 (⟨5,l22⟩:aP)) fun y23=>cn y23 (lt ([(0,2),(1,2),(1,4),(2,3)]:List (Int×Int)) fun l24=>
  bd (jV y7.1 (⟨5,l24⟩:aP)) fun y25=>k21 y25) (k21 false))) fun k19=>cn (y6.2 != 0) (k19 true) (cn (y7.2 != 0) (k19 true) (cn (y8.2 !=
  0) (k19 true) (cn (y9.2 != 0) (k19 true) (cn (y10.2 != 0) (k19 true) (cn (y11.2 != 0) (k19 true) (cn (y12.2 != 0) (k19 true) (cn (y13.2 != 0) (k19 true) (cn (y14.2 !=
  0) (k19 true) (k19 (y17.2 != 70))))))))))
def jZ:List AV→AV→Prop:=fun args r =>  args=[]∧W (jT ) fun y=>r=(eB y)
theorem xR {T:Tbl} (hT:TOk Tryd.prog T) (hpf:dD T PF) (h18:T 18=aU fO) (h19:T 19=aU jO) (h20:T 20=aU iY) (h22:T 22=aU gR) (h24:T 24=aU iM) (h25:T 25=aU gT) (h26:T 26=aU kA) (h27:T 27=aU eT) (h28:T 28=aU gQ) (h29:T 29=aU iU) (h30:T 30=aU eY) (h31:T 31=aU iN) (h32:T 32=aU gI) (h33:T 33=aU eC) (h34:T 34=aU gJ) (h36:T 36=aU jY):FOk Tryd.prog 11 (aU jZ):=by
 refine bO hT hpf Tryd.func11 rfl Tryd.ntmps11 Tryd.results11 (by decide) ?_
 rintro args r ⟨rfl,h⟩
 refine ⟨nle rfl,?_,?_⟩
 ·exact lsN
 rw [jT.eq_1] at h
 refine aD dCo rfl fun K hK=>?_;conv=>whnf
 refine hK _ _ _ ?_
 refine aD dCo rfl fun K hK=>?_;conv=>whnf
 refine cI (enc:=cB) (d:=default) dCo h rfl rfl rfl ⟨nle rfl,nle rfl,rfl⟩ rfl ⟨⟨rfl,nle rfl⟩,⟨⟨rfl,nle rfl⟩,⟨⟨rfl,nle rfl⟩,⟨⟨rfl,nle rfl⟩,⟨⟨rfl,nle rfl⟩,trivial⟩⟩⟩⟩⟩ (fun h=>?_);conv=>whnf
 refine bKo rfl ?_;conv=>whnf
 refine And.intro rfl (And.intro (nle rfl) (And.intro rfl ?_));conv=>whnf
 refine hK _ _ _ ?_
 refine aD dCo rfl fun K hK=>?_;conv=>whnf
 refine cI (enc:=cB) (d:=default) dCo h rfl rfl rfl ⟨nle rfl,nle rfl,rfl⟩ rfl trivial (fun h=>?_);conv=>whnf
 refine nlA rfl ?_;conv=>whnf
 refine bKo rfl ?_;conv=>whnf
 refine gKo rfl ?_;conv=>whnf
 refine jD (enc:=cB) (d:=default) dCo h rfl rfl rfl ⟨rfl,nle rfl,nle rfl,nle rfl,rfl⟩ (fun _=>rfl) (fun h=>?_);conv=>whnf
 refine cI (enc:=cB) (d:=default) dCo h rfl rfl rfl ⟨nle rfl,nle rfl,rfl⟩ rfl ⟨⟨rfl,nle rfl⟩,trivial⟩ (fun h=>?_);conv=>whnf
 refine bN (enc:=cB) (d:=default) dCo h (.inl rfl) rfl rfl rfl ⟨rfl,nle rfl,nle rfl,nle rfl,rfl⟩ (fun _=>rfl) (.inr (.inr ⟨_,_,rfl,rfl,rfl⟩)) (fun h=>?_);conv=>whnf
 refine bKo rfl ?_;conv=>whnf
 refine And.intro rfl (And.intro (nle rfl) (And.intro rfl ?_));conv=>whnf
 refine hK _ _ _ ?_
 refine aD dCo rfl fun K hK=>?_;conv=>whnf
 refine nlA rfl ?_;conv=>whnf
 refine bKo rfl ?_;conv=>whnf
 refine nlA rfl ?_;conv=>whnf
 replace h:=aS h
 refine tC h24 h (aA (aK (aA (Wk.refl _) (aA aH aB))) aB) (fun _ h=>?_);conv=>whnf
 refine bKo rfl ?_;conv=>whnf
 refine And.intro rfl (And.intro (nle rfl) (And.intro rfl ?_));conv=>whnf
 refine hK _ _ _ ?_
 refine aD dCo rfl fun K hK=>?_;conv=>whnf
 refine nlA rfl ?_;conv=>whnf
 refine bKo rfl ?_;conv=>whnf
 refine nlA rfl ?_;conv=>whnf
 replace h:=aS h
 refine sG h25 h (aA (aK (aA (Wk.refl _) (aA aH aB))) aB) (fun _ h=>?_);conv=>whnf
 refine bKo rfl ?_;conv=>whnf
 refine And.intro rfl (And.intro (nle rfl) (And.intro rfl ?_));conv=>whnf
 refine hK _ _ _ ?_
 refine aD dCo rfl fun K hK=>?_;conv=>whnf
 refine nlA rfl ?_;conv=>whnf
 refine bKo rfl ?_;conv=>whnf
 refine nlA rfl ?_;conv=>whnf
 replace h:=aS h
 refine qO h18 h (aA (aK (aA (Wk.refl _) (aA aH aB))) aB) (fun _ h=>?_);conv=>whnf
 refine hK _ _ _ ?_
 refine aD dCo rfl fun K hK=>?_;conv=>whnf
 refine nlA rfl ?_;conv=>whnf
 refine bKo rfl ?_;conv=>whnf
 refine nlA rfl ?_;conv=>whnf
 replace h:=aS h
 refine vD h19 h (aA (aK (aA (Wk.refl _) (aA aH aB))) aB) (fun _ h=>?_);conv=>whnf
 refine hK _ _ _ ?_
 refine aD dCo rfl fun K hK=>?_;conv=>whnf
 refine nlA rfl ?_;conv=>whnf
 refine bKo rfl ?_;conv=>whnf
 refine nlA rfl ?_;conv=>whnf
 replace h:=aS h
 refine oH h20 h (aA (aK (aA (Wk.refl _) (aA aH aB))) aB) (fun _ h=>?_);conv=>whnf
 refine hK _ _ _ ?_
 refine aD dCo rfl fun K hK=>?_;conv=>whnf
 refine nlA rfl ?_;conv=>whnf
 refine bKo rfl ?_;conv=>whnf
 refine nlA rfl ?_;conv=>whnf
 replace h:=aS h
 refine rY h28 h (aA (aK (aA (Wk.refl _) (aA aH aB))) aB) (fun _ h=>?_);conv=>whnf
 refine hK _ _ _ ?_
 refine aD dCo rfl fun K hK=>?_;conv=>whnf
 refine nlA rfl ?_;conv=>whnf
 refine bKo rfl ?_;conv=>whnf
 refine nlA rfl ?_;conv=>whnf
 replace h:=aS h
 refine tB h29 h (aA (aK (aA (Wk.refl _) (aA aH aB))) aB) (fun _ h=>?_);conv=>whnf
 refine hK _ _ _ ?_
 refine aD dCo rfl fun K hK=>?_;conv=>whnf
 refine nlA rfl ?_;conv=>whnf
 refine bKo rfl ?_;conv=>whnf
 refine nlA rfl ?_;conv=>whnf
 replace h:=aS h
 refine pS h30 h (aA (aK (aA (Wk.refl _) (aA aH aB))) aB) (fun _ h=>?_);conv=>whnf
 refine hK _ _ _ ?_
 refine aD dCo rfl fun K hK=>?_;conv=>whnf
 refine nlA rfl ?_;conv=>whnf
 refine bKo rfl ?_;conv=>whnf
 refine nlA rfl ?_;conv=>whnf
 replace h:=aS h
 refine tG h31 h (aA (aK (aA (Wk.refl _) (aA aH aB))) aB) (fun _ h=>?_);conv=>whnf
 refine hK _ _ _ ?_
 refine aD dCo rfl fun K hK=>?_;conv=>whnf
 refine nlA rfl ?_;conv=>whnf
 refine bKo rfl ?_;conv=>whnf
 refine nlA rfl ?_;conv=>whnf
 replace h:=aS h
 refine aJ h32 h (aA (aK (aA (Wk.refl _) (aA aH aB))) aB) (fun _ h=>?_);conv=>whnf
 refine hK _ _ _ ?_
 refine aD dCo rfl fun K hK=>?_;conv=>whnf
 refine nlA rfl ?_;conv=>whnf
 refine bKo rfl ?_;conv=>whnf
 refine nlA rfl ?_;conv=>whnf
 replace h:=aS h
 refine aJ h32 h (aA (aK (aA (Wk.refl _) (aA aH aB))) aB) (fun _ h=>?_);conv=>whnf
 refine hK _ _ _ ?_
 refine aD dCo rfl fun K hK=>?_;conv=>whnf
 refine nlA rfl ?_;conv=>whnf
 refine bKo rfl ?_;conv=>whnf
 refine nlA rfl ?_;conv=>whnf
 replace h:=aS h
 refine oH h20 h (aA (aK (aA (Wk.refl _) (aA aH aB))) aB) (fun _ h=>?_);conv=>whnf
 refine hK _ _ _ ?_
 refine aN ?_
 refine aB3 rfl h [1,2,3,5,7,9,11,13,15,17,19,21,22,24] (fun σ=>oJ σ [1,2,3,5]++rS σ [(2,1)]) [] (fun kl kh ids b s=>⟨ofL ([(143,eB s)]++kl),ofH ([]++kh),b+64⟩) ?_;(conv=>whnf);refine And.intro (fun s h=>dO ?_) (fun k h=>?_)
 ·refine bA fun K1 K2 hK1 hK2=>?_;conv=>whnf
  refine cLk h (fun _ h=>?_) (fun _ h=>?_)
  ·refine hK1 ?_
   refine aD dCo rfl fun K hK=>?_;conv=>whnf
   refine hK _ _ _ ?_
   refine aG ?_
   refine aR ?_
   replace h:=aF h
   refine aC dCo fun K hK=>?_;conv=>whnf
   refine hK _ ?_
   cases h
   exact Wk.refl _
  refine hK2 ?_
  refine aL ?_
  refine tHn ?_
  refine aB3 rfl h [1,2,7,9,11,13,15,17,19,21,22,24] (fun σ=>oJ σ [1,2]++rS σ [(2,1)]) [] (fun kl kh ids b s=>⟨ofL ([(27,eB s)]++kl),ofH ([]++kh),b+64⟩) ?_;(conv=>whnf);refine And.intro (fun s h=>dO ?_) (fun k h=>?_)
  ·refine aB3 rfl h [1,2,13,15,17,19,21,22,24,27] (fun σ=>oJ σ [1,2]++rS σ [(2,1)]) [] (fun kl kh ids b s=>⟨ofL ([(28,eB s)]++kl),ofH ([]++kh),b+64⟩) ?_;(conv=>whnf);refine And.intro (fun s h=>dO ?_) (fun k h=>?_)
   ·refine aB3 rfl h [1,2,21,22,24,27,28] (fun σ=>oJ σ [1,2]++rS σ [(2,1)]) [] (fun kl kh ids b s=>⟨ofL ([(29,eB s)]++kl),ofH ([]++kh),b+64⟩) ?_;(conv=>whnf);refine And.intro (fun s h=>dO ?_) (fun k h=>?_)
    ·refine aHM rfl h [1,27,28,29] [1] [] (fun kl kh ids b s=>⟨ofL ([(30,eB s)]++kl),ofH ([]++kh),b+64⟩) ?_;(conv=>whnf);refine And.intro (fun s h=>dO ?_) (fun k h=>?_)
     ·refine aD dCo rfl fun K hK=>?_;conv=>whnf
      replace h:=dF h
      refine cLk h (fun _ h=>?_) (fun _ h=>?_)<;>(conv=>whnf)
      ·refine cLk h (fun _ h=>?_) (fun _ h=>?_)<;>(conv=>whnf)
       ·refine cLk h (fun _ h=>?_) (fun _ h=>?_)<;>(conv=>whnf)
        ·refine cLk h (fun _ h=>?_) (fun _ h=>?_)<;>(conv=>whnf)
         ·refine nlA rfl ?_;conv=>whnf
          refine bKo rfl ?_;conv=>whnf
          refine nlA rfl ?_;conv=>whnf
          replace h:=aS h
          refine bH h27 h (aA (aK (aA (Wk.refl _) (aA aH aB))) (aA (Wk.refl _) (aA (Wk.refl _) aB))) (fun _ h=>?_);conv=>whnf
          refine cLk h (fun _ h=>?_) (fun _ h=>?_)<;>(conv=>whnf)
          ·refine nlA rfl ?_;conv=>whnf
           refine bKo rfl ?_;conv=>whnf
           refine nlA rfl ?_;conv=>whnf
           replace h:=aS h
           refine bH h27 h (aA (aK (aA (Wk.refl _) (aA aH aB))) (aA (Wk.refl _) (aA (Wk.refl _) aB))) (fun _ h=>?_);conv=>whnf
           refine cLk h (fun _ h=>?_) (fun _ h=>?_)<;>(conv=>whnf)
           ·refine nlA rfl ?_;conv=>whnf
            refine bKo rfl ?_;conv=>whnf
            refine nlA rfl ?_;conv=>whnf
            replace h:=aS h
            refine bH h27 h (aA (aK (aA (Wk.refl _) (aA aH aB))) (aA (Wk.refl _) (aA (Wk.refl _) aB))) (fun _ h=>?_);conv=>whnf
            refine hK _ _ _ ?_
            refine aG ?_
            replace h:=aF h
            refine aC dCo fun K hK=>?_;conv=>whnf
            refine hK _ ?_
            cases h
            exact Wk.refl _
           refine hK _ _ _ ?_
           refine aG ?_
           replace h:=aF h
           refine aC dCo fun K hK=>?_;conv=>whnf
           refine hK _ ?_
           cases h
           exact Wk.refl _
          refine hK _ _ _ ?_
          refine aG ?_
          replace h:=aF h
          refine aC dCo fun K hK=>?_;conv=>whnf
          refine hK _ ?_
          cases h
          exact Wk.refl _
         refine hK _ _ _ ?_
         refine aG ?_
         replace h:=aF h
         refine aC dCo fun K hK=>?_;conv=>whnf
         refine hK _ ?_
         cases h
         exact Wk.refl _
        refine hK _ _ _ ?_
        refine aG ?_
        replace h:=aF h
        refine aC dCo fun K hK=>?_;conv=>whnf
        refine hK _ ?_
        cases h
        exact Wk.refl _
       refine hK _ _ _ ?_
       refine aG ?_
       replace h:=aF h
       refine aC dCo fun K hK=>?_;conv=>whnf
       refine hK _ ?_
       cases h
       exact Wk.refl _
      refine hK _ _ _ ?_
      refine aG ?_
      replace h:=aF h
      refine aC dCo fun K hK=>?_;conv=>whnf
      refine hK _ ?_
      cases h
      exact Wk.refl _
     refine cX dCo rfl fun K hK=>?_;conv=>whnf
     refine cLk h (fun _ h=>?_) (fun _ h=>?_)<;>(conv=>whnf)
     ·refine cLk h (fun _ h=>?_) (fun _ h=>?_)<;>(conv=>whnf)
      ·refine cI (enc:=eI) (d:=default) dCo h rfl rfl rfl ⟨nle rfl,nle rfl,rfl⟩ rfl ⟨⟨rfl,rfl,rfl⟩,⟨⟨rfl,rfl,rfl⟩,⟨⟨rfl,rfl,rfl⟩,trivial⟩⟩⟩ (fun h=>?_);conv=>whnf
       replace h:=aS h
       refine fB h36 h (aA (Wk.refl _) (aA aH aB)) (fun _ h=>?_);conv=>whnf
       refine cLk h (fun _ h=>?_) (fun _ h=>?_)<;>(conv=>whnf)
       ·refine nlA rfl ?_;conv=>whnf
        refine bKo rfl ?_;conv=>whnf
        refine nlA rfl ?_;conv=>whnf
        replace h:=aS h
        refine aI h34 h (aA (aK (aA (Wk.refl _) (aA aH aB))) aB) (fun _ h=>?_);conv=>whnf
        refine cLk h (fun _ h=>?_) (fun _ h=>?_)<;>(conv=>whnf)
        ·refine nlA rfl ?_;conv=>whnf
         refine bKo rfl ?_;conv=>whnf
         refine nlA rfl ?_;conv=>whnf
         replace h:=aS h
         refine aI h34 h (aA (aK (aA (Wk.refl _) (aA aH aB))) aB) (fun _ h=>?_);conv=>whnf
         refine cLk h (fun _ h=>?_) (fun _ h=>?_)<;>(conv=>whnf)
         ·refine nlA rfl ?_;conv=>whnf
          refine bKo rfl ?_;conv=>whnf
          refine nlA rfl ?_;conv=>whnf
          replace h:=aS h
          refine aE h33 h (aA (aK (aA (Wk.refl _) (aA aH aB))) aB) (fun _ h=>?_);conv=>whnf
          refine cLk h (fun _ h=>?_) (fun _ h=>?_)<;>(conv=>whnf)
          ·replace h:=aS h
           refine aE h33 h (aA (aK (aA (Wk.refl _) (aA kI aB))) aB) (fun _ h=>?_);conv=>whnf
           refine hK _ _ _ ?_
           refine tHn ?_
           refine ⟨_,h,?_⟩
           refine bI ?_;conv=>whnf
           exact And.intro rfl (And.intro (aLc (wkr (lsB _)) (aLc (WkR.ptr (fun _=>rfl)) (aLc (wkr (lsB _)) (aLc (wkr (lsB _)) (aLc (wkr (lsB _)) aLn))))) (aLc ⟨some _,rfl,bRc rfl (cKc wkI (cKc (wkr (bQ fun _=>(aO _))) cKn))⟩ aLn))
          refine hK _ _ _ ?_
          refine tHn ?_
          refine ⟨_,h,?_⟩
          refine bI ?_;conv=>whnf
          exact And.intro rfl (And.intro (aLc (wkr (lsB _)) (aLc (WkR.ptr (fun _=>rfl)) (aLc (wkr (lsB _)) (aLc (wkr (lsB _)) (aLc (wkr (lsB _)) aLn))))) (aLc ⟨some _,rfl,bRc rfl (cKc wkI (cKc (wkr (bQ fun _=>(aO _))) cKn))⟩ aLn))
         refine hK _ _ _ ?_
         refine tHn ?_
         refine ⟨_,h,?_⟩
         refine bI ?_;conv=>whnf
         exact And.intro rfl (And.intro (aLc (wkr (lsB _)) (aLc (WkR.ptr (fun _=>rfl)) (aLc (wkr (lsB _)) (aLc (wkr (lsB _)) (aLc (wkr (lsB _)) aLn))))) (aLc ⟨some _,rfl,bRc rfl (cKc wkI (cKc (wkr (bQ fun _=>(aO _))) cKn))⟩ aLn))
        refine hK _ _ _ ?_
        refine tHn ?_
        refine ⟨_,h,?_⟩
        refine bI ?_;conv=>whnf
        exact And.intro rfl (And.intro (aLc (wkr (lsB _)) (aLc (WkR.ptr (fun _=>rfl)) (aLc (wkr (lsB _)) (aLc (wkr (lsB _)) (aLc (wkr (lsB _)) aLn))))) (aLc ⟨some _,rfl,bRc rfl (cKc wkI (cKc (wkr (bQ fun _=>(aO _))) cKn))⟩ aLn))
       refine hK _ _ _ ?_
       refine tHn ?_
       refine ⟨_,h,?_⟩
       refine bI ?_;conv=>whnf
       exact And.intro rfl (And.intro (aLc (wkr (lsB _)) (aLc (WkR.ptr (fun _=>rfl)) (aLc (wkr (lsB _)) (aLc (wkr (lsB _)) (aLc (wkr (lsB _)) aLn))))) (aLc ⟨some _,rfl,bRc rfl (cKc wkI (cKc (wkr (bQ fun _=>(aO _))) cKn))⟩ aLn))
      refine hK _ _ _ ?_
      refine tHn ?_
      refine ⟨_,h,?_⟩
      refine bI ?_;conv=>whnf
      exact And.intro rfl (And.intro (aLc (wkr (lsB _)) (aLc (WkR.ptr (fun _=>rfl)) (aLc (wkr (lsB _)) (aLc (wkr (lsB _)) (aLc (wkr (lsB _)) aLn))))) (aLc ⟨some _,rfl,bRc rfl (cKc wkI (cKc (wkr (bQ fun _=>(aO _))) cKn))⟩ aLn))
     refine hK _ _ _ ?_
     refine tHn ?_
     refine ⟨_,h,?_⟩
     refine bI ?_;conv=>whnf
     exact And.intro rfl (And.intro (aLc (wkr (lsB _)) (aLc (WkR.ptr (fun _=>rfl)) (aLc (wkr (lsB _)) (aLc (wkr (lsB _)) (aLc (wkr (lsB _)) aLn))))) (aLc ⟨some _,rfl,bRc rfl (cKc wkI (cKc (wkr (bQ fun _=>(aO _))) cKn))⟩ aLn))
    refine cX dCo rfl fun K hK=>?_;conv=>whnf
    refine cI (enc:=eI) (d:=default) dCo h rfl rfl rfl ⟨nle rfl,nle rfl,rfl⟩ rfl ⟨⟨rfl,rfl,rfl⟩,⟨⟨rfl,rfl,rfl⟩,⟨⟨rfl,rfl,rfl⟩,⟨⟨rfl,rfl,rfl⟩,⟨⟨rfl,rfl,rfl⟩,trivial⟩⟩⟩⟩⟩ (fun h=>?_);conv=>whnf
    replace h:=aS h
    refine fB h36 h (aA (Wk.refl _) (aA aH aB)) (fun _ h=>?_);conv=>whnf
    refine cLk h (fun _ h=>?_) (fun _ h=>?_)<;>(conv=>whnf)
    ·refine cI (enc:=eI) (d:=default) dCo h rfl rfl rfl ⟨nle rfl,nle rfl,rfl⟩ rfl ⟨⟨rfl,rfl,rfl⟩,⟨⟨rfl,rfl,rfl⟩,⟨⟨rfl,rfl,rfl⟩,trivial⟩⟩⟩ (fun h=>?_);conv=>whnf
     replace h:=aS h
     refine fB h36 h (aA (Wk.refl _) (aA aH aB)) (fun _ h=>?_);conv=>whnf
     refine cLk h (fun _ h=>?_) (fun _ h=>?_)<;>(conv=>whnf)
     ·refine cI (enc:=eI) (d:=default) dCo h rfl rfl rfl ⟨nle rfl,nle rfl,rfl⟩ rfl ⟨⟨rfl,rfl,rfl⟩,⟨⟨rfl,rfl,rfl⟩,trivial⟩⟩ (fun h=>?_);conv=>whnf
      replace h:=aS h
      refine fB h36 h (aA (Wk.refl _) (aA aH aB)) (fun _ h=>?_);conv=>whnf
      refine cLk h (fun _ h=>?_) (fun _ h=>?_)<;>(conv=>whnf)
      ·refine hK _ _ _ ?_
       refine tHn ?_
       refine ⟨_,h,?_⟩
       refine bI ?_;conv=>whnf
       exact And.intro rfl (And.intro (aLc (wkr (lsB _)) (aLc (WkR.ptr (fun _=>rfl)) (aLc (WkR.ptr (fun _=>rfl)) (aLc (wkr (lsL fun _=>(lsI _ _))) (aLc (wkr (lsB _)) (aLc (wkr (lsB _)) (aLc (wkr (lsB _)) (aLc (wkr (lsB _)) aLn)))))))) (aLc ⟨some _,rfl,bRc rfl (cKc wkI (cKc (wkr (bQ fun _=>(aO _))) cKn))⟩ (aLc ⟨some _,rfl,bRc rfl (cKc wkI (cKc (WkR.tok (fun _=>rfl) rfl (fun _ _=>Wk.refl _) (fun _=>(aO _))) cKn))⟩ (aLc ⟨some _,rfl,bRc rfl cKn⟩ aLn))))
      refine hK _ _ _ ?_
      refine tHn ?_
      refine ⟨_,h,?_⟩
      refine bI ?_;conv=>whnf
      exact And.intro rfl (And.intro (aLc (wkr (lsB _)) (aLc (WkR.ptr (fun _=>rfl)) (aLc (WkR.ptr (fun _=>rfl)) (aLc (wkr (lsL fun _=>(lsI _ _))) (aLc (wkr (lsB _)) (aLc (wkr (lsB _)) (aLc (wkr (lsB _)) (aLc (wkr (lsB _)) aLn)))))))) (aLc ⟨some _,rfl,bRc rfl (cKc wkI (cKc (wkr (bQ fun _=>(aO _))) cKn))⟩ (aLc ⟨some _,rfl,bRc rfl (cKc wkI (cKc (WkR.tok (fun _=>rfl) rfl (fun _ _=>Wk.refl _) (fun _=>(aO _))) cKn))⟩ (aLc ⟨some _,rfl,bRc rfl cKn⟩ aLn))))
     refine hK _ _ _ ?_
     refine tHn ?_
     refine ⟨_,h,?_⟩
     refine bI ?_;conv=>whnf
     exact And.intro rfl (And.intro (aLc (wkr (lsB _)) (aLc (WkR.ptr (fun _=>rfl)) (aLc (WkR.ptr (fun _=>rfl)) (aLc (wkr (lsL fun _=>(lsI _ _))) (aLc (wkr (lsB _)) (aLc (wkr (lsB _)) (aLc (wkr (lsB _)) (aLc (wkr (lsB _)) aLn)))))))) (aLc ⟨some _,rfl,bRc rfl (cKc wkI (cKc (wkr (bQ fun _=>(aO _))) cKn))⟩ (aLc ⟨some _,rfl,bRc rfl (cKc wkI (cKc (WkR.tok (fun _=>rfl) rfl (fun _ _=>Wk.refl _) (fun _=>(aO _))) cKn))⟩ (aLc ⟨some _,rfl,bRc rfl cKn⟩ aLn))))
    refine hK _ _ _ ?_
    refine tHn ?_
    refine ⟨_,h,?_⟩
    refine bI ?_;conv=>whnf
    exact And.intro rfl (And.intro (aLc (wkr (lsB _)) (aLc (WkR.ptr (fun _=>rfl)) (aLc (WkR.ptr (fun _=>rfl)) (aLc (wkr (lsL fun _=>(lsI _ _))) (aLc (wkr (lsB _)) (aLc (wkr (lsB _)) (aLc (wkr (lsB _)) (aLc (wkr (lsB _)) aLn)))))))) (aLc ⟨some _,rfl,bRc rfl (cKc wkI (cKc (wkr (bQ fun _=>(aO _))) cKn))⟩ (aLc ⟨some _,rfl,bRc rfl (cKc wkI (cKc (WkR.tok (fun _=>rfl) rfl (fun _ _=>Wk.refl _) (fun _=>(aO _))) cKn))⟩ (aLc ⟨some _,rfl,bRc rfl cKn⟩ aLn))))
   refine cX dCo rfl fun K hK=>?_;conv=>whnf
   refine cI (enc:=eI) (d:=default) dCo h rfl rfl rfl ⟨nle rfl,nle rfl,rfl⟩ rfl ⟨⟨rfl,rfl,rfl⟩,⟨⟨rfl,rfl,rfl⟩,⟨⟨rfl,rfl,rfl⟩,⟨⟨rfl,rfl,rfl⟩,⟨⟨rfl,rfl,rfl⟩,⟨⟨rfl,rfl,rfl⟩,⟨⟨rfl,rfl,rfl⟩,⟨⟨rfl,rfl,rfl⟩,⟨⟨rfl,rfl,rfl⟩,⟨⟨rfl,rfl,rfl⟩,trivial⟩⟩⟩⟩⟩⟩⟩⟩⟩⟩ (fun h=>?_);conv=>whnf
   replace h:=aS h
   refine fB h36 h (aA (Wk.refl _) (aA aH aB)) (fun _ h=>?_);conv=>whnf
   refine cLk h (fun _ h=>?_) (fun _ h=>?_)<;>(conv=>whnf)
   ·refine cI (enc:=eI) (d:=default) dCo h rfl rfl rfl ⟨nle rfl,nle rfl,rfl⟩ rfl ⟨⟨rfl,rfl,rfl⟩,⟨⟨rfl,rfl,rfl⟩,⟨⟨rfl,rfl,rfl⟩,⟨⟨rfl,rfl,rfl⟩,⟨⟨rfl,rfl,rfl⟩,trivial⟩⟩⟩⟩⟩ (fun h=>?_);conv=>whnf
    replace h:=aS h
    refine fB h36 h (aA (Wk.refl _) (aA aH aB)) (fun _ h=>?_);conv=>whnf
    refine cLk h (fun _ h=>?_) (fun _ h=>?_)<;>(conv=>whnf)
    ·refine cLk h (fun _ h=>?_) (fun _ h=>?_)<;>(conv=>whnf)
     ·refine nlA rfl ?_;conv=>whnf
      refine bKo rfl ?_;conv=>whnf
      refine nlA rfl ?_;conv=>whnf
      refine cI (enc:=eI) (d:=default) dCo h rfl rfl rfl ⟨nle rfl,nle rfl,rfl⟩ rfl ⟨⟨rfl,rfl,rfl⟩,⟨⟨rfl,rfl,rfl⟩,⟨⟨rfl,rfl,rfl⟩,⟨⟨rfl,rfl,rfl⟩,⟨⟨rfl,rfl,rfl⟩,trivial⟩⟩⟩⟩⟩ (fun h=>?_);conv=>whnf
      replace h:=aS h
      refine mU h22 h (aA (aK (aA (Wk.refl _) (aA aH aB))) (aA aH aB)) (fun _ h=>?_);conv=>whnf
      refine cLk h (fun _ h=>?_) (fun _ h=>?_)<;>(conv=>whnf)
      ·refine nlA rfl ?_;conv=>whnf
       refine bKo rfl ?_;conv=>whnf
       refine nlA rfl ?_;conv=>whnf
       refine cI (enc:=eI) (d:=default) dCo h rfl rfl rfl ⟨nle rfl,nle rfl,rfl⟩ rfl ⟨⟨rfl,rfl,rfl⟩,⟨⟨rfl,rfl,rfl⟩,⟨⟨rfl,rfl,rfl⟩,⟨⟨rfl,rfl,rfl⟩,⟨⟨rfl,rfl,rfl⟩,trivial⟩⟩⟩⟩⟩ (fun h=>?_);conv=>whnf
       replace h:=aS h
       refine mU h22 h (aA (aK (aA (Wk.refl _) (aA aH aB))) (aA aH aB)) (fun _ h=>?_);conv=>whnf
       refine hK _ _ _ ?_
       refine tHn ?_
       refine ⟨_,h,?_⟩
       refine bI ?_;conv=>whnf
       exact And.intro rfl (And.intro (aLc (wkr (lsB _)) (aLc (WkR.ptr (fun _=>rfl)) (aLc (WkR.ptr (fun _=>rfl)) (aLc (wkr (lsL fun _=>(lsI _ _))) (aLc (wkr (lsL fun _=>(lsI _ _))) (aLc (wkr (lsL fun _=>(lsI _ _))) (aLc (wkr (lsL fun _=>(lsL fun _=>(lsI _ _)))) (aLc (wkr (lsL fun _=>(lsI _ _))) (aLc (wkr (lsB _)) (aLc (wkr (lsB _)) (aLc (wkr (lsB _)) aLn))))))))))) (aLc ⟨some _,rfl,bRc rfl (cKc wkI (cKc (wkr (bQ fun _=>(aO _))) cKn))⟩ (aLc ⟨some _,rfl,bRc rfl (cKc wkI (cKc (WkR.tok (fun _=>rfl) rfl (fun _ _=>Wk.refl _) (fun _=>(aO _))) cKn))⟩ (aLc ⟨some _,rfl,bRc rfl cKn⟩ aLn))))
      refine hK _ _ _ ?_
      refine tHn ?_
      refine ⟨_,h,?_⟩
      refine bI ?_;conv=>whnf
      exact And.intro rfl (And.intro (aLc (wkr (lsB _)) (aLc (WkR.ptr (fun _=>rfl)) (aLc (WkR.ptr (fun _=>rfl)) (aLc (wkr (lsL fun _=>(lsI _ _))) (aLc (wkr (lsL fun _=>(lsI _ _))) (aLc (wkr (lsL fun _=>(lsI _ _))) (aLc (wkr (lsL fun _=>(lsL fun _=>(lsI _ _)))) (aLc (wkr (lsL fun _=>(lsI _ _))) (aLc (wkr (lsB _)) (aLc (wkr (lsB _)) (aLc (wkr (lsB _)) aLn))))))))))) (aLc ⟨some _,rfl,bRc rfl (cKc wkI (cKc (wkr (bQ fun _=>(aO _))) cKn))⟩ (aLc ⟨some _,rfl,bRc rfl (cKc wkI (cKc (WkR.tok (fun _=>rfl) rfl (fun _ _=>Wk.refl _) (fun _=>(aO _))) cKn))⟩ (aLc ⟨some _,rfl,bRc rfl cKn⟩ aLn))))
     refine hK _ _ _ ?_
     refine tHn ?_
     refine ⟨_,h,?_⟩
     refine bI ?_;conv=>whnf
     exact And.intro rfl (And.intro (aLc (wkr (lsB _)) (aLc (WkR.ptr (fun _=>rfl)) (aLc (WkR.ptr (fun _=>rfl)) (aLc (wkr (lsL fun _=>(lsI _ _))) (aLc (wkr (lsL fun _=>(lsI _ _))) (aLc (wkr (lsL fun _=>(lsI _ _))) (aLc (wkr (lsL fun _=>(lsL fun _=>(lsI _ _)))) (aLc (wkr (lsL fun _=>(lsI _ _))) (aLc (wkr (lsB _)) (aLc (wkr (lsB _)) (aLc (wkr (lsB _)) aLn))))))))))) (aLc ⟨some _,rfl,bRc rfl (cKc wkI (cKc (wkr (bQ fun _=>(aO _))) cKn))⟩ (aLc ⟨some _,rfl,bRc rfl (cKc wkI (cKc (WkR.tok (fun _=>rfl) rfl (fun _ _=>Wk.refl _) (fun _=>(aO _))) cKn))⟩ (aLc ⟨some _,rfl,bRc rfl cKn⟩ aLn))))
    refine hK _ _ _ ?_
    refine tHn ?_
    refine ⟨_,h,?_⟩
    refine bI ?_;conv=>whnf
    exact And.intro rfl (And.intro (aLc (wkr (lsB _)) (aLc (WkR.ptr (fun _=>rfl)) (aLc (WkR.ptr (fun _=>rfl)) (aLc (wkr (lsL fun _=>(lsI _ _))) (aLc (wkr (lsL fun _=>(lsI _ _))) (aLc (wkr (lsL fun _=>(lsI _ _))) (aLc (wkr (lsL fun _=>(lsL fun _=>(lsI _ _)))) (aLc (wkr (lsL fun _=>(lsI _ _))) (aLc (wkr (lsB _)) (aLc (wkr (lsB _)) (aLc (wkr (lsB _)) aLn))))))))))) (aLc ⟨some _,rfl,bRc rfl (cKc wkI (cKc (wkr (bQ fun _=>(aO _))) cKn))⟩ (aLc ⟨some _,rfl,bRc rfl (cKc wkI (cKc (WkR.tok (fun _=>rfl) rfl (fun _ _=>Wk.refl _) (fun _=>(aO _))) cKn))⟩ (aLc ⟨some _,rfl,bRc rfl cKn⟩ aLn))))
   refine hK _ _ _ ?_
   refine tHn ?_
   refine ⟨_,h,?_⟩
   refine bI ?_;conv=>whnf
   exact And.intro rfl (And.intro (aLc (wkr (lsB _)) (aLc (WkR.ptr (fun _=>rfl)) (aLc (WkR.ptr (fun _=>rfl)) (aLc (wkr (lsL fun _=>(lsI _ _))) (aLc (wkr (lsL fun _=>(lsI _ _))) (aLc (wkr (lsL fun _=>(lsI _ _))) (aLc (wkr (lsL fun _=>(lsL fun _=>(lsI _ _)))) (aLc (wkr (lsL fun _=>(lsI _ _))) (aLc (wkr (lsB _)) (aLc (wkr (lsB _)) (aLc (wkr (lsB _)) aLn))))))))))) (aLc ⟨some _,rfl,bRc rfl (cKc wkI (cKc (wkr (bQ fun _=>(aO _))) cKn))⟩ (aLc ⟨some _,rfl,bRc rfl (cKc wkI (cKc (WkR.tok (fun _=>rfl) rfl (fun _ _=>Wk.refl _) (fun _=>(aO _))) cKn))⟩ (aLc ⟨some _,rfl,bRc rfl cKn⟩ aLn))))
  refine cX dCo rfl fun K hK=>?_;conv=>whnf
  refine nlA rfl ?_;conv=>whnf
  refine bKo rfl ?_;conv=>whnf
  refine nlA rfl ?_;conv=>whnf
  refine cI (enc:=cB) (d:=default) dCo h rfl rfl rfl ⟨nle rfl,nle rfl,rfl⟩ rfl ⟨⟨rfl,nle rfl⟩,⟨⟨rfl,nle rfl⟩,⟨⟨rfl,nle rfl⟩,⟨⟨rfl,nle rfl⟩,⟨⟨rfl,nle rfl⟩,⟨⟨rfl,nle rfl⟩,trivial⟩⟩⟩⟩⟩⟩ (fun h=>?_);conv=>whnf
  replace h:=aS h
  refine oP h26 h (aA (Wk.refl _) (aA (aK (aA (Wk.refl _) (aA aH aB))) aB)) (fun _ h=>?_);conv=>whnf
  refine cLk h (fun _ h=>?_) (fun _ h=>?_)<;>(conv=>whnf)
  ·refine nlA rfl ?_;conv=>whnf
   refine bKo rfl ?_;conv=>whnf
   refine nlA rfl ?_;conv=>whnf
   refine cI (enc:=cB) (d:=default) dCo h rfl rfl rfl ⟨nle rfl,nle rfl,rfl⟩ rfl ⟨⟨rfl,nle rfl⟩,⟨⟨rfl,nle rfl⟩,⟨⟨rfl,nle rfl⟩,⟨⟨rfl,nle rfl⟩,trivial⟩⟩⟩⟩ (fun h=>?_);conv=>whnf
   replace h:=aS h
   refine oP h26 h (aA (Wk.refl _) (aA (aK (aA (Wk.refl _) (aA aH aB))) aB)) (fun _ h=>?_);conv=>whnf
   refine hK _ _ _ ?_
   refine tHn ?_
   refine ⟨_,h,?_⟩
   refine bI ?_;conv=>whnf
   exact And.intro rfl (And.intro (aLc (wkr (lsB _)) (aLc (WkR.ptr (fun _=>rfl)) (aLc (WkR.ptr (fun _=>rfl)) (aLc (wkr (lsL fun _=>(lsI _ _))) (aLc (wkr (lsL fun _=>(lsI _ _))) (aLc wkI (aLc (wkr (lsL fun _=>(lsI _ _))) (aLc (wkr (lsL fun _=>(lsI _ _))) (aLc (wkr (lsL fun _=>(lsI _ _))) (aLc (wkr (lsL fun _=>(lsL fun _=>(lsI _ _)))) (aLc (wkr (lsL fun _=>(lsI _ _))) (aLc (wkr (lsB _)) (aLc (wkr (lsB _)) aLn))))))))))))) (aLc ⟨some _,rfl,bRc rfl (cKc wkI (cKc (wkr (bQ fun _=>(aO _))) cKn))⟩ (aLc ⟨some _,rfl,bRc rfl (cKc wkI (cKc (WkR.tok (fun _=>rfl) rfl (fun _ _=>Wk.refl _) (fun _=>(aO _))) cKn))⟩ (aLc ⟨some _,rfl,bRc rfl cKn⟩ aLn))))
  refine hK _ _ _ ?_
  refine tHn ?_
  refine ⟨_,h,?_⟩
  refine bI ?_;conv=>whnf
  exact And.intro rfl (And.intro (aLc (wkr (lsB _)) (aLc (WkR.ptr (fun _=>rfl)) (aLc (WkR.ptr (fun _=>rfl)) (aLc (wkr (lsL fun _=>(lsI _ _))) (aLc (wkr (lsL fun _=>(lsI _ _))) (aLc wkI (aLc (wkr (lsL fun _=>(lsI _ _))) (aLc (wkr (lsL fun _=>(lsI _ _))) (aLc (wkr (lsL fun _=>(lsI _ _))) (aLc (wkr (lsL fun _=>(lsL fun _=>(lsI _ _)))) (aLc (wkr (lsL fun _=>(lsI _ _))) (aLc (wkr (lsB _)) (aLc (wkr (lsB _)) aLn))))))))))))) (aLc ⟨some _,rfl,bRc rfl (cKc wkI (cKc (wkr (bQ fun _=>(aO _))) cKn))⟩ (aLc ⟨some _,rfl,bRc rfl (cKc wkI (cKc (WkR.tok (fun _=>rfl) rfl (fun _ _=>Wk.refl _) (fun _=>(aO _))) cKn))⟩ (aLc ⟨some _,rfl,bRc rfl cKn⟩ aLn))))
 refine cX dCo rfl fun K hK=>?_;conv=>whnf
 refine cLk h (fun _ h=>?_) (fun _ h=>?_)<;>(conv=>whnf)
 ·refine hK _ _ _ ?_
  refine tHn ?_
  refine ⟨_,h,?_⟩
  refine bI ?_;conv=>whnf
  exact And.intro rfl (And.intro (aLc (wkr (lsB _)) (aLc (WkR.ptr (fun _=>rfl)) (aLc (WkR.ptr (fun _=>rfl)) (aLc (WkR.ptr (fun _=>rfl)) (aLc (WkR.ptr (fun _=>rfl)) (aLc (wkr (lsL fun _=>(lsI _ _))) (aLc (wkr (lsL fun _=>(lsI _ _))) (aLc wkI (aLc (wkr (lsL fun _=>(lsI _ _))) (aLc (wkr (lsL fun _=>(lsI _ _))) (aLc (wkr (lsL fun _=>(lsI _ _))) (aLc (wkr (lsL fun _=>(lsL fun _=>(lsI _ _)))) (aLc (wkr (lsL fun _=>(lsI _ _))) (aLc (wkr (lsB _)) (aLc (wkr (lsB _)) aLn))))))))))))))) (aLc ⟨some _,rfl,bRc rfl (cKc wkI (cKc (wkr (bQ fun _=>(aO _))) cKn))⟩ (aLc ⟨some _,rfl,bRc rfl (cKc wkI (cKc (WkR.tok (fun _=>rfl) rfl (fun _ _=>Wk.refl _) (fun _=>(aO _))) cKn))⟩ (aLc ⟨some _,rfl,bRc rfl (cKc wkI (cKc (wkr (lsL fun _=>(aO _))) cKn))⟩ (aLc ⟨some _,rfl,bRc rfl (cKc wkI (cKc (wkr (lsL fun _=>(aO _))) cKn))⟩ (aLc ⟨some _,rfl,bRc rfl cKn⟩ aLn))))))
 refine cLk h (fun _ h=>?_) (fun _ h=>?_)<;>(conv=>whnf)
 ·refine hK _ _ _ ?_
  refine tHn ?_
  refine ⟨_,h,?_⟩
  refine bI ?_;conv=>whnf
  exact And.intro rfl (And.intro (aLc (wkr (lsB _)) (aLc (WkR.ptr (fun _=>rfl)) (aLc (WkR.ptr (fun _=>rfl)) (aLc (WkR.ptr (fun _=>rfl)) (aLc (WkR.ptr (fun _=>rfl)) (aLc (wkr (lsL fun _=>(lsI _ _))) (aLc (wkr (lsL fun _=>(lsI _ _))) (aLc wkI (aLc (wkr (lsL fun _=>(lsI _ _))) (aLc (wkr (lsL fun _=>(lsI _ _))) (aLc (wkr (lsL fun _=>(lsI _ _))) (aLc (wkr (lsL fun _=>(lsL fun _=>(lsI _ _)))) (aLc (wkr (lsL fun _=>(lsI _ _))) (aLc (wkr (lsB _)) (aLc (wkr (lsB _)) aLn))))))))))))))) (aLc ⟨some _,rfl,bRc rfl (cKc wkI (cKc (wkr (bQ fun _=>(aO _))) cKn))⟩ (aLc ⟨some _,rfl,bRc rfl (cKc wkI (cKc (WkR.tok (fun _=>rfl) rfl (fun _ _=>Wk.refl _) (fun _=>(aO _))) cKn))⟩ (aLc ⟨some _,rfl,bRc rfl (cKc wkI (cKc (wkr (lsL fun _=>(aO _))) cKn))⟩ (aLc ⟨some _,rfl,bRc rfl (cKc wkI (cKc (wkr (lsL fun _=>(aO _))) cKn))⟩ (aLc ⟨some _,rfl,bRc rfl cKn⟩ aLn))))))
 refine cLk h (fun _ h=>?_) (fun _ h=>?_)<;>(conv=>whnf)
 ·refine hK _ _ _ ?_
  refine tHn ?_
  refine ⟨_,h,?_⟩
  refine bI ?_;conv=>whnf
  exact And.intro rfl (And.intro (aLc (wkr (lsB _)) (aLc (WkR.ptr (fun _=>rfl)) (aLc (WkR.ptr (fun _=>rfl)) (aLc (WkR.ptr (fun _=>rfl)) (aLc (WkR.ptr (fun _=>rfl)) (aLc (wkr (lsL fun _=>(lsI _ _))) (aLc (wkr (lsL fun _=>(lsI _ _))) (aLc wkI (aLc (wkr (lsL fun _=>(lsI _ _))) (aLc (wkr (lsL fun _=>(lsI _ _))) (aLc (wkr (lsL fun _=>(lsI _ _))) (aLc (wkr (lsL fun _=>(lsL fun _=>(lsI _ _)))) (aLc (wkr (lsL fun _=>(lsI _ _))) (aLc (wkr (lsB _)) (aLc (wkr (lsB _)) aLn))))))))))))))) (aLc ⟨some _,rfl,bRc rfl (cKc wkI (cKc (wkr (bQ fun _=>(aO _))) cKn))⟩ (aLc ⟨some _,rfl,bRc rfl (cKc wkI (cKc (WkR.tok (fun _=>rfl) rfl (fun _ _=>Wk.refl _) (fun _=>(aO _))) cKn))⟩ (aLc ⟨some _,rfl,bRc rfl (cKc wkI (cKc (wkr (lsL fun _=>(aO _))) cKn))⟩ (aLc ⟨some _,rfl,bRc rfl (cKc wkI (cKc (wkr (lsL fun _=>(aO _))) cKn))⟩ (aLc ⟨some _,rfl,bRc rfl cKn⟩ aLn))))))
 refine cLk h (fun _ h=>?_) (fun _ h=>?_)<;>(conv=>whnf)
 ·refine hK _ _ _ ?_
  refine tHn ?_
  refine ⟨_,h,?_⟩
  refine bI ?_;conv=>whnf
  exact And.intro rfl (And.intro (aLc (wkr (lsB _)) (aLc (WkR.ptr (fun _=>rfl)) (aLc (WkR.ptr (fun _=>rfl)) (aLc (WkR.ptr (fun _=>rfl)) (aLc (WkR.ptr (fun _=>rfl)) (aLc (wkr (lsL fun _=>(lsI _ _))) (aLc (wkr (lsL fun _=>(lsI _ _))) (aLc wkI (aLc (wkr (lsL fun _=>(lsI _ _))) (aLc (wkr (lsL fun _=>(lsI _ _))) (aLc (wkr (lsL fun _=>(lsI _ _))) (aLc (wkr (lsL fun _=>(lsL fun _=>(lsI _ _)))) (aLc (wkr (lsL fun _=>(lsI _ _))) (aLc (wkr (lsB _)) (aLc (wkr (lsB _)) aLn))))))))))))))) (aLc ⟨some _,rfl,bRc rfl (cKc wkI (cKc (wkr (bQ fun _=>(aO _))) cKn))⟩ (aLc ⟨some _,rfl,bRc rfl (cKc wkI (cKc (WkR.tok (fun _=>rfl) rfl (fun _ _=>Wk.refl _) (fun _=>(aO _))) cKn))⟩ (aLc ⟨some _,rfl,bRc rfl (cKc wkI (cKc (wkr (lsL fun _=>(aO _))) cKn))⟩ (aLc ⟨some _,rfl,bRc rfl (cKc wkI (cKc (wkr (lsL fun _=>(aO _))) cKn))⟩ (aLc ⟨some _,rfl,bRc rfl cKn⟩ aLn))))))
 refine cLk h (fun _ h=>?_) (fun _ h=>?_)<;>(conv=>whnf)
 ·refine hK _ _ _ ?_
  refine tHn ?_
  refine ⟨_,h,?_⟩
  refine bI ?_;conv=>whnf
  exact And.intro rfl (And.intro (aLc (wkr (lsB _)) (aLc (WkR.ptr (fun _=>rfl)) (aLc (WkR.ptr (fun _=>rfl)) (aLc (WkR.ptr (fun _=>rfl)) (aLc (WkR.ptr (fun _=>rfl)) (aLc (wkr (lsL fun _=>(lsI _ _))) (aLc (wkr (lsL fun _=>(lsI _ _))) (aLc wkI (aLc (wkr (lsL fun _=>(lsI _ _))) (aLc (wkr (lsL fun _=>(lsI _ _))) (aLc (wkr (lsL fun _=>(lsI _ _))) (aLc (wkr (lsL fun _=>(lsL fun _=>(lsI _ _)))) (aLc (wkr (lsL fun _=>(lsI _ _))) (aLc (wkr (lsB _)) (aLc (wkr (lsB _)) aLn))))))))))))))) (aLc ⟨some _,rfl,bRc rfl (cKc wkI (cKc (wkr (bQ fun _=>(aO _))) cKn))⟩ (aLc ⟨some _,rfl,bRc rfl (cKc wkI (cKc (WkR.tok (fun _=>rfl) rfl (fun _ _=>Wk.refl _) (fun _=>(aO _))) cKn))⟩ (aLc ⟨some _,rfl,bRc rfl (cKc wkI (cKc (wkr (lsL fun _=>(aO _))) cKn))⟩ (aLc ⟨some _,rfl,bRc rfl (cKc wkI (cKc (wkr (lsL fun _=>(aO _))) cKn))⟩ (aLc ⟨some _,rfl,bRc rfl cKn⟩ aLn))))))
 refine cLk h (fun _ h=>?_) (fun _ h=>?_)<;>(conv=>whnf)
 ·refine hK _ _ _ ?_
  refine tHn ?_
  refine ⟨_,h,?_⟩
  refine bI ?_;conv=>whnf
  exact And.intro rfl (And.intro (aLc (wkr (lsB _)) (aLc (WkR.ptr (fun _=>rfl)) (aLc (WkR.ptr (fun _=>rfl)) (aLc (WkR.ptr (fun _=>rfl)) (aLc (WkR.ptr (fun _=>rfl)) (aLc (wkr (lsL fun _=>(lsI _ _))) (aLc (wkr (lsL fun _=>(lsI _ _))) (aLc wkI (aLc (wkr (lsL fun _=>(lsI _ _))) (aLc (wkr (lsL fun _=>(lsI _ _))) (aLc (wkr (lsL fun _=>(lsI _ _))) (aLc (wkr (lsL fun _=>(lsL fun _=>(lsI _ _)))) (aLc (wkr (lsL fun _=>(lsI _ _))) (aLc (wkr (lsB _)) (aLc (wkr (lsB _)) aLn))))))))))))))) (aLc ⟨some _,rfl,bRc rfl (cKc wkI (cKc (wkr (bQ fun _=>(aO _))) cKn))⟩ (aLc ⟨some _,rfl,bRc rfl (cKc wkI (cKc (WkR.tok (fun _=>rfl) rfl (fun _ _=>Wk.refl _) (fun _=>(aO _))) cKn))⟩ (aLc ⟨some _,rfl,bRc rfl (cKc wkI (cKc (wkr (lsL fun _=>(aO _))) cKn))⟩ (aLc ⟨some _,rfl,bRc rfl (cKc wkI (cKc (wkr (lsL fun _=>(aO _))) cKn))⟩ (aLc ⟨some _,rfl,bRc rfl cKn⟩ aLn))))))
 refine cLk h (fun _ h=>?_) (fun _ h=>?_)<;>(conv=>whnf)
 ·refine hK _ _ _ ?_
  refine tHn ?_
  refine ⟨_,h,?_⟩
  refine bI ?_;conv=>whnf
  exact And.intro rfl (And.intro (aLc (wkr (lsB _)) (aLc (WkR.ptr (fun _=>rfl)) (aLc (WkR.ptr (fun _=>rfl)) (aLc (WkR.ptr (fun _=>rfl)) (aLc (WkR.ptr (fun _=>rfl)) (aLc (wkr (lsL fun _=>(lsI _ _))) (aLc (wkr (lsL fun _=>(lsI _ _))) (aLc wkI (aLc (wkr (lsL fun _=>(lsI _ _))) (aLc (wkr (lsL fun _=>(lsI _ _))) (aLc (wkr (lsL fun _=>(lsI _ _))) (aLc (wkr (lsL fun _=>(lsL fun _=>(lsI _ _)))) (aLc (wkr (lsL fun _=>(lsI _ _))) (aLc (wkr (lsB _)) (aLc (wkr (lsB _)) aLn))))))))))))))) (aLc ⟨some _,rfl,bRc rfl (cKc wkI (cKc (wkr (bQ fun _=>(aO _))) cKn))⟩ (aLc ⟨some _,rfl,bRc rfl (cKc wkI (cKc (WkR.tok (fun _=>rfl) rfl (fun _ _=>Wk.refl _) (fun _=>(aO _))) cKn))⟩ (aLc ⟨some _,rfl,bRc rfl (cKc wkI (cKc (wkr (lsL fun _=>(aO _))) cKn))⟩ (aLc ⟨some _,rfl,bRc rfl (cKc wkI (cKc (wkr (lsL fun _=>(aO _))) cKn))⟩ (aLc ⟨some _,rfl,bRc rfl cKn⟩ aLn))))))
 refine cLk h (fun _ h=>?_) (fun _ h=>?_)<;>(conv=>whnf)
 ·refine hK _ _ _ ?_
  refine tHn ?_
  refine ⟨_,h,?_⟩
  refine bI ?_;conv=>whnf
  exact And.intro rfl (And.intro (aLc (wkr (lsB _)) (aLc (WkR.ptr (fun _=>rfl)) (aLc (WkR.ptr (fun _=>rfl)) (aLc (WkR.ptr (fun _=>rfl)) (aLc (WkR.ptr (fun _=>rfl)) (aLc (wkr (lsL fun _=>(lsI _ _))) (aLc (wkr (lsL fun _=>(lsI _ _))) (aLc wkI (aLc (wkr (lsL fun _=>(lsI _ _))) (aLc (wkr (lsL fun _=>(lsI _ _))) (aLc (wkr (lsL fun _=>(lsI _ _))) (aLc (wkr (lsL fun _=>(lsL fun _=>(lsI _ _)))) (aLc (wkr (lsL fun _=>(lsI _ _))) (aLc (wkr (lsB _)) (aLc (wkr (lsB _)) aLn))))))))))))))) (aLc ⟨some _,rfl,bRc rfl (cKc wkI (cKc (wkr (bQ fun _=>(aO _))) cKn))⟩ (aLc ⟨some _,rfl,bRc rfl (cKc wkI (cKc (WkR.tok (fun _=>rfl) rfl (fun _ _=>Wk.refl _) (fun _=>(aO _))) cKn))⟩ (aLc ⟨some _,rfl,bRc rfl (cKc wkI (cKc (wkr (lsL fun _=>(aO _))) cKn))⟩ (aLc ⟨some _,rfl,bRc rfl (cKc wkI (cKc (wkr (lsL fun _=>(aO _))) cKn))⟩ (aLc ⟨some _,rfl,bRc rfl cKn⟩ aLn))))))
 refine cLk h (fun _ h=>?_) (fun _ h=>?_)<;>(conv=>whnf)
 ·refine hK _ _ _ ?_
  refine tHn ?_
  refine ⟨_,h,?_⟩
  refine bI ?_;conv=>whnf
  exact And.intro rfl (And.intro (aLc (wkr (lsB _)) (aLc (WkR.ptr (fun _=>rfl)) (aLc (WkR.ptr (fun _=>rfl)) (aLc (WkR.ptr (fun _=>rfl)) (aLc (WkR.ptr (fun _=>rfl)) (aLc (wkr (lsL fun _=>(lsI _ _))) (aLc (wkr (lsL fun _=>(lsI _ _))) (aLc wkI (aLc (wkr (lsL fun _=>(lsI _ _))) (aLc (wkr (lsL fun _=>(lsI _ _))) (aLc (wkr (lsL fun _=>(lsI _ _))) (aLc (wkr (lsL fun _=>(lsL fun _=>(lsI _ _)))) (aLc (wkr (lsL fun _=>(lsI _ _))) (aLc (wkr (lsB _)) (aLc (wkr (lsB _)) aLn))))))))))))))) (aLc ⟨some _,rfl,bRc rfl (cKc wkI (cKc (wkr (bQ fun _=>(aO _))) cKn))⟩ (aLc ⟨some _,rfl,bRc rfl (cKc wkI (cKc (WkR.tok (fun _=>rfl) rfl (fun _ _=>Wk.refl _) (fun _=>(aO _))) cKn))⟩ (aLc ⟨some _,rfl,bRc rfl (cKc wkI (cKc (wkr (lsL fun _=>(aO _))) cKn))⟩ (aLc ⟨some _,rfl,bRc rfl (cKc wkI (cKc (wkr (lsL fun _=>(aO _))) cKn))⟩ (aLc ⟨some _,rfl,bRc rfl cKn⟩ aLn))))))
 refine hK _ _ _ ?_
 refine tHn ?_
 refine ⟨_,h,?_⟩
 refine bI ?_;conv=>whnf
 exact And.intro rfl (And.intro (aLc (wkr (lsB _)) (aLc (WkR.ptr (fun _=>rfl)) (aLc (WkR.ptr (fun _=>rfl)) (aLc (WkR.ptr (fun _=>rfl)) (aLc (WkR.ptr (fun _=>rfl)) (aLc (wkr (lsL fun _=>(lsI _ _))) (aLc (wkr (lsL fun _=>(lsI _ _))) (aLc wkI (aLc (wkr (lsL fun _=>(lsI _ _))) (aLc (wkr (lsL fun _=>(lsI _ _))) (aLc (wkr (lsL fun _=>(lsI _ _))) (aLc (wkr (lsL fun _=>(lsL fun _=>(lsI _ _)))) (aLc (wkr (lsL fun _=>(lsI _ _))) (aLc (wkr (lsB _)) (aLc (wkr (lsB _)) aLn))))))))))))))) (aLc ⟨some _,rfl,bRc rfl (cKc wkI (cKc (wkr (bQ fun _=>(aO _))) cKn))⟩ (aLc ⟨some _,rfl,bRc rfl (cKc wkI (cKc (WkR.tok (fun _=>rfl) rfl (fun _ _=>Wk.refl _) (fun _=>(aO _))) cKn))⟩ (aLc ⟨some _,rfl,bRc rfl (cKc wkI (cKc (wkr (lsL fun _=>(aO _))) cKn))⟩ (aLc ⟨some _,rfl,bRc rfl (cKc wkI (cKc (wkr (lsL fun _=>(aO _))) cKn))⟩ (aLc ⟨some _,rfl,bRc rfl cKn⟩ aLn))))))
theorem uC {T:Tbl} (hT:T 11=aU jZ) {args:List AV} {hp:bD} {id:Nat} {k:AV→Prop} {Φ:Bool→Prop} (h:W (jT ) Φ) (hw:WkL args []) (hk:∀ y,Φ y→k (eB y)):dJ T 11 args hp id k:=by
 obtain ⟨y,e,hy⟩:=fE h
 exact bF hT ⟨rfl,kK e rfl⟩ (by exact (lsB _)) hw (hk y hy)
theorem aAx {M:List (Nat×Nat)} {q k n:Nat} {b:AB} {α:Type} {ce:α→List AV} {l:List α} {hp:bD} (h1:[q][k]?=some n) (h2:[AB.cells (flE ce l)][k]?=some b) (h:hp q=some (.cells (flE ce l))) (hl:∀ x,∀ a∈ce x,a.loose):∃ b0,hp n=some b0∧BkX (WkB M) b0 b:=by
 cases k with
 | zero=>simp only [List.getElem?_cons_zero,Option.some.injEq] at h1 h2;subst h1 h2;exact ⟨_,h,wK hl l⟩
 | succ k=>simp at h1
theorem qJ {T:Tbl} (hT:TOk Tryd.prog T) (hpf:dD T PF):FOk Tryd.prog 60 (wU 1 eI default):=by
 refine aBp hT hpf Tryd.func60 rfl Tryd.ntmps60 Tryd.results60 (by decide) ?_
 rintro args H base r H' ⟨l,rfl,hl,rfl,rfl⟩
 refine ⟨[],[eL 1 eI default l],[],[],[.cells (flE (ceE eI) l)],nle rfl,Nat.zero_le _,nle rfl,.nil,rfl,rfl,.cons (bW (lsL fun _=>(lsI _ _))) .nil,(fun j i b h=>by cases h),(fun k b h=>?_),(fun j=>rfl),(fun i b h=>?_),?_⟩
 ·cases k with
  | zero=>cases h;rfl
  | succ k=>cases h
 ·by_cases e:i=base
  ·subst e;rw [gK] at h;exact .inr (.inr ⟨0,rfl,h⟩)
  ·rw [aT _ _ e] at h;exact .inl ⟨by simp,h⟩
 refine aD dCo rfl fun K hK=>?_;conv=>whnf
 refine hK _ _ _ ?_
 refine aN ?_
 refine aEO rfl rfl rfl rfl rfl rfl Tryd.underlying26 rfl rfl fun b hb=>?_
 cases b
 ·refine bA fun K1 K2 hK1 hK2=>?_;conv=>whnf
  refine hK2 ?_
  refine aL ?_
  refine tHn ?_
  refine aD dCo rfl fun K hK=>?_;conv=>whnf
  refine cI (enc:=eI) (d:=default) (l:=[]) (f:=some) (Φ:=fun _=>True) dCo (kK (a:=[]) (by unfold lt;rfl) trivial) rfl rfl rfl ⟨nle rfl,nle rfl,rfl⟩ rfl trivial (fun _=>?_);conv=>whnf
  refine aGL (enc:=eI) (d:=default) dCo rfl rfl rfl ⟨rfl,nle rfl,nle rfl,nle rfl,rfl⟩ (fun _=>rfl) (fun _=>nofun) hl ?_;conv=>whnf
  refine hK _ _ _ ?_
  refine aG ?_
  refine ⟨_,[256],rfl,by simp,by simp,rfl,aEq (by simp [mm]),fun j b h=>by simp at h,fun k n b h1 h2=>?_⟩;exact aAx h1 h2 rfl (fun _=>(lsC (lsI _ _) lsN))
 refine bA fun K1 K2 hK1 hK2=>?_;conv=>whnf
 refine hK1 ?_
 refine aD dCo rfl fun K hK=>?_;conv=>whnf
 refine hK _ _ _ ?_
 have hn:=List.length_eq_zero_iff.1 (hb rfl)
 subst hn
 refine yJ rfl (σ':=⟨ofL [(2,.so 64 0 0 1)],ofH [(64,.cells [])],1024⟩) (aAl [(64,none)] ⟨WkR.nilso (fun _=>rfl),trivial⟩ ⟨⟨_,rfl,qL⟩,trivial⟩ rfl) ?_
 refine aG ?_
 refine aR ?_
 refine ⟨_,[64],rfl,by simp,by simp,rfl,aEq (by simp [mm]),fun j b h=>by simp at h,fun k n b h1 h2=>?_⟩;exact aAx h1 h2 rfl (fun _=>(lsC (lsI _ _) lsN))
theorem aFh:TOk Tryd.prog T0∧dD T0 PF:=⟨aIZ _,aGx _⟩
def aKg:Tbl:=ext T0 69 (aU eM)
theorem aIM:FOk Tryd.prog 69 (aU eM):=sD aFh.1 aFh.2
theorem aAb:TOk Tryd.prog aKg∧dD aKg PF:=⟨bP aFh.1 aIM,bM aFh.2 fun _=>⟨_,rfl⟩⟩
def aJZ:Tbl:=ext aKg 85 (aU cU)
theorem aH4:FOk Tryd.prog 85 (aU cU):=mY aAb.1 aAb.2 rfl
theorem aAn:TOk Tryd.prog aJZ∧dD aJZ PF:=⟨bP aAb.1 aH4,bM aAb.2 fun _=>⟨_,rfl⟩⟩
def aJJ:Tbl:=ext aJZ 68 (aU cW)
theorem aHZ:FOk Tryd.prog 68 (aU cW):=lL aAn.1 aAn.2 rfl
theorem yN:TOk Tryd.prog aJJ∧dD aJJ PF:=⟨bP aAn.1 aHZ,bM aAn.2 fun _=>⟨_,rfl⟩⟩
def aJ7:Tbl:=ext aJJ 33 (aU eC)
theorem aHo:FOk Tryd.prog 33 (aU eC):=uV yN.1 yN.2 rfl
theorem aAm:TOk Tryd.prog aJ7∧dD aJ7 PF:=⟨bP yN.1 aHo,bM yN.2 fun _=>⟨_,rfl⟩⟩
def aJB:Tbl:=ext aJ7 79 (aU gV)
theorem aJc:FOk Tryd.prog 79 (aU gV):=tX aAm.1 aAm.2
theorem xP:TOk Tryd.prog aJB∧dD aJB PF:=⟨bP aAm.1 aJc,bM aAm.2 fun _=>⟨_,rfl⟩⟩
def aKl:Tbl:=ext aJB 54 (aU cL)
theorem aJa:FOk Tryd.prog 54 (aU cL):=yC xP.1 xP.2 rfl rfl
theorem zX:TOk Tryd.prog aKl∧dD aKl PF:=⟨bP xP.1 aJa,bM xP.2 fun _=>⟨_,rfl⟩⟩
def aKH:Tbl:=ext aKl 81 (itR Tryd.prog (fun x=>[Value.int .i64 x]) eO)
theorem aHG:FOk Tryd.prog 81 (itR Tryd.prog (fun x=>[Value.int .i64 x]) eO):=qT zX.1 zX.2
theorem zP:TOk Tryd.prog aKH∧dD aKH PF:=⟨bP zX.1 aHG,bM zX.2 (fun h=>by cases h)⟩
def aKp:Tbl:=ext aKH 80 (aBo oW kG dP)
theorem aHy:FOk Tryd.prog 80 (aBo oW kG dP):=nZ zP.1 zP.2 rfl
theorem zQ:TOk Tryd.prog aKp∧dD aKp PF:=⟨bP zP.1 aHy,bM zP.2 (fun h=>by cases h)⟩
def aKF:Tbl:=ext aKp 55 (aBo oW kG dY)
theorem aHB:FOk Tryd.prog 55 (aBo oW kG dY):=oV zQ.1 zQ.2 rfl
theorem yT:TOk Tryd.prog aKF∧dD aKF PF:=⟨bP zQ.1 aHB,bM zQ.2 (fun h=>by cases h)⟩
def aKt:Tbl:=ext aKF 56 (aU dW)
theorem aIL:FOk Tryd.prog 56 (aU dW):=sC yT.1 yT.2
theorem wZ:TOk Tryd.prog aKt∧dD aKt PF:=⟨bP yT.1 aIL,bM yT.2 fun _=>⟨_,rfl⟩⟩
def aJF:Tbl:=ext aKt 18 (aU fO)
theorem aIB:FOk Tryd.prog 18 (aU fO):=sB wZ.1 wZ.2 rfl rfl rfl
theorem yG:TOk Tryd.prog aJF∧dD aJF PF:=⟨bP wZ.1 aIB,bM wZ.2 fun _=>⟨_,rfl⟩⟩
def aKo:Tbl:=ext aJF 57 (aU gC)
theorem aID:FOk Tryd.prog 57 (aU gC):=aAk yG.1 yG.2
theorem yV:TOk Tryd.prog aKo∧dD aKo PF:=⟨bP yG.1 aID,bM yG.2 fun _=>⟨_,rfl⟩⟩
def aJW:Tbl:=ext aKo 19 (aU jO)
theorem aH3:FOk Tryd.prog 19 (aU jO):=yA yV.1 yV.2 rfl rfl
theorem aAf:TOk Tryd.prog aJW∧dD aJW PF:=⟨bP yV.1 aH3,bM yV.2 fun _=>⟨_,rfl⟩⟩
def aKj:Tbl:=ext aJW 20 (aU iY)
theorem aIk:FOk Tryd.prog 20 (aU iY):=wA aAf.1 aAf.2 rfl rfl rfl
theorem xF:TOk Tryd.prog aKj∧dD aKj PF:=⟨bP aAf.1 aIk,bM aAf.2 fun _=>⟨_,rfl⟩⟩
def aJV:Tbl:=ext aKj 22 (aU gR)
theorem aHp:FOk Tryd.prog 22 (aU gR):=tW xF.1 xF.2 rfl
theorem zC:TOk Tryd.prog aJV∧dD aJV PF:=⟨bP xF.1 aHp,bM xF.2 fun _=>⟨_,rfl⟩⟩
def aKK:Tbl:=ext aJV 58 (aU fR)
theorem aIT:FOk Tryd.prog 58 (aU fR):=vK zC.1 zC.2
theorem aAe:TOk Tryd.prog aKK∧dD aKK PF:=⟨bP zC.1 aIT,bM zC.2 fun _=>⟨_,rfl⟩⟩
def aJ2:Tbl:=ext aKK 24 (aU iM)
theorem aHN:FOk Tryd.prog 24 (aU iM):=vZ aAe.1 aAe.2 rfl rfl
theorem yO:TOk Tryd.prog aJ2∧dD aJ2 PF:=⟨bP aAe.1 aHN,bM aAe.2 fun _=>⟨_,rfl⟩⟩
def aKw:Tbl:=ext aJ2 25 (aU gT)
theorem aH6:FOk Tryd.prog 25 (aU gT):=uR yO.1 yO.2 rfl rfl
theorem yS:TOk Tryd.prog aKw∧dD aKw PF:=⟨bP yO.1 aH6,bM yO.2 fun _=>⟨_,rfl⟩⟩
def aJU:Tbl:=ext aKw 26 (aU kA)
theorem aHR:FOk Tryd.prog 26 (aU kA):=zS yS.1 yS.2
theorem zK:TOk Tryd.prog aJU∧dD aJU PF:=⟨bP yS.1 aHR,bM yS.2 fun _=>⟨_,rfl⟩⟩
def aKB:Tbl:=ext aJU 27 (aU eT)
theorem aI7:FOk Tryd.prog 27 (aU eT):=uW zK.1 zK.2 rfl
theorem zE:TOk Tryd.prog aKB∧dD aKB PF:=⟨bP zK.1 aI7,bM zK.2 fun _=>⟨_,rfl⟩⟩
def aKN:Tbl:=ext aKB 28 (aU gQ)
theorem aII:FOk Tryd.prog 28 (aU gQ):=vH zE.1 zE.2 rfl rfl
theorem yH:TOk Tryd.prog aKN∧dD aKN PF:=⟨bP zE.1 aII,bM zE.2 fun _=>⟨_,rfl⟩⟩
def aJ1:Tbl:=ext aKN 59 (pX (oO 10))
theorem aIC:FOk Tryd.prog 59 (pX (oO 10)):=aGG yH.1 yH.2
theorem zT:TOk Tryd.prog aJ1∧dD aJ1 PF:=⟨bP yH.1 aIC,bM yH.2 (fun h=>by cases h)⟩
def aKD:Tbl:=ext aJ1 60 (wU 1 eI default)
theorem aIp:FOk Tryd.prog 60 (wU 1 eI default):=qJ zT.1 zT.2
theorem zA:TOk Tryd.prog aKD∧dD aKD PF:=⟨bP zT.1 aIp,bM zT.2 (fun h=>by cases h)⟩
def aKC:Tbl:=ext aKD 29 (aU iU)
theorem aHE:FOk Tryd.prog 29 (aU iU):=vU zA.1 zA.2 rfl rfl rfl
theorem xY:TOk Tryd.prog aKC∧dD aKC PF:=⟨bP zA.1 aHE,bM zA.2 fun _=>⟨_,rfl⟩⟩
def aKd:Tbl:=ext aKC 87 (aU cP)
theorem aIy:FOk Tryd.prog 87 (aU cP):=kU xY.1 xY.2
theorem xC:TOk Tryd.prog aKd∧dD aKd PF:=⟨bP xY.1 aIy,bM xY.2 fun _=>⟨_,rfl⟩⟩
def aKE:Tbl:=ext aKd 82 (aU dC)
theorem aHq:FOk Tryd.prog 82 (aU dC):=lV xC.1 xC.2 rfl
theorem yD:TOk Tryd.prog aKE∧dD aKE PF:=⟨bP xC.1 aHq,bM xC.2 fun _=>⟨_,rfl⟩⟩
def aKL:Tbl:=ext aKE 61 (aU hG)
theorem aHr:FOk Tryd.prog 61 (aU hG):=uH yD.1 yD.2 rfl
theorem zW:TOk Tryd.prog aKL∧dD aKL PF:=⟨bP yD.1 aHr,bM yD.2 fun _=>⟨_,rfl⟩⟩
def aKy:Tbl:=ext aKL 62 (aU jX)
theorem aJl:FOk Tryd.prog 62 (aU jX):=aAg zW.1 zW.2
theorem xE:TOk Tryd.prog aKy∧dD aKy PF:=⟨bP zW.1 aJl,bM zW.2 fun _=>⟨_,rfl⟩⟩
def aJQ:Tbl:=ext aKy 83 (aU gF)
theorem aIm:FOk Tryd.prog 83 (aU gF):=tD xE.1 xE.2
theorem xV:TOk Tryd.prog aJQ∧dD aJQ PF:=⟨bP xE.1 aIm,bM xE.2 fun _=>⟨_,rfl⟩⟩
def aKI:Tbl:=ext aJQ 63 (aU eE)
theorem aI6:FOk Tryd.prog 63 (aU eE):=rF xV.1 xV.2 rfl
theorem zL:TOk Tryd.prog aKI∧dD aKI PF:=⟨bP xV.1 aI6,bM xV.2 fun _=>⟨_,rfl⟩⟩
def aKi:Tbl:=ext aKI 64 (aU dX)
theorem aJg:FOk Tryd.prog 64 (aU dX):=pH zL.1 zL.2 rfl
theorem xZ:TOk Tryd.prog aKi∧dD aKi PF:=⟨bP zL.1 aJg,bM zL.2 fun _=>⟨_,rfl⟩⟩
def aJA:Tbl:=ext aKi 30 (aU eY)
theorem aH2:FOk Tryd.prog 30 (aU eY):=rC xZ.1 xZ.2 rfl rfl rfl rfl rfl
theorem zO:TOk Tryd.prog aJA∧dD aJA PF:=⟨bP xZ.1 aH2,bM xZ.2 fun _=>⟨_,rfl⟩⟩
def aKq:Tbl:=ext aJA 65 (pX (kW 10))
theorem aIn:FOk Tryd.prog 65 (pX (kW 10)):=aDe zO.1 zO.2
theorem xD:TOk Tryd.prog aKq∧dD aKq PF:=⟨bP zO.1 aIn,bM zO.2 (fun h=>by cases h)⟩
def aKA:Tbl:=ext aKq 31 (aU iN)
theorem aIa:FOk Tryd.prog 31 (aU iN):=vW xD.1 xD.2 rfl rfl rfl
theorem xT:TOk Tryd.prog aKA∧dD aKA PF:=⟨bP xD.1 aIa,bM xD.2 fun _=>⟨_,rfl⟩⟩
def aKv:Tbl:=ext aKA 84 (pX uA)
theorem aId:FOk Tryd.prog 84 (pX uA):=zD xT.1 xT.2
theorem zU:TOk Tryd.prog aKv∧dD aKv PF:=⟨bP xT.1 aId,bM xT.2 (fun h=>by cases h)⟩
def aJE:Tbl:=ext aKv 67 (pX kY)
theorem aH9:FOk Tryd.prog 67 (pX kY):=aBs zU.1 zU.2 rfl
theorem yQ:TOk Tryd.prog aJE∧dD aJE PF:=⟨bP zU.1 aH9,bM zU.2 (fun h=>by cases h)⟩
def aJN:Tbl:=ext aJE 66 (pX (iA 10))
theorem aHD:FOk Tryd.prog 66 (pX (iA 10)):=aDb yQ.1 yQ.2 rfl
theorem yU:TOk Tryd.prog aJN∧dD aJN PF:=⟨bP yQ.1 aHD,bM yQ.2 (fun h=>by cases h)⟩
def aKM:Tbl:=ext aJN 32 (aU gI)
theorem aIq:FOk Tryd.prog 32 (aU gI):=vQ yU.1 yU.2 rfl rfl rfl
theorem yE:TOk Tryd.prog aKM∧dD aKM PF:=⟨bP yU.1 aIq,bM yU.2 fun _=>⟨_,rfl⟩⟩
def aJ0:Tbl:=ext aKM 34 (aU gJ)
theorem aIb:FOk Tryd.prog 34 (aU gJ):=vS yE.1 yE.2 rfl
theorem aAj:TOk Tryd.prog aJ0∧dD aJ0 PF:=⟨bP yE.1 aIb,bM yE.2 fun _=>⟨_,rfl⟩⟩
def aKn:Tbl:=ext aJ0 36 (aU jY)
theorem aJe:FOk Tryd.prog 36 (aU jY):=xJ aAj.1 aAj.2
theorem yW:TOk Tryd.prog aKn∧dD aKn PF:=⟨bP aAj.1 aJe,bM aAj.2 fun _=>⟨_,rfl⟩⟩
def aKs:Tbl:=ext aKn 11 (aU jZ)
theorem aIl:FOk Tryd.prog 11 (aU jZ):=xR yW.1 yW.2 rfl rfl rfl rfl rfl rfl rfl rfl rfl rfl rfl rfl rfl rfl rfl rfl
theorem xB:TOk Tryd.prog aKs∧dD aKs PF:=⟨bP yW.1 aIl,bM yW.2 fun _=>⟨_,rfl⟩⟩
def aJD:Tbl:=ext aKs 37 (aU iH)
theorem aHH:FOk Tryd.prog 37 (aU iH):=xG xB.1 xB.2
theorem xM:TOk Tryd.prog aJD∧dD aJD PF:=⟨bP xB.1 aHH,bM xB.2 fun _=>⟨_,rfl⟩⟩
def aJK:Tbl:=ext aJD 17 (aBo fW eF fK)
theorem aHJ:FOk Tryd.prog 17 (aBo fW eF fK):=vV xM.1 xM.2 rfl
theorem yK:TOk Tryd.prog aJK∧dD aJK PF:=⟨bP xM.1 aHJ,bM xM.2 (fun h=>by cases h)⟩
def aKz:Tbl:=ext aJK 12 (aU oR)
theorem aHV:FOk Tryd.prog 12 (aU oR):=zV yK.1 yK.2 rfl rfl
theorem yZ:TOk Tryd.prog aKz∧dD aKz PF:=⟨bP yK.1 aHV,bM yK.2 fun _=>⟨_,rfl⟩⟩
def aKh:Tbl:=ext aKz 13 (aU iI)
theorem aIQ:FOk Tryd.prog 13 (aU iI):=aAp yZ.1 yZ.2
theorem xO:TOk Tryd.prog aKh∧dD aKh PF:=⟨bP yZ.1 aIQ,bM yZ.2 fun _=>⟨_,rfl⟩⟩
def aJM:Tbl:=ext aKh 23 (aU nA)
theorem aIO:FOk Tryd.prog 23 (aU nA):=aBm xO.1 xO.2
theorem xW:TOk Tryd.prog aJM∧dD aJM PF:=⟨bP xO.1 aIO,bM xO.2 fun _=>⟨_,rfl⟩⟩
def aKm:Tbl:=ext aJM 21 (aU mI)
theorem aHz:FOk Tryd.prog 21 (aU mI):=uQ xW.1 xW.2 rfl rfl rfl
theorem yP:TOk Tryd.prog aKm∧dD aKm PF:=⟨bP xW.1 aHz,bM xW.2 fun _=>⟨_,rfl⟩⟩
def aJS:Tbl:=ext aKm 70 (aU gX)
theorem aIV:FOk Tryd.prog 70 (aU gX):=tZ yP.1 yP.2
theorem zF:TOk Tryd.prog aJS∧dD aJS PF:=⟨bP yP.1 aIV,bM yP.2 fun _=>⟨_,rfl⟩⟩
def aKR:Tbl:=ext aJS 35 (aU iP)
theorem aJj:FOk Tryd.prog 35 (aU iP):=vX zF.1 zF.2 rfl
theorem aDq:TOk Tryd.prog aKR∧dD aKR PF:=⟨bP zF.1 aJj,bM zF.2 fun _=>⟨_,rfl⟩⟩
theorem aJw:Opn Tryd.prog 3 eI okI:=aIS Tryd.underlying3
theorem aHL:aHg Tryd.prog 3 eI:=.inr ⟨by rfl,fun _=>⟨rfl,rfl⟩⟩
theorem aGm:OpV Tryd.prog 3 eI okI:=aD9 aJw aHL fun _=>aGD Tryd.underlying3
def aDw (x:Int×Int):Prop:=okI x.1∧okI x.2
theorem aKb:Opn Tryd.prog 46 cB aDw:=by
 refine aFr (β:=Int×Int×Unit) (fs:=[(3,0),(3,1)]) Tryd.underlying46 (by kernel_rfl) (by kernel_rfl) (aAX (sz:=1) aJw (by kernel_rfl) rfl (aAX (sz:=1) aJw (by kernel_rfl) rfl aFd)) (fun p=>(p.1,p.2.1)) (fun _=>rfl) ?_
 intro p h
 exact ⟨h.1,h.2.1⟩
theorem aI5:aHg Tryd.prog 46 cB:=.inl ⟨by rfl,fun _=>rfl⟩
theorem aKe:Opn Tryd.prog 22 (eL 2 cB default) (okL aDw):=aCj Tryd.underlying22 (by kernel_rfl) (by decide) aKb aI5
theorem aIh:aHg Tryd.prog 22 (eL 2 cB default):=.inr ⟨by rfl,fun _=>⟨rfl,rfl⟩⟩
theorem aI1:OpV Tryd.prog 22 (eL 2 cB default) (okL aDw):=aD9 aKe aIh fun _=>aA8 Tryd.underlying22
theorem aJO:Opn Tryd.prog 26 (eL 1 eI default) (okL okI):=aCj Tryd.underlying26 (by kernel_rfl) (by decide) aJw aHL
theorem aHu:aHg Tryd.prog 26 (eL 1 eI default):=.inr ⟨by rfl,fun _=>⟨rfl,rfl⟩⟩
theorem aIx:OpV Tryd.prog 26 (eL 1 eI default) (okL okI):=aD9 aJO aHu fun _=>aA8 Tryd.underlying26
end Go.Proofs.YtlmboonbfhkfnaaDoor
