import Derived.Test.YtkjccabdpeldhaaGreatM6
import Derived.Test.YtkjccabdpeldhaaGreatM7
import Derived.Test.YtkjccabdpeldhaaGreatM8
import Derived.Test.YtkjccabdpeldhaaGreatM10
set_option linter.unusedVariables false
set_option linter.unusedSimpArgs false
set_option linter.unusedSectionVars false
namespace Go.Proofs.YtkjccabdpeldhaaGreat
open Go Go.Eng
set_option maxRecDepth 100000
set_option maxHeartbeats 0
set_option maxHeartbeats 0
set_option maxRecDepth 100000
  def bR (e7:aD) (l57:List bQ) (s58:Int):Option (Ct Int Bool):=cn (decide (s58<(l57.length:Int))) (ix l57 default s58 fun e59=>
  bd (eN e7 e59) fun y60=>bd (lS e7 e59) fun y61=>cn (!(y60==y61)) (some (.rt false)) (some (.nx (wr (s58+1))))) (some (.bk s58))
  def cC (a1:Int×Int×Int) (e7:aD) (e27:Int) (l23:List bS) (s38:Int):Option (Ct Int Bool):=cn (decide (s38<(l23.length:Int))) (ix l23 default s38 fun e39=>
  bd (fD e39 a1.2.2 a1.2.1) fun y40=>jn (fun p41:Bool=>cn p41 (some (.rt false)) (some (.nx (wr (s38+1))))) fun k42=>ix l23 default s38 fun e43=>
  bd (bC e7 e27 e43) fun y44=>ix l23 default s38 fun e45=>bd (cD e7 e27 e45) fun y46=>cn (!(y44 ==
  y46)) (k42 true) (bd (bC e7 e27 y40) fun y47=>bd (cD e7 e27 y40) fun y48=>k42 (!(y47==y48)))) (some (.bk s38))
  def bU (a1:Int×Int×Int) (e7:aD) (l23:List bS) (l25:List Int) (s26:Int):Option (Ct Int Bool):=cn (decide (s26<(l25.length:Int))) (ix l25 default s26 fun e27=>
  bd (dV e7 e27) fun y28=>bd (nE e7 e27) fun y29=>bd (cW e7 e27) fun y30=>bd (lP e7 e27) fun y31=>jn (fun p32:Bool=>
  cn p32 (some (.rt false)) (bd (lp (cC a1 e7 e27 l23) FU 0) fun c49=>smK c49 (fun s50=>some (.nx (wr (s26+1)))) (fun r51=>
  some (.rt r51)))) fun k33=>cn (y28.2.2 != y29.2.2) (k33 true) (bd (pG y28.1 y29.1) fun y34=>cn (!y34) (k33 true) (bd (nC y28.2.1 y29.2.1) fun y35=>
  cn (!y35) (k33 true) (cn (y30.1 != y31.1) (k33 true) (cn (y30.2 != y31.2) (k33 true) (bd (cS e7 e27) fun y36=>bd (kH e7 e27) fun y37=>k33 (!(y36 ==
  y37)))))))) (some (.bk s26))
  def cB (a1:Int×Int×Int) (a3:Int) (a4:bS) (a5:Int) (l5:List aD) (s6:Int):Option (Ct Int Bool):=cn (decide (s6<(l5.length:Int))) (ix l5 default s6 fun e7=>
  bd (dF e7) fun y8=>bd (iO e7) fun y9=>cn (!(y8==y9)) (some (.rt false)) (bd (dP e7) fun y10=>bd (iJ e7) fun y11=>
  jn (fun p12:Bool=>cn p12 (some (.rt false)) (bd (fT e7) fun y15=>jn (fun p16:Bool=>
  cn p16 (some (.rt false)) (bd (fD y15.1 a1.1 a1.2.1) fun y21=>lt ([a4,y15.1,y21]:List bS) fun l22=>ap l22 y10.1.Denied fun l23=>
  bd (iQ a3 32) fun y24=>lt ([a3,y24,y11.1]:List Int) fun l25=>bd (lp (bU a1 e7 l23 l25) FU 0) fun c52=>smK c52 (fun s53=>
  slc l23 0 (aA9 (l23.length:Int) 9) fun l55=>bd (iQ a5 32) fun y56=>
  lt ([y10.1,(⟨a5,y10.1.Denied⟩:bQ),(⟨y10.1.Admitted,l55⟩:bQ),(⟨y56,y10.1.Denied⟩:bQ)]:List bQ) fun l57=>
  bd (lp (bR e7 l57) FU 0) fun c62=>smK c62 (fun s63=>some (.nx (wr (s6+1)))) (fun r64=>some (.rt r64))) (fun r54=>
  some (.rt r54)))) fun k17=>bd (iO e7) fun y18=>cn y18 (cn (!(y15.2==(!y11.2))) (k17 true) (cn y15.2 (bd (cD e7 0 y15.1) fun y19=>
  cn (!y19) (k17 true) (cn y15.2 (cn (y15.1.Call != (-1)) (k17 true) (cn (!y15.2) (k17 (!((y15.1.Call==0)&&((y15.1.Edge==0)&&((y15.1.Failed==0)&&(y15.1.Set ==
  0)))))) (k17 false))) (cn (!y15.2) (k17 (!((y15.1.Call==0)&&((y15.1.Edge==0)&&((y15.1.Failed==0)&&(y15.1.Set==0)))))) (k17 false)))) (cn y15.2 (cn (y15.1.Call !=
  (-1)) (k17 true) (cn (!y15.2) (k17 (!((y15.1.Call==0)&&((y15.1.Edge==0)&&((y15.1.Failed==0)&&(y15.1.Set==0)))))) (k17 false))) (cn (!y15.2) (k17 (!((y15.1.Call ==
  0)&&((y15.1.Edge==0)&&((y15.1.Failed==0)&&(y15.1.Set==0)))))) (k17 false))))) (cn (!(y15.2 ==
  false)) (k17 true) (cn y15.2 (bd (cD e7 0 y15.1) fun y20=>cn (!y20) (k17 true) (cn y15.2 (cn (y15.1.Call !=
  (-1)) (k17 true) (cn (!y15.2) (k17 (!((y15.1.Call==0)&&((y15.1.Edge==0)&&((y15.1.Failed==0)&&(y15.1.Set==0)))))) (k17 false))) (cn (!y15.2) (k17 (!((y15.1.Call ==
  0)&&((y15.1.Edge==0)&&((y15.1.Failed==0)&&(y15.1.Set==0)))))) (k17 false)))) (cn y15.2 (cn (y15.1.Call != (-1)) (k17 true) (cn (!y15.2) (k17 (!((y15.1.Call ==
  0)&&((y15.1.Edge==0)&&((y15.1.Failed==0)&&(y15.1.Set==0)))))) (k17 false))) (cn (!y15.2) (k17 (!((y15.1.Call==0)&&((y15.1.Edge==0)&&((y15.1.Failed ==
  0)&&(y15.1.Set==0)))))) (k17 false))))))) fun k13=>cn (!((y10.2==0)==y11.2)) (k13 true) (cn (y10.1.Admitted !=
  y11.1) (k13 true) (cn y11.2 (bd (lS e7 y10.1) fun y14=>cn (!y14) (k13 true) (cn (!y11.2) (cn (y10.2 != 330) (k13 true) (k13 (decide ((y10.1.Denied.length:Int) >
  0)))) (k13 false))) (cn (!y11.2) (cn (y10.2 != 330) (k13 true) (k13 (decide ((y10.1.Denied.length:Int)>0)))) (k13 false)))))) (some (.bk s6))
def eS (a0:qN) (a1:Int×Int×Int) (a2:aD) (a3:Int) (a4:bS) (a5:Int):Option Bool:=bd (rR ) fun y1=>
  cn (!y1) (some false) (bd (pL a0) fun y2=>bd (pR y2 a1.1 a1.2.1 a1.2.2) fun y3=>bd (rB a2) fun y4=>lt ([y2,y3,y4]:List aD) fun l5=>
  bd (lp (cB a1 a3 a4 a5 l5) FU 0) fun c65=>smK c65 (fun s66=>some true) (fun r67=>some r67))
def kW:List AV→AV→Prop:=fun args r=>∃ a0 a1 a2 a3 a4 a5,args=[rS a0,aKU a1,bD a2,eI a3,fE a4,eI a5]∧W (eS a0 a1 a2 a3 a4 a5) fun y=>r=(eB y)
theorem qP {T:Tbl} (hT:TOk Tryz.prog T) (hpf:cI T PF) (h4:T 4=aH rV) (h5:T 5=aH rO) (h6:T 6=aH sC) (h7:T 7=aH tP) (h8:T 8=aH gY) (h9:T 9=aH nV) (h10:T 10=aH kX) (h11:T 11=aH lX) (h12:T 12=aH pX) (h13:T 13=aH mE) (h14:T 14=aH gK) (h15:T 15=aH kC) (h16:T 16=aH rN) (h17:T 17=aH kK) (h18:T 18=aH pN) (h19:T 19=aH jD) (h20:T 20=aH nW) (h21:T 21=aH sD) (h22:T 22=aH pM) (h23:T 23=aH iR) (h24:T 24=aH nM) (h25:T 25=aH eK) (h26:T 26=aH lA):FOk Tryz.prog 3 (aH kW):=by
 refine bB hT hpf Tryz.func3 rfl Tryz.ntmps3 Tryz.results3 (by decide) ?_
 rintro args r ⟨a0,a1,a2,a3,a4,a5,rfl,h⟩
 refine ⟨nle rfl,?_,?_⟩
 ·exact (lsC (aCq _) (lsC (mO _) (lsC (aR _) (lsC (lsI _ _) (lsC (aQ _) (lsC (lsI _ _) lsN))))))
 rw [eS.eq_1] at h
 refine aB dCo rfl fun K hK=>?_;conv=>whnf
 refine hK _ _ _ ?_
 refine aL ?_
 refine aB dCo rfl fun K hK=>?_;conv=>whnf
 replace h:=bE h
 refine aBY h4 h (WkL.refl _) (fun _ h=>?_);conv=>whnf
 refine hK _ _ _ ?_
 refine aT fun K1 K2 hK1 hK2=>?_;conv=>whnf
 refine cLk h (fun _ h=>?_) (fun _ h=>?_)
 ·refine hK1 ?_
  refine aB dCo rfl fun K hK=>?_;conv=>whnf
  refine hK _ _ _ ?_
  refine aJ ?_
  refine aM ?_
  replace h:=aI h
  refine aE dCo fun K hK=>?_;conv=>whnf
  refine hK _ ?_
  cases h
  exact Wk.refl _
 refine hK2 ?_
 refine aK ?_
 refine tHn ?_
 refine aB dCo rfl fun K hK=>?_;conv=>whnf
 refine nlA rfl ?_;conv=>whnf
 refine bKo rfl ?_;conv=>whnf
 refine nlA rfl ?_;conv=>whnf
 replace h:=bE h
 refine aBC h5 h (WkL.refl _) (fun _ h=>?_);conv=>whnf
 refine bKo rfl ?_;conv=>whnf
 refine And.intro rfl (And.intro (nle rfl) (And.intro rfl ?_));conv=>whnf
 refine hK _ _ _ ?_
 refine aL ?_
 refine iZ dCo cJ rfl (by kernel_rfl) fun K hK=>?_;conv=>whnf
 refine nlA rfl ?_;conv=>whnf
 refine bKo rfl ?_;conv=>whnf
 refine nlA rfl ?_;conv=>whnf
 refine nlA rfl ?_;conv=>whnf
 refine bKo rfl ?_;conv=>whnf
 refine nlA rfl ?_;conv=>whnf
 refine And.intro (by decide) ?_;conv=>whnf
 refine nlA rfl ?_;conv=>whnf
 refine bKo rfl ?_;conv=>whnf
 refine gKo rfl ?_;conv=>whnf
 refine And.intro (by decide) ?_;conv=>whnf
 refine nlA rfl ?_;conv=>whnf
 refine bKo rfl ?_;conv=>whnf
 refine gKo rfl ?_;conv=>whnf
 refine And.intro (by decide) ?_;conv=>whnf
 refine nlA rfl ?_;conv=>whnf
 refine bKo rfl ?_;conv=>whnf
 refine gKo rfl ?_;conv=>whnf
 replace h:=bE h
 refine aCm h6 h (WkL.refl _) (fun _ h=>?_);conv=>whnf
 refine nlA rfl ?_;conv=>whnf
 refine bKo rfl ?_;conv=>whnf
 refine nlA rfl ?_;conv=>whnf
 replace h:=bE h
 refine aCA h7 h (WkL.refl _) (fun _ h=>?_);conv=>whnf
 refine hZ (enc:=bD) (d:=default) dCo h rfl rfl rfl ⟨nle rfl,nle rfl,rfl⟩ rfl ⟨⟨rfl,nle rfl⟩,⟨⟨rfl,nle rfl⟩,⟨⟨rfl,nle rfl⟩,trivial⟩⟩⟩ (fun h=>?_);conv=>whnf
 refine hK _ _ _ ?_
 refine aN ?_
 replace h:=bE h
 refine dS (body:=cB _ _ _ _ _) rfl h [3,5,7,10,54,55] [7,10] [] (fun kl kh ids b s=>⟨ofL ([(56,eI s)]++kl),ofH ([]++kh),b+64⟩) ?_;(conv=>whnf);refine And.intro ?_ (fun s m h=>dY ?_)
 ·refine aO ?_;conv=>whnf
  exact And.intro rfl (And.intro (aLc wkI (aLc wkI (aLc wkI (aLc (WkR.ptr (fun _=>rfl)) (aLc (WkR.ptr (fun _=>rfl)) (aLc (wkr (aX fun _=>(aR _))) (aLc wkI aLn))))))) (aLc ⟨some _,rfl,bRc rfl (cKc wkI (cKc wkI (cKc wkI cKn)))⟩ (aLc ⟨some _,rfl,bRc rfl (cKc wkI (cKc wkI (cKc wkI (cKc wkI cKn))))⟩ aLn)))
 replace h:=bE h;rw [cB.eq_1] at h
 refine aB dCo rfl fun K hK=>?_;conv=>whnf
 refine hK _ _ _ ?_
 refine aL ?_
 refine aT fun K1 K2 hK1 hK2=>?_;conv=>whnf
 refine cLk h (fun _ h=>?_) (fun _ h=>?_)
 ·refine hK1 ?_
  refine aK ?_
  refine tHn ?_
  refine aL ?_
  refine aN ?_
  refine aB dCo rfl fun K hK=>?_;conv=>whnf
  refine cA h fun _ h=>?_;conv=>whnf
  refine nlA rfl ?_;conv=>whnf
  refine bKo rfl ?_;conv=>whnf
  refine And.intro rfl (And.intro (nle rfl) (And.intro rfl ?_));conv=>whnf
  refine hK _ _ _ ?_
  refine aL ?_
  refine iZ dCo cJ rfl (by kernel_rfl) fun K hK=>?_;conv=>whnf
  refine nlA rfl ?_;conv=>whnf
  refine bKo rfl ?_;conv=>whnf
  refine nlA rfl ?_;conv=>whnf
  replace h:=bE h
  refine jY h8 h (WkL.refl _) (fun _ h=>?_);conv=>whnf
  refine nlA rfl ?_;conv=>whnf
  refine bKo rfl ?_;conv=>whnf
  refine nlA rfl ?_;conv=>whnf
  replace h:=bE h
  refine sJ h9 h (WkL.refl _) (fun _ h=>?_);conv=>whnf
  refine sT (qJ dCo rfl _ _) ?_;conv=>whnf
  refine hK _ _ _ ?_
  refine aT fun K1 K2 hK1 hK2=>?_;conv=>whnf
  refine cLk h (fun _ h=>?_) (fun _ h=>?_)
  ·refine hK1 ?_
   refine aB dCo rfl fun K hK=>?_;conv=>whnf
   refine hK _ _ _ ?_
   refine aJ ?_
   refine aM ?_
   refine aP ?_
   refine aM ?_
   refine aM ?_
   refine aP ?_
   refine aM ?_
   replace h:=iG h
   replace h:=iF h
   replace h:=aI h
   refine aE dCo fun K hK=>?_;conv=>whnf
   refine hK _ ?_
   cases h
   exact Wk.refl _
  refine hK2 ?_
  refine aK ?_
  refine tHn ?_
  refine aB dCo rfl fun K hK=>?_;conv=>whnf
  refine nlA rfl ?_;conv=>whnf
  refine bKo rfl ?_;conv=>whnf
  refine nlA rfl ?_;conv=>whnf
  replace h:=bE h
  refine mM h10 h (WkL.refl _) (fun _ h=>?_);conv=>whnf
  refine bKo rfl ?_;conv=>whnf
  refine And.intro rfl (And.intro (nle rfl) (And.intro rfl ?_));conv=>whnf
  refine hK _ _ _ ?_
  refine aB dCo rfl fun K hK=>?_;conv=>whnf
  refine nlA rfl ?_;conv=>whnf
  refine bKo rfl ?_;conv=>whnf
  refine nlA rfl ?_;conv=>whnf
  replace h:=bE h
  refine yE h11 h (WkL.refl _) (fun _ h=>?_);conv=>whnf
  refine hK _ _ _ ?_
  refine aL ?_
  refine aB9 rfl h [3,5,7,10,15,16,18,19,54,55,56] [7,10,15,16] [] (fun kl kh ids b s=>⟨ofL ([(107,eB s)]++kl),ofH ([]++kh),b+64⟩) ?_;(conv=>whnf);refine And.intro (fun s h=>dY ?_) (fun k h=>?_)
  ·refine aT fun K1 K2 hK1 hK2=>?_;conv=>whnf
   refine cLk h (fun _ h=>?_) (fun _ h=>?_)
   ·refine hK1 ?_
    refine aB dCo rfl fun K hK=>?_;conv=>whnf
    refine hK _ _ _ ?_
    refine aJ ?_
    refine aM ?_
    refine aP ?_
    refine aM ?_
    refine aM ?_
    refine aP ?_
    refine aM ?_
    replace h:=iG h
    replace h:=iF h
    replace h:=aI h
    refine aE dCo fun K hK=>?_;conv=>whnf
    refine hK _ ?_
    cases h
    exact Wk.refl _
   refine hK2 ?_
   refine aK ?_
   refine tHn ?_
   refine aB dCo rfl fun K hK=>?_;conv=>whnf
   refine nlA rfl ?_;conv=>whnf
   refine bKo rfl ?_;conv=>whnf
   refine nlA rfl ?_;conv=>whnf
   replace h:=bE h
   refine qU h13 h (WkL.refl _) (fun _ h=>?_);conv=>whnf
   refine bKo rfl ?_;conv=>whnf
   refine And.intro rfl (And.intro (nle rfl) (And.intro rfl ?_));conv=>whnf
   refine hK _ _ _ ?_
   refine aL ?_
   refine aB9 rfl h [3,5,7,10,15,16,18,20,54,55,56] [7,10,15,16,20] [] (fun kl kh ids b s=>⟨ofL ([(146,eB s)]++kl),ofH ([]++kh),b+64⟩) ?_;(conv=>whnf);refine And.intro (fun s h=>dY ?_) (fun k h=>?_)
   ·refine aT fun K1 K2 hK1 hK2=>?_;conv=>whnf
    refine cLk h (fun _ h=>?_) (fun _ h=>?_)
    ·refine hK1 ?_
     refine aB dCo rfl fun K hK=>?_;conv=>whnf
     refine hK _ _ _ ?_
     refine aJ ?_
     refine aM ?_
     refine aP ?_
     refine aM ?_
     refine aM ?_
     refine aP ?_
     refine aM ?_
     replace h:=iG h
     replace h:=iF h
     replace h:=aI h
     refine aE dCo fun K hK=>?_;conv=>whnf
     refine hK _ ?_
     cases h
     exact Wk.refl _
    refine hK2 ?_
    refine aK ?_
    refine tHn ?_
    refine iZ dCo cJ rfl (by kernel_rfl) fun K hK=>?_;conv=>whnf
    refine nlA rfl ?_;conv=>whnf
    refine bKo rfl ?_;conv=>whnf
    refine nlA rfl ?_;conv=>whnf
    refine nlA rfl ?_;conv=>whnf
    refine bKo rfl ?_;conv=>whnf
    refine nlA rfl ?_;conv=>whnf
    refine nlA rfl ?_;conv=>whnf
    refine bKo rfl ?_;conv=>whnf
    refine nlA rfl ?_;conv=>whnf
    refine And.intro (by decide) ?_;conv=>whnf
    refine nlA rfl ?_;conv=>whnf
    refine bKo rfl ?_;conv=>whnf
    refine gKo rfl ?_;conv=>whnf
    refine And.intro (by decide) ?_;conv=>whnf
    refine nlA rfl ?_;conv=>whnf
    refine bKo rfl ?_;conv=>whnf
    refine gKo rfl ?_;conv=>whnf
    replace h:=bE h
    refine rT h15 h (WkL.refl _) (fun _ h=>?_);conv=>whnf
    refine hZ (enc:=fE) (d:=default) dCo h rfl rfl rfl ⟨nle rfl,nle rfl,rfl⟩ rfl ⟨⟨rfl,nle rfl⟩,⟨⟨rfl,nle rfl⟩,⟨⟨rfl,nle rfl⟩,trivial⟩⟩⟩ (fun h=>?_);conv=>whnf
    refine nlA rfl ?_;conv=>whnf
    refine bKo rfl ?_;conv=>whnf
    refine gKo rfl ?_;conv=>whnf
    refine aMI (enc:=fE) (d:=default) dCo h rfl rfl rfl ⟨rfl,nle rfl,nle rfl,nle rfl,rfl⟩ (fun _=>rfl) (fun h=>?_);conv=>whnf
    refine hK _ _ _ ?_
    refine aL ?_
    refine aB dCo rfl fun K hK=>?_;conv=>whnf
    replace h:=bE h
    refine wS h16 h (WkL.refl _) (fun _ h=>?_);conv=>whnf
    refine hZ (enc:=eI) (d:=default) dCo h rfl rfl rfl ⟨nle rfl,nle rfl,rfl⟩ rfl ⟨⟨rfl,rfl,rfl⟩,⟨⟨rfl,rfl,rfl⟩,⟨⟨rfl,rfl,rfl⟩,trivial⟩⟩⟩ (fun h=>?_);conv=>whnf
    refine hK _ _ _ ?_
    refine aN ?_
    replace h:=bE h
    refine dS (body:=bU _ _ _ _) rfl h [3,5,7,10,15,16,22,54,55,56,163,164] [7,10,15,16,22] [] (fun kl kh ids b s=>⟨ofL ([(165,eI s)]++kl),ofH ([]++kh),b+64⟩) ?_;(conv=>whnf);refine And.intro ?_ (fun s m h=>dY ?_)
    ·refine aO ?_;conv=>whnf
     exact And.intro rfl (And.intro (aLc wkI (aLc wkI (aLc wkI (aLc (WkR.ptr (fun _=>rfl)) (aLc (WkR.ptr (fun _=>rfl)) (aLc (WkR.ptr (fun _=>rfl)) (aLc (WkR.ptr (fun _=>rfl)) (aLc (WkR.tok (fun _=>rfl) rfl (fun _ _=>Wk.refl _) (fun _=>(aQ _))) (aLc (wkr (aX fun _=>(aR _))) (aLc wkI (aLc wkI (aLc (wkr (aX fun _=>(lsI _ _))) (aLc wkI aLn))))))))))))) (aLc ⟨some _,rfl,bRc rfl (cKc wkI (cKc wkI (cKc wkI cKn)))⟩ (aLc ⟨some _,rfl,bRc rfl (cKc wkI (cKc wkI (cKc wkI (cKc wkI cKn))))⟩ (aLc ⟨some _,rfl,bRc rfl (cKc wkI (cKc (wkr (lsL fun _=>(aC _))) (cKc (wkr (lsL fun _=>(lsI _ _))) (cKc (wkr (lsL fun _=>(lsI _ _))) (cKc wkI (cKc (wkr (lsL fun _=>(aA _))) cKn))))))⟩ (aLc ⟨some _,rfl,bRc rfl (cKc wkI (cKc (wkr (lsL fun _=>(aQ _))) cKn))⟩ (aLc ⟨some _,rfl,bRc rfl cKn⟩ aLn))))))
    replace h:=bE h;rw [bU.eq_1] at h
    refine aB dCo rfl fun K hK=>?_;conv=>whnf
    refine hK _ _ _ ?_
    refine aL ?_
    refine aT fun K1 K2 hK1 hK2=>?_;conv=>whnf
    refine cLk h (fun _ h=>?_) (fun _ h=>?_)
    ·refine hK1 ?_
     refine aK ?_
     refine tHn ?_
     refine aL ?_
     refine aN ?_
     refine aB dCo rfl fun K hK=>?_;conv=>whnf
     refine cA h fun _ h=>?_;conv=>whnf
     refine gKo rfl ?_;conv=>whnf
     refine hK _ _ _ ?_
     refine aB dCo rfl fun K hK=>?_;conv=>whnf
     refine nlA rfl ?_;conv=>whnf
     refine bKo rfl ?_;conv=>whnf
     refine nlA rfl ?_;conv=>whnf
     replace h:=bE h
     refine qW h17 h (WkL.refl _) (fun _ h=>?_);conv=>whnf
     refine bKo rfl ?_;conv=>whnf
     refine And.intro rfl (And.intro (nle rfl) (And.intro rfl ?_));conv=>whnf
     refine hK _ _ _ ?_
     refine aB dCo rfl fun K hK=>?_;conv=>whnf
     refine nlA rfl ?_;conv=>whnf
     refine bKo rfl ?_;conv=>whnf
     refine nlA rfl ?_;conv=>whnf
     replace h:=bE h
     refine wR h18 h (WkL.refl _) (fun _ h=>?_);conv=>whnf
     refine bKo rfl ?_;conv=>whnf
     refine And.intro rfl (And.intro (nle rfl) (And.intro rfl ?_));conv=>whnf
     refine hK _ _ _ ?_
     refine aB dCo rfl fun K hK=>?_;conv=>whnf
     refine nlA rfl ?_;conv=>whnf
     refine bKo rfl ?_;conv=>whnf
     refine nlA rfl ?_;conv=>whnf
     replace h:=bE h
     refine mK h19 h (WkL.refl _) (fun _ h=>?_);conv=>whnf
     refine hK _ _ _ ?_
     refine aB dCo rfl fun K hK=>?_;conv=>whnf
     refine nlA rfl ?_;conv=>whnf
     refine bKo rfl ?_;conv=>whnf
     refine nlA rfl ?_;conv=>whnf
     replace h:=bE h
     refine vW h20 h (WkL.refl _) (fun _ h=>?_);conv=>whnf
     refine hK _ _ _ ?_
     refine aL ?_
     refine aB9 rfl h [3,5,7,10,15,16,22,24,54,55,56,163,164,165] [7,10,15,16,22] [] (fun kl kh ids b s=>⟨ofL ([(228,eB s)]++kl),ofH ([]++kh),b+64⟩) ?_;(conv=>whnf);refine And.intro (fun s h=>dY ?_) (fun k h=>?_)
     ·refine aT fun K1 K2 hK1 hK2=>?_;conv=>whnf
      refine cLk h (fun _ h=>?_) (fun _ h=>?_)
      ·refine hK1 ?_
       refine aB dCo rfl fun K hK=>?_;conv=>whnf
       refine hK _ _ _ ?_
       refine aJ ?_
       refine aM ?_
       refine aP ?_
       refine aM ?_
       refine aM ?_
       refine aP ?_
       refine aM ?_
       refine aP ?_
       refine aM ?_
       refine aM ?_
       refine aP ?_
       refine aM ?_
       replace h:=iG h
       replace h:=iF h
       replace h:=iG h
       replace h:=iF h
       replace h:=aI h
       refine aE dCo fun K hK=>?_;conv=>whnf
       refine hK _ ?_
       cases h
       exact Wk.refl _
      refine hK2 ?_
      refine aK ?_
      refine tHn ?_
      refine aB dCo rfl fun K hK=>?_;conv=>whnf
      refine hK _ _ _ ?_
      refine aN ?_
      replace h:=bE h
      refine dS (body:=cC _ _ _ _) rfl h [3,5,7,10,15,16,22,24,54,55,56,163,164,165] [7,10,15,16,22] [] (fun kl kh ids b s=>⟨ofL ([(35,eI s)]++kl),ofH ([]++kh),b+64⟩) ?_;(conv=>whnf);refine And.intro ?_ (fun s m h=>dY ?_)
      ·refine aO ?_;conv=>whnf
       exact And.intro rfl (And.intro (aLc wkI (aLc wkI (aLc wkI (aLc (WkR.ptr (fun _=>rfl)) (aLc (WkR.ptr (fun _=>rfl)) (aLc (WkR.ptr (fun _=>rfl)) (aLc (WkR.ptr (fun _=>rfl)) (aLc (WkR.tok (fun _=>rfl) rfl (fun _ _=>Wk.refl _) (fun _=>(aQ _))) (aLc wkI (aLc (wkr (aX fun _=>(aR _))) (aLc wkI (aLc wkI (aLc (wkr (aX fun _=>(lsI _ _))) (aLc wkI (aLc wkI aLn))))))))))))))) (aLc ⟨some _,rfl,bRc rfl (cKc wkI (cKc wkI (cKc wkI cKn)))⟩ (aLc ⟨some _,rfl,bRc rfl (cKc wkI (cKc wkI (cKc wkI (cKc wkI cKn))))⟩ (aLc ⟨some _,rfl,bRc rfl (cKc wkI (cKc (wkr (lsL fun _=>(aC _))) (cKc (wkr (lsL fun _=>(lsI _ _))) (cKc (wkr (lsL fun _=>(lsI _ _))) (cKc wkI (cKc (wkr (lsL fun _=>(aA _))) cKn))))))⟩ (aLc ⟨some _,rfl,bRc rfl (cKc wkI (cKc (wkr (lsL fun _=>(aQ _))) cKn))⟩ (aLc ⟨some _,rfl,bRc rfl cKn⟩ aLn))))))
      replace h:=bE h;rw [cC.eq_1] at h
      refine aL ?_
      refine aB dCo rfl fun K hK=>?_;conv=>whnf
      refine hK _ _ _ ?_
      refine aT fun K1 K2 hK1 hK2=>?_;conv=>whnf
      refine cLk h (fun _ h=>?_) (fun _ h=>?_)
      ·refine hK1 ?_
       refine aK ?_
       refine tHn ?_
       refine aL ?_
       refine aN ?_
       refine iZ dCo cJ rfl (by kernel_rfl) fun K hK=>?_;conv=>whnf
       refine cA h fun _ h=>?_;conv=>whnf
       refine nlA rfl ?_;conv=>whnf
       refine And.intro (by decide) ?_;conv=>whnf
       refine nlA rfl ?_;conv=>whnf
       refine bKo rfl ?_;conv=>whnf
       refine gKo rfl ?_;conv=>whnf
       refine And.intro (by decide) ?_;conv=>whnf
       refine nlA rfl ?_;conv=>whnf
       refine bKo rfl ?_;conv=>whnf
       refine gKo rfl ?_;conv=>whnf
       replace h:=bE h
       refine rT h15 h (WkL.refl _) (fun _ h=>?_);conv=>whnf
       refine bKo rfl ?_;conv=>whnf
       refine And.intro rfl (And.intro (nle rfl) (And.intro rfl ?_));conv=>whnf
       refine hK _ _ _ ?_
       refine iZ dCo cJ rfl (by kernel_rfl) fun K hK=>?_;conv=>whnf
       replace h:=eW h
       refine nlA rfl ?_;conv=>whnf
       refine bKo rfl ?_;conv=>whnf
       refine nlA rfl ?_;conv=>whnf
       refine cA h fun _ h=>?_;conv=>whnf
       refine nlA rfl ?_;conv=>whnf
       replace h:=bE h
       refine eF h25 h (WkL.refl _) (fun _ h=>?_);conv=>whnf
       refine nlA rfl ?_;conv=>whnf
       refine bKo rfl ?_;conv=>whnf
       refine nlA rfl ?_;conv=>whnf
       refine cA h fun _ h=>?_;conv=>whnf
       refine nlA rfl ?_;conv=>whnf
       replace h:=bE h
       refine gD h14 h (WkL.refl _) (fun _ h=>?_);conv=>whnf
       refine sT (qJ dCo rfl _ _) ?_;conv=>whnf
       refine cLk h (fun _ h=>?_) (fun _ h=>?_)<;>(conv=>whnf)
       ·refine hK _ _ _ ?_
        refine aT fun K1 K2 hK1 hK2=>?_;conv=>whnf
        refine hK1 ?_
        replace h:=kR h
        refine aB dCo rfl fun K hK=>?_;conv=>whnf
        refine hK _ _ _ ?_
        refine aJ ?_
        refine aP ?_
        refine aM ?_
        refine aM ?_
        refine aP ?_
        refine aP ?_
        refine aM ?_
        refine aM ?_
        refine aP ?_
        refine aM ?_
        refine aP ?_
        refine aM ?_
        refine aM ?_
        refine aP ?_
        refine aM ?_
        replace h:=iG h
        replace h:=iF h
        replace h:=iG h
        replace h:=iF h
        replace h:=iG h
        replace h:=iF h
        replace h:=aI h
        refine aE dCo fun K hK=>?_;conv=>whnf
        refine hK _ ?_
        cases h
        exact Wk.refl _
       refine nlA rfl ?_;conv=>whnf
       refine bKo rfl ?_;conv=>whnf
       refine nlA rfl ?_;conv=>whnf
       refine nlA rfl ?_;conv=>whnf
       refine bKo rfl ?_;conv=>whnf
       refine nlA rfl ?_;conv=>whnf
       replace h:=bE h
       refine eF h25 h (WkL.refl _) (fun _ h=>?_);conv=>whnf
       refine nlA rfl ?_;conv=>whnf
       refine bKo rfl ?_;conv=>whnf
       refine nlA rfl ?_;conv=>whnf
       refine nlA rfl ?_;conv=>whnf
       refine bKo rfl ?_;conv=>whnf
       refine nlA rfl ?_;conv=>whnf
       replace h:=bE h
       refine gD h14 h (WkL.refl _) (fun _ h=>?_);conv=>whnf
       refine sT (qJ dCo rfl _ _) ?_;conv=>whnf
       refine hK _ _ _ ?_
       refine aT fun K1 K2 hK1 hK2=>?_;conv=>whnf
       refine cLk h (fun _ h=>?_) (fun _ h=>?_)
       ·refine hK1 ?_
        refine aB dCo rfl fun K hK=>?_;conv=>whnf
        refine hK _ _ _ ?_
        refine aJ ?_
        refine aP ?_
        refine aM ?_
        refine aM ?_
        refine aP ?_
        refine aP ?_
        refine aM ?_
        refine aM ?_
        refine aP ?_
        refine aM ?_
        refine aP ?_
        refine aM ?_
        refine aM ?_
        refine aP ?_
        refine aM ?_
        replace h:=iG h
        replace h:=iF h
        replace h:=iG h
        replace h:=iF h
        replace h:=iG h
        replace h:=iF h
        replace h:=aI h
        refine aE dCo fun K hK=>?_;conv=>whnf
        refine hK _ ?_
        cases h
        exact Wk.refl _
       refine hK2 ?_
       refine aK ?_
       refine iBn ?_
       refine tHn ?_
       refine cK dCo rfl fun K hK=>?_;conv=>whnf
       refine hK _ _ _ ?_
       refine tHn ?_
       replace h:=bY h
       refine ⟨_,h,?_⟩
       refine aO ?_;conv=>whnf
       exact And.intro rfl (And.intro (aLc wkI (aLc wkI (aLc wkI (aLc (WkR.ptr (fun _=>rfl)) (aLc (WkR.ptr (fun _=>rfl)) (aLc (WkR.ptr (fun _=>rfl)) (aLc (WkR.ptr (fun _=>rfl)) (aLc (WkR.tok (fun _=>rfl) rfl (fun _ _=>Wk.refl _) (fun _=>(aQ _))) (aLc wkI (aLc (wkr (aX fun _=>(aR _))) (aLc wkI (aLc wkI (aLc (wkr (aX fun _=>(lsI _ _))) (aLc wkI (aLc wkI aLn))))))))))))))) (aLc ⟨some _,rfl,bRc rfl (cKc wkI (cKc wkI (cKc wkI cKn)))⟩ (aLc ⟨some _,rfl,bRc rfl (cKc wkI (cKc wkI (cKc wkI (cKc wkI cKn))))⟩ (aLc ⟨some _,rfl,bRc rfl (cKc wkI (cKc (wkr (lsL fun _=>(aC _))) (cKc (wkr (lsL fun _=>(lsI _ _))) (cKc (wkr (lsL fun _=>(lsI _ _))) (cKc wkI (cKc (wkr (lsL fun _=>(aA _))) cKn))))))⟩ (aLc ⟨some _,rfl,bRc rfl (cKc wkI (cKc (wkr (lsL fun _=>(aQ _))) cKn))⟩ (aLc ⟨some _,rfl,bRc rfl cKn⟩ aLn))))))
      refine hK2 ?_
      refine bN ?_
      refine aW ?_
      refine aW ?_
      refine aV ?_
      replace h:=eA h
      replace h:=dZ h
      refine iBn ?_
      refine tHn ?_
      refine cK dCo rfl fun K hK=>?_;conv=>whnf
      refine hK _ _ _ ?_
      refine tHn ?_
      replace h:=bY h
      refine ⟨_,h,?_⟩
      refine aO ?_;conv=>whnf
      exact And.intro rfl (And.intro (aLc wkI (aLc wkI (aLc wkI (aLc (WkR.ptr (fun _=>rfl)) (aLc (WkR.ptr (fun _=>rfl)) (aLc (WkR.ptr (fun _=>rfl)) (aLc (WkR.ptr (fun _=>rfl)) (aLc (WkR.tok (fun _=>rfl) rfl (fun _ _=>Wk.refl _) (fun _=>(aQ _))) (aLc (wkr (aX fun _=>(aR _))) (aLc wkI (aLc wkI (aLc (wkr (aX fun _=>(lsI _ _))) (aLc wkI aLn))))))))))))) (aLc ⟨some _,rfl,bRc rfl (cKc wkI (cKc wkI (cKc wkI cKn)))⟩ (aLc ⟨some _,rfl,bRc rfl (cKc wkI (cKc wkI (cKc wkI (cKc wkI cKn))))⟩ (aLc ⟨some _,rfl,bRc rfl (cKc wkI (cKc (wkr (lsL fun _=>(aC _))) (cKc (wkr (lsL fun _=>(lsI _ _))) (cKc (wkr (lsL fun _=>(lsI _ _))) (cKc wkI (cKc (wkr (lsL fun _=>(aA _))) cKn))))))⟩ (aLc ⟨some _,rfl,bRc rfl (cKc wkI (cKc (wkr (lsL fun _=>(aQ _))) cKn))⟩ (aLc ⟨some _,rfl,bRc rfl cKn⟩ aLn))))))
     refine zU dCo cJ rfl (by kernel_rfl) fun K hK=>?_;conv=>whnf
     refine cLk h (fun _ h=>?_) (fun _ h=>?_)<;>(conv=>whnf)
     ·refine hK _ _ _ ?_
      refine tHn ?_
      refine ⟨_,h,?_⟩
      refine aO ?_;conv=>whnf
      exact And.intro rfl (And.intro (aLc (wkr (lsB _)) (aLc wkI (aLc wkI (aLc (WkR.ptr (fun _=>rfl)) (aLc (WkR.ptr (fun _=>rfl)) (aLc (WkR.ptr (fun _=>rfl)) (aLc (WkR.ptr (fun _=>rfl)) (aLc (WkR.tok (fun _=>rfl) rfl (fun _ _=>Wk.refl _) (fun _=>(aQ _))) (aLc wkI (aLc (wkr (aX fun _=>(aR _))) (aLc wkI (aLc wkI (aLc (wkr (aX fun _=>(lsI _ _))) (aLc wkI (aLc wkI aLn))))))))))))))) (aLc ⟨some _,rfl,bRc rfl (cKc wkI (cKc wkI (cKc wkI cKn)))⟩ (aLc ⟨some _,rfl,bRc rfl (cKc wkI (cKc wkI (cKc wkI (cKc wkI cKn))))⟩ (aLc ⟨some _,rfl,bRc rfl (cKc wkI (cKc (wkr (lsL fun _=>(aC _))) (cKc (wkr (lsL fun _=>(lsI _ _))) (cKc (wkr (lsL fun _=>(lsI _ _))) (cKc wkI (cKc (wkr (lsL fun _=>(aA _))) cKn))))))⟩ (aLc ⟨some _,rfl,bRc rfl (cKc wkI (cKc (wkr (lsL fun _=>(aQ _))) cKn))⟩ (aLc ⟨some _,rfl,bRc rfl cKn⟩ aLn))))))
     refine nlA rfl ?_;conv=>whnf
     refine bKo rfl ?_;conv=>whnf
     refine nlA rfl ?_;conv=>whnf
     refine nlA rfl ?_;conv=>whnf
     refine bKo rfl ?_;conv=>whnf
     refine nlA rfl ?_;conv=>whnf
     replace h:=bE h
     refine aBG h21 h (WkL.refl _) (fun _ h=>?_);conv=>whnf
     refine cLk h (fun _ h=>?_) (fun _ h=>?_)<;>(conv=>whnf)
     ·refine hK _ _ _ ?_
      refine tHn ?_
      refine ⟨_,h,?_⟩
      refine aO ?_;conv=>whnf
      exact And.intro rfl (And.intro (aLc (wkr (lsB _)) (aLc wkI (aLc wkI (aLc (WkR.ptr (fun _=>rfl)) (aLc (WkR.ptr (fun _=>rfl)) (aLc (WkR.ptr (fun _=>rfl)) (aLc (WkR.ptr (fun _=>rfl)) (aLc (WkR.tok (fun _=>rfl) rfl (fun _ _=>Wk.refl _) (fun _=>(aQ _))) (aLc wkI (aLc (wkr (aX fun _=>(aR _))) (aLc wkI (aLc wkI (aLc (wkr (aX fun _=>(lsI _ _))) (aLc wkI (aLc wkI aLn))))))))))))))) (aLc ⟨some _,rfl,bRc rfl (cKc wkI (cKc wkI (cKc wkI cKn)))⟩ (aLc ⟨some _,rfl,bRc rfl (cKc wkI (cKc wkI (cKc wkI (cKc wkI cKn))))⟩ (aLc ⟨some _,rfl,bRc rfl (cKc wkI (cKc (wkr (lsL fun _=>(aC _))) (cKc (wkr (lsL fun _=>(lsI _ _))) (cKc (wkr (lsL fun _=>(lsI _ _))) (cKc wkI (cKc (wkr (lsL fun _=>(aA _))) cKn))))))⟩ (aLc ⟨some _,rfl,bRc rfl (cKc wkI (cKc (wkr (lsL fun _=>(aQ _))) cKn))⟩ (aLc ⟨some _,rfl,bRc rfl cKn⟩ aLn))))))
     replace h:=bE h
     refine wE h22 h (WkL.refl _) (fun _ h=>?_);conv=>whnf
     refine cLk h (fun _ h=>?_) (fun _ h=>?_)<;>(conv=>whnf)
     ·refine hK _ _ _ ?_
      refine tHn ?_
      refine ⟨_,h,?_⟩
      refine aO ?_;conv=>whnf
      exact And.intro rfl (And.intro (aLc (wkr (lsB _)) (aLc wkI (aLc wkI (aLc (WkR.ptr (fun _=>rfl)) (aLc (WkR.ptr (fun _=>rfl)) (aLc (WkR.ptr (fun _=>rfl)) (aLc (WkR.ptr (fun _=>rfl)) (aLc (WkR.tok (fun _=>rfl) rfl (fun _ _=>Wk.refl _) (fun _=>(aQ _))) (aLc wkI (aLc (wkr (aX fun _=>(aR _))) (aLc wkI (aLc wkI (aLc (wkr (aX fun _=>(lsI _ _))) (aLc wkI (aLc wkI aLn))))))))))))))) (aLc ⟨some _,rfl,bRc rfl (cKc wkI (cKc wkI (cKc wkI cKn)))⟩ (aLc ⟨some _,rfl,bRc rfl (cKc wkI (cKc wkI (cKc wkI (cKc wkI cKn))))⟩ (aLc ⟨some _,rfl,bRc rfl (cKc wkI (cKc (wkr (lsL fun _=>(aC _))) (cKc (wkr (lsL fun _=>(lsI _ _))) (cKc (wkr (lsL fun _=>(lsI _ _))) (cKc wkI (cKc (wkr (lsL fun _=>(aA _))) cKn))))))⟩ (aLc ⟨some _,rfl,bRc rfl (cKc wkI (cKc (wkr (lsL fun _=>(aQ _))) cKn))⟩ (aLc ⟨some _,rfl,bRc rfl cKn⟩ aLn))))))
     refine cLk h (fun _ h=>?_) (fun _ h=>?_)<;>(conv=>whnf)
     ·refine hK _ _ _ ?_
      refine tHn ?_
      refine ⟨_,h,?_⟩
      refine aO ?_;conv=>whnf
      exact And.intro rfl (And.intro (aLc (wkr (lsB _)) (aLc wkI (aLc wkI (aLc (WkR.ptr (fun _=>rfl)) (aLc (WkR.ptr (fun _=>rfl)) (aLc (WkR.ptr (fun _=>rfl)) (aLc (WkR.ptr (fun _=>rfl)) (aLc (WkR.tok (fun _=>rfl) rfl (fun _ _=>Wk.refl _) (fun _=>(aQ _))) (aLc wkI (aLc (wkr (aX fun _=>(aR _))) (aLc wkI (aLc wkI (aLc (wkr (aX fun _=>(lsI _ _))) (aLc wkI (aLc wkI aLn))))))))))))))) (aLc ⟨some _,rfl,bRc rfl (cKc wkI (cKc wkI (cKc wkI cKn)))⟩ (aLc ⟨some _,rfl,bRc rfl (cKc wkI (cKc wkI (cKc wkI (cKc wkI cKn))))⟩ (aLc ⟨some _,rfl,bRc rfl (cKc wkI (cKc (wkr (lsL fun _=>(aC _))) (cKc (wkr (lsL fun _=>(lsI _ _))) (cKc (wkr (lsL fun _=>(lsI _ _))) (cKc wkI (cKc (wkr (lsL fun _=>(aA _))) cKn))))))⟩ (aLc ⟨some _,rfl,bRc rfl (cKc wkI (cKc (wkr (lsL fun _=>(aQ _))) cKn))⟩ (aLc ⟨some _,rfl,bRc rfl cKn⟩ aLn))))))
     refine cLk h (fun _ h=>?_) (fun _ h=>?_)<;>(conv=>whnf)
     ·refine hK _ _ _ ?_
      refine tHn ?_
      refine ⟨_,h,?_⟩
      refine aO ?_;conv=>whnf
      exact And.intro rfl (And.intro (aLc (wkr (lsB _)) (aLc wkI (aLc wkI (aLc (WkR.ptr (fun _=>rfl)) (aLc (WkR.ptr (fun _=>rfl)) (aLc (WkR.ptr (fun _=>rfl)) (aLc (WkR.ptr (fun _=>rfl)) (aLc (WkR.tok (fun _=>rfl) rfl (fun _ _=>Wk.refl _) (fun _=>(aQ _))) (aLc wkI (aLc (wkr (aX fun _=>(aR _))) (aLc wkI (aLc wkI (aLc (wkr (aX fun _=>(lsI _ _))) (aLc wkI (aLc wkI aLn))))))))))))))) (aLc ⟨some _,rfl,bRc rfl (cKc wkI (cKc wkI (cKc wkI cKn)))⟩ (aLc ⟨some _,rfl,bRc rfl (cKc wkI (cKc wkI (cKc wkI (cKc wkI cKn))))⟩ (aLc ⟨some _,rfl,bRc rfl (cKc wkI (cKc (wkr (lsL fun _=>(aC _))) (cKc (wkr (lsL fun _=>(lsI _ _))) (cKc (wkr (lsL fun _=>(lsI _ _))) (cKc wkI (cKc (wkr (lsL fun _=>(aA _))) cKn))))))⟩ (aLc ⟨some _,rfl,bRc rfl (cKc wkI (cKc (wkr (lsL fun _=>(aQ _))) cKn))⟩ (aLc ⟨some _,rfl,bRc rfl cKn⟩ aLn))))))
     refine nlA rfl ?_;conv=>whnf
     refine bKo rfl ?_;conv=>whnf
     refine nlA rfl ?_;conv=>whnf
     replace h:=bE h
     refine oA h23 h (WkL.refl _) (fun _ h=>?_);conv=>whnf
     refine nlA rfl ?_;conv=>whnf
     refine bKo rfl ?_;conv=>whnf
     refine nlA rfl ?_;conv=>whnf
     replace h:=bE h
     refine qG h24 h (WkL.refl _) (fun _ h=>?_);conv=>whnf
     refine sT (qJ dCo rfl _ _) ?_;conv=>whnf
     refine hK _ _ _ ?_
     refine tHn ?_
     refine ⟨_,h,?_⟩
     refine aO ?_;conv=>whnf
     exact And.intro rfl (And.intro (aLc (wkr (lsB _)) (aLc wkI (aLc wkI (aLc (WkR.ptr (fun _=>rfl)) (aLc (WkR.ptr (fun _=>rfl)) (aLc (WkR.ptr (fun _=>rfl)) (aLc (WkR.ptr (fun _=>rfl)) (aLc (WkR.tok (fun _=>rfl) rfl (fun _ _=>Wk.refl _) (fun _=>(aQ _))) (aLc wkI (aLc (wkr (aX fun _=>(aR _))) (aLc wkI (aLc wkI (aLc (wkr (aX fun _=>(lsI _ _))) (aLc wkI (aLc wkI aLn))))))))))))))) (aLc ⟨some _,rfl,bRc rfl (cKc wkI (cKc wkI (cKc wkI cKn)))⟩ (aLc ⟨some _,rfl,bRc rfl (cKc wkI (cKc wkI (cKc wkI (cKc wkI cKn))))⟩ (aLc ⟨some _,rfl,bRc rfl (cKc wkI (cKc (wkr (lsL fun _=>(aC _))) (cKc (wkr (lsL fun _=>(lsI _ _))) (cKc (wkr (lsL fun _=>(lsI _ _))) (cKc wkI (cKc (wkr (lsL fun _=>(aA _))) cKn))))))⟩ (aLc ⟨some _,rfl,bRc rfl (cKc wkI (cKc (wkr (lsL fun _=>(aQ _))) cKn))⟩ (aLc ⟨some _,rfl,bRc rfl cKn⟩ aLn))))))
    refine hK2 ?_
    refine bN ?_
    refine aW ?_
    refine aW ?_
    refine aV ?_
    replace h:=eA h
    replace h:=dZ h
    refine tHn ?_
    refine iZ dCo cJ rfl (by kernel_rfl) fun K hK=>?_;conv=>whnf
    refine nlA rfl ?_;conv=>whnf
    refine bKo rfl ?_;conv=>whnf
    refine nlA rfl ?_;conv=>whnf
    refine nlA rfl ?_;conv=>whnf
    refine bKo rfl ?_;conv=>whnf
    refine gKo rfl ?_;conv=>whnf
    refine nlA rfl ?_;conv=>whnf
    refine bKo rfl ?_;conv=>whnf
    refine gKo rfl ?_;conv=>whnf
    refine xT h (.inl ⟨rfl,rfl⟩) (.inr ⟨_,rfl⟩) (fun h=>?_);conv=>whnf
    replace h:=bE h
    refine wS h16 h (WkL.refl _) (fun _ h=>?_);conv=>whnf
    refine nlA rfl ?_;conv=>whnf
    refine bKo rfl ?_;conv=>whnf
    refine gKo rfl ?_;conv=>whnf
    refine hZ (enc:=nI) (d:=default) dCo h rfl rfl rfl ⟨nle rfl,nle rfl,rfl⟩ rfl ⟨⟨rfl,nle rfl⟩,⟨⟨rfl,nle rfl⟩,⟨⟨rfl,nle rfl⟩,⟨⟨rfl,nle rfl⟩,trivial⟩⟩⟩⟩ (fun h=>?_);conv=>whnf
    refine hK _ _ _ ?_
    refine aN ?_
    replace h:=bE h
    refine dS (body:=bR _ _) rfl h [3,5,7,10,15,54,55,56,289,290] [7,10,15] [] (fun kl kh ids b s=>⟨ofL ([(291,eI s)]++kl),ofH ([]++kh),b+64⟩) ?_;(conv=>whnf);refine And.intro ?_ (fun s m h=>dY ?_)
    ·refine aO ?_;conv=>whnf
     exact And.intro rfl (And.intro (aLc wkI (aLc wkI (aLc wkI (aLc (WkR.ptr (fun _=>rfl)) (aLc (WkR.ptr (fun _=>rfl)) (aLc (WkR.ptr (fun _=>rfl)) (aLc (wkr (aX fun _=>(aR _))) (aLc wkI (aLc wkI (aLc (wkr (aX fun _=>(qB _))) (aLc wkI aLn))))))))))) (aLc ⟨some _,rfl,bRc rfl (cKc wkI (cKc wkI (cKc wkI cKn)))⟩ (aLc ⟨some _,rfl,bRc rfl (cKc wkI (cKc wkI (cKc wkI (cKc wkI cKn))))⟩ (aLc ⟨some _,rfl,bRc rfl (cKc wkI (cKc (wkr (lsL fun _=>(aC _))) (cKc (wkr (lsL fun _=>(lsI _ _))) (cKc (wkr (lsL fun _=>(lsI _ _))) (cKc wkI (cKc (wkr (lsL fun _=>(aA _))) cKn))))))⟩ aLn))))
    replace h:=bE h;rw [bR.eq_1] at h
    refine aB dCo rfl fun K hK=>?_;conv=>whnf
    refine hK _ _ _ ?_
    refine aL ?_
    refine aT fun K1 K2 hK1 hK2=>?_;conv=>whnf
    refine cLk h (fun _ h=>?_) (fun _ h=>?_)
    ·refine hK1 ?_
     refine aK ?_
     refine tHn ?_
     refine aL ?_
     refine aN ?_
     refine aB dCo rfl fun K hK=>?_;conv=>whnf
     refine cA h fun _ h=>?_;conv=>whnf
     refine nlA rfl ?_;conv=>whnf
     refine bKo rfl ?_;conv=>whnf
     refine And.intro rfl (And.intro (nle rfl) (And.intro rfl ?_));conv=>whnf
     refine hK _ _ _ ?_
     refine iZ dCo cJ rfl (by kernel_rfl) fun K hK=>?_;conv=>whnf
     refine nlA rfl ?_;conv=>whnf
     refine bKo rfl ?_;conv=>whnf
     refine nlA rfl ?_;conv=>whnf
     refine nlA rfl ?_;conv=>whnf
     refine bKo rfl ?_;conv=>whnf
     refine nlA rfl ?_;conv=>whnf
     replace h:=bE h
     refine mN h26 h (WkL.refl _) (fun _ h=>?_);conv=>whnf
     refine nlA rfl ?_;conv=>whnf
     refine bKo rfl ?_;conv=>whnf
     refine nlA rfl ?_;conv=>whnf
     refine nlA rfl ?_;conv=>whnf
     refine bKo rfl ?_;conv=>whnf
     refine nlA rfl ?_;conv=>whnf
     replace h:=bE h
     refine vX h12 h (WkL.refl _) (fun _ h=>?_);conv=>whnf
     refine sT (qJ dCo rfl _ _) ?_;conv=>whnf
     refine hK _ _ _ ?_
     refine aT fun K1 K2 hK1 hK2=>?_;conv=>whnf
     refine cLk h (fun _ h=>?_) (fun _ h=>?_)
     ·refine hK1 ?_
      refine aB dCo rfl fun K hK=>?_;conv=>whnf
      refine hK _ _ _ ?_
      refine aJ ?_
      refine aP ?_
      refine aM ?_
      refine aM ?_
      refine aP ?_
      refine aP ?_
      refine aM ?_
      refine aM ?_
      refine aP ?_
      refine aM ?_
      replace h:=iG h
      replace h:=iF h
      replace h:=iG h
      replace h:=iF h
      replace h:=aI h
      refine aE dCo fun K hK=>?_;conv=>whnf
      refine hK _ ?_
      cases h
      exact Wk.refl _
     refine hK2 ?_
     refine aK ?_
     refine iBn ?_
     refine tHn ?_
     refine cK dCo rfl fun K hK=>?_;conv=>whnf
     refine hK _ _ _ ?_
     refine tHn ?_
     replace h:=bY h
     refine ⟨_,h,?_⟩
     refine aO ?_;conv=>whnf
     exact And.intro rfl (And.intro (aLc wkI (aLc wkI (aLc wkI (aLc (WkR.ptr (fun _=>rfl)) (aLc (WkR.ptr (fun _=>rfl)) (aLc (WkR.ptr (fun _=>rfl)) (aLc (wkr (aX fun _=>(aR _))) (aLc wkI (aLc wkI (aLc (wkr (aX fun _=>(qB _))) (aLc wkI aLn))))))))))) (aLc ⟨some _,rfl,bRc rfl (cKc wkI (cKc wkI (cKc wkI cKn)))⟩ (aLc ⟨some _,rfl,bRc rfl (cKc wkI (cKc wkI (cKc wkI (cKc wkI cKn))))⟩ (aLc ⟨some _,rfl,bRc rfl (cKc wkI (cKc (wkr (lsL fun _=>(aC _))) (cKc (wkr (lsL fun _=>(lsI _ _))) (cKc (wkr (lsL fun _=>(lsI _ _))) (cKc wkI (cKc (wkr (lsL fun _=>(aA _))) cKn))))))⟩ aLn))))
    refine hK2 ?_
    refine bN ?_
    refine aW ?_
    refine aW ?_
    refine aV ?_
    replace h:=eA h
    replace h:=dZ h
    refine iBn ?_
    refine tHn ?_
    refine cK dCo rfl fun K hK=>?_;conv=>whnf
    refine hK _ _ _ ?_
    refine tHn ?_
    replace h:=bY h
    refine ⟨_,h,?_⟩
    refine aO ?_;conv=>whnf
    exact And.intro rfl (And.intro (aLc wkI (aLc wkI (aLc wkI (aLc (WkR.ptr (fun _=>rfl)) (aLc (WkR.ptr (fun _=>rfl)) (aLc (wkr (aX fun _=>(aR _))) (aLc wkI aLn))))))) (aLc ⟨some _,rfl,bRc rfl (cKc wkI (cKc wkI (cKc wkI cKn)))⟩ (aLc ⟨some _,rfl,bRc rfl (cKc wkI (cKc wkI (cKc wkI (cKc wkI cKn))))⟩ aLn)))
   refine cK dCo rfl fun K hK=>?_;conv=>whnf
   refine nlA rfl ?_;conv=>whnf
   refine bKo rfl ?_;conv=>whnf
   refine nlA rfl ?_;conv=>whnf
   replace h:=bE h
   refine sJ h9 h (WkL.refl _) (fun _ h=>?_);conv=>whnf
   refine cLk h (fun _ h=>?_) (fun _ h=>?_)<;>(conv=>whnf)
   ·refine sT (qJ dCo rfl _ _) ?_;conv=>whnf
    refine cLk h (fun _ h=>?_) (fun _ h=>?_)<;>(conv=>whnf)
    ·refine hK _ _ _ ?_
     refine tHn ?_
     refine ⟨_,h,?_⟩
     refine aO ?_;conv=>whnf
     exact And.intro rfl (And.intro (aLc (wkr (lsB _)) (aLc wkI (aLc wkI (aLc (WkR.ptr (fun _=>rfl)) (aLc (WkR.ptr (fun _=>rfl)) (aLc (WkR.ptr (fun _=>rfl)) (aLc (WkR.ptr (fun _=>rfl)) (aLc wkI (aLc (WkR.ptr (fun _=>rfl)) (aLc (wkr (aX fun _=>(aR _))) (aLc wkI (aLc wkI aLn)))))))))))) (aLc ⟨some _,rfl,bRc rfl (cKc wkI (cKc wkI (cKc wkI cKn)))⟩ (aLc ⟨some _,rfl,bRc rfl (cKc wkI (cKc wkI (cKc wkI (cKc wkI cKn))))⟩ (aLc ⟨some _,rfl,bRc rfl (cKc wkI (cKc (wkr (lsL fun _=>(aC _))) (cKc (wkr (lsL fun _=>(lsI _ _))) (cKc (wkr (lsL fun _=>(lsI _ _))) (cKc wkI (cKc (wkr (lsL fun _=>(aA _))) cKn))))))⟩ (aLc ⟨some _,rfl,bRc rfl (cKc wkI (cKc (wkr (lsL fun _=>(aQ _))) cKn))⟩ (aLc ⟨some _,rfl,bRc rfl (cKc wkI (cKc wkI (cKc wkI (cKc wkI cKn))))⟩ aLn))))))
    refine cLk h (fun _ h=>?_) (fun _ h=>?_)<;>(conv=>whnf)
    ·refine nlA rfl ?_;conv=>whnf
     refine bKo rfl ?_;conv=>whnf
     refine nlA rfl ?_;conv=>whnf
     refine nlA rfl ?_;conv=>whnf
     refine bKo rfl ?_;conv=>whnf
     refine nlA rfl ?_;conv=>whnf
     replace h:=bE h
     refine gD h14 h (WkL.refl _) (fun _ h=>?_);conv=>whnf
     refine cLk h (fun _ h=>?_) (fun _ h=>?_)<;>(conv=>whnf)
     ·refine hK _ _ _ ?_
      refine tHn ?_
      refine ⟨_,h,?_⟩
      refine aO ?_;conv=>whnf
      exact And.intro rfl (And.intro (aLc (wkr (lsB _)) (aLc wkI (aLc wkI (aLc (WkR.ptr (fun _=>rfl)) (aLc (WkR.ptr (fun _=>rfl)) (aLc (WkR.ptr (fun _=>rfl)) (aLc (WkR.ptr (fun _=>rfl)) (aLc wkI (aLc (WkR.ptr (fun _=>rfl)) (aLc (wkr (aX fun _=>(aR _))) (aLc wkI (aLc wkI aLn)))))))))))) (aLc ⟨some _,rfl,bRc rfl (cKc wkI (cKc wkI (cKc wkI cKn)))⟩ (aLc ⟨some _,rfl,bRc rfl (cKc wkI (cKc wkI (cKc wkI (cKc wkI cKn))))⟩ (aLc ⟨some _,rfl,bRc rfl (cKc wkI (cKc (wkr (lsL fun _=>(aC _))) (cKc (wkr (lsL fun _=>(lsI _ _))) (cKc (wkr (lsL fun _=>(lsI _ _))) (cKc wkI (cKc (wkr (lsL fun _=>(aA _))) cKn))))))⟩ (aLc ⟨some _,rfl,bRc rfl (cKc wkI (cKc (wkr (lsL fun _=>(aQ _))) cKn))⟩ (aLc ⟨some _,rfl,bRc rfl (cKc wkI (cKc wkI (cKc wkI (cKc wkI cKn))))⟩ aLn))))))
     refine cLk h (fun _ h=>?_) (fun _ h=>?_)<;>(conv=>whnf)
     ·refine nlA rfl ?_;conv=>whnf
      refine bKo rfl ?_;conv=>whnf
      refine gKo rfl ?_;conv=>whnf
      refine cLk h (fun _ h=>?_) (fun _ h=>?_)<;>(conv=>whnf)
      ·refine hK _ _ _ ?_
       refine tHn ?_
       refine ⟨_,h,?_⟩
       refine aO ?_;conv=>whnf
       exact And.intro rfl (And.intro (aLc (wkr (lsB _)) (aLc wkI (aLc wkI (aLc (WkR.ptr (fun _=>rfl)) (aLc (WkR.ptr (fun _=>rfl)) (aLc (WkR.ptr (fun _=>rfl)) (aLc (WkR.ptr (fun _=>rfl)) (aLc wkI (aLc (WkR.ptr (fun _=>rfl)) (aLc (wkr (aX fun _=>(aR _))) (aLc wkI (aLc wkI aLn)))))))))))) (aLc ⟨some _,rfl,bRc rfl (cKc wkI (cKc wkI (cKc wkI cKn)))⟩ (aLc ⟨some _,rfl,bRc rfl (cKc wkI (cKc wkI (cKc wkI (cKc wkI cKn))))⟩ (aLc ⟨some _,rfl,bRc rfl (cKc wkI (cKc (wkr (lsL fun _=>(aC _))) (cKc (wkr (lsL fun _=>(lsI _ _))) (cKc (wkr (lsL fun _=>(lsI _ _))) (cKc wkI (cKc (wkr (lsL fun _=>(aA _))) cKn))))))⟩ (aLc ⟨some _,rfl,bRc rfl (cKc wkI (cKc (wkr (lsL fun _=>(aQ _))) cKn))⟩ (aLc ⟨some _,rfl,bRc rfl (cKc wkI (cKc wkI (cKc wkI (cKc wkI cKn))))⟩ aLn))))))
      refine cLk h (fun _ h=>?_) (fun _ h=>?_)<;>(conv=>whnf)
      ·refine nlA rfl ?_;conv=>whnf
       refine bKo rfl ?_;conv=>whnf
       refine nlA rfl ?_;conv=>whnf
       refine sT (aAj _ _ _ _ _ _ _ _) ?_;conv=>whnf
       refine hK _ _ _ ?_
       refine tHn ?_
       refine ⟨_,h,?_⟩
       refine aO ?_;conv=>whnf
       exact And.intro rfl (And.intro (aLc (wkr (lsB _)) (aLc wkI (aLc wkI (aLc (WkR.ptr (fun _=>rfl)) (aLc (WkR.ptr (fun _=>rfl)) (aLc (WkR.ptr (fun _=>rfl)) (aLc (WkR.ptr (fun _=>rfl)) (aLc wkI (aLc (WkR.ptr (fun _=>rfl)) (aLc (wkr (aX fun _=>(aR _))) (aLc wkI (aLc wkI aLn)))))))))))) (aLc ⟨some _,rfl,bRc rfl (cKc wkI (cKc wkI (cKc wkI cKn)))⟩ (aLc ⟨some _,rfl,bRc rfl (cKc wkI (cKc wkI (cKc wkI (cKc wkI cKn))))⟩ (aLc ⟨some _,rfl,bRc rfl (cKc wkI (cKc (wkr (lsL fun _=>(aC _))) (cKc (wkr (lsL fun _=>(lsI _ _))) (cKc (wkr (lsL fun _=>(lsI _ _))) (cKc wkI (cKc (wkr (lsL fun _=>(aA _))) cKn))))))⟩ (aLc ⟨some _,rfl,bRc rfl (cKc wkI (cKc (wkr (lsL fun _=>(aQ _))) cKn))⟩ (aLc ⟨some _,rfl,bRc rfl (cKc wkI (cKc wkI (cKc wkI (cKc wkI cKn))))⟩ aLn))))))
      refine hK _ _ _ ?_
      refine tHn ?_
      refine ⟨_,h,?_⟩
      refine aO ?_;conv=>whnf
      exact And.intro rfl (And.intro (aLc (wkr (lsB _)) (aLc wkI (aLc wkI (aLc (WkR.ptr (fun _=>rfl)) (aLc (WkR.ptr (fun _=>rfl)) (aLc (WkR.ptr (fun _=>rfl)) (aLc (WkR.ptr (fun _=>rfl)) (aLc wkI (aLc (WkR.ptr (fun _=>rfl)) (aLc (wkr (aX fun _=>(aR _))) (aLc wkI (aLc wkI aLn)))))))))))) (aLc ⟨some _,rfl,bRc rfl (cKc wkI (cKc wkI (cKc wkI cKn)))⟩ (aLc ⟨some _,rfl,bRc rfl (cKc wkI (cKc wkI (cKc wkI (cKc wkI cKn))))⟩ (aLc ⟨some _,rfl,bRc rfl (cKc wkI (cKc (wkr (lsL fun _=>(aC _))) (cKc (wkr (lsL fun _=>(lsI _ _))) (cKc (wkr (lsL fun _=>(lsI _ _))) (cKc wkI (cKc (wkr (lsL fun _=>(aA _))) cKn))))))⟩ (aLc ⟨some _,rfl,bRc rfl (cKc wkI (cKc (wkr (lsL fun _=>(aQ _))) cKn))⟩ (aLc ⟨some _,rfl,bRc rfl (cKc wkI (cKc wkI (cKc wkI (cKc wkI cKn))))⟩ aLn))))))
     refine cLk h (fun _ h=>?_) (fun _ h=>?_)<;>(conv=>whnf)
     ·refine nlA rfl ?_;conv=>whnf
      refine bKo rfl ?_;conv=>whnf
      refine nlA rfl ?_;conv=>whnf
      refine sT (aAj _ _ _ _ _ _ _ _) ?_;conv=>whnf
      refine hK _ _ _ ?_
      refine tHn ?_
      refine ⟨_,h,?_⟩
      refine aO ?_;conv=>whnf
      exact And.intro rfl (And.intro (aLc (wkr (lsB _)) (aLc wkI (aLc wkI (aLc (WkR.ptr (fun _=>rfl)) (aLc (WkR.ptr (fun _=>rfl)) (aLc (WkR.ptr (fun _=>rfl)) (aLc (WkR.ptr (fun _=>rfl)) (aLc wkI (aLc (WkR.ptr (fun _=>rfl)) (aLc (wkr (aX fun _=>(aR _))) (aLc wkI (aLc wkI aLn)))))))))))) (aLc ⟨some _,rfl,bRc rfl (cKc wkI (cKc wkI (cKc wkI cKn)))⟩ (aLc ⟨some _,rfl,bRc rfl (cKc wkI (cKc wkI (cKc wkI (cKc wkI cKn))))⟩ (aLc ⟨some _,rfl,bRc rfl (cKc wkI (cKc (wkr (lsL fun _=>(aC _))) (cKc (wkr (lsL fun _=>(lsI _ _))) (cKc (wkr (lsL fun _=>(lsI _ _))) (cKc wkI (cKc (wkr (lsL fun _=>(aA _))) cKn))))))⟩ (aLc ⟨some _,rfl,bRc rfl (cKc wkI (cKc (wkr (lsL fun _=>(aQ _))) cKn))⟩ (aLc ⟨some _,rfl,bRc rfl (cKc wkI (cKc wkI (cKc wkI (cKc wkI cKn))))⟩ aLn))))))
     refine hK _ _ _ ?_
     refine tHn ?_
     refine ⟨_,h,?_⟩
     refine aO ?_;conv=>whnf
     exact And.intro rfl (And.intro (aLc (wkr (lsB _)) (aLc wkI (aLc wkI (aLc (WkR.ptr (fun _=>rfl)) (aLc (WkR.ptr (fun _=>rfl)) (aLc (WkR.ptr (fun _=>rfl)) (aLc (WkR.ptr (fun _=>rfl)) (aLc wkI (aLc (WkR.ptr (fun _=>rfl)) (aLc (wkr (aX fun _=>(aR _))) (aLc wkI (aLc wkI aLn)))))))))))) (aLc ⟨some _,rfl,bRc rfl (cKc wkI (cKc wkI (cKc wkI cKn)))⟩ (aLc ⟨some _,rfl,bRc rfl (cKc wkI (cKc wkI (cKc wkI (cKc wkI cKn))))⟩ (aLc ⟨some _,rfl,bRc rfl (cKc wkI (cKc (wkr (lsL fun _=>(aC _))) (cKc (wkr (lsL fun _=>(lsI _ _))) (cKc (wkr (lsL fun _=>(lsI _ _))) (cKc wkI (cKc (wkr (lsL fun _=>(aA _))) cKn))))))⟩ (aLc ⟨some _,rfl,bRc rfl (cKc wkI (cKc (wkr (lsL fun _=>(aQ _))) cKn))⟩ (aLc ⟨some _,rfl,bRc rfl (cKc wkI (cKc wkI (cKc wkI (cKc wkI cKn))))⟩ aLn))))))
    refine cLk h (fun _ h=>?_) (fun _ h=>?_)<;>(conv=>whnf)
    ·refine nlA rfl ?_;conv=>whnf
     refine bKo rfl ?_;conv=>whnf
     refine gKo rfl ?_;conv=>whnf
     refine cLk h (fun _ h=>?_) (fun _ h=>?_)<;>(conv=>whnf)
     ·refine hK _ _ _ ?_
      refine tHn ?_
      refine ⟨_,h,?_⟩
      refine aO ?_;conv=>whnf
      exact And.intro rfl (And.intro (aLc (wkr (lsB _)) (aLc wkI (aLc wkI (aLc (WkR.ptr (fun _=>rfl)) (aLc (WkR.ptr (fun _=>rfl)) (aLc (WkR.ptr (fun _=>rfl)) (aLc (WkR.ptr (fun _=>rfl)) (aLc wkI (aLc (WkR.ptr (fun _=>rfl)) (aLc (wkr (aX fun _=>(aR _))) (aLc wkI (aLc wkI aLn)))))))))))) (aLc ⟨some _,rfl,bRc rfl (cKc wkI (cKc wkI (cKc wkI cKn)))⟩ (aLc ⟨some _,rfl,bRc rfl (cKc wkI (cKc wkI (cKc wkI (cKc wkI cKn))))⟩ (aLc ⟨some _,rfl,bRc rfl (cKc wkI (cKc (wkr (lsL fun _=>(aC _))) (cKc (wkr (lsL fun _=>(lsI _ _))) (cKc (wkr (lsL fun _=>(lsI _ _))) (cKc wkI (cKc (wkr (lsL fun _=>(aA _))) cKn))))))⟩ (aLc ⟨some _,rfl,bRc rfl (cKc wkI (cKc (wkr (lsL fun _=>(aQ _))) cKn))⟩ (aLc ⟨some _,rfl,bRc rfl (cKc wkI (cKc wkI (cKc wkI (cKc wkI cKn))))⟩ aLn))))))
     refine cLk h (fun _ h=>?_) (fun _ h=>?_)<;>(conv=>whnf)
     ·refine nlA rfl ?_;conv=>whnf
      refine bKo rfl ?_;conv=>whnf
      refine nlA rfl ?_;conv=>whnf
      refine sT (aAj _ _ _ _ _ _ _ _) ?_;conv=>whnf
      refine hK _ _ _ ?_
      refine tHn ?_
      refine ⟨_,h,?_⟩
      refine aO ?_;conv=>whnf
      exact And.intro rfl (And.intro (aLc (wkr (lsB _)) (aLc wkI (aLc wkI (aLc (WkR.ptr (fun _=>rfl)) (aLc (WkR.ptr (fun _=>rfl)) (aLc (WkR.ptr (fun _=>rfl)) (aLc (WkR.ptr (fun _=>rfl)) (aLc wkI (aLc (WkR.ptr (fun _=>rfl)) (aLc (wkr (aX fun _=>(aR _))) (aLc wkI (aLc wkI aLn)))))))))))) (aLc ⟨some _,rfl,bRc rfl (cKc wkI (cKc wkI (cKc wkI cKn)))⟩ (aLc ⟨some _,rfl,bRc rfl (cKc wkI (cKc wkI (cKc wkI (cKc wkI cKn))))⟩ (aLc ⟨some _,rfl,bRc rfl (cKc wkI (cKc (wkr (lsL fun _=>(aC _))) (cKc (wkr (lsL fun _=>(lsI _ _))) (cKc (wkr (lsL fun _=>(lsI _ _))) (cKc wkI (cKc (wkr (lsL fun _=>(aA _))) cKn))))))⟩ (aLc ⟨some _,rfl,bRc rfl (cKc wkI (cKc (wkr (lsL fun _=>(aQ _))) cKn))⟩ (aLc ⟨some _,rfl,bRc rfl (cKc wkI (cKc wkI (cKc wkI (cKc wkI cKn))))⟩ aLn))))))
     refine hK _ _ _ ?_
     refine tHn ?_
     refine ⟨_,h,?_⟩
     refine aO ?_;conv=>whnf
     exact And.intro rfl (And.intro (aLc (wkr (lsB _)) (aLc wkI (aLc wkI (aLc (WkR.ptr (fun _=>rfl)) (aLc (WkR.ptr (fun _=>rfl)) (aLc (WkR.ptr (fun _=>rfl)) (aLc (WkR.ptr (fun _=>rfl)) (aLc wkI (aLc (WkR.ptr (fun _=>rfl)) (aLc (wkr (aX fun _=>(aR _))) (aLc wkI (aLc wkI aLn)))))))))))) (aLc ⟨some _,rfl,bRc rfl (cKc wkI (cKc wkI (cKc wkI cKn)))⟩ (aLc ⟨some _,rfl,bRc rfl (cKc wkI (cKc wkI (cKc wkI (cKc wkI cKn))))⟩ (aLc ⟨some _,rfl,bRc rfl (cKc wkI (cKc (wkr (lsL fun _=>(aC _))) (cKc (wkr (lsL fun _=>(lsI _ _))) (cKc (wkr (lsL fun _=>(lsI _ _))) (cKc wkI (cKc (wkr (lsL fun _=>(aA _))) cKn))))))⟩ (aLc ⟨some _,rfl,bRc rfl (cKc wkI (cKc (wkr (lsL fun _=>(aQ _))) cKn))⟩ (aLc ⟨some _,rfl,bRc rfl (cKc wkI (cKc wkI (cKc wkI (cKc wkI cKn))))⟩ aLn))))))
    refine cLk h (fun _ h=>?_) (fun _ h=>?_)<;>(conv=>whnf)
    ·refine nlA rfl ?_;conv=>whnf
     refine bKo rfl ?_;conv=>whnf
     refine nlA rfl ?_;conv=>whnf
     refine sT (aAj _ _ _ _ _ _ _ _) ?_;conv=>whnf
     refine hK _ _ _ ?_
     refine tHn ?_
     refine ⟨_,h,?_⟩
     refine aO ?_;conv=>whnf
     exact And.intro rfl (And.intro (aLc (wkr (lsB _)) (aLc wkI (aLc wkI (aLc (WkR.ptr (fun _=>rfl)) (aLc (WkR.ptr (fun _=>rfl)) (aLc (WkR.ptr (fun _=>rfl)) (aLc (WkR.ptr (fun _=>rfl)) (aLc wkI (aLc (WkR.ptr (fun _=>rfl)) (aLc (wkr (aX fun _=>(aR _))) (aLc wkI (aLc wkI aLn)))))))))))) (aLc ⟨some _,rfl,bRc rfl (cKc wkI (cKc wkI (cKc wkI cKn)))⟩ (aLc ⟨some _,rfl,bRc rfl (cKc wkI (cKc wkI (cKc wkI (cKc wkI cKn))))⟩ (aLc ⟨some _,rfl,bRc rfl (cKc wkI (cKc (wkr (lsL fun _=>(aC _))) (cKc (wkr (lsL fun _=>(lsI _ _))) (cKc (wkr (lsL fun _=>(lsI _ _))) (cKc wkI (cKc (wkr (lsL fun _=>(aA _))) cKn))))))⟩ (aLc ⟨some _,rfl,bRc rfl (cKc wkI (cKc (wkr (lsL fun _=>(aQ _))) cKn))⟩ (aLc ⟨some _,rfl,bRc rfl (cKc wkI (cKc wkI (cKc wkI (cKc wkI cKn))))⟩ aLn))))))
    refine hK _ _ _ ?_
    refine tHn ?_
    refine ⟨_,h,?_⟩
    refine aO ?_;conv=>whnf
    exact And.intro rfl (And.intro (aLc (wkr (lsB _)) (aLc wkI (aLc wkI (aLc (WkR.ptr (fun _=>rfl)) (aLc (WkR.ptr (fun _=>rfl)) (aLc (WkR.ptr (fun _=>rfl)) (aLc (WkR.ptr (fun _=>rfl)) (aLc wkI (aLc (WkR.ptr (fun _=>rfl)) (aLc (wkr (aX fun _=>(aR _))) (aLc wkI (aLc wkI aLn)))))))))))) (aLc ⟨some _,rfl,bRc rfl (cKc wkI (cKc wkI (cKc wkI cKn)))⟩ (aLc ⟨some _,rfl,bRc rfl (cKc wkI (cKc wkI (cKc wkI (cKc wkI cKn))))⟩ (aLc ⟨some _,rfl,bRc rfl (cKc wkI (cKc (wkr (lsL fun _=>(aC _))) (cKc (wkr (lsL fun _=>(lsI _ _))) (cKc (wkr (lsL fun _=>(lsI _ _))) (cKc wkI (cKc (wkr (lsL fun _=>(aA _))) cKn))))))⟩ (aLc ⟨some _,rfl,bRc rfl (cKc wkI (cKc (wkr (lsL fun _=>(aQ _))) cKn))⟩ (aLc ⟨some _,rfl,bRc rfl (cKc wkI (cKc wkI (cKc wkI (cKc wkI cKn))))⟩ aLn))))))
   refine sT (qJ dCo rfl _ _) ?_;conv=>whnf
   refine cLk h (fun _ h=>?_) (fun _ h=>?_)<;>(conv=>whnf)
   ·refine hK _ _ _ ?_
    refine tHn ?_
    refine ⟨_,h,?_⟩
    refine aO ?_;conv=>whnf
    exact And.intro rfl (And.intro (aLc (wkr (lsB _)) (aLc wkI (aLc wkI (aLc (WkR.ptr (fun _=>rfl)) (aLc (WkR.ptr (fun _=>rfl)) (aLc (WkR.ptr (fun _=>rfl)) (aLc (WkR.ptr (fun _=>rfl)) (aLc wkI (aLc (WkR.ptr (fun _=>rfl)) (aLc (wkr (aX fun _=>(aR _))) (aLc wkI (aLc wkI aLn)))))))))))) (aLc ⟨some _,rfl,bRc rfl (cKc wkI (cKc wkI (cKc wkI cKn)))⟩ (aLc ⟨some _,rfl,bRc rfl (cKc wkI (cKc wkI (cKc wkI (cKc wkI cKn))))⟩ (aLc ⟨some _,rfl,bRc rfl (cKc wkI (cKc (wkr (lsL fun _=>(aC _))) (cKc (wkr (lsL fun _=>(lsI _ _))) (cKc (wkr (lsL fun _=>(lsI _ _))) (cKc wkI (cKc (wkr (lsL fun _=>(aA _))) cKn))))))⟩ (aLc ⟨some _,rfl,bRc rfl (cKc wkI (cKc (wkr (lsL fun _=>(aQ _))) cKn))⟩ (aLc ⟨some _,rfl,bRc rfl (cKc wkI (cKc wkI (cKc wkI (cKc wkI cKn))))⟩ aLn))))))
   refine cLk h (fun _ h=>?_) (fun _ h=>?_)<;>(conv=>whnf)
   ·refine nlA rfl ?_;conv=>whnf
    refine bKo rfl ?_;conv=>whnf
    refine nlA rfl ?_;conv=>whnf
    refine nlA rfl ?_;conv=>whnf
    refine bKo rfl ?_;conv=>whnf
    refine nlA rfl ?_;conv=>whnf
    replace h:=bE h
    refine gD h14 h (WkL.refl _) (fun _ h=>?_);conv=>whnf
    refine cLk h (fun _ h=>?_) (fun _ h=>?_)<;>(conv=>whnf)
    ·refine hK _ _ _ ?_
     refine tHn ?_
     refine ⟨_,h,?_⟩
     refine aO ?_;conv=>whnf
     exact And.intro rfl (And.intro (aLc (wkr (lsB _)) (aLc wkI (aLc wkI (aLc (WkR.ptr (fun _=>rfl)) (aLc (WkR.ptr (fun _=>rfl)) (aLc (WkR.ptr (fun _=>rfl)) (aLc (WkR.ptr (fun _=>rfl)) (aLc wkI (aLc (WkR.ptr (fun _=>rfl)) (aLc (wkr (aX fun _=>(aR _))) (aLc wkI (aLc wkI aLn)))))))))))) (aLc ⟨some _,rfl,bRc rfl (cKc wkI (cKc wkI (cKc wkI cKn)))⟩ (aLc ⟨some _,rfl,bRc rfl (cKc wkI (cKc wkI (cKc wkI (cKc wkI cKn))))⟩ (aLc ⟨some _,rfl,bRc rfl (cKc wkI (cKc (wkr (lsL fun _=>(aC _))) (cKc (wkr (lsL fun _=>(lsI _ _))) (cKc (wkr (lsL fun _=>(lsI _ _))) (cKc wkI (cKc (wkr (lsL fun _=>(aA _))) cKn))))))⟩ (aLc ⟨some _,rfl,bRc rfl (cKc wkI (cKc (wkr (lsL fun _=>(aQ _))) cKn))⟩ (aLc ⟨some _,rfl,bRc rfl (cKc wkI (cKc wkI (cKc wkI (cKc wkI cKn))))⟩ aLn))))))
    refine cLk h (fun _ h=>?_) (fun _ h=>?_)<;>(conv=>whnf)
    ·refine nlA rfl ?_;conv=>whnf
     refine bKo rfl ?_;conv=>whnf
     refine gKo rfl ?_;conv=>whnf
     refine cLk h (fun _ h=>?_) (fun _ h=>?_)<;>(conv=>whnf)
     ·refine hK _ _ _ ?_
      refine tHn ?_
      refine ⟨_,h,?_⟩
      refine aO ?_;conv=>whnf
      exact And.intro rfl (And.intro (aLc (wkr (lsB _)) (aLc wkI (aLc wkI (aLc (WkR.ptr (fun _=>rfl)) (aLc (WkR.ptr (fun _=>rfl)) (aLc (WkR.ptr (fun _=>rfl)) (aLc (WkR.ptr (fun _=>rfl)) (aLc wkI (aLc (WkR.ptr (fun _=>rfl)) (aLc (wkr (aX fun _=>(aR _))) (aLc wkI (aLc wkI aLn)))))))))))) (aLc ⟨some _,rfl,bRc rfl (cKc wkI (cKc wkI (cKc wkI cKn)))⟩ (aLc ⟨some _,rfl,bRc rfl (cKc wkI (cKc wkI (cKc wkI (cKc wkI cKn))))⟩ (aLc ⟨some _,rfl,bRc rfl (cKc wkI (cKc (wkr (lsL fun _=>(aC _))) (cKc (wkr (lsL fun _=>(lsI _ _))) (cKc (wkr (lsL fun _=>(lsI _ _))) (cKc wkI (cKc (wkr (lsL fun _=>(aA _))) cKn))))))⟩ (aLc ⟨some _,rfl,bRc rfl (cKc wkI (cKc (wkr (lsL fun _=>(aQ _))) cKn))⟩ (aLc ⟨some _,rfl,bRc rfl (cKc wkI (cKc wkI (cKc wkI (cKc wkI cKn))))⟩ aLn))))))
     refine cLk h (fun _ h=>?_) (fun _ h=>?_)<;>(conv=>whnf)
     ·refine nlA rfl ?_;conv=>whnf
      refine bKo rfl ?_;conv=>whnf
      refine nlA rfl ?_;conv=>whnf
      refine sT (aAj _ _ _ _ _ _ _ _) ?_;conv=>whnf
      refine hK _ _ _ ?_
      refine tHn ?_
      refine ⟨_,h,?_⟩
      refine aO ?_;conv=>whnf
      exact And.intro rfl (And.intro (aLc (wkr (lsB _)) (aLc wkI (aLc wkI (aLc (WkR.ptr (fun _=>rfl)) (aLc (WkR.ptr (fun _=>rfl)) (aLc (WkR.ptr (fun _=>rfl)) (aLc (WkR.ptr (fun _=>rfl)) (aLc wkI (aLc (WkR.ptr (fun _=>rfl)) (aLc (wkr (aX fun _=>(aR _))) (aLc wkI (aLc wkI aLn)))))))))))) (aLc ⟨some _,rfl,bRc rfl (cKc wkI (cKc wkI (cKc wkI cKn)))⟩ (aLc ⟨some _,rfl,bRc rfl (cKc wkI (cKc wkI (cKc wkI (cKc wkI cKn))))⟩ (aLc ⟨some _,rfl,bRc rfl (cKc wkI (cKc (wkr (lsL fun _=>(aC _))) (cKc (wkr (lsL fun _=>(lsI _ _))) (cKc (wkr (lsL fun _=>(lsI _ _))) (cKc wkI (cKc (wkr (lsL fun _=>(aA _))) cKn))))))⟩ (aLc ⟨some _,rfl,bRc rfl (cKc wkI (cKc (wkr (lsL fun _=>(aQ _))) cKn))⟩ (aLc ⟨some _,rfl,bRc rfl (cKc wkI (cKc wkI (cKc wkI (cKc wkI cKn))))⟩ aLn))))))
     refine hK _ _ _ ?_
     refine tHn ?_
     refine ⟨_,h,?_⟩
     refine aO ?_;conv=>whnf
     exact And.intro rfl (And.intro (aLc (wkr (lsB _)) (aLc wkI (aLc wkI (aLc (WkR.ptr (fun _=>rfl)) (aLc (WkR.ptr (fun _=>rfl)) (aLc (WkR.ptr (fun _=>rfl)) (aLc (WkR.ptr (fun _=>rfl)) (aLc wkI (aLc (WkR.ptr (fun _=>rfl)) (aLc (wkr (aX fun _=>(aR _))) (aLc wkI (aLc wkI aLn)))))))))))) (aLc ⟨some _,rfl,bRc rfl (cKc wkI (cKc wkI (cKc wkI cKn)))⟩ (aLc ⟨some _,rfl,bRc rfl (cKc wkI (cKc wkI (cKc wkI (cKc wkI cKn))))⟩ (aLc ⟨some _,rfl,bRc rfl (cKc wkI (cKc (wkr (lsL fun _=>(aC _))) (cKc (wkr (lsL fun _=>(lsI _ _))) (cKc (wkr (lsL fun _=>(lsI _ _))) (cKc wkI (cKc (wkr (lsL fun _=>(aA _))) cKn))))))⟩ (aLc ⟨some _,rfl,bRc rfl (cKc wkI (cKc (wkr (lsL fun _=>(aQ _))) cKn))⟩ (aLc ⟨some _,rfl,bRc rfl (cKc wkI (cKc wkI (cKc wkI (cKc wkI cKn))))⟩ aLn))))))
    refine cLk h (fun _ h=>?_) (fun _ h=>?_)<;>(conv=>whnf)
    ·refine nlA rfl ?_;conv=>whnf
     refine bKo rfl ?_;conv=>whnf
     refine nlA rfl ?_;conv=>whnf
     refine sT (aAj _ _ _ _ _ _ _ _) ?_;conv=>whnf
     refine hK _ _ _ ?_
     refine tHn ?_
     refine ⟨_,h,?_⟩
     refine aO ?_;conv=>whnf
     exact And.intro rfl (And.intro (aLc (wkr (lsB _)) (aLc wkI (aLc wkI (aLc (WkR.ptr (fun _=>rfl)) (aLc (WkR.ptr (fun _=>rfl)) (aLc (WkR.ptr (fun _=>rfl)) (aLc (WkR.ptr (fun _=>rfl)) (aLc wkI (aLc (WkR.ptr (fun _=>rfl)) (aLc (wkr (aX fun _=>(aR _))) (aLc wkI (aLc wkI aLn)))))))))))) (aLc ⟨some _,rfl,bRc rfl (cKc wkI (cKc wkI (cKc wkI cKn)))⟩ (aLc ⟨some _,rfl,bRc rfl (cKc wkI (cKc wkI (cKc wkI (cKc wkI cKn))))⟩ (aLc ⟨some _,rfl,bRc rfl (cKc wkI (cKc (wkr (lsL fun _=>(aC _))) (cKc (wkr (lsL fun _=>(lsI _ _))) (cKc (wkr (lsL fun _=>(lsI _ _))) (cKc wkI (cKc (wkr (lsL fun _=>(aA _))) cKn))))))⟩ (aLc ⟨some _,rfl,bRc rfl (cKc wkI (cKc (wkr (lsL fun _=>(aQ _))) cKn))⟩ (aLc ⟨some _,rfl,bRc rfl (cKc wkI (cKc wkI (cKc wkI (cKc wkI cKn))))⟩ aLn))))))
    refine hK _ _ _ ?_
    refine tHn ?_
    refine ⟨_,h,?_⟩
    refine aO ?_;conv=>whnf
    exact And.intro rfl (And.intro (aLc (wkr (lsB _)) (aLc wkI (aLc wkI (aLc (WkR.ptr (fun _=>rfl)) (aLc (WkR.ptr (fun _=>rfl)) (aLc (WkR.ptr (fun _=>rfl)) (aLc (WkR.ptr (fun _=>rfl)) (aLc wkI (aLc (WkR.ptr (fun _=>rfl)) (aLc (wkr (aX fun _=>(aR _))) (aLc wkI (aLc wkI aLn)))))))))))) (aLc ⟨some _,rfl,bRc rfl (cKc wkI (cKc wkI (cKc wkI cKn)))⟩ (aLc ⟨some _,rfl,bRc rfl (cKc wkI (cKc wkI (cKc wkI (cKc wkI cKn))))⟩ (aLc ⟨some _,rfl,bRc rfl (cKc wkI (cKc (wkr (lsL fun _=>(aC _))) (cKc (wkr (lsL fun _=>(lsI _ _))) (cKc (wkr (lsL fun _=>(lsI _ _))) (cKc wkI (cKc (wkr (lsL fun _=>(aA _))) cKn))))))⟩ (aLc ⟨some _,rfl,bRc rfl (cKc wkI (cKc (wkr (lsL fun _=>(aQ _))) cKn))⟩ (aLc ⟨some _,rfl,bRc rfl (cKc wkI (cKc wkI (cKc wkI (cKc wkI cKn))))⟩ aLn))))))
   refine cLk h (fun _ h=>?_) (fun _ h=>?_)<;>(conv=>whnf)
   ·refine nlA rfl ?_;conv=>whnf
    refine bKo rfl ?_;conv=>whnf
    refine gKo rfl ?_;conv=>whnf
    refine cLk h (fun _ h=>?_) (fun _ h=>?_)<;>(conv=>whnf)
    ·refine hK _ _ _ ?_
     refine tHn ?_
     refine ⟨_,h,?_⟩
     refine aO ?_;conv=>whnf
     exact And.intro rfl (And.intro (aLc (wkr (lsB _)) (aLc wkI (aLc wkI (aLc (WkR.ptr (fun _=>rfl)) (aLc (WkR.ptr (fun _=>rfl)) (aLc (WkR.ptr (fun _=>rfl)) (aLc (WkR.ptr (fun _=>rfl)) (aLc wkI (aLc (WkR.ptr (fun _=>rfl)) (aLc (wkr (aX fun _=>(aR _))) (aLc wkI (aLc wkI aLn)))))))))))) (aLc ⟨some _,rfl,bRc rfl (cKc wkI (cKc wkI (cKc wkI cKn)))⟩ (aLc ⟨some _,rfl,bRc rfl (cKc wkI (cKc wkI (cKc wkI (cKc wkI cKn))))⟩ (aLc ⟨some _,rfl,bRc rfl (cKc wkI (cKc (wkr (lsL fun _=>(aC _))) (cKc (wkr (lsL fun _=>(lsI _ _))) (cKc (wkr (lsL fun _=>(lsI _ _))) (cKc wkI (cKc (wkr (lsL fun _=>(aA _))) cKn))))))⟩ (aLc ⟨some _,rfl,bRc rfl (cKc wkI (cKc (wkr (lsL fun _=>(aQ _))) cKn))⟩ (aLc ⟨some _,rfl,bRc rfl (cKc wkI (cKc wkI (cKc wkI (cKc wkI cKn))))⟩ aLn))))))
    refine cLk h (fun _ h=>?_) (fun _ h=>?_)<;>(conv=>whnf)
    ·refine nlA rfl ?_;conv=>whnf
     refine bKo rfl ?_;conv=>whnf
     refine nlA rfl ?_;conv=>whnf
     refine sT (aAj _ _ _ _ _ _ _ _) ?_;conv=>whnf
     refine hK _ _ _ ?_
     refine tHn ?_
     refine ⟨_,h,?_⟩
     refine aO ?_;conv=>whnf
     exact And.intro rfl (And.intro (aLc (wkr (lsB _)) (aLc wkI (aLc wkI (aLc (WkR.ptr (fun _=>rfl)) (aLc (WkR.ptr (fun _=>rfl)) (aLc (WkR.ptr (fun _=>rfl)) (aLc (WkR.ptr (fun _=>rfl)) (aLc wkI (aLc (WkR.ptr (fun _=>rfl)) (aLc (wkr (aX fun _=>(aR _))) (aLc wkI (aLc wkI aLn)))))))))))) (aLc ⟨some _,rfl,bRc rfl (cKc wkI (cKc wkI (cKc wkI cKn)))⟩ (aLc ⟨some _,rfl,bRc rfl (cKc wkI (cKc wkI (cKc wkI (cKc wkI cKn))))⟩ (aLc ⟨some _,rfl,bRc rfl (cKc wkI (cKc (wkr (lsL fun _=>(aC _))) (cKc (wkr (lsL fun _=>(lsI _ _))) (cKc (wkr (lsL fun _=>(lsI _ _))) (cKc wkI (cKc (wkr (lsL fun _=>(aA _))) cKn))))))⟩ (aLc ⟨some _,rfl,bRc rfl (cKc wkI (cKc (wkr (lsL fun _=>(aQ _))) cKn))⟩ (aLc ⟨some _,rfl,bRc rfl (cKc wkI (cKc wkI (cKc wkI (cKc wkI cKn))))⟩ aLn))))))
    refine hK _ _ _ ?_
    refine tHn ?_
    refine ⟨_,h,?_⟩
    refine aO ?_;conv=>whnf
    exact And.intro rfl (And.intro (aLc (wkr (lsB _)) (aLc wkI (aLc wkI (aLc (WkR.ptr (fun _=>rfl)) (aLc (WkR.ptr (fun _=>rfl)) (aLc (WkR.ptr (fun _=>rfl)) (aLc (WkR.ptr (fun _=>rfl)) (aLc wkI (aLc (WkR.ptr (fun _=>rfl)) (aLc (wkr (aX fun _=>(aR _))) (aLc wkI (aLc wkI aLn)))))))))))) (aLc ⟨some _,rfl,bRc rfl (cKc wkI (cKc wkI (cKc wkI cKn)))⟩ (aLc ⟨some _,rfl,bRc rfl (cKc wkI (cKc wkI (cKc wkI (cKc wkI cKn))))⟩ (aLc ⟨some _,rfl,bRc rfl (cKc wkI (cKc (wkr (lsL fun _=>(aC _))) (cKc (wkr (lsL fun _=>(lsI _ _))) (cKc (wkr (lsL fun _=>(lsI _ _))) (cKc wkI (cKc (wkr (lsL fun _=>(aA _))) cKn))))))⟩ (aLc ⟨some _,rfl,bRc rfl (cKc wkI (cKc (wkr (lsL fun _=>(aQ _))) cKn))⟩ (aLc ⟨some _,rfl,bRc rfl (cKc wkI (cKc wkI (cKc wkI (cKc wkI cKn))))⟩ aLn))))))
   refine cLk h (fun _ h=>?_) (fun _ h=>?_)<;>(conv=>whnf)
   ·refine nlA rfl ?_;conv=>whnf
    refine bKo rfl ?_;conv=>whnf
    refine nlA rfl ?_;conv=>whnf
    refine sT (aAj _ _ _ _ _ _ _ _) ?_;conv=>whnf
    refine hK _ _ _ ?_
    refine tHn ?_
    refine ⟨_,h,?_⟩
    refine aO ?_;conv=>whnf
    exact And.intro rfl (And.intro (aLc (wkr (lsB _)) (aLc wkI (aLc wkI (aLc (WkR.ptr (fun _=>rfl)) (aLc (WkR.ptr (fun _=>rfl)) (aLc (WkR.ptr (fun _=>rfl)) (aLc (WkR.ptr (fun _=>rfl)) (aLc wkI (aLc (WkR.ptr (fun _=>rfl)) (aLc (wkr (aX fun _=>(aR _))) (aLc wkI (aLc wkI aLn)))))))))))) (aLc ⟨some _,rfl,bRc rfl (cKc wkI (cKc wkI (cKc wkI cKn)))⟩ (aLc ⟨some _,rfl,bRc rfl (cKc wkI (cKc wkI (cKc wkI (cKc wkI cKn))))⟩ (aLc ⟨some _,rfl,bRc rfl (cKc wkI (cKc (wkr (lsL fun _=>(aC _))) (cKc (wkr (lsL fun _=>(lsI _ _))) (cKc (wkr (lsL fun _=>(lsI _ _))) (cKc wkI (cKc (wkr (lsL fun _=>(aA _))) cKn))))))⟩ (aLc ⟨some _,rfl,bRc rfl (cKc wkI (cKc (wkr (lsL fun _=>(aQ _))) cKn))⟩ (aLc ⟨some _,rfl,bRc rfl (cKc wkI (cKc wkI (cKc wkI (cKc wkI cKn))))⟩ aLn))))))
   refine hK _ _ _ ?_
   refine tHn ?_
   refine ⟨_,h,?_⟩
   refine aO ?_;conv=>whnf
   exact And.intro rfl (And.intro (aLc (wkr (lsB _)) (aLc wkI (aLc wkI (aLc (WkR.ptr (fun _=>rfl)) (aLc (WkR.ptr (fun _=>rfl)) (aLc (WkR.ptr (fun _=>rfl)) (aLc (WkR.ptr (fun _=>rfl)) (aLc wkI (aLc (WkR.ptr (fun _=>rfl)) (aLc (wkr (aX fun _=>(aR _))) (aLc wkI (aLc wkI aLn)))))))))))) (aLc ⟨some _,rfl,bRc rfl (cKc wkI (cKc wkI (cKc wkI cKn)))⟩ (aLc ⟨some _,rfl,bRc rfl (cKc wkI (cKc wkI (cKc wkI (cKc wkI cKn))))⟩ (aLc ⟨some _,rfl,bRc rfl (cKc wkI (cKc (wkr (lsL fun _=>(aC _))) (cKc (wkr (lsL fun _=>(lsI _ _))) (cKc (wkr (lsL fun _=>(lsI _ _))) (cKc wkI (cKc (wkr (lsL fun _=>(aA _))) cKn))))))⟩ (aLc ⟨some _,rfl,bRc rfl (cKc wkI (cKc (wkr (lsL fun _=>(aQ _))) cKn))⟩ (aLc ⟨some _,rfl,bRc rfl (cKc wkI (cKc wkI (cKc wkI (cKc wkI cKn))))⟩ aLn))))))
  refine cK dCo rfl fun K hK=>?_;conv=>whnf
  refine sT (qJ dCo rfl _ _) ?_;conv=>whnf
  refine cLk h (fun _ h=>?_) (fun _ h=>?_)<;>(conv=>whnf)
  ·refine hK _ _ _ ?_
   refine tHn ?_
   refine ⟨_,h,?_⟩
   refine aO ?_;conv=>whnf
   exact And.intro rfl (And.intro (aLc (wkr (lsB _)) (aLc wkI (aLc wkI (aLc (WkR.ptr (fun _=>rfl)) (aLc (WkR.ptr (fun _=>rfl)) (aLc (WkR.ptr (fun _=>rfl)) (aLc (WkR.ptr (fun _=>rfl)) (aLc wkI (aLc (wkr (lsB _)) (aLc (wkr (aX fun _=>(aR _))) (aLc wkI (aLc wkI aLn)))))))))))) (aLc ⟨some _,rfl,bRc rfl (cKc wkI (cKc wkI (cKc wkI cKn)))⟩ (aLc ⟨some _,rfl,bRc rfl (cKc wkI (cKc wkI (cKc wkI (cKc wkI cKn))))⟩ (aLc ⟨some _,rfl,bRc rfl (cKc wkI (cKc (wkr (lsL fun _=>(aC _))) (cKc (wkr (lsL fun _=>(lsI _ _))) (cKc (wkr (lsL fun _=>(lsI _ _))) (cKc wkI (cKc (wkr (lsL fun _=>(aA _))) cKn))))))⟩ (aLc ⟨some _,rfl,bRc rfl (cKc wkI (cKc (wkr (lsL fun _=>(aQ _))) cKn))⟩ aLn)))))
  refine nlA rfl ?_;conv=>whnf
  refine bKo rfl ?_;conv=>whnf
  refine gKo rfl ?_;conv=>whnf
  refine cLk h (fun _ h=>?_) (fun _ h=>?_)<;>(conv=>whnf)
  ·refine hK _ _ _ ?_
   refine tHn ?_
   refine ⟨_,h,?_⟩
   refine aO ?_;conv=>whnf
   exact And.intro rfl (And.intro (aLc (wkr (lsB _)) (aLc wkI (aLc wkI (aLc (WkR.ptr (fun _=>rfl)) (aLc (WkR.ptr (fun _=>rfl)) (aLc (WkR.ptr (fun _=>rfl)) (aLc (WkR.ptr (fun _=>rfl)) (aLc wkI (aLc (wkr (lsB _)) (aLc (wkr (aX fun _=>(aR _))) (aLc wkI (aLc wkI aLn)))))))))))) (aLc ⟨some _,rfl,bRc rfl (cKc wkI (cKc wkI (cKc wkI cKn)))⟩ (aLc ⟨some _,rfl,bRc rfl (cKc wkI (cKc wkI (cKc wkI (cKc wkI cKn))))⟩ (aLc ⟨some _,rfl,bRc rfl (cKc wkI (cKc (wkr (lsL fun _=>(aC _))) (cKc (wkr (lsL fun _=>(lsI _ _))) (cKc (wkr (lsL fun _=>(lsI _ _))) (cKc wkI (cKc (wkr (lsL fun _=>(aA _))) cKn))))))⟩ (aLc ⟨some _,rfl,bRc rfl (cKc wkI (cKc (wkr (lsL fun _=>(aQ _))) cKn))⟩ aLn)))))
  refine cLk h (fun _ h=>?_) (fun _ h=>?_)<;>(conv=>whnf)
  ·refine nlA rfl ?_;conv=>whnf
   refine bKo rfl ?_;conv=>whnf
   refine nlA rfl ?_;conv=>whnf
   refine nlA rfl ?_;conv=>whnf
   refine bKo rfl ?_;conv=>whnf
   refine nlA rfl ?_;conv=>whnf
   replace h:=bE h
   refine vX h12 h (WkL.refl _) (fun _ h=>?_);conv=>whnf
   refine cLk h (fun _ h=>?_) (fun _ h=>?_)<;>(conv=>whnf)
   ·refine hK _ _ _ ?_
    refine tHn ?_
    refine ⟨_,h,?_⟩
    refine aO ?_;conv=>whnf
    exact And.intro rfl (And.intro (aLc (wkr (lsB _)) (aLc wkI (aLc wkI (aLc (WkR.ptr (fun _=>rfl)) (aLc (WkR.ptr (fun _=>rfl)) (aLc (WkR.ptr (fun _=>rfl)) (aLc (WkR.ptr (fun _=>rfl)) (aLc wkI (aLc (wkr (lsB _)) (aLc (wkr (aX fun _=>(aR _))) (aLc wkI (aLc wkI aLn)))))))))))) (aLc ⟨some _,rfl,bRc rfl (cKc wkI (cKc wkI (cKc wkI cKn)))⟩ (aLc ⟨some _,rfl,bRc rfl (cKc wkI (cKc wkI (cKc wkI (cKc wkI cKn))))⟩ (aLc ⟨some _,rfl,bRc rfl (cKc wkI (cKc (wkr (lsL fun _=>(aC _))) (cKc (wkr (lsL fun _=>(lsI _ _))) (cKc (wkr (lsL fun _=>(lsI _ _))) (cKc wkI (cKc (wkr (lsL fun _=>(aA _))) cKn))))))⟩ (aLc ⟨some _,rfl,bRc rfl (cKc wkI (cKc (wkr (lsL fun _=>(aQ _))) cKn))⟩ aLn)))))
   refine cLk h (fun _ h=>?_) (fun _ h=>?_)<;>(conv=>whnf)
   ·refine cLk h (fun _ h=>?_) (fun _ h=>?_)<;>(conv=>whnf)
    ·refine hK _ _ _ ?_
     refine tHn ?_
     refine ⟨_,h,?_⟩
     refine aO ?_;conv=>whnf
     exact And.intro rfl (And.intro (aLc (wkr (lsB _)) (aLc wkI (aLc wkI (aLc (WkR.ptr (fun _=>rfl)) (aLc (WkR.ptr (fun _=>rfl)) (aLc (WkR.ptr (fun _=>rfl)) (aLc (WkR.ptr (fun _=>rfl)) (aLc wkI (aLc (wkr (lsB _)) (aLc (wkr (aX fun _=>(aR _))) (aLc wkI (aLc wkI aLn)))))))))))) (aLc ⟨some _,rfl,bRc rfl (cKc wkI (cKc wkI (cKc wkI cKn)))⟩ (aLc ⟨some _,rfl,bRc rfl (cKc wkI (cKc wkI (cKc wkI (cKc wkI cKn))))⟩ (aLc ⟨some _,rfl,bRc rfl (cKc wkI (cKc (wkr (lsL fun _=>(aC _))) (cKc (wkr (lsL fun _=>(lsI _ _))) (cKc (wkr (lsL fun _=>(lsI _ _))) (cKc wkI (cKc (wkr (lsL fun _=>(aA _))) cKn))))))⟩ (aLc ⟨some _,rfl,bRc rfl (cKc wkI (cKc (wkr (lsL fun _=>(aQ _))) cKn))⟩ aLn)))))
    refine nlA rfl ?_;conv=>whnf
    refine bKo rfl ?_;conv=>whnf
    refine gKo rfl ?_;conv=>whnf
    refine hK _ _ _ ?_
    refine tHn ?_
    refine ⟨_,h,?_⟩
    refine aO ?_;conv=>whnf
    exact And.intro rfl (And.intro (aLc (wkr (lsB _)) (aLc wkI (aLc wkI (aLc (WkR.ptr (fun _=>rfl)) (aLc (WkR.ptr (fun _=>rfl)) (aLc (WkR.ptr (fun _=>rfl)) (aLc (WkR.ptr (fun _=>rfl)) (aLc wkI (aLc (wkr (lsB _)) (aLc (wkr (aX fun _=>(aR _))) (aLc wkI (aLc wkI aLn)))))))))))) (aLc ⟨some _,rfl,bRc rfl (cKc wkI (cKc wkI (cKc wkI cKn)))⟩ (aLc ⟨some _,rfl,bRc rfl (cKc wkI (cKc wkI (cKc wkI (cKc wkI cKn))))⟩ (aLc ⟨some _,rfl,bRc rfl (cKc wkI (cKc (wkr (lsL fun _=>(aC _))) (cKc (wkr (lsL fun _=>(lsI _ _))) (cKc (wkr (lsL fun _=>(lsI _ _))) (cKc wkI (cKc (wkr (lsL fun _=>(aA _))) cKn))))))⟩ (aLc ⟨some _,rfl,bRc rfl (cKc wkI (cKc (wkr (lsL fun _=>(aQ _))) cKn))⟩ aLn)))))
   refine hK _ _ _ ?_
   refine tHn ?_
   refine ⟨_,h,?_⟩
   refine aO ?_;conv=>whnf
   exact And.intro rfl (And.intro (aLc (wkr (lsB _)) (aLc wkI (aLc wkI (aLc (WkR.ptr (fun _=>rfl)) (aLc (WkR.ptr (fun _=>rfl)) (aLc (WkR.ptr (fun _=>rfl)) (aLc (WkR.ptr (fun _=>rfl)) (aLc wkI (aLc (wkr (lsB _)) (aLc (wkr (aX fun _=>(aR _))) (aLc wkI (aLc wkI aLn)))))))))))) (aLc ⟨some _,rfl,bRc rfl (cKc wkI (cKc wkI (cKc wkI cKn)))⟩ (aLc ⟨some _,rfl,bRc rfl (cKc wkI (cKc wkI (cKc wkI (cKc wkI cKn))))⟩ (aLc ⟨some _,rfl,bRc rfl (cKc wkI (cKc (wkr (lsL fun _=>(aC _))) (cKc (wkr (lsL fun _=>(lsI _ _))) (cKc (wkr (lsL fun _=>(lsI _ _))) (cKc wkI (cKc (wkr (lsL fun _=>(aA _))) cKn))))))⟩ (aLc ⟨some _,rfl,bRc rfl (cKc wkI (cKc (wkr (lsL fun _=>(aQ _))) cKn))⟩ aLn)))))
  refine cLk h (fun _ h=>?_) (fun _ h=>?_)<;>(conv=>whnf)
  ·refine cLk h (fun _ h=>?_) (fun _ h=>?_)<;>(conv=>whnf)
   ·refine hK _ _ _ ?_
    refine tHn ?_
    refine ⟨_,h,?_⟩
    refine aO ?_;conv=>whnf
    exact And.intro rfl (And.intro (aLc (wkr (lsB _)) (aLc wkI (aLc wkI (aLc (WkR.ptr (fun _=>rfl)) (aLc (WkR.ptr (fun _=>rfl)) (aLc (WkR.ptr (fun _=>rfl)) (aLc (WkR.ptr (fun _=>rfl)) (aLc wkI (aLc (wkr (lsB _)) (aLc (wkr (aX fun _=>(aR _))) (aLc wkI (aLc wkI aLn)))))))))))) (aLc ⟨some _,rfl,bRc rfl (cKc wkI (cKc wkI (cKc wkI cKn)))⟩ (aLc ⟨some _,rfl,bRc rfl (cKc wkI (cKc wkI (cKc wkI (cKc wkI cKn))))⟩ (aLc ⟨some _,rfl,bRc rfl (cKc wkI (cKc (wkr (lsL fun _=>(aC _))) (cKc (wkr (lsL fun _=>(lsI _ _))) (cKc (wkr (lsL fun _=>(lsI _ _))) (cKc wkI (cKc (wkr (lsL fun _=>(aA _))) cKn))))))⟩ (aLc ⟨some _,rfl,bRc rfl (cKc wkI (cKc (wkr (lsL fun _=>(aQ _))) cKn))⟩ aLn)))))
   refine nlA rfl ?_;conv=>whnf
   refine bKo rfl ?_;conv=>whnf
   refine gKo rfl ?_;conv=>whnf
   refine hK _ _ _ ?_
   refine tHn ?_
   refine ⟨_,h,?_⟩
   refine aO ?_;conv=>whnf
   exact And.intro rfl (And.intro (aLc (wkr (lsB _)) (aLc wkI (aLc wkI (aLc (WkR.ptr (fun _=>rfl)) (aLc (WkR.ptr (fun _=>rfl)) (aLc (WkR.ptr (fun _=>rfl)) (aLc (WkR.ptr (fun _=>rfl)) (aLc wkI (aLc (wkr (lsB _)) (aLc (wkr (aX fun _=>(aR _))) (aLc wkI (aLc wkI aLn)))))))))))) (aLc ⟨some _,rfl,bRc rfl (cKc wkI (cKc wkI (cKc wkI cKn)))⟩ (aLc ⟨some _,rfl,bRc rfl (cKc wkI (cKc wkI (cKc wkI (cKc wkI cKn))))⟩ (aLc ⟨some _,rfl,bRc rfl (cKc wkI (cKc (wkr (lsL fun _=>(aC _))) (cKc (wkr (lsL fun _=>(lsI _ _))) (cKc (wkr (lsL fun _=>(lsI _ _))) (cKc wkI (cKc (wkr (lsL fun _=>(aA _))) cKn))))))⟩ (aLc ⟨some _,rfl,bRc rfl (cKc wkI (cKc (wkr (lsL fun _=>(aQ _))) cKn))⟩ aLn)))))
  refine hK _ _ _ ?_
  refine tHn ?_
  refine ⟨_,h,?_⟩
  refine aO ?_;conv=>whnf
  exact And.intro rfl (And.intro (aLc (wkr (lsB _)) (aLc wkI (aLc wkI (aLc (WkR.ptr (fun _=>rfl)) (aLc (WkR.ptr (fun _=>rfl)) (aLc (WkR.ptr (fun _=>rfl)) (aLc (WkR.ptr (fun _=>rfl)) (aLc wkI (aLc (wkr (lsB _)) (aLc (wkr (aX fun _=>(aR _))) (aLc wkI (aLc wkI aLn)))))))))))) (aLc ⟨some _,rfl,bRc rfl (cKc wkI (cKc wkI (cKc wkI cKn)))⟩ (aLc ⟨some _,rfl,bRc rfl (cKc wkI (cKc wkI (cKc wkI (cKc wkI cKn))))⟩ (aLc ⟨some _,rfl,bRc rfl (cKc wkI (cKc (wkr (lsL fun _=>(aC _))) (cKc (wkr (lsL fun _=>(lsI _ _))) (cKc (wkr (lsL fun _=>(lsI _ _))) (cKc wkI (cKc (wkr (lsL fun _=>(aA _))) cKn))))))⟩ (aLc ⟨some _,rfl,bRc rfl (cKc wkI (cKc (wkr (lsL fun _=>(aQ _))) cKn))⟩ aLn)))))
 refine hK2 ?_
 refine bN ?_
 refine aW ?_
 refine aW ?_
 refine aV ?_
 replace h:=eA h
 replace h:=dZ h
 refine tHn ?_
 refine aB dCo rfl fun K hK=>?_;conv=>whnf
 refine hK _ _ _ ?_
 refine aJ ?_
 replace h:=aI h
 refine aE dCo fun K hK=>?_;conv=>whnf
 refine hK _ ?_
 cases h
 exact Wk.refl _
theorem aH4 (d:bS) {a n:Int} (oa:okI a) (on:okI n) (od:okD d):∃ d',fD d a n=some d'∧okD d':=by
 unfold fD
 simp only [iK]
 rw [rG _ _ oa (by omega),bL]
 simp only [iL]
 by_cases q0:oI a 4=0
 ·rw [if_pos q0];exact ⟨_,rfl,on,od.2⟩
 rw [if_neg q0]
 by_cases q1:oI a 4=1
 ·rw [if_pos q1];exact ⟨_,rfl,od.1,od.2⟩
 rw [if_neg q1]
 by_cases q2:oI a 4=2
 ·rw [if_pos q2];exact ⟨_,rfl,od.1,on⟩
 rw [if_neg q2]
 exact ⟨_,rfl,od.1,od.2⟩
theorem aJ5 (l:List Int) (hl:l.length≤1000):nC l l=some true:=by
 unfold nC
 obtain ⟨z,e,_⟩:=dD (body:=oC l l) (fun k z=>z=(k:Int)) l.length (by omega) (fun k z hk hz=>by
  subst hz
  unfold oC
  rw [aZ,if_pos (by omega),lB hk,lB hk,fR,if_pos rfl,bT (by omega) (by omega)]
  exact ⟨_,rfl,by omega⟩) (fun z hz=>by
  unfold oC
  rw [aZ,if_neg (by omega)]) 0 rfl
 rw [fR,if_pos rfl,e,bL,eJ]
section
variable {r:aD} (hb:RB r)
include hb
theorem aJG (s:Int):∃ y,dV r s=some y∧y.1.Edges.length≤100∧y.2.1.length≤100:=by
 by_cases h:RV r∧InS r s
 ·obtain ⟨hr,hs⟩:=h
  obtain ⟨k,rfl,hk⟩:=InS.nat hb hs
  rcases aB4 hr hk with ⟨_,h2⟩ | ⟨_,h2⟩
  ·exact ⟨_,h2,by simp,by simp⟩
  ·refine ⟨_,h2,by simp only;have:=aGG hr k;omega,?_⟩
   simp only [lsu,List.length_append,List.length_singleton]
   have:=hr.ul;have:=hr.n;omega
 ·exact ⟨_,aBl hb h,by simp,by simp⟩
theorem aCQ (s:Int):∃ y,cW r s=some y:=by
 by_cases h:RV r∧InS r s
 ·obtain ⟨hr,hs⟩:=h
  obtain ⟨k,rfl,hk⟩:=InS.nat hb hs
  rcases aBe hr hk with ⟨_,h2⟩ | ⟨_,nd,_,_,h2,_⟩
  ·exact ⟨_,h2⟩
  ·exact ⟨_,h2⟩
 ·exact ⟨_,aBT hb h⟩
theorem aKy (s:Int):∃ y,cS r s=some y:=by
 obtain ⟨y,e⟩:=aCQ hb s
 unfold cS
 rw [e,bL]
 simp only [iK,iL]
 split
 ·exact ⟨_,rfl⟩
 ·exact ⟨_,rfl⟩
theorem aO1 {a1:Int×Int×Int} (o1:aCE a1) (s:Int) {L:List bS} (hL:∀ d∈L,okD d) (hl:L.length≤100):∃ z,lp (cC a1 r s L) FU 0=some (.inl z):=by
 obtain ⟨z,e,_⟩:=dD (body:=cC a1 r s L) (fun k z=>z=(k:Int)) L.length (by omega) (fun k z hk hz=>by
  subst hz
  have hd:=hL _ (bV hk)
  obtain ⟨d',e1,hd'⟩:=aH4 (L.getD k default) (a:=a1.2.2) (n:=a1.2.1) o1.2.2 o1.2.1 hd
  obtain ⟨b,e2,e3⟩:=aI9 hb (s:=s) hd
  obtain ⟨c,e4,e5⟩:=aI9 hb (s:=s) hd'
  unfold cC
  rw [aZ,if_pos (by omega),lB hk,e1,bL,iK,lB hk,e2,bL,lB hk,e3,bL,show (!(b==b))=false by simp,dN,e4,bL,e5,bL,show (!(c==c))=false by simp]
  simp only [dN]
  rw [bT (by omega) (by omega)]
  exact ⟨_,rfl,by omega⟩) (fun z hz=>by
  unfold cC
  rw [aZ,if_neg (by omega)]) 0 rfl
 exact ⟨z,e⟩
theorem aO4 {a1:Int×Int×Int} (o1:aCE a1) {L:List bS} (hL:∀ d∈L,okD d) (hl:L.length≤100) (S:List Int) (hS:S.length≤100):∃ z,lp (bU a1 r L S) FU 0=some (.inl z):=by
 obtain ⟨z,e,_⟩:=dD (body:=bU a1 r L S) (fun k z=>z=(k:Int)) S.length (by omega) (fun k z hk hz=>by
  subst hz
  obtain ⟨y,e1,hy1,hy2⟩:=aJG hb (S.getD k default)
  obtain ⟨w,e2⟩:=aCQ hb (S.getD k default)
  obtain ⟨v,e3⟩:=aKy hb (S.getD k default)
  obtain ⟨z3,e4⟩:=aO1 hb o1 (S.getD k default) hL hl
  unfold bU
  rw [aZ,if_pos (by omega),lB hk,e1,bL,aKP hb,e1,bL,e2,bL,aHV hb,e2,bL,iK,fR,if_pos rfl,Fl.refSame _ (by omega),bL,Bool.not_true,dN,aJ5 _ (by omega),bL,Bool.not_true,dN,fR,if_pos rfl,fR,if_pos rfl,e3,bL,aDJ hb,e3,bL,show (!(v==v))=false by simp]
  simp only [dN]
  rw [e4,bL,eJ,bT (by omega) (by omega)]
  exact ⟨_,rfl,by omega⟩) (fun z hz=>by
  unfold bU
  rw [aZ,if_neg (by omega)]) 0 rfl
 exact ⟨z,e⟩
theorem aO8 {A:List bQ} (hA:∀ a∈A,a.Denied.length≤100∧∀ d∈a.Denied,okD d) (hl:A.length≤100):∃ z,lp (bR r A) FU 0=some (.inl z):=by
 obtain ⟨z,e,_⟩:=dD (body:=bR r A) (fun k z=>z=(k:Int)) A.length (by omega) (fun k z hk hz=>by
  subst hz
  obtain ⟨h1,h2⟩:=hA _ (bV hk)
  obtain ⟨b,e1,e2⟩:=aHQ hb (a:=A.getD k default) (by omega) h2
  unfold bR
  rw [aZ,if_pos (by omega),lB hk,e1,bL,e2,bL,show (!(b==b))=false by simp,dN,bT (by omega) (by omega)]
  exact ⟨_,rfl,by omega⟩) (fun z hz=>by
  unfold bR
  rw [aZ,if_neg (by omega)]) 0 rfl
 exact ⟨z,e⟩
theorem aEX {a1:Int×Int×Int} (o1:aCE a1) {a3 a5:Int} (o3:okI a3) (o5:okI a5) {a4 d:bS} (o4:okD a4) (od:okD d) {adm:bQ} (hA:adm.Denied.length≤8∧∀ x∈adm.Denied,okD x) (w:Int) (N:Ct Int Bool) :
  (bd (fD d a1.1 a1.2.1) fun y21=>lt ([a4,d,y21]:List bS) fun l22=>ap l22 adm.Denied fun l23=>
  bd (iQ a3 32) fun y24=>lt ([a3,y24,w]:List Int) fun l25=>bd (lp (bU a1 r l23 l25) FU 0) fun c52=>smK c52 (fun _=>
  slc l23 0 (aA9 (l23.length:Int) 9) fun l55=>bd (iQ a5 32) fun y56=>
  lt ([adm,(⟨a5,adm.Denied⟩:bQ),(⟨adm.Admitted,l55⟩:bQ),(⟨y56,adm.Denied⟩:bQ)]:List bQ) fun l57=>
  bd (lp (bR r l57) FU 0) fun c62=>smK c62 (fun _=>some N) (fun r64=>some (.rt r64))) (fun r54=>
  some (.rt r54)))=some N:=by
 obtain ⟨d',e1,hd'⟩:=aH4 d (a:=a1.1) (n:=a1.2.1) o1.1 o1.2.1 od
 have hL:∀ x∈[a4,d,d']++adm.Denied,okD x:=fun x hx=>by
  rcases List.mem_append.1 hx with q | q
  ·rcases List.mem_cons.1 q with q | q
   ·rw [q];exact o4
   ·rcases List.mem_cons.1 q with q | q
    ·rw [q];exact od
    ·rw [List.mem_singleton.1 q];exact hd'
  ·exact hA.2 x q
 have hll:([a4,d,d']++adm.Denied).length≤11:=by simp;omega
 obtain ⟨z,e2⟩:=aO4 hb o1 hL (by omega) [a3,oI a3 32,w] (by simp)
 obtain ⟨m,em,hm,hmm⟩:=aJ2 ([a4,d,d']++adm.Denied) 9 fun l55=>bd (iQ a5 32) fun y56=>
  lt ([adm,(⟨a5,adm.Denied⟩:bQ),(⟨adm.Admitted,l55⟩:bQ),(⟨y56,adm.Denied⟩:bQ)]:List bQ) fun l57=>
  bd (lp (bR r l57) FU 0) fun c62=>smK c62 (fun _=>some N) (fun r64=>(some (.rt r64):Option (Ct Int Bool)))
 obtain ⟨z4,e4⟩:=aO8 hb (A:=[adm,(⟨a5,adm.Denied⟩:bQ),(⟨adm.Admitted,m⟩:bQ),(⟨oI a5 32,adm.Denied⟩:bQ)]) (fun a ha=>by
  have h8:adm.Denied.length≤100∧∀ x∈adm.Denied,okD x:=⟨by omega,hA.2⟩
  rcases List.mem_cons.1 ha with q | q
  ·rw [q];exact h8
  ·rcases List.mem_cons.1 q with q | q
   ·rw [q];exact h8
   ·rcases List.mem_cons.1 q with q | q
    ·rw [q];exact ⟨by simp only;omega,fun x hx=>hL x (hmm x hx)⟩
    ·rw [List.mem_singleton.1 q];exact h8) (by simp)
 rw [show ((9:Nat):Int)=9 from rfl] at em
 rw [e1,bL,wZ,aCu (by simp;omega),aBi _ _ o3 (by omega),bL,wZ,e2,bL,eJ,em,aBi _ _ o5 (by omega),bL,wZ,e4,bL,eJ]
theorem aKG (h:¬ (RV r∧qS r 0)):dP r=some (⟨0,[]⟩,330):=by
 by_cases hr:RV r
 ·rcases aHC hr with ⟨_,h2⟩ | ⟨h1,_⟩
  ·exact h2
  ·exact absurd ⟨hr,h1⟩ h
 ·unfold dP
  rw [aFs hb fun q=>hr q.1,bL,Bool.not_false,eE]
end
theorem aJF {r:aD} (h:RV r):∃ d b,fT r=some (d,b)∧(b=true↔¬ qS r 0)∧(b=true→d.Call = -1∧∃ nd,nd<2 ^ r.Urgent.length∧mgR r 0 nd<0∧d=⟨-1,-1,((orL ((srt (jO r 0) nd).take r.Faults.toNat):Nat):Int),(nd:Int)⟩)∧(b=false→d=⟨0,0,0,0⟩):=by
 unfold fT
 rw [aBf h,bL,Bool.not_true,dN]
 rcases aBE h (s:=0) (by omega) (-1) with ⟨e,he,h1,_⟩ | ⟨h1,nd,n1,n2,h2,h3⟩
 ·have:=aOb h e he;omega
 ·rw [show ((0:Nat):Int)=0 from rfl] at h2
  rw [h2,bL]
  simp only
  by_cases q:mgR r 0 nd<0
  ·rw [decide_eq_true q,Bool.not_true,dN]
   exact ⟨_,_,rfl,⟨fun _ hs=>by have:=hs.2 nd n1 n2;omega,fun _=>rfl⟩,fun _=>⟨rfl,nd,n2,q,rfl⟩,fun q=>Bool.noConfusion q⟩
  ·rw [decide_eq_false q,Bool.not_false,eE]
   exact ⟨_,_,rfl,⟨(fun hb=>Bool.noConfusion hb),fun hs=>absurd ⟨h1,fun nd' b1 b2=>(by have:=h3 nd' b1 b2;omega)⟩ hs⟩,(fun hb=>Bool.noConfusion hb),fun _=>rfl⟩
theorem aOq {r:aD} (h:RV r) {d:bS} (hF:okI d.Failed) (hC:d.Call = -1) (hr:aL5 r 0 d):bC r 0 d=some true:=by
 have:=aTh h (s:=0) (Nat.two_pow_pos _) d
 rw [show ((0:Nat):Int)=0 from rfl] at this
 rw [this,if_pos ⟨by omega,by omega⟩,if_pos hC,if_pos rfl]
 obtain ⟨b,e1,_,e3⟩:=aGE h (all:=0) (by omega) (d:=d) hF
 rw [e3 hr] at e1
 exact e1
theorem aLJ {a1:Int×Int×Int} (o1:aCE a1) {a3 a5:Int} (o3:okI a3) (o5:okI a5) {a4:bS} (o4:okD a4) {R:List aD} {k:Nat} (hk:k<R.length) (hl:R.length≤100) (hb:RB (R.getD k default)):cB a1 a3 a4 a5 R (k:Int)=some (.nx ((k:Int)+1)):=by
 unfold cB
 rw [aZ,if_pos (by omega),lB hk,bT (x:=(k:Int)+1) (by omega) (by omega)]
 generalize R.getD k default=r at hb
 obtain ⟨v,ev,hv⟩:=valid_iff hb
 obtain ⟨v2,ev2,hv2⟩:=aCG hb
 have hvv:v2=v:=by
  rw [Bool.eq_iff_iff,hv,hv2]
 subst hvv
 have z0:okD (⟨0,0,0,0⟩:bS):=⟨⟨by simp only;omega,by simp only;omega⟩,⟨by simp only;omega,by simp only;omega⟩⟩
 rw [ev,bL,ev2,bL,show (!(v2==v2))=false by simp,dN]
 rcases aHd hb with ⟨hr,hs,e1⟩ | ⟨hns,e1⟩
 ·-- all is well
  have hvt:v2=true:=hv.2 hr
  subst hvt
  rcases aHC hr with ⟨h1,_⟩ | ⟨_,e2⟩
  ·exact absurd hs h1
  obtain ⟨hd1,hd2⟩:=aQi hr
  obtain ⟨c,e3,e4⟩:=aHQ hb (a:=⟨((qE r r.Calls.length:Nat):Int),aFL r r.Calls.length⟩) (by simp only;omega) hd1
  have hc:=aKz hr hs
  rw [hc] at e3
  cases e3
  obtain ⟨d,b,e5,e6,e7,e8⟩:=aJF hr
  have hbf:b=false:=by
   cases b
   ·rfl
   ·exact absurd hs (e6.1 rfl)
  subst hbf
  have hd:=e8 rfl
  subst hd
  have ht:=aEX hb o1 o3 o5 o4 z0 (adm:=⟨((qE r r.Calls.length:Nat):Int),aFL r r.Calls.length⟩) ⟨hd2,hd1⟩ ((qE r r.Calls.length:Nat):Int) (.nx ((k:Int)+1))
  rw [e2,bL,e1,bL,iK]
  simp only [beq_self_eq_true,Bool.not_true,dN,eE,bne_self_eq_false]
  rw [e4,bL]
  simp only [Bool.not_true,dN]
  rw [e5,bL,iK,bL]
  simp only [beq_self_eq_true,Bool.not_true,Bool.not_false,dN,eE,Bool.and_self]
  exact ht
 ·have e2:=aKG hb hns
  rw [e2,bL,e1,bL,iK]
  simp only [show ((330:Int)==0)=false from rfl,beq_self_eq_true,Bool.not_true,Bool.not_false,dN,eE,bne_self_eq_false,List.length_nil,Int.ofNat_zero,Int.natCast_zero,show decide ((0:Int)>0)=false from rfl]
  by_cases hr:RV r
  ·have hvt:v2=true:=hv.2 hr
   subst hvt
   obtain ⟨d,b,e5,e6,e7,e8⟩:=aJF hr
   have hbt:b=true:=e6.2 fun q=>hns ⟨hr,q⟩
   subst hbt
   obtain ⟨hC,nd,n2,hm,hd⟩:=e7 rfl
   have f1:orL ((srt (jO r 0) nd).take r.Faults.toNat)<2 ^ (jO r 0).Edges.length:=aHx fun e he=>by
    obtain ⟨a,rfl,ha,_⟩:=yG (aEH hr (aOb hr)) (List.mem_of_mem_take he);omega
   have hp28:2 ^ (jO r 0).Edges.length≤2 ^ 28:=Nat.pow_le_pow_right (by omega) (aGG hr 0)
   have hoF:okI d.Failed:=by rw [hd];unfold okI;simp only;omega
   have od:okD d:=⟨by rw [hC];unfold okI;omega,hoF⟩
   have e9:=aOq hr (d:=d) hoF hC (.inr ⟨by rw [hd],aOb hr,nd,n2,hm,by rw [hd],by rw [hd]⟩)
   obtain ⟨c,e10,e11⟩:=aI9 hb (s:=0) od
   rw [e9] at e10
   cases e10
   have ht:=aEX hb o1 o3 o5 o4 od (adm:=⟨0,[]⟩) ⟨by simp,fun x hx=>by cases hx⟩ 0 (.nx ((k:Int)+1))
   rw [e5,bL,iK,bL]
   simp only [beq_self_eq_true,Bool.not_true,Bool.not_false,dN,eE]
   rw [e11,bL]
   simp only [Bool.not_true,dN]
   rw [hC]
   simp only [bne_self_eq_false,dN]
   exact ht
  ·have hvf:v2=false:=by
    cases v2
    ·rfl
    ·exact absurd (hv.1 rfl) hr
   subst hvf
   have e5:fT r=some ((⟨0,0,0,0⟩:bS),false):=by
    unfold fT
    rw [ev,bL,Bool.not_false,eE]
   have ht:=aEX hb o1 o3 o5 o4 z0 (adm:=⟨0,[]⟩) ⟨by simp,fun x hx=>by cases hx⟩ 0 (.nx ((k:Int)+1))
   rw [e5,bL,iK,bL]
   simp only [beq_self_eq_true,Bool.not_true,Bool.not_false,dN,eE,Bool.and_self]
   exact ht
theorem aPU (a0:qN) (a1:Int×Int×Int) (a2:aD) (a3:Int) (a4:bS) (a5:Int) (o0:xC a0) (o1:aCE a1) (_o2:aAA a2) (o3:okI a3) (o4:aCa a4) (o5:okI a5):eS a0 a1 a2 a3 a4 a5=some true:=by
 unfold eS
 obtain ⟨r,e,hr⟩:=aNr a0 o0
 obtain ⟨r2,e2,h2⟩:=aKo hr o1.1 o1.2.1 o1.2.2
 obtain ⟨r3,e3,h3⟩:=aLW a2
 have od:okD a4:=⟨o4.1,o4.2.2.1⟩
 obtain ⟨z,el,_⟩:=dD (body:=cB a1 a3 a4 a5 [r,r2,r3]) (fun k z=>z=(k:Int)) 3 (by omega) (fun k z hk hz=>by
  subst hz
  refine ⟨_,aLJ o1 o3 o5 od (R:=[r,r2,r3]) (by simpa using hk) (by simp) ?_,by omega⟩
  have:k=0∨k=1∨k=2:=by omega
  rcases this with rfl | rfl | rfl
  ·exact hr.toRV.rb
  ·exact h2
  ·exact h3) (fun z hz=>by
  subst hz
  unfold cB
  rw [aZ,if_neg (by simp)]) 0 rfl
 rw [aM3,bL,Bool.not_true,dN,e,bL,e2,bL,e3,bL,wZ,el,bL,eJ]
end Go.Proofs.YtkjccabdpeldhaaGreat
